/- Parts of the proof of YtoffmpkgickfhaaLawShapeSums: printed walks, their words, and plain laws. -/
import Derived.Test.YtoffmpkgickfhaaQV1
import Derived.Test.YtoffmpkgickfhaaQV2
import Derived.Test.YtoffmpkgickfhaaQV4
import Derived.Test.YtoffmpkgickfhaaQV3
section
namespace Go.Proofs.Ytoffmpkgickfhaa.PG
open Go.RowKit Go.Proofs.YtoffmpkgickfhaaW.PrintWords Go.Proofs.YtoffmpkgickfhaaW.PrintLast Go.Proofs.YtoffmpkgickfhaaW.PrintMore
attribute [local go_sem] max2_int min2_int max_two min_two max_three min_three max_four min_four
set_option linter.unusedVariables false
set_option linter.unusedSimpArgs false
/-! ### shape_Sum: function 40 -/
mutual
def shape_Sum.l0 : Nat → List (S29) → List (S29) → List (List (S29)) → Int → Int → Option ((List (S29)) × Int)
 | 0, _, _, _, _, _ => none
 | k + 1, x0, x1, x17, x18, x19 => if x19 < x18 then (if 0 ≤ x19 then (if x19 < (x17.length : Int) then ((shape_refused_normal.f k (rd_L2 x17 x19)).bind fun t105 => (if t105 = 0 then (shape_Sum.l0 k x0 x1 x17 x18 (wrap64 (x19 + 1))) else (some (([] : List (S29)), t105)))) else (none)) else (none)) else (if 0 < (x0.length : Int) then (if 0 < (x1.length : Int) then ((shape_add.f ((rd_T29 x0 0).f0) ((rd_T29 x0 0).f1) ((rd_T29 x1 0).f0) ((rd_T29 x1 0).f1)).bind fun bt108 => (shape_Sum.l1 k x0 x1 (([(⟨bt108.1, bt108.2⟩ : S29)] : List (S29))) 0 0)) else (none)) else (none))
def shape_Sum.l1 : Nat → List (S29) → List (S29) → List (S29) → Int → Int → Option ((List (S29)) × Int)
 | 0, _, _, _, _, _ => none
 | k + 1, x0, x1, x10, x11, x12 => if x11 < (x0.length : Int) then (shape_Sum.j2 k x0 x1 x10 x11 x12 true) else (shape_Sum.j2 k x0 x1 x10 x11 x12 (decide (x12 < (x1.length : Int))))
def shape_Sum.j2 : Nat → List (S29) → List (S29) → List (S29) → Int → Int → Bool → Option ((List (S29)) × Int)
 | 0, _, _, _, _, _, _ => none
 | k + 1, x0, x1, x10, x11, x12, x46 => if x46 = true then (if x12 = (x1.length : Int) then (shape_Sum.j3 k x0 x1 x10 x11 x12 1) else (if x11 = (x0.length : Int) then (shape_Sum.j3 k x0 x1 x10 x11 x12 (-1)) else ((shape_Sum_1.f x0 x11).bind fun bt116 => ((shape_Sum_1.f x1 x12).bind fun bt118 => ((shape_cross.f bt116.1 bt116.2 bt118.1 bt118.2).bind fun t120 => (shape_Sum.j3 k x0 x1 x10 x11 x12 t120)))))) else (if 0 ≤ (wrap64 ((x10.length : Int) - 1)) then (if (wrap64 ((x10.length : Int) - 1)) ≤ (x10.length : Int) then (some ((x10.take ((wrap64 ((x10.length : Int) - 1)) : Int).toNat), 0)) else (none)) else (none))
def shape_Sum.j3 : Nat → List (S29) → List (S29) → List (S29) → Int → Int → Int → Option ((List (S29)) × Int)
 | 0, _, _, _, _, _, _ => none
 | k + 1, x0, x1, x10, x11, x12, x13 => if x13 ≥ 0 then ((shape_Sum_1.f x0 x11).bind fun bt122 => (shape_Sum.j4 k x0 x1 x10 (wrap64 (x11 + 1)) x12 x13 bt122.1 bt122.2)) else (shape_Sum.j4 k x0 x1 x10 x11 x12 x13 0 0)
def shape_Sum.j4 : Nat → List (S29) → List (S29) → List (S29) → Int → Int → Int → Int → Int → Option ((List (S29)) × Int)
 | 0, _, _, _, _, _, _, _, _ => none
 | k + 1, x0, x1, x10, x11, x12, x13, x122000, x122001 => if x13 ≤ 0 then ((shape_Sum_1.f x1 x12).bind fun bt124 => ((shape_add.f x122000 x122001 bt124.1 bt124.2).bind fun bt126 => (if 0 ≤ (wrap64 ((x10.length : Int) - 1)) then (if (wrap64 ((x10.length : Int) - 1)) < (x10.length : Int) then ((shape_add.f ((rd_T29 x10 (wrap64 ((x10.length : Int) - 1))).f0) ((rd_T29 x10 (wrap64 ((x10.length : Int) - 1))).f1) bt126.1 bt126.2).bind fun bt129 => (if x10.length < 8796093022208 then (shape_Sum.l1 k x0 x1 (x10 ++ [(⟨bt129.1, bt129.2⟩ : S29)]) x11 (wrap64 (x12 + 1))) else (none))) else (none)) else (none)))) else (if 0 ≤ (wrap64 ((x10.length : Int) - 1)) then (if (wrap64 ((x10.length : Int) - 1)) < (x10.length : Int) then ((shape_add.f ((rd_T29 x10 (wrap64 ((x10.length : Int) - 1))).f0) ((rd_T29 x10 (wrap64 ((x10.length : Int) - 1))).f1) x122000 x122001).bind fun bt135 => (if x10.length < 8796093022208 then (shape_Sum.l1 k x0 x1 (x10 ++ [(⟨bt135.1, bt135.2⟩ : S29)]) x11 x12) else (none))) else (none)) else (none))
end
def shape_Sum.f (k : Nat) (l0 : List (S29)) (l1 : List (S29)) : Option ((List (S29)) × Int) := (some (([l0, l1] : List (List (S29))) : List (List (S29)))).bind fun y101 => (shape_Sum.l0 k l0 l1 y101 (y101.length : Int) 0)
def shape_Sum.T9 : Bool × List (List Nat × List Nat) := (true, [([], []), ([0], [0]), ([1], [1]), ([], []), ([3], [3]), ([4], [4]), ([2, 5], [2, 5]), ([6], [6]), ([7, 6, 0, 1, 2, 3, 4, 5, 6, 7], [7])])
def shape_Sum.B9 : List Nat := [0, 1, 3, 0, 8, 24, 63, 127, 255]
theorem shape_Sum.tab9 : rtab .any (opsOf Try.f40 9) = shape_Sum.T9 := by kernel_rfl
theorem shape_Sum.bits9 : waitsOk shape_Sum.T9.2 shape_Sum.B9 = true := by kernel_rfl
def shape_Sum.T24 : Bool × List (List Nat × List Nat) := (true, [([], []), ([], []), ([], []), ([2], [2]), ([3], [3]), ([1, 4], [1, 4]), ([5], [5]), ([], []), ([6, 7], [6, 7]), ([8], [8]), ([0, 9, 8], [0, 9]), ([10, 10, 0, 1, 2, 3, 4, 5, 6, 7, 8, 9, 10], [0, 1, 2, 10])])
def shape_Sum.B24 : List Nat := [0, 0, 0, 4, 12, 30, 62, 0, 254, 510, 1023, 2047]
theorem shape_Sum.tab24 : rtab .any (opsOf Try.f40 24) = shape_Sum.T24 := by kernel_rfl
theorem shape_Sum.bits24 : waitsOk shape_Sum.T24.2 shape_Sum.B24 = true := by kernel_rfl
set_option maxHeartbeats 8000000 in
set_option maxRecDepth 100000 in
theorem shape_Sum.calls (k : Nat) (P0_ : Nat → Prop) (A0 : Option Addr) (c0 : Nat) (l0 : List (S29)) (P1_ : Nat → Prop) (A1 : Option Addr) (c1 : Nat) (l1 : List (S29)) (r1 : List (S29)) (r2 : Int) (w : World) (hs0 : Kd.V k29 29 w w.heap.size (fun k_ => P0_ k_) (.slice A0 l0.length c0) l0) (hs1 : Kd.V k29 29 w w.heap.size (fun k_ => P1_ k_) (.slice A1 l1.length c1) l1) (h : shape_Sum.f k l0 l1 = some (r1, r2)) :
  Calls Try.prog 40 #[.slice A0 l0.length c0, .slice A1 l1.length c1] w fun e w' => ∃ v0_ : Value, e = .returned (.tuple #[v0_, .int .i64 r2]) ∧ Kd.R k29 29 w' w.heap.size (fun k_ => (w.heap.size ≤ k_)) v0_ r1 ∧ Below w.heap.size w w' := by
 have hu29 := Try.underlying29
 have HO0 := Aside0.mk (show Kd.V k29 29 w w.heap.size (fun k_ => ((P0_ k_ ∨ P1_ k_) ∨ w.heap.size ≤ k_)) (.slice A0 l0.length c0) l0 from Kd.V_mono hs0 (fun k_ hk => .inl (.inl hk)))
 have HO1 := Aside0.mk (show Kd.V k29 29 w w.heap.size (fun k_ => ((P0_ k_ ∨ P1_ k_) ∨ w.heap.size ≤ k_)) (.slice A1 l1.length c1) l1 from Kd.V_mono hs1 (fun k_ hk => .inl (.inr hk)))
 have HB := Aside0.mk (Below.refl w.heap.size w)
 have H : ((some (([l0, l1] : List (List (S29))) : List (List (S29)))).bind fun y101 => (shape_Sum.l0 k l0 l1 y101 (y101.length : Int) 0)) = some (r1, r2) := h
 clear h
 obtain ⟨y101, hy101⟩ : ∃ y_ : List (List (S29)), y_ = (([l0, l1] : List (List (S29)))) := ⟨_, rfl⟩
 replace H : (shape_Sum.l0 k l0 l1 y101 (y101.length : Int) 0) = some (r1, r2) := by first | (rw [hy101]; with_reducible exact H) | (have H2_ := (Option.bind_some _ _).symm.trans H; rw [hy101]; with_reducible exact H2_) | (have H2_ := (Option.bind_some _ _).symm.trans H; with_reducible exact H2_) | with_reducible exact H | (rw [hy101]; exact H) | exact H
 have Ny101 := Aside0.mk hy101
 clear hy101
 have H' := Aside0.mk H
 clear H
 go_enter Try.func40, Try.ntmps40
 go_wp2_with (first | ((with_reducible refine gate_dst (N := 17) rfl ?_); (try (refine gate_guard (by rfl) ?_; dsimp only)); refine Kd.N_lit (Kd.slice 29 k29) _ 22 ?hg (N' := 17) ?hd (xs := ([l0, l1] : List (List (S29)))) (inner := [.slice A0 l0.length c0, .slice A1 l1.length c1]) (ok := (fun k_ => ((P0_ k_ ∨ P1_ k_) ∨ w.heap.size ≤ k_))) (okp := (fun k_ => ((P0_ k_ ∨ P1_ k_) ∨ w.heap.size ≤ k_))) ?hr ?hp (fun _ hk => hk) ((show ∀ k_, w.heap.size ≤ k_ → (fun k_ => ((P0_ k_ ∨ P1_ k_) ∨ w.heap.size ≤ k_)) k_ from fun k_ hk => (.inr (Nat.le_trans (below_size bh) hk))) _ (Nat.le_refl _)) (Below.refl _ _) (Nat.le_refl _) (by simp) ?_; (case hd => rfl); (case hg => rfl); (case hr => first | (go_simp; done) | (go_simp; rfl)); (case hp => exact (Reps.one (show Kd.FK (Kd.slice 29 k29) _ _ l0 [.slice A0 l0.length c0] from (Kd.FK_slice_mk (Kd.V_reads' (Kd.V_mono (ok' := (fun k_ => ((P0_ k_ ∨ P1_ k_) ∨ w.heap.size ≤ k_))) (HO0.out) (fun k_ hk => hk))).2.1 (Kd.V_F (Kd.V_mono (ok' := (fun k_ => ((P0_ k_ ∨ P1_ k_) ∨ w.heap.size ≤ k_))) (HO0.out) (fun k_ hk => hk))))) (Reps.one (show Kd.FK (Kd.slice 29 k29) _ _ l1 [.slice A1 l1.length c1] from (Kd.FK_slice_mk (Kd.V_reads' (Kd.V_mono (ok' := (fun k_ => ((P0_ k_ ∨ P1_ k_) ∨ w.heap.size ≤ k_))) (HO1.out) (fun k_ hk => hk))).2.1 (Kd.V_F (Kd.V_mono (ok' := (fun k_ => ((P0_ k_ ∨ P1_ k_) ∨ w.heap.size ≤ k_))) (HO1.out) (fun k_ hk => hk))))) (Reps.none _ _)))); intro v102 w3 ho4 hb hg_ hnew_; clear hg_ hnew_; (first | rw [← Ny101.out] at ho4 | (simp only [Int.reduceToNat] at ho4; rw [← Ny101.out] at ho4)); have HO103 := Aside0.mk (Kd.N_lower ho4 (below_size bh)); replace HO0 := Aside0.mk (Kd.V_elder' (vo HO0) (Kd.N_base ho4) hb); replace HO1 := Aside0.mk (Kd.V_elder' (vo HO1) (Kd.N_base ho4) hb); replace HB := Aside0.mk (below_step bh hb); clear hb ho4; obtain ⟨Ao5, co5, eo5⟩ := Kd.N_slice HO103.out; subst eo5))
 go_loopg [19] k (fun kq v19 w' => ∃ (x19_1 : Int), v19 = .int .i64 x19_1 ∧ Aside0 (shape_Sum.l0 kq l0 l1 y101 (y101.length : Int) x19_1 = some (r1, r2)) ∧ Aside0 (kq ≤ k) ∧ Aside0 (Kd.V k29 29 w' w.heap.size (fun k_ => ((P0_ k_ ∨ P1_ k_) ∨ w.heap.size ≤ k_) ∧ some k_ ≠ ((.slice Ao5 y101.length co5) : Value).ownBlock) (.slice A0 l0.length c0) l0) ∧ Aside0 (Kd.V k29 29 w' w.heap.size (fun k_ => ((P0_ k_ ∨ P1_ k_) ∨ w.heap.size ≤ k_) ∧ some k_ ≠ ((.slice Ao5 y101.length co5) : Value).ownBlock) (.slice A1 l1.length c1) l1) ∧ Aside0 (Kd.N (Kd.slice 29 k29) 22 w' w.heap.size (fun k_ => ((P0_ k_ ∨ P1_ k_) ∨ w.heap.size ≤ k_)) (.slice Ao5 y101.length co5) y101) ∧ Aside0 (Below w.heap.size w w'))
 case atStart => exact ⟨(0), sd, H', ⟨Nat.le_refl _⟩, ⟨by (with_reducible repeat (first | apply Kd.V_alloc | apply Kd.V_drewN | apply Kd.V_drew)); exact HO0.out⟩, ⟨by (with_reducible repeat (first | apply Kd.V_alloc | apply Kd.V_drewN | apply Kd.V_drew)); exact HO1.out⟩, ⟨by (with_reducible repeat (first | apply Kd.N_alloc | apply Kd.N_drewN | apply Kd.N_drew)); exact HO103.out⟩, ⟨bh⟩⟩
 case round =>
  clear H'
  (try clear c1); (try clear p2); (try clear c4)
  obtain ⟨x19_1, rfl, HA, HK1, HO_0, HO_1, HO_17, HB⟩ := hrel
  cases gk with
  | zero => exact absurd HA.out (by simp [shape_Sum.l0])
  | succ k1 =>
   have H := HA.out
   clear HA
   simp only [shape_Sum.l0] at H
   by_cases c6 : x19_1 < (y101.length : Int)
   ·rw [if_pos c6] at H
    have c6b0 := decide_eq_true c6
    clear c6
    replace H := oi H
    obtain ⟨c7, H⟩ := H
    have c7b0 := decide_eq_true c7
    clear c7
    replace H := oi H
    obtain ⟨c8, H⟩ := H
    have c8b0 := decide_eq_true c8
    clear c8
    replace H := Option.bind_eq_some_iff.mp H
    obtain ⟨t105, A90, H⟩ := H
    replace H : (if t105 = 0 then (shape_Sum.l0 k1 l0 l1 y101 (y101.length : Int) (wrap64 (x19_1 + 1))) else (some (([] : List (S29)), t105))) = some (r1, r2) := H
    have A9 := Aside0.mk A90
    clear A90
    by_cases c10 : t105 = 0
    ·rw [if_pos c10] at H
     have c10b0 : (t105 == 0) = true := beq_iff_eq.mpr c10
     have c10b1 : (t105 != 0) = false := bne_eq_false_iff_eq.mpr c10
     clear c10
     have H' := Aside0.mk H
     clear H
     have p104 : 0 ≤ (x19_1 : Int) := dt
     have q104 : x19_1 < (y101.length : Int) := dt
     obtain ⟨ad104, A104_0, c104_0, e104, hx104_0, hl104_0, hi104_0⟩ := at_L2 (Kd.N_reads' HO_17.out).2.2 x19_1 p104 q104
     cases e104
     obtain ⟨ce104, hce104, hMe104, hcc104⟩ := Kd.N_get HO_17.out [] x19_1 p104 (by first | exact q104 | exact dt | (have e_ := (Kd.N_reads' HO_17.out).1; omega))
     obtain ⟨ua104_0, uc104_0, rfl, ul104_0, ge104_0⟩ := Kd.FK_slice_open hMe104
     have hv104_0 := hcc104 0 _ rfl
     rw [Nat.add_zero, show ((Kd.slice 29 k29)).sz = 1 from rfl, Nat.mul_one] at hv104_0
     replace hv104_0 := Option.some.inj (hv104_0.symm.trans hx104_0)
     injection hv104_0 with hva_ hvn_ hvc_
     rw [hva_] at ge104_0
     rw [hvc_] at ul104_0
     have HL104_0 := Aside0.mk (show Kd.V k29 29 _ w.heap.size _ _ (rd_L2 y101 x19_1) from Kd.V_mk ul104_0 ge104_0)
     clear hva_ hvn_ hvc_ ge104_0 ul104_0
     clear hcc104 hce104
     have HR104_0 := Aside0.mk hi104_0
     have HC104_0 := Aside0.mk hl104_0
     clear hi104_0 hl104_0
     replace p104 := eq_true p104
     replace q104 := eq_true q104
     go_wp2_with (first | ((first | ((with_reducible refine gc 68 rfl ?_); refine goesL_ (some 24) rfl rfl Try.func68 (by kernel_rfl) rfl #[.slice A104_0 (rd_L2 y101 x19_1).length c104_0, .func (.func 72) #[] #[]] rfl sg ?_) | ((with_reducible refine gate_value 68 rfl rfl ?_); refine goesLV_ (some 24) rfl rfl Try.func68 (by kernel_rfl) rfl #[.slice A104_0 (rd_L2 y101 x19_1).length c104_0, .func (.func 72) #[] #[]] rfl sg rfl ?_)); (with_reducible refine (shape_refused_normal.calls k1 _ _ (rd_L2 y101 x19_1)  t105 _ ?side1 ?side2 A9.out).mono ?_); (case side1 => repeat (first | exact (by repeat (first | (with_reducible exact HR104_0.out) | (with_reducible refine Kd.C_alloc ?_ _) | (with_reducible refine Kd.C_drewN ?_ _) | (with_reducible refine Kd.C_drew ?_) | exact HR104_0.out)) | (with_reducible refine Kd.C_alloc ?_ _) | (with_reducible refine Kd.C_drewN ?_ _) | (with_reducible refine Kd.C_drew ?_))); (case side2 => exact HC104_0.out); rintro e w11 ⟨rfl, hb⟩; refine ⟨_, rfl, ?_⟩; replace HO_0 := Aside0.mk (Kd.V_below (vo HO_0) hb); replace HO_1 := Aside0.mk (Kd.V_below (vo HO_1) hb); replace HO_17 := Aside0.mk (Kd.N_below (no HO_17) hb); replace HL104_0 := Aside0.mk (Kd.V_below (by (with_reducible repeat (first | apply Kd.V_alloc | apply Kd.V_drewN | apply Kd.V_drew)); exact HL104_0.out) hb); replace HR104_0 := Aside0.mk (Kd.C_below (by repeat (first | (with_reducible exact HR104_0.out) | (with_reducible refine Kd.C_alloc ?_ _) | (with_reducible refine Kd.C_drewN ?_ _) | (with_reducible refine Kd.C_drew ?_) | exact HR104_0.out)) hb); replace HB := Aside0.mk (below_step bh hb); (try clear hb); (try clear hb2); (try clear hk); (try clear hi)))
     go_roundg k1
     case measure => have := HK1.out; omega
     case rel => exact ⟨(wrap64 (x19_1 + 1)), sd, H', ⟨by have := HK1.out; omega⟩, ⟨by (with_reducible repeat (first | apply Kd.V_alloc | apply Kd.V_drewN | apply Kd.V_drew)); exact HO_0.out⟩, ⟨by (with_reducible repeat (first | apply Kd.V_alloc | apply Kd.V_drewN | apply Kd.V_drew)); exact HO_1.out⟩, ⟨by (with_reducible repeat (first | apply Kd.N_alloc | apply Kd.N_drewN | apply Kd.N_drew)); exact HO_17.out⟩, ⟨bh⟩⟩
    ·rw [if_neg c10] at H
     have c10b0 : (t105 == 0) = false := beq_eq_false_iff_ne.mpr c10
     have c10b1 : (t105 != 0) = true := bne_iff_ne.mpr c10
     simp only [Option.some.injEq, Prod.mk.injEq] at H
     obtain ⟨rfl, rfl⟩ := H
     have p104 : 0 ≤ (x19_1 : Int) := dt
     have q104 : x19_1 < (y101.length : Int) := dt
     obtain ⟨ad104, A104_0, c104_0, e104, hx104_0, hl104_0, hi104_0⟩ := at_L2 (Kd.N_reads' HO_17.out).2.2 x19_1 p104 q104
     cases e104
     obtain ⟨ce104, hce104, hMe104, hcc104⟩ := Kd.N_get HO_17.out [] x19_1 p104 (by first | exact q104 | exact dt | (have e_ := (Kd.N_reads' HO_17.out).1; omega))
     obtain ⟨ua104_0, uc104_0, rfl, ul104_0, ge104_0⟩ := Kd.FK_slice_open hMe104
     have hv104_0 := hcc104 0 _ rfl
     rw [Nat.add_zero, show ((Kd.slice 29 k29)).sz = 1 from rfl, Nat.mul_one] at hv104_0
     replace hv104_0 := Option.some.inj (hv104_0.symm.trans hx104_0)
     injection hv104_0 with hva_ hvn_ hvc_
     rw [hva_] at ge104_0
     rw [hvc_] at ul104_0
     have HL104_0 := Aside0.mk (show Kd.V k29 29 _ w.heap.size _ _ (rd_L2 y101 x19_1) from Kd.V_mk ul104_0 ge104_0)
     clear hva_ hvn_ hvc_ ge104_0 ul104_0
     clear hcc104 hce104
     have HR104_0 := Aside0.mk hi104_0
     have HC104_0 := Aside0.mk hl104_0
     clear hi104_0 hl104_0
     replace p104 := eq_true p104
     replace q104 := eq_true q104
     go_wp2_with (first | ((first | ((with_reducible refine gc 68 rfl ?_); refine goesL_ (some 24) rfl rfl Try.func68 (by kernel_rfl) rfl #[.slice A104_0 (rd_L2 y101 x19_1).length c104_0, .func (.func 72) #[] #[]] rfl sg ?_) | ((with_reducible refine gate_value 68 rfl rfl ?_); refine goesLV_ (some 24) rfl rfl Try.func68 (by kernel_rfl) rfl #[.slice A104_0 (rd_L2 y101 x19_1).length c104_0, .func (.func 72) #[] #[]] rfl sg rfl ?_)); (with_reducible refine (shape_refused_normal.calls k1 _ _ (rd_L2 y101 x19_1)  t105 _ ?side1 ?side2 A9.out).mono ?_); (case side1 => repeat (first | exact (by repeat (first | (with_reducible exact HR104_0.out) | (with_reducible refine Kd.C_alloc ?_ _) | (with_reducible refine Kd.C_drewN ?_ _) | (with_reducible refine Kd.C_drew ?_) | exact HR104_0.out)) | (with_reducible refine Kd.C_alloc ?_ _) | (with_reducible refine Kd.C_drewN ?_ _) | (with_reducible refine Kd.C_drew ?_))); (case side2 => exact HC104_0.out); rintro e w12 ⟨rfl, hb⟩; refine ⟨_, rfl, ?_⟩; replace HO_0 := Aside0.mk (Kd.V_below (vo HO_0) hb); replace HO_1 := Aside0.mk (Kd.V_below (vo HO_1) hb); replace HO_17 := Aside0.mk (Kd.N_below (no HO_17) hb); replace HL104_0 := Aside0.mk (Kd.V_below (by (with_reducible repeat (first | apply Kd.V_alloc | apply Kd.V_drewN | apply Kd.V_drew)); exact HL104_0.out) hb); replace HR104_0 := Aside0.mk (Kd.C_below (by repeat (first | (with_reducible exact HR104_0.out) | (with_reducible refine Kd.C_alloc ?_ _) | (with_reducible refine Kd.C_drewN ?_ _) | (with_reducible refine Kd.C_drew ?_) | exact HR104_0.out)) hb); replace HB := Aside0.mk (below_step bh hb); (try clear hb); (try clear hb2); (try clear hk); (try clear hi)))
     go_ret2
     exact ⟨_, by exact er, by first | exact Kd.R_nil _ _ _ _ _ | exact Kd.N_nil _ _ _ _ _ | exact Kd.V_nil _ _ _ _ _ | exact Kd.Q_nil _ _ _ _ _ | exact Kd.S_nil _ _ _ _ _, bh⟩
   ·rw [if_neg c6] at H
    have c6b0 := decide_eq_false c6
    clear c6
    replace H := oi H
    obtain ⟨c13, H⟩ := H
    have c13b0 := decide_eq_true c13
    have c13b1 : decide (0 < l0.length) = true := decide_eq_true (by omega)
    clear c13
    replace H := oi H
    obtain ⟨c14, H⟩ := H
    have c14b0 := decide_eq_true c14
    have c14b1 : decide (0 < l1.length) = true := decide_eq_true (by omega)
    clear c14
    replace H := Option.bind_eq_some_iff.mp H
    obtain ⟨⟨t108, t109⟩, A150, H⟩ := H
    replace H : (shape_Sum.l1 k1 l0 l1 (([(⟨t108, t109⟩ : S29)] : List (S29))) 0 0) = some (r1, r2) := H
    have A15 := Aside0.mk A150
    clear A150
    obtain ⟨y110, hy110⟩ : ∃ y_ : List (S29), y_ = (([(⟨t108, t109⟩ : S29)] : List (S29))) := ⟨_, rfl⟩
    replace H : (shape_Sum.l1 k1 l0 l1 y110 0 0) = some (r1, r2) := by first | (rw [hy110]; with_reducible exact H) | (have H2_ := (Option.bind_some _ _).symm.trans H; rw [hy110]; with_reducible exact H2_) | (have H2_ := (Option.bind_some _ _).symm.trans H; with_reducible exact H2_) | with_reducible exact H | (rw [hy110]; exact H) | exact H
    have Ny110 := Aside0.mk hy110
    clear hy110
    have H' := Aside0.mk H
    clear H
    try go_wp2
    replace HO_0 := Aside0.mk (Kd.V_drew HO_0.out)
    replace HO_1 := Aside0.mk (Kd.V_drew HO_1.out)
    replace HO_17 := Aside0.mk (Kd.N_drew HO_17.out)
    replace HB := Aside0.mk (below_drew1 HB.out)
    have p106 : 0 ≤ (0 : Int) := (by omega)
    have q106 : 0 < (l0.length : Int) := dt
    obtain ⟨ad106, e106, hx106_0, hx106_1⟩ := at_T29 (Kd.V_reads' HO_0.out).2.2 0 p106 q106
    cases e106
    have qi106 : (0 < l0.length) = True := eq_true (by omega)
    (try rw [show ((0 : Int)).toNat = 0 from rfl] at hx106_0)
    (try rw [show 0 * 2 = 0 from rfl] at hx106_0)
    (try rw [Addr.add_zero'] at hx106_0)
    (try rw [show ((0 : Int)).toNat = 0 from rfl] at hx106_1)
    (try rw [show 0 * 2 = 0 from rfl] at hx106_1)
    (try rw [Addr.add_zero'] at hx106_1)
    replace p106 := eq_true p106
    replace q106 := eq_true q106
    have p107 : 0 ≤ (0 : Int) := (by omega)
    have q107 : 0 < (l1.length : Int) := dt
    obtain ⟨ad107, e107, hx107_0, hx107_1⟩ := at_T29 (Kd.V_reads' HO_1.out).2.2 0 p107 q107
    cases e107
    have qi107 : (0 < l1.length) = True := eq_true (by omega)
    (try rw [show ((0 : Int)).toNat = 0 from rfl] at hx107_0)
    (try rw [show 0 * 2 = 0 from rfl] at hx107_0)
    (try rw [Addr.add_zero'] at hx107_0)
    (try rw [show ((0 : Int)).toNat = 0 from rfl] at hx107_1)
    (try rw [show 0 * 2 = 0 from rfl] at hx107_1)
    (try rw [Addr.add_zero'] at hx107_1)
    replace p107 := eq_true p107
    replace q107 := eq_true q107
    refine start_ (n := 9) (S := fun w' => w'.cell? ad106 = some (.int .i64 ((rd_T29 l0 0).f0)) ∧ w'.cell? ⟨ad106.block, ad106.off + 1, none⟩ = some (.int .i64 ((rd_T29 l0 0).f1)) ∧ w'.cell? ad107 = some (.int .i64 ((rd_T29 l1 0).f0)) ∧ w'.cell? ⟨ad107.block, ad107.off + 1, none⟩ = some (.int .i64 ((rd_T29 l1 0).f1))) (ds := []) #[N,N,N,N,N,N,N,N,N] (by kernel_rfl) rfl rfl ⟨hx106_0, hx106_1, hx107_0, hx107_1⟩ (fun hHeld => ?_); refine with_tabW shape_Sum.tab9 shape_Sum.bits9 (fun HT_ HW_ => ?_)
    generalize wr.drew = w16 at HO_0 HO_1 HO_17 HB hx106_0 hx106_1 hx107_0 hx107_1 hHeld ⊢
    refine pu 0 29 HT_ ?_
    refine pu 1 30 HT_ ?_
    refine pu 3 32 HT_ ?_
    refine pu 4 33 HT_ ?_
    refine tk4 2 31 hHeld HT_ HW_ ?_
    refine tk4 5 34 hHeld HT_ HW_ ?_
    refine one_ (i := 6) (N := some 35) #[T,T,T,T,T,T,T,N,N] rfl rfl (on1 HT_) (by decide) (fun K hK => ?_)
    first | (refine goes_ Try.func78 (by kernel_rfl) rfl #[.agg #[.int .i64 ((rd_T29 l0 0).f0), .int .i64 ((rd_T29 l0 0).f1)], .agg #[.int .i64 ((rd_T29 l1 0).f0), .int .i64 ((rd_T29 l1 0).f1)]] (by rfl) rfl rfl sg ?_) | (refine goesV_ Try.func78 (by kernel_rfl) rfl #[.agg #[.int .i64 ((rd_T29 l0 0).f0), .int .i64 ((rd_T29 l0 0).f1)], .agg #[.int .i64 ((rd_T29 l1 0).f0), .int .i64 ((rd_T29 l1 0).f1)]] (by rfl) rfl rfl sg (by rfl) ?_)
    with_reducible refine (shape_add.calls ((rd_T29 l0 0).f0) ((rd_T29 l0 0).f1) ((rd_T29 l1 0).f0) ((rd_T29 l1 0).f1) t108 t109 _ A15.out).mono ?_
    rintro e w17 ⟨rfl, hb⟩
    have HS0_ := (hb.cell (World.block_lt_of_cell? _ _ (hHeld.1))).trans (hHeld.1)
    have HS1_ := (hb.cell (World.block_lt_of_cell? _ _ (hHeld.2.1))).trans (hHeld.2.1)
    have HS2_ := (hb.cell (World.block_lt_of_cell? _ _ (hHeld.2.2.1))).trans (hHeld.2.2.1)
    have HS3_ := (hb.cell (World.block_lt_of_cell? _ _ (hHeld.2.2.2))).trans (hHeld.2.2.2)
    refine ⟨_, rfl, ?_⟩
    replace HO_0 := Aside0.mk (Kd.V_below (vo HO_0) hb)
    replace HO_1 := Aside0.mk (Kd.V_below (vo HO_1) hb)
    replace HO_17 := Aside0.mk (Kd.N_below (no HO_17) hb)
    replace HB := Aside0.mk (below_step bh hb)
    (try clear hb); (try clear hb2); (try clear hk); (try clear hi)
    refine hK.out _ _ ⟨HS0_, HS1_, HS2_, HS3_⟩ (fun hHeld => ?_)
    clear hK K
    refine nm 35 ?_
    refine one_ (i := 7) (N := some 36) #[T,T,T,T,T,T,T,T,N] rfl rfl (on1 HT_) (by decide) (fun K hK => ?_)
    refine Kd.R_lit_step k29 _ 29 ?hg (N := 36) ?hd (xs := ([(⟨t108, t109⟩ : S29)] : List (S29))) (inner := [.int .i64 t108, .int .i64 t109]) (ok := fun _ => True) (okp := fun _ => True) ?hr ?hp (fun _ hk => hk) trivial (Below.refl _ _) (Nat.le_refl _) (by simp) ?_; (case hd => rfl); (case hg => rfl); (case hr => first | (go_simp; done) | (go_simp; rfl)); (case hp => exact (Reps.c2 (show Kd.M k29 _ _ _ (⟨t108, t109⟩ : S29) [.int .i64 t108, .int .i64 t109] from (k29_mkM _ _ _ (⟨t108, t109⟩ : S29) )) (Reps.none _ _)))
    intro v111 w18 ho19 hb hg_ hnew_
    have HS0_ := (hb.cell (World.block_lt_of_cell? _ _ (hHeld.1))).trans (hHeld.1)
    have HS1_ := (hb.cell (World.block_lt_of_cell? _ _ (hHeld.2.1))).trans (hHeld.2.1)
    have HS2_ := (hb.cell (World.block_lt_of_cell? _ _ (hHeld.2.2.1))).trans (hHeld.2.2.1)
    have HS3_ := (hb.cell (World.block_lt_of_cell? _ _ (hHeld.2.2.2))).trans (hHeld.2.2.2)
    clear hg_ hnew_
    (first | rw [← Ny110.out] at ho19 | (simp only [Int.reduceToNat] at ho19; rw [← Ny110.out] at ho19))
    have HO112 := Aside0.mk (Kd.R_lower (Kd.R_newM (M := fun k_ => (w.heap.size ≤ k_)) ho19 (below_size bh) (fun k_ h_ => h_)) (below_size bh))
    replace HO_0 := Aside0.mk (Kd.V_elder' (vo HO_0) (Kd.R_base ho19) hb)
    replace HO_1 := Aside0.mk (Kd.V_elder' (vo HO_1) (Kd.R_base ho19) hb)
    replace HO_17 := Aside0.mk (Kd.N_elder' (no HO_17) (Kd.R_base ho19) hb)
    replace HB := Aside0.mk (below_step bh hb)
    clear hb ho19
    refine hK.out _ _ ⟨HS0_, HS1_, HS2_, HS3_⟩ (fun hHeld => ?_)
    clear hK K
    refine nm 36 ?_
    refine pu 8 10 HT_ ?_
    refine done_ (done_of HT_.out (by kernel_rfl)) ?_
    try go_wp2
    go_loopg [10, 11, 12] k1 (fun kq v10 v11 v12 w' => ∃ (x10_2 : List (S29)) (x11_2 : Int) (x12_2 : Int), v11 = .int .i64 x11_2 ∧ v12 = .int .i64 x12_2 ∧ Aside0 (shape_Sum.l1 kq l0 l1 x10_2 x11_2 x12_2 = some (r1, r2)) ∧ Aside0 (kq ≤ k1) ∧ Aside0 (Kd.V k29 29 w' w.heap.size (fun k_ => ((P0_ k_ ∨ P1_ k_) ∨ w.heap.size ≤ k_) ∧ some k_ ≠ (v10 : Value).ownBlock) (.slice (some ad106) l0.length c0) l0) ∧ Aside0 (Kd.V k29 29 w' w.heap.size (fun k_ => ((P0_ k_ ∨ P1_ k_) ∨ w.heap.size ≤ k_) ∧ some k_ ≠ (v10 : Value).ownBlock) (.slice (some ad107) l1.length c1) l1) ∧ Aside0 (Kd.R k29 29 w' w.heap.size (fun k_ => (w.heap.size ≤ k_)) v10 x10_2) ∧ Aside0 (Below w.heap.size w w'))
    case atStart => exact ⟨(y110), (0), (0), sd, sd, H', ⟨Nat.le_refl _⟩, ⟨by (with_reducible repeat (first | apply Kd.V_alloc | apply Kd.V_drewN | apply Kd.V_drew)); exact Kd.V_mono HO_0.out (fun _ hk => ⟨hk.1.1, hk.2⟩)⟩, ⟨by (with_reducible repeat (first | apply Kd.V_alloc | apply Kd.V_drewN | apply Kd.V_drew)); exact Kd.V_mono HO_1.out (fun _ hk => ⟨hk.1.1, hk.2⟩)⟩, ⟨by (with_reducible repeat (first | apply Kd.R_alloc | apply Kd.R_drewN | apply Kd.R_drew)); exact Kd.R_mono HO112.out (fun _ hk => hk.1)⟩, ⟨bh⟩⟩
    case round =>
     clear H'
     (try clear c1); (try clear p1); (try clear q1); (try clear hx1); (try clear qi1); (try clear c2); (try clear p2); (try clear c4); (try clear c6); (try clear c6b0); (try clear p6); (try clear c7); (try clear c7b0); (try clear c8); (try clear c8b0); (try clear c10); (try clear c10b0); (try clear c10b1); (try clear p10); (try clear q10); (try clear hx10); (try clear qi10); (try clear c13); (try clear c13b0); (try clear c13b1); (try clear c14); (try clear c14b0); (try clear c14b1); (try clear hx104_0); (try clear hx106_0); (try clear hx106_1); (try clear hx107_0); (try clear hx107_1); (try clear p104); (try clear p106); (try clear p107); (try clear p2); (try clear q104); (try clear q106); (try clear q107)
     obtain ⟨x10_2, x11_2, x12_2, rfl, rfl, HA, HK2, HO_0, HO_1, HO_10, HB⟩ := hrel
     cases gk with
     | zero => exact absurd HA.out (by simp [shape_Sum.l1])
     | succ k2 =>
      have H := HA.out
      clear HA
      simp only [shape_Sum.l1] at H
      have HC20 := Aside0.mk H
      clear H
      go_upto_region 11 with (fail)
      go_cut [46] (fun v46 wc => ∃ (kq : Nat) (x46_19 : Bool), v46 = .bool x46_19 ∧ Aside0 (shape_Sum.j2 kq l0 l1 x10_2 x11_2 x12_2 x46_19 = some (r1, r2)) ∧ Aside0 (kq ≤ k2) ∧ Aside0 (Kd.V k29 29 wc w.heap.size (fun k_ => ((P0_ k_ ∨ P1_ k_) ∨ w.heap.size ≤ k_) ∧ some k_ ≠ (u10 : Value).ownBlock) (.slice (some ad106) l0.length c0) l0) ∧ Aside0 (Kd.V k29 29 wc w.heap.size (fun k_ => ((P0_ k_ ∨ P1_ k_) ∨ w.heap.size ≤ k_) ∧ some k_ ≠ (u10 : Value).ownBlock) (.slice (some ad107) l1.length c1) l1) ∧ Aside0 (Kd.R k29 29 wc w.heap.size (fun k_ => (w.heap.size ≤ k_)) u10 x10_2) ∧ Aside0 (Below w.heap.size w wc))
      case first =>
       have H := HC20.out
       clear HC20
       by_cases c21 : x11_2 < (l0.length : Int)
       ·rw [if_pos c21] at H
        have c21b0 := decide_eq_true c21
        clear c21
        (first | rw [c21b0] | (simp only [i64_w, i32_w]; rw [c21b0]) | skip)
        have H' := Aside0.mk H
        clear H
        go_wp2
        go_meet
        case rel => exact ⟨_, (true), sd, H', ⟨by have := HK1.out; have := HK2.out; first | omega | exact Nat.le_refl _⟩, ⟨by (with_reducible repeat (first | apply Kd.V_alloc | apply Kd.V_drewN | apply Kd.V_drew)); exact HO_0.out⟩, ⟨by (with_reducible repeat (first | apply Kd.V_alloc | apply Kd.V_drewN | apply Kd.V_drew)); exact HO_1.out⟩, ⟨by (with_reducible repeat (first | apply Kd.R_alloc | apply Kd.R_drewN | apply Kd.R_drew)); exact HO_10.out⟩, ⟨bh⟩⟩
       ·rw [if_neg c21] at H
        have c21b0 := decide_eq_false c21
        clear c21
        (first | rw [c21b0] | (simp only [i64_w, i32_w]; rw [c21b0]) | skip)
        have H' := Aside0.mk H
        clear H
        go_wp2
        go_meet
        case rel => exact ⟨_, (decide (x12_2 < (l1.length : Int))), sd, H', ⟨by have := HK1.out; have := HK2.out; first | omega | exact Nat.le_refl _⟩, ⟨by (with_reducible repeat (first | apply Kd.V_alloc | apply Kd.V_drewN | apply Kd.V_drew)); exact HO_0.out⟩, ⟨by (with_reducible repeat (first | apply Kd.V_alloc | apply Kd.V_drewN | apply Kd.V_drew)); exact HO_1.out⟩, ⟨by (with_reducible repeat (first | apply Kd.R_alloc | apply Kd.R_drewN | apply Kd.R_drew)); exact HO_10.out⟩, ⟨bh⟩⟩
      case rest =>
       clear HC20
       (try clear c1); (try clear p1); (try clear q1); (try clear hx1); (try clear qi1); (try clear c2); (try clear p2); (try clear c4); (try clear c6); (try clear c6b0); (try clear p6); (try clear c7); (try clear c7b0); (try clear c8); (try clear c8b0); (try clear c10); (try clear c10b0); (try clear c10b1); (try clear p10); (try clear q10); (try clear hx10); (try clear qi10); (try clear c13); (try clear c13b0); (try clear c13b1); (try clear c14); (try clear c14b0); (try clear c14b1); (try clear c20); (try clear c21); (try clear c21b0); (try clear hx104_0); (try clear hx106_0); (try clear hx106_1); (try clear hx107_0); (try clear hx107_1); (try clear p1); (try clear p10); (try clear p104); (try clear p106); (try clear p107); (try clear p2); (try clear p6); (try clear q1); (try clear q10); (try clear q104); (try clear q106); (try clear q107)
       obtain ⟨kq, x46_19, rfl, HA, HJ19, HO_0, HO_1, HO_10, HB⟩ := hcut
       cases kq with
       | zero => exact absurd HA.out (by simp [shape_Sum.j2])
       | succ kj19 =>
        have H := HA.out
        clear HA
        simp only [shape_Sum.j2] at H
        by_cases c22 : x46_19 = true
        ·subst c22
         rw [if_pos rfl] at H
         have HC23 := Aside0.mk H
         clear H
         go_upto_block 4 with (fail)
         go_cut [13] (fun v13 wc => ∃ (kq : Nat) (x13_22 : Int), v13 = .int .i64 x13_22 ∧ Aside0 (shape_Sum.j3 kq l0 l1 x10_2 x11_2 x12_2 x13_22 = some (r1, r2)) ∧ Aside0 (kq ≤ kj19) ∧ Aside0 (Kd.V k29 29 wc w.heap.size (fun k_ => ((P0_ k_ ∨ P1_ k_) ∨ w.heap.size ≤ k_) ∧ some k_ ≠ (u10 : Value).ownBlock) (.slice (some ad106) l0.length c0) l0) ∧ Aside0 (Kd.V k29 29 wc w.heap.size (fun k_ => ((P0_ k_ ∨ P1_ k_) ∨ w.heap.size ≤ k_) ∧ some k_ ≠ (u10 : Value).ownBlock) (.slice (some ad107) l1.length c1) l1) ∧ Aside0 (Kd.R k29 29 wc w.heap.size (fun k_ => (w.heap.size ≤ k_)) u10 x10_2) ∧ Aside0 (Below w.heap.size w wc))
         case first =>
          have H := HC23.out
          clear HC23
          by_cases c24 : x12_2 = (l1.length : Int)
          ·rw [if_pos c24] at H
           have c24b0 : (x12_2 == (l1.length : Int)) = true := beq_iff_eq.mpr c24
           have c24b1 : (x12_2 != (l1.length : Int)) = false := bne_eq_false_iff_eq.mpr c24
           clear c24
           (first | rw [c24b0] | (simp only [i64_w, i32_w]; rw [c24b0]) | skip)
           have H' := Aside0.mk H
           clear H
           go_wp2
           go_meet
           case rel => exact ⟨_, (1), sd, H', ⟨by have := HK1.out; have := HK2.out; have := HJ19.out; first | omega | exact Nat.le_refl _⟩, ⟨by (with_reducible repeat (first | apply Kd.V_alloc | apply Kd.V_drewN | apply Kd.V_drew)); exact HO_0.out⟩, ⟨by (with_reducible repeat (first | apply Kd.V_alloc | apply Kd.V_drewN | apply Kd.V_drew)); exact HO_1.out⟩, ⟨by (with_reducible repeat (first | apply Kd.R_alloc | apply Kd.R_drewN | apply Kd.R_drew)); exact HO_10.out⟩, ⟨bh⟩⟩
          ·rw [if_neg c24] at H
           have c24b0 : (x12_2 == (l1.length : Int)) = false := beq_eq_false_iff_ne.mpr c24
           have c24b1 : (x12_2 != (l1.length : Int)) = true := bne_iff_ne.mpr c24
           (first | rw [c24b0] | (simp only [i64_w, i32_w]; rw [c24b0]) | skip)
           by_cases c25 : x11_2 = (l0.length : Int)
           ·rw [if_pos c25] at H
            have c25b0 : (x11_2 == (l0.length : Int)) = true := beq_iff_eq.mpr c25
            have c25b1 : (x11_2 != (l0.length : Int)) = false := bne_eq_false_iff_eq.mpr c25
            clear c25
            have H' := Aside0.mk H
            clear H
            go_wp2
            go_meet
            case rel => exact ⟨_, ((-1)), sd, H', ⟨by have := HK1.out; have := HK2.out; have := HJ19.out; first | omega | exact Nat.le_refl _⟩, ⟨by (with_reducible repeat (first | apply Kd.V_alloc | apply Kd.V_drewN | apply Kd.V_drew)); exact HO_0.out⟩, ⟨by (with_reducible repeat (first | apply Kd.V_alloc | apply Kd.V_drewN | apply Kd.V_drew)); exact HO_1.out⟩, ⟨by (with_reducible repeat (first | apply Kd.R_alloc | apply Kd.R_drewN | apply Kd.R_drew)); exact HO_10.out⟩, ⟨bh⟩⟩
           ·rw [if_neg c25] at H
            have c25b0 : (x11_2 == (l0.length : Int)) = false := beq_eq_false_iff_ne.mpr c25
            have c25b1 : (x11_2 != (l0.length : Int)) = true := bne_iff_ne.mpr c25
            replace H := Option.bind_eq_some_iff.mp H
            obtain ⟨⟨t116, t117⟩, A260, H⟩ := H
            replace H : ((shape_Sum_1.f l1 x12_2).bind fun bt118 => ((shape_cross.f t116 t117 bt118.1 bt118.2).bind fun t120 => (shape_Sum.j3 kj19 l0 l1 x10_2 x11_2 x12_2 t120))) = some (r1, r2) := H
            have A26 := Aside0.mk A260
            clear A260
            replace H := Option.bind_eq_some_iff.mp H
            obtain ⟨⟨t118, t119⟩, A270, H⟩ := H
            replace H : ((shape_cross.f t116 t117 t118 t119).bind fun t120 => (shape_Sum.j3 kj19 l0 l1 x10_2 x11_2 x12_2 t120)) = some (r1, r2) := H
            have A27 := Aside0.mk A270
            clear A270
            replace H := Option.bind_eq_some_iff.mp H
            obtain ⟨t120, A280, H⟩ := H
            replace H : (shape_Sum.j3 kj19 l0 l1 x10_2 x11_2 x12_2 t120) = some (r1, r2) := H
            have A28 := Aside0.mk A280
            clear A280
            have H' := Aside0.mk H
            clear H
            go_wp2_with (first | ((first | ((with_reducible refine gc 77 rfl ?_); refine goesL_ (some 50) rfl rfl Try.func77 (by kernel_rfl) rfl #[.slice (some ad106) l0.length c0, .int .i64 x11_2] rfl sg ?_) | ((with_reducible refine gate_value 77 rfl rfl ?_); refine goesLV_ (some 50) rfl rfl Try.func77 (by kernel_rfl) rfl #[.slice (some ad106) l0.length c0, .int .i64 x11_2] rfl sg rfl ?_)); (with_reducible refine (shape_Sum_1.calls _ _ l0 x11_2 t116 t117 _ ?side1 ?side2 A26.out).mono ?_); (case side1 => exact cs (Kd.V_reads' HO_0.out).2.2); (case side2 => exact (Kd.V_reads' HO_0.out).2.1); rintro e w29 ⟨rfl, hb⟩; refine ⟨_, rfl, ?_⟩; replace HO_0 := Aside0.mk (Kd.V_below (vo HO_0) hb); replace HO_1 := Aside0.mk (Kd.V_below (vo HO_1) hb); replace HO_10 := Aside0.mk (Kd.R_below (ro HO_10) hb); replace HB := Aside0.mk (below_step bh hb); (try clear hb); (try clear hb2); (try clear hk); (try clear hi)) | ((first | ((with_reducible refine gc 77 rfl ?_); refine goesL_ (some 54) rfl rfl Try.func77 (by kernel_rfl) rfl #[.slice (some ad107) l1.length c1, .int .i64 x12_2] rfl sg ?_) | ((with_reducible refine gate_value 77 rfl rfl ?_); refine goesLV_ (some 54) rfl rfl Try.func77 (by kernel_rfl) rfl #[.slice (some ad107) l1.length c1, .int .i64 x12_2] rfl sg rfl ?_)); (with_reducible refine (shape_Sum_1.calls _ _ l1 x12_2 t118 t119 _ ?side1 ?side2 A27.out).mono ?_); (case side1 => exact cs (Kd.V_reads' HO_1.out).2.2); (case side2 => exact (Kd.V_reads' HO_1.out).2.1); rintro e w30 ⟨rfl, hb⟩; refine ⟨_, rfl, ?_⟩; replace HO_0 := Aside0.mk (Kd.V_below (vo HO_0) hb); replace HO_1 := Aside0.mk (Kd.V_below (vo HO_1) hb); replace HO_10 := Aside0.mk (Kd.R_below (ro HO_10) hb); replace HB := Aside0.mk (below_step bh hb); (try clear hb); (try clear hb2); (try clear hk); (try clear hi)) | ((first | ((with_reducible refine gc 79 rfl ?_); refine goesL_ (some 55) rfl rfl Try.func79 (by kernel_rfl) rfl #[.agg #[.int .i64 t116, .int .i64 t117], .agg #[.int .i64 t118, .int .i64 t119]] rfl sg ?_) | ((with_reducible refine gate_value 79 rfl rfl ?_); refine goesLV_ (some 55) rfl rfl Try.func79 (by kernel_rfl) rfl #[.agg #[.int .i64 t116, .int .i64 t117], .agg #[.int .i64 t118, .int .i64 t119]] rfl sg rfl ?_)); (with_reducible refine (shape_cross.calls t116 t117 t118 t119 t120 _ A28.out).mono ?_); rintro e w31 ⟨rfl, hb⟩; refine ⟨_, rfl, ?_⟩; replace HO_0 := Aside0.mk (Kd.V_below (vo HO_0) hb); replace HO_1 := Aside0.mk (Kd.V_below (vo HO_1) hb); replace HO_10 := Aside0.mk (Kd.R_below (ro HO_10) hb); replace HB := Aside0.mk (below_step bh hb); (try clear hb); (try clear hb2); (try clear hk); (try clear hi)))
            go_meet
            case rel => exact ⟨_, (t120), sd, H', ⟨by have := HK1.out; have := HK2.out; have := HJ19.out; first | omega | exact Nat.le_refl _⟩, ⟨by (with_reducible repeat (first | apply Kd.V_alloc | apply Kd.V_drewN | apply Kd.V_drew)); exact HO_0.out⟩, ⟨by (with_reducible repeat (first | apply Kd.V_alloc | apply Kd.V_drewN | apply Kd.V_drew)); exact HO_1.out⟩, ⟨by (with_reducible repeat (first | apply Kd.R_alloc | apply Kd.R_drewN | apply Kd.R_drew)); exact HO_10.out⟩, ⟨bh⟩⟩
         case rest =>
          clear HC23
          (try clear c1); (try clear p1); (try clear q1); (try clear hx1); (try clear qi1); (try clear c2); (try clear p2); (try clear c4); (try clear c6); (try clear c6b0); (try clear p6); (try clear c7); (try clear c7b0); (try clear c8); (try clear c8b0); (try clear c10); (try clear c10b0); (try clear c10b1); (try clear p10); (try clear q10); (try clear hx10); (try clear qi10); (try clear c13); (try clear c13b0); (try clear c13b1); (try clear c14); (try clear c14b0); (try clear c14b1); (try clear c20); (try clear c21); (try clear c21b0); (try clear c22); (try clear c24); (try clear c24b0); (try clear c24b1); (try clear c25); (try clear c25b0); (try clear c25b1); (try clear hx104_0); (try clear hx106_0); (try clear hx106_1); (try clear hx107_0); (try clear hx107_1); (try clear p1); (try clear p10); (try clear p104); (try clear p106); (try clear p107); (try clear p2); (try clear p6); (try clear q1); (try clear q10); (try clear q104); (try clear q106); (try clear q107)
          obtain ⟨kq, x13_22, rfl, HA, HJ22, HO_0, HO_1, HO_10, HB⟩ := hcut
          cases kq with
          | zero => exact absurd HA.out (by simp [shape_Sum.j3])
          | succ kj22 =>
           have H := HA.out
           clear HA
           simp only [shape_Sum.j3] at H
           have HC32 := Aside0.mk H
           clear H
           go_upto_if 67 with (first | ((with_reducible refine gate_dst (N := 14) rfl ?_); (try (refine gate_guard (by rfl) ?_; dsimp only)); refine bxe 14 #[.int .i64 0, .int .i64 0] 29 ?_; intro gb121 hg w33 hbox hb; have BK121 := Aside0.mk (hbox); have GW121 := Aside0.mk (gs hg : w.heap.size ≤ gb121); have GE121 := Aside0.mk (gs hg : w.heap.size ≤ gb121); replace HO_0 := Aside0.mk (Kd.V_below (Kd.V_elderB (vo HO_0) gb121 (Nat.le_of_eq hg.symm)) hb); replace HO_1 := Aside0.mk (Kd.V_below (Kd.V_elderB (vo HO_1) gb121 (Nat.le_of_eq hg.symm)) hb); replace HO_10 := Aside0.mk (Kd.R_below (Kd.R_elderB (ro HO_10) gb121 (Nat.le_of_eq hg.symm)) hb); replace HB := Aside0.mk (below_step bh hb); clear hb hbox hg))
           (try simp only [Act.put, List.setIfInBounds_toArray, List.set_cons_zero, List.set_cons_succ])
           go_cut [11] (fun v11 wc => ∃ (kq : Nat) (x11_31 : Int) (x122000_31 : Int) (x122001_31 : Int), v11 = .int .i64 x11_31 ∧ Aside0 (shape_Sum.j4 kq l0 l1 x10_2 x11_31 x12_2 x13_22 x122000_31 x122001_31 = some (r1, r2)) ∧ Aside0 (kq ≤ kj22) ∧ Aside0 (Kd.V k29 29 wc w.heap.size (fun k_ => ((P0_ k_ ∨ P1_ k_) ∨ w.heap.size ≤ k_) ∧ some k_ ≠ (u10 : Value).ownBlock ∧ k_ ≠ gb121) (.slice (some ad106) l0.length c0) l0) ∧ Aside0 (Kd.V k29 29 wc w.heap.size (fun k_ => ((P0_ k_ ∨ P1_ k_) ∨ w.heap.size ≤ k_) ∧ some k_ ≠ (u10 : Value).ownBlock ∧ k_ ≠ gb121) (.slice (some ad107) l1.length c1) l1) ∧ Aside0 (Kd.R k29 29 wc w.heap.size (fun k_ => (w.heap.size ≤ k_) ∧ k_ ≠ gb121) u10 x10_2) ∧ Aside0 (wc.heap[gb121]? = some (.cells #[.int .i64 x122000_31, .int .i64 x122001_31] 29 (0, 0))) ∧ Aside0 (Below w.heap.size w wc))
           case first =>
            have H := HC32.out
            clear HC32
            by_cases c34 : x13_22 ≥ 0
            ·rw [if_pos c34] at H
             have c34b0 := decide_eq_true c34
             clear c34
             (first | rw [c34b0] | (simp only [i64_w, i32_w]; rw [c34b0]) | skip)
             replace H := Option.bind_eq_some_iff.mp H
             obtain ⟨⟨t122, t123⟩, A350, H⟩ := H
             replace H : (shape_Sum.j4 kj22 l0 l1 x10_2 (wrap64 (x11_2 + 1)) x12_2 x13_22 t122 t123) = some (r1, r2) := H
             have A35 := Aside0.mk A350
             clear A350
             have H' := Aside0.mk H
             clear H
             go_wp2_with (first | ((first | ((with_reducible refine gc 77 rfl ?_); refine goesL_ (some 71) rfl rfl Try.func77 (by kernel_rfl) rfl #[.slice (some ad106) l0.length c0, .int .i64 x11_2] rfl sg ?_) | ((with_reducible refine gate_value 77 rfl rfl ?_); refine goesLV_ (some 71) rfl rfl Try.func77 (by kernel_rfl) rfl #[.slice (some ad106) l0.length c0, .int .i64 x11_2] rfl sg rfl ?_)); (with_reducible refine (shape_Sum_1.calls _ _ l0 x11_2 t122 t123 _ ?side1 ?side2 A35.out).mono ?_); (case side1 => exact cs (Kd.V_reads' HO_0.out).2.2); (case side2 => exact (Kd.V_reads' HO_0.out).2.1); rintro e w36 ⟨rfl, hb⟩; refine ⟨_, rfl, ?_⟩; replace HO_0 := Aside0.mk (Kd.V_below (vo HO_0) hb); replace HO_1 := Aside0.mk (Kd.V_below (vo HO_1) hb); replace HO_10 := Aside0.mk (Kd.R_below (ro HO_10) hb); replace BK121 := kb BK121 hb; replace HB := Aside0.mk (below_step bh hb); (try clear hb); (try clear hb2); (try clear hk); (try clear hi); have hcz37_0 : w36.cell? ⟨gb121, 0, none⟩ = some (.int .i64 0) := bc BK121 0; have hcz37_1 : w36.cell? ⟨gb121, 1, none⟩ = some (.int .i64 0) := bc BK121 1; have hfz37_0 := blk_frozen BK121.out 0; have hfz37_1 := blk_frozen BK121.out 1))
             go_meet
             case rel => exact ⟨_, (wrap64 (x11_2 + 1)), (t122), (t123), sd, H', ⟨by have := HK1.out; have := HK2.out; have := HJ19.out; have := HJ22.out; first | omega | exact Nat.le_refl _⟩, ⟨by (with_reducible repeat (first | apply Kd.V_alloc | apply Kd.V_drewN | apply Kd.V_drew)); exact Kd.V_mono (Kd.V_far (p := ⟨gb121, 1, none⟩) (Kd.V_far (p := ⟨gb121, 0, none⟩) (Kd.V_mono HO_0.out (fun k_ hk => (⟨hk, hk.2⟩ : _ ∧ k_ ≠ gb121))) (fun _ hk => hk.2) (.int .i64 t122)) (fun _ hk => hk.2) (.int .i64 t123)) (fun _ hk => ⟨hk.1.1.1, ⟨hk.1.1.2, hk.1.2⟩⟩)⟩, ⟨by (with_reducible repeat (first | apply Kd.V_alloc | apply Kd.V_drewN | apply Kd.V_drew)); exact Kd.V_mono (Kd.V_far (p := ⟨gb121, 1, none⟩) (Kd.V_far (p := ⟨gb121, 0, none⟩) (Kd.V_mono HO_1.out (fun k_ hk => (⟨hk, hk.2⟩ : _ ∧ k_ ≠ gb121))) (fun _ hk => hk.2) (.int .i64 t122)) (fun _ hk => hk.2) (.int .i64 t123)) (fun _ hk => ⟨hk.1.1.1, ⟨hk.1.1.2, hk.1.2⟩⟩)⟩, ⟨by (with_reducible repeat (first | apply Kd.R_alloc | apply Kd.R_drewN | apply Kd.R_drew)); exact Kd.R_mono (Kd.R_far (p := ⟨gb121, 1, none⟩) (Kd.R_far (p := ⟨gb121, 0, none⟩) (Kd.R_mono HO_10.out (fun k_ hk => (⟨hk, hk.2⟩ : _ ∧ k_ ≠ gb121))) (fun _ hk => hk.2) (.int .i64 t122)) (fun _ hk => hk.2) (.int .i64 t123)) (fun _ hk => ⟨hk.1.1, hk.1.2⟩)⟩, ⟨by refine bd ?_; refine blk_put (cs := #[.int .i64 t122, .int .i64 0]) ?_ 1 _ rfl; refine bd ?_; refine blk_put (cs := #[.int .i64 0, .int .i64 0]) ?_ 0 _ rfl; refine bd ?_; exact BK121.out⟩, ⟨bh⟩⟩
            ·rw [if_neg c34] at H
             have c34b0 := decide_eq_false c34
             clear c34
             (first | rw [c34b0] | (simp only [i64_w, i32_w]; rw [c34b0]) | skip)
             have H' := Aside0.mk H
             clear H
             go_wp2
             go_meet
             case rel => exact ⟨_, (x11_2), (0), (0), sd, H', ⟨by have := HK1.out; have := HK2.out; have := HJ19.out; have := HJ22.out; first | omega | exact Nat.le_refl _⟩, ⟨by (with_reducible repeat (first | apply Kd.V_alloc | apply Kd.V_drewN | apply Kd.V_drew)); exact Kd.V_mono HO_0.out (fun _ hk => ⟨hk.1.1, ⟨hk.1.2, hk.2⟩⟩)⟩, ⟨by (with_reducible repeat (first | apply Kd.V_alloc | apply Kd.V_drewN | apply Kd.V_drew)); exact Kd.V_mono HO_1.out (fun _ hk => ⟨hk.1.1, ⟨hk.1.2, hk.2⟩⟩)⟩, ⟨by (with_reducible repeat (first | apply Kd.R_alloc | apply Kd.R_drewN | apply Kd.R_drew)); exact HO_10.out⟩, ⟨bk BK121⟩, ⟨bh⟩⟩
           case rest =>
            clear HC32
            (try clear c1); (try clear p1); (try clear q1); (try clear hx1); (try clear qi1); (try clear c2); (try clear p2); (try clear c3); (try clear c4); (try clear c6); (try clear c6b0); (try clear p6); (try clear c7); (try clear c7b0); (try clear c8); (try clear c8b0); (try clear c10); (try clear c10b0); (try clear c10b1); (try clear p10); (try clear q10); (try clear hx10); (try clear qi10); (try clear c13); (try clear c13b0); (try clear c13b1); (try clear c14); (try clear c14b0); (try clear c14b1); (try clear c20); (try clear c21); (try clear c21b0); (try clear c22); (try clear c24); (try clear c24b0); (try clear c24b1); (try clear c25); (try clear c25b0); (try clear c25b1); (try clear c34); (try clear c34b0); (try clear hcz37_0); (try clear hcz37_1); (try clear hfz37_0); (try clear hfz37_1); (try clear hx104_0); (try clear hx106_0); (try clear hx106_1); (try clear hx107_0); (try clear hx107_1); (try clear p1); (try clear p10); (try clear p104); (try clear p106); (try clear p107); (try clear p2); (try clear p6); (try clear q1); (try clear q10); (try clear q104); (try clear q106); (try clear q107)
            obtain ⟨kq, x11_31, x122000_31, x122001_31, rfl, HA, HJ31, HO_0, HO_1, HO_10, BK121, HB⟩ := hcut
            cases kq with
            | zero => exact absurd HA.out (by simp [shape_Sum.j4])
            | succ kj31 =>
             have H := HA.out
             clear HA
             simp only [shape_Sum.j4] at H
             by_cases c38 : x13_22 ≤ 0
             ·rw [if_pos c38] at H
              have c38b0 := decide_eq_true c38
              clear c38
              replace H := Option.bind_eq_some_iff.mp H
              obtain ⟨⟨t124, t125⟩, A390, H⟩ := H
              replace H : ((shape_add.f x122000_31 x122001_31 t124 t125).bind fun bt126 => (if 0 ≤ (wrap64 ((x10_2.length : Int) - 1)) then (if (wrap64 ((x10_2.length : Int) - 1)) < (x10_2.length : Int) then ((shape_add.f ((rd_T29 x10_2 (wrap64 ((x10_2.length : Int) - 1))).f0) ((rd_T29 x10_2 (wrap64 ((x10_2.length : Int) - 1))).f1) bt126.1 bt126.2).bind fun bt129 => (if x10_2.length < 8796093022208 then (shape_Sum.l1 kj31 l0 l1 (x10_2 ++ [(⟨bt129.1, bt129.2⟩ : S29)]) x11_31 (wrap64 (x12_2 + 1))) else (none))) else (none)) else (none))) = some (r1, r2) := H
              have A39 := Aside0.mk A390
              clear A390
              replace H := Option.bind_eq_some_iff.mp H
              obtain ⟨⟨t126, t127⟩, A400, H⟩ := H
              replace H : (if 0 ≤ (wrap64 ((x10_2.length : Int) - 1)) then (if (wrap64 ((x10_2.length : Int) - 1)) < (x10_2.length : Int) then ((shape_add.f ((rd_T29 x10_2 (wrap64 ((x10_2.length : Int) - 1))).f0) ((rd_T29 x10_2 (wrap64 ((x10_2.length : Int) - 1))).f1) t126 t127).bind fun bt129 => (if x10_2.length < 8796093022208 then (shape_Sum.l1 kj31 l0 l1 (x10_2 ++ [(⟨bt129.1, bt129.2⟩ : S29)]) x11_31 (wrap64 (x12_2 + 1))) else (none))) else (none)) else (none)) = some (r1, r2) := H
              have A40 := Aside0.mk A400
              clear A400
              obtain ⟨ji41, hji41⟩ : ∃ j_ : Int, (wrap64 ((x10_2.length : Int) - 1)) = j_ := ⟨_, rfl⟩
              replace H : (if 0 ≤ (ji41) then (if (ji41) < (x10_2.length : Int) then ((shape_add.f ((rd_T29 x10_2 (ji41)).f0) ((rd_T29 x10_2 (ji41)).f1) t126 t127).bind fun bt129 => (if x10_2.length < 8796093022208 then (shape_Sum.l1 kj31 l0 l1 (x10_2 ++ [(⟨bt129.1, bt129.2⟩ : S29)]) x11_31 (wrap64 (x12_2 + 1))) else (none))) else (none)) else (none)) = some (r1, r2) := by first | (rw [hji41] at H; exact H) | (simp only [hji41] at H ⊢; exact H)
              (try rw [hji41] at A39)
              (try rw [hji41] at A40)
              have hji41w : (IntKind.i64.wrap ((x10_2.length : Int) - 1)) = ji41 := (i64_w _).trans hji41
              replace H := oi H
              obtain ⟨c42, H⟩ := H
              have c42b0 := decide_eq_true c42
              clear c42
              replace H := oi H
              obtain ⟨c43, H⟩ := H
              have c43b0 := decide_eq_true c43
              clear c43
              replace H := Option.bind_eq_some_iff.mp H
              obtain ⟨⟨t129, t130⟩, A440, H⟩ := H
              replace H : (if x10_2.length < 8796093022208 then (shape_Sum.l1 kj31 l0 l1 (x10_2 ++ [(⟨t129, t130⟩ : S29)]) x11_31 (wrap64 (x12_2 + 1))) else (none)) = some (r1, r2) := H
              have A44 := Aside0.mk A440
              clear A440
              replace H := oi H
              obtain ⟨c45, H⟩ := H
              have LMc45 := Aside0.mk c45
              clear c45
              obtain ⟨y131, hy131⟩ : ∃ y_ : List (S29), y_ = (x10_2 ++ [(⟨t129, t130⟩ : S29)]) := ⟨_, rfl⟩
              replace H : (shape_Sum.l1 kj31 l0 l1 y131 x11_31 (wrap64 (x12_2 + 1))) = some (r1, r2) := by first | (rw [hy131]; with_reducible exact H) | (have H2_ := (Option.bind_some _ _).symm.trans H; rw [hy131]; with_reducible exact H2_) | (have H2_ := (Option.bind_some _ _).symm.trans H; with_reducible exact H2_) | with_reducible exact H | (rw [hy131]; exact H) | exact H
              have Ny131 := Aside0.mk hy131
              clear hy131
              have H' := Aside0.mk H
              clear H
              try go_wp2
              replace HO_0 := Aside0.mk (Kd.V_drew HO_0.out)
              replace HO_1 := Aside0.mk (Kd.V_drew HO_1.out)
              replace HO_10 := Aside0.mk (Kd.R_drew HO_10.out)
              replace BK121 := Aside0.mk (blk_drew BK121.out)
              replace HB := Aside0.mk (below_drew1 HB.out)
              refine start_ (n := 7) (S := fun w' => w'.cell? ⟨gb121, 0, none⟩ = some (.int .i64 x122000_31) ∧ w'.cell? ⟨gb121, 1, none⟩ = some (.int .i64 x122001_31)) (ds := [6]) #[N,N,N,N,N,N,N] (by kernel_rfl) rfl rfl ⟨bc BK121 0, bc BK121 1⟩ (fun hHeld => ?_)
              generalize wc.drew = w46 at HO_0 HO_1 HO_10 BK121 HB hHeld ⊢
              refine pure_ (i := 1) (N := some 77) (v := ?_) (a' := ?_) #[N,T,N,N,N,N,N] rfl rfl (by kernel_rfl) (fun _ _ _ h => h) (Or.inl ⟨by rfl, ?_⟩) ?_ ?_
              rotate_left
              ·intro w'
               go_simp
               with_reducible rfl
              rotate_left
              ·simp only [Act.put, List.setIfInBounds_toArray, List.set_cons_zero, List.set_cons_succ, i64_w, i32_w]
               rfl
              refine pure_ (i := 2) (N := some 78) (v := ?_) (a' := ?_) #[N,T,T,N,N,N,N] rfl rfl (by kernel_rfl) (fun _ _ _ h => h) (Or.inl ⟨by rfl, ?_⟩) ?_ ?_
              rotate_left
              ·intro w'
               go_simp
               with_reducible rfl
              rotate_left
              ·simp only [Act.put, List.setIfInBounds_toArray, List.set_cons_zero, List.set_cons_succ, i64_w, i32_w]
               rfl
              refine pure_ (i := 3) (N := some 79) (v := ?_) (a' := ?_) #[N,T,T,T,N,N,N] rfl rfl (by kernel_rfl) (fun _ _ _ h => h) (Or.inl ⟨by rfl, ?_⟩) ?_ ?_
              rotate_left
              ·intro w'
               go_simp
               with_reducible rfl
              rotate_left
              ·simp only [Act.put, List.setIfInBounds_toArray, List.set_cons_zero, List.set_cons_succ, i64_w, i32_w]
               rfl
              refine take_ (i := 0) (N := some 76) (v := ?_) (a' := ?_) #[T,T,T,T,N,N,N] rfl rfl (by kernel_rfl) (fun _ _ _ h => h) (Or.inl ⟨by rfl, ?_⟩) hHeld ?_ ?_
              rotate_left
              ·rintro w' ⟨s0, s1⟩
               go_simp
               with_reducible rfl
              rotate_left
              ·simp only [Act.put, List.setIfInBounds_toArray, List.set_cons_zero, List.set_cons_succ, i64_w, i32_w]
               rfl
              refine one_ (i := 4) (N := some 80) #[T,T,T,T,T,N,N] rfl rfl (by kernel_rfl) (by decide) (fun K hK => ?_)
              first | (refine goes_ Try.func77 (by kernel_rfl) rfl #[.slice (some ad107) l1.length c1, .int .i64 x12_2] (by rfl) rfl rfl sg ?_) | (refine goesV_ Try.func77 (by kernel_rfl) rfl #[.slice (some ad107) l1.length c1, .int .i64 x12_2] (by rfl) rfl rfl sg (by rfl) ?_)
              with_reducible refine (shape_Sum_1.calls _ _ l1 x12_2 t124 t125 _ ?side1 ?side2 A39.out).mono ?_
              (case side1 => exact cs (Kd.V_reads' HO_1.out).2.2)
              (case side2 => exact (Kd.V_reads' HO_1.out).2.1)
              rintro e w47 ⟨rfl, hb⟩
              refine ⟨_, rfl, ?_⟩
              replace HO_0 := Aside0.mk (Kd.V_below (vo HO_0) hb)
              replace HO_1 := Aside0.mk (Kd.V_below (vo HO_1) hb)
              replace HO_10 := Aside0.mk (Kd.R_below (ro HO_10) hb)
              replace BK121 := kb BK121 hb
              replace HB := Aside0.mk (below_step bh hb)
              (try clear hb); (try clear hb2); (try clear hk); (try clear hi)
              refine hK.out _ _ ⟨bc BK121 0, bc BK121 1⟩ (fun hHeld => ?_)
              clear hK K
              refine nm 80 ?_
              refine one_ (i := 5) (N := some 81) #[T,T,T,T,T,T,N] rfl rfl (by kernel_rfl) (by decide) (fun K hK => ?_)
              first | (refine goes_ Try.func78 (by kernel_rfl) rfl #[.agg #[.int .i64 x122000_31, .int .i64 x122001_31], .agg #[.int .i64 t124, .int .i64 t125]] (by rfl) rfl rfl sg ?_) | (refine goesV_ Try.func78 (by kernel_rfl) rfl #[.agg #[.int .i64 x122000_31, .int .i64 x122001_31], .agg #[.int .i64 t124, .int .i64 t125]] (by rfl) rfl rfl sg (by rfl) ?_)
              with_reducible refine (shape_add.calls x122000_31 x122001_31 t124 t125 t126 t127 _ A40.out).mono ?_
              rintro e w48 ⟨rfl, hb⟩
              refine ⟨_, rfl, ?_⟩
              replace HO_0 := Aside0.mk (Kd.V_below (vo HO_0) hb)
              replace HO_1 := Aside0.mk (Kd.V_below (vo HO_1) hb)
              replace HO_10 := Aside0.mk (Kd.R_below (ro HO_10) hb)
              replace BK121 := kb BK121 hb
              replace HB := Aside0.mk (below_step bh hb)
              (try clear hb); (try clear hb2); (try clear hk); (try clear hi)
              refine hK.out _ _ ⟨bc BK121 0, bc BK121 1⟩ (fun hHeld => ?_)
              clear hK K
              refine nm 81 ?_
              refine last_ (i := 6) (N := none) #[T,T,T,T,T,T,T] rfl rfl (by kernel_rfl) (by decide) (fun K hK => ?_)
              have hs49 : w48.cell? ⟨gb121, 0, none⟩ = some (.int .i64 x122000_31) := bc BK121 0
              have hfs49 := blk_frozen BK121.out 0
              have hs50 : w48.cell? ⟨gb121, 1, none⟩ = some (.int .i64 x122001_31) := bc BK121 1
              have hfs50 := blk_frozen BK121.out 1
              refine skip_ (w1 := ?_) (by rfl) rfl ?_ ?_
              rotate_left
              ·go_simp
               rfl
              refine hK.out _ _ ?_
              clear hK K
              refine done_ (by kernel_rfl) ?_
              try go_wp2
              have n0_ : Aside0 (Kd.V k29 29 ((w48.setCell ⟨gb121, 0, none⟩ (.int .i64 t126)).setCell ⟨gb121, 1, none⟩ (.int .i64 t127)) w.heap.size (fun k_ => ((P0_ k_ ∨ P1_ k_) ∨ w.heap.size ≤ k_) ∧ some k_ ≠ (u10 : Value).ownBlock ∧ k_ ≠ gb121) (.slice (some ad106) l0.length c0) l0) := ⟨by (with_reducible repeat (first | apply Kd.V_alloc | apply Kd.V_drewN | apply Kd.V_drew)); exact Kd.V_mono (Kd.V_far (p := ⟨gb121, 1, none⟩) (Kd.V_far (p := ⟨gb121, 0, none⟩) (Kd.V_mono HO_0.out (fun k_ hk => (⟨hk, hk.2.2⟩ : _ ∧ k_ ≠ gb121))) (fun _ hk => hk.2) (.int .i64 t126)) (fun _ hk => hk.2) (.int .i64 t127)) (fun _ hk => ⟨hk.1.1, ⟨hk.1.2.1, hk.1.2.2⟩⟩)⟩
              have n1_ : Aside0 (Kd.V k29 29 ((w48.setCell ⟨gb121, 0, none⟩ (.int .i64 t126)).setCell ⟨gb121, 1, none⟩ (.int .i64 t127)) w.heap.size (fun k_ => ((P0_ k_ ∨ P1_ k_) ∨ w.heap.size ≤ k_) ∧ some k_ ≠ (u10 : Value).ownBlock ∧ k_ ≠ gb121) (.slice (some ad107) l1.length c1) l1) := ⟨by (with_reducible repeat (first | apply Kd.V_alloc | apply Kd.V_drewN | apply Kd.V_drew)); exact Kd.V_mono (Kd.V_far (p := ⟨gb121, 1, none⟩) (Kd.V_far (p := ⟨gb121, 0, none⟩) (Kd.V_mono HO_1.out (fun k_ hk => (⟨hk, hk.2.2⟩ : _ ∧ k_ ≠ gb121))) (fun _ hk => hk.2) (.int .i64 t126)) (fun _ hk => hk.2) (.int .i64 t127)) (fun _ hk => ⟨hk.1.1, ⟨hk.1.2.1, hk.1.2.2⟩⟩)⟩
              have n2_ : Aside0 (Kd.R k29 29 ((w48.setCell ⟨gb121, 0, none⟩ (.int .i64 t126)).setCell ⟨gb121, 1, none⟩ (.int .i64 t127)) w.heap.size (fun k_ => (w.heap.size ≤ k_) ∧ k_ ≠ gb121) u10 x10_2) := ⟨by (with_reducible repeat (first | apply Kd.R_alloc | apply Kd.R_drewN | apply Kd.R_drew)); exact Kd.R_mono (Kd.R_far (p := ⟨gb121, 1, none⟩) (Kd.R_far (p := ⟨gb121, 0, none⟩) (Kd.R_mono HO_10.out (fun k_ hk => (⟨hk, hk.2⟩ : _ ∧ k_ ≠ gb121))) (fun _ hk => hk.2) (.int .i64 t126)) (fun _ hk => hk.2) (.int .i64 t127)) (fun _ hk => ⟨hk.1.1, hk.1.2⟩)⟩
              have n3_ : Aside0 (((w48.setCell ⟨gb121, 0, none⟩ (.int .i64 t126)).setCell ⟨gb121, 1, none⟩ (.int .i64 t127)).heap[gb121]? = some (.cells #[.int .i64 t126, .int .i64 t127] 29 (0, 0))) := ⟨by refine bd ?_; refine blk_put (cs := #[.int .i64 t126, .int .i64 x122001_31]) ?_ 1 _ rfl; refine bd ?_; refine blk_put (cs := #[.int .i64 x122000_31, .int .i64 x122001_31]) ?_ 0 _ rfl; refine bd ?_; exact BK121.out⟩
              have n4_ : Aside0 (Below w.heap.size w ((w48.setCell ⟨gb121, 0, none⟩ (.int .i64 t126)).setCell ⟨gb121, 1, none⟩ (.int .i64 t127))) := ⟨bh⟩
              (try clear HO_0); (try clear HO_1); (try clear HO_10); (try clear BK121); (try clear HB)
              generalize ((w48.setCell ⟨gb121, 0, none⟩ (.int .i64 t126)).setCell ⟨gb121, 1, none⟩ (.int .i64 t127)) = w51 at n0_ n1_ n2_ n3_ n4_ ⊢
              have HO_0 := n0_
              have HO_1 := n1_
              have HO_10 := n2_
              have BK121 := n3_
              have HB := n4_
              clear n0_ n1_ n2_ n3_ n4_
              replace HO_0 := Aside0.mk (Kd.V_drew HO_0.out)
              replace HO_1 := Aside0.mk (Kd.V_drew HO_1.out)
              replace HO_10 := Aside0.mk (Kd.R_drew HO_10.out)
              replace BK121 := Aside0.mk (blk_drew BK121.out)
              replace HB := Aside0.mk (below_drew1 HB.out)
              obtain ⟨Ao53, co53, eo53⟩ := Kd.R_slice HO_10.out
              (first | subst eo53 | (injection eo53 with f1_ f2_ f3_; have f4_ := f1_.symm; have f5_ := f3_.symm; clear f1_ f2_ f3_; subst f4_; subst f5_))
              have p128 : 0 ≤ ((ji41) : Int) := dt
              have q128 : (ji41) < (x10_2.length : Int) := dt
              obtain ⟨ad128, e128, hx128_0, hx128_1⟩ := at_T29 (Kd.R_reads' HO_10.out).2.2 (ji41) p128 q128
              cases e128
              replace p128 := eq_true p128
              replace q128 := eq_true q128
              refine start_ (n := 12) (S := fun w' => w'.cell? ⟨gb121, 0, none⟩ = some (.int .i64 t126) ∧ w'.cell? ⟨gb121, 1, none⟩ = some (.int .i64 t127) ∧ w'.cell? (ad128.add (((ji41)).toNat * 2)) = some (.int .i64 ((rd_T29 x10_2 (ji41)).f0)) ∧ w'.cell? ⟨(ad128.add (((ji41)).toNat * 2)).block, (ad128.add (((ji41)).toNat * 2)).off + 1, none⟩ = some (.int .i64 ((rd_T29 x10_2 (ji41)).f1))) (ds := [9, 10]) #[N,N,N,N,N,N,N,N,N,N,N,N] (by kernel_rfl) rfl rfl ⟨bc BK121 0, bc BK121 1, hx128_0, hx128_1⟩ (fun hHeld => ?_); refine with_tabW shape_Sum.tab24 shape_Sum.bits24 (fun HT_ HW_ => ?_)
              generalize w51.drew = w52 at HO_0 HO_1 HO_10 BK121 HB hx128_0 hx128_1 hHeld ⊢
              refine pu 0 84 HT_ ?_
              refine pu 1 85 HT_ ?_
              refine pu 2 86 HT_ ?_
              refine pu 3 87 HT_ ?_
              refine pu 4 88 HT_ ?_
              refine pu 5 89 HT_ ?_
              refine tk4 6 90 hHeld HT_ HW_ ?_
              refine tk4 7 91 hHeld HT_ HW_ ?_
              refine one_ (i := 8) (N := some 92) #[T,T,T,T,T,T,T,T,T,N,N,N] rfl rfl (on1 HT_) (by decide) (fun K hK => ?_)
              first | (refine goes_ Try.func78 (by kernel_rfl) rfl #[.agg #[.int .i64 ((rd_T29 x10_2 (ji41)).f0), .int .i64 ((rd_T29 x10_2 (ji41)).f1)], .agg #[.int .i64 t126, .int .i64 t127]] (by rfl) rfl rfl (by (try simp only [List.map_toArray, List.map_cons, List.map_nil]); first | done | (simp only [hji41]; rfl) | rfl | (simp only [List.length_drop, List.length_take]; rfl)) ?_) | (refine goesV_ Try.func78 (by kernel_rfl) rfl #[.agg #[.int .i64 ((rd_T29 x10_2 (ji41)).f0), .int .i64 ((rd_T29 x10_2 (ji41)).f1)], .agg #[.int .i64 t126, .int .i64 t127]] (by rfl) rfl rfl (by (try simp only [List.map_toArray, List.map_cons, List.map_nil]); first | done | (simp only [hji41]; rfl) | rfl | (simp only [List.length_drop, List.length_take]; rfl)) (by rfl) ?_)
              with_reducible refine (shape_add.calls ((rd_T29 x10_2 (ji41)).f0) ((rd_T29 x10_2 (ji41)).f1) t126 t127 t129 t130 _ A44.out).mono ?_
              rintro e w54 ⟨rfl, hb⟩
              have HS2_ := (hb.cell (World.block_lt_of_cell? _ _ (hHeld.2.2.1))).trans (hHeld.2.2.1)
              have HS3_ := (hb.cell (World.block_lt_of_cell? _ _ (hHeld.2.2.2))).trans (hHeld.2.2.2)
              refine ⟨_, rfl, ?_⟩
              replace HO_0 := Aside0.mk (Kd.V_below (vo HO_0) hb)
              replace HO_1 := Aside0.mk (Kd.V_below (vo HO_1) hb)
              replace HO_10 := Aside0.mk (Kd.R_below (ro HO_10) hb)
              replace BK121 := kb BK121 hb
              replace HB := Aside0.mk (below_step bh hb)
              (try clear hb); (try clear hb2); (try clear hk); (try clear hi)
              refine hK.out _ _ ⟨bc BK121 0, bc BK121 1, HS2_, HS3_⟩ (fun hHeld => ?_)
              clear hK K
              refine nm 92 ?_
              refine last_ (i := 9) (N := some 93) #[T,T,T,T,T,T,T,T,T,T,N,N] rfl rfl (on1 HT_) (by decide) (fun K hK => ?_)
              refine value_ (w1 := ?_) (v := ?_) (by rfl) rfl ?_ ?_
              rotate_left 2
              ·go_simp
               constructor
               ·rfl
               ·rfl
              refine hK.out _ _ ?_
              clear hK K
              refine nm 93 ?_
              refine last_ (i := 10) (N := some 94) #[T,T,T,T,T,T,T,T,T,T,T,N] rfl rfl (on1 HT_) (by decide) (fun K hK => ?_)
              refine Kd.R_append_step k29 (w0 := w) w.heap.size (by rfl) (.tmp 84) (.tmp 93) 22 29 (.agg #[(.int .i64 0), (.int .i64 0)]) 16 rfl Try.underlying22 info29 rfl (by decide) (by omega) (.slice (some ad128) x10_2.length co53) x10_2 (⟨t129, t130⟩ : S29) [.int .i64 t129, .int .i64 t130] (fun k_ => (w.heap.size ≤ k_) ∧ k_ ≠ gb121) (fun _ => False) rfl rfl ?aP (fun _ hk => hk.elim) ?aF ?aO ?aB ?aS ?aL ?_
              (case aP => exact k29_mkM _ _ _ (⟨t129, t130⟩ : S29))
              (case aB => exact bh)
              (case aF => exact (fun k_ hk => ⟨(Nat.le_trans (below_size bh) hk), Kd.freshB (g := gb121) (o := .cells #[.int .i64 t126, .int .i64 t127] 29 (0, 0)) (bk BK121) k_ hk⟩))
              (case aO => exact (ro HO_10))
              (case aS => exact (below_size bh))
              (case aL => have := LMc45.out; omega)
              intro v132 w55 ho hb hg hat
              rw [← Ny131.out] at ho
              have HO133 := Aside0.mk (ho)
              replace HO_0 := Aside0.mk (Kd.V_afterv (ok := (fun k_ => ((P0_ k_ ∨ P1_ k_) ∨ w.heap.size ≤ k_) ∧ k_ ≠ gb121)) (by (with_reducible repeat (first | apply Kd.V_alloc | apply Kd.V_drewN | apply Kd.V_drew)); exact Kd.V_mono HO_0.out (fun _ hk => ⟨⟨hk.1, hk.2.2⟩, hk.2.1⟩)) hg hat)
              replace HO_1 := Aside0.mk (Kd.V_afterv (ok := (fun k_ => ((P0_ k_ ∨ P1_ k_) ∨ w.heap.size ≤ k_) ∧ k_ ≠ gb121)) (by (with_reducible repeat (first | apply Kd.V_alloc | apply Kd.V_drewN | apply Kd.V_drew)); exact Kd.V_mono HO_1.out (fun _ hk => ⟨⟨hk.1, hk.2.2⟩, hk.2.1⟩)) hg hat)
              replace BK121 := Aside0.mk (blk_grown (g := gb121) (o := .cells #[.int .i64 t126, .int .i64 t127] 29 (0, 0)) (bk BK121) hg (Kd.R_away HO_10.out (fun _ hk => hk.2)))
              replace HB := Aside0.mk (hb)
              clear HO_10
              clear ho hb hg hat
              refine hK.out _ _ ?_
              clear hK K
              refine nm 94 ?_
              refine pu 11 10 HT_ ?_
              refine done_ (done_of HT_.out (by kernel_rfl)) ?_
              try go_wp2
              go_roundg kj31
              case measure => have := HK1.out; have := HK2.out; have := HJ19.out; have := HJ22.out; have := HJ31.out; omega
              case rel => exact ⟨(y131), (x11_31), (wrap64 (x12_2 + 1)), sd, sd, H', ⟨by have := HK1.out; have := HK2.out; have := HJ19.out; have := HJ22.out; have := HJ31.out; omega⟩, ⟨by (with_reducible repeat (first | apply Kd.V_alloc | apply Kd.V_drewN | apply Kd.V_drew)); exact Kd.V_mono HO_0.out (fun _ hk => ⟨hk.1.1, hk.2⟩)⟩, ⟨by (with_reducible repeat (first | apply Kd.V_alloc | apply Kd.V_drewN | apply Kd.V_drew)); exact Kd.V_mono HO_1.out (fun _ hk => ⟨hk.1.1, hk.2⟩)⟩, ⟨by (with_reducible repeat (first | apply Kd.R_alloc | apply Kd.R_drewN | apply Kd.R_drew)); exact Kd.R_mono HO133.out (fun _ hk => hk.1)⟩, ⟨bh⟩⟩
             ·rw [if_neg c38] at H
              have c38b0 := decide_eq_false c38
              clear c38
              obtain ⟨ji56, hji56⟩ : ∃ j_ : Int, (wrap64 ((x10_2.length : Int) - 1)) = j_ := ⟨_, rfl⟩
              replace H : (if 0 ≤ (ji56) then (if (ji56) < (x10_2.length : Int) then ((shape_add.f ((rd_T29 x10_2 (ji56)).f0) ((rd_T29 x10_2 (ji56)).f1) x122000_31 x122001_31).bind fun bt135 => (if x10_2.length < 8796093022208 then (shape_Sum.l1 kj31 l0 l1 (x10_2 ++ [(⟨bt135.1, bt135.2⟩ : S29)]) x11_31 x12_2) else (none))) else (none)) else (none)) = some (r1, r2) := by first | (rw [hji56] at H; exact H) | (simp only [hji56] at H ⊢; exact H)
              have hji56w : (IntKind.i64.wrap ((x10_2.length : Int) - 1)) = ji56 := (i64_w _).trans hji56
              replace H := oi H
              obtain ⟨c57, H⟩ := H
              have c57b0 := decide_eq_true c57
              clear c57
              replace H := oi H
              obtain ⟨c58, H⟩ := H
              have c58b0 := decide_eq_true c58
              clear c58
              replace H := Option.bind_eq_some_iff.mp H
              obtain ⟨⟨t135, t136⟩, A590, H⟩ := H
              replace H : (if x10_2.length < 8796093022208 then (shape_Sum.l1 kj31 l0 l1 (x10_2 ++ [(⟨t135, t136⟩ : S29)]) x11_31 x12_2) else (none)) = some (r1, r2) := H
              have A59 := Aside0.mk A590
              clear A590
              replace H := oi H
              obtain ⟨c60, H⟩ := H
              have LMc60 := Aside0.mk c60
              clear c60
              obtain ⟨y137, hy137⟩ : ∃ y_ : List (S29), y_ = (x10_2 ++ [(⟨t135, t136⟩ : S29)]) := ⟨_, rfl⟩
              replace H : (shape_Sum.l1 kj31 l0 l1 y137 x11_31 x12_2) = some (r1, r2) := by first | (rw [hy137]; with_reducible exact H) | (have H2_ := (Option.bind_some _ _).symm.trans H; rw [hy137]; with_reducible exact H2_) | (have H2_ := (Option.bind_some _ _).symm.trans H; with_reducible exact H2_) | with_reducible exact H | (rw [hy137]; exact H) | exact H
              have Ny137 := Aside0.mk hy137
              clear hy137
              have H' := Aside0.mk H
              clear H
              try go_wp2
              replace HO_0 := Aside0.mk (Kd.V_drew HO_0.out)
              replace HO_1 := Aside0.mk (Kd.V_drew HO_1.out)
              replace HO_10 := Aside0.mk (Kd.R_drew HO_10.out)
              replace BK121 := Aside0.mk (blk_drew BK121.out)
              replace HB := Aside0.mk (below_drew1 HB.out)
              obtain ⟨Ao62, co62, eo62⟩ := Kd.R_slice HO_10.out
              (first | subst eo62 | (injection eo62 with f1_ f2_ f3_; have f4_ := f1_.symm; have f5_ := f3_.symm; clear f1_ f2_ f3_; subst f4_; subst f5_))
              have p134 : 0 ≤ ((ji56) : Int) := dt
              have q134 : (ji56) < (x10_2.length : Int) := dt
              obtain ⟨ad134, e134, hx134_0, hx134_1⟩ := at_T29 (Kd.R_reads' HO_10.out).2.2 (ji56) p134 q134
              cases e134
              replace p134 := eq_true p134
              replace q134 := eq_true q134
              refine start_ (n := 12) (S := fun w' => w'.cell? ⟨gb121, 0, none⟩ = some (.int .i64 x122000_31) ∧ w'.cell? ⟨gb121, 1, none⟩ = some (.int .i64 x122001_31) ∧ w'.cell? (ad134.add (((ji56)).toNat * 2)) = some (.int .i64 ((rd_T29 x10_2 (ji56)).f0)) ∧ w'.cell? ⟨(ad134.add (((ji56)).toNat * 2)).block, (ad134.add (((ji56)).toNat * 2)).off + 1, none⟩ = some (.int .i64 ((rd_T29 x10_2 (ji56)).f1))) (ds := [9, 10]) #[N,N,N,N,N,N,N,N,N,N,N,N] (by kernel_rfl) rfl rfl ⟨bc BK121 0, bc BK121 1, hx134_0, hx134_1⟩ (fun hHeld => ?_); refine with_tabW shape_Sum.tab24 shape_Sum.bits24 (fun HT_ HW_ => ?_)
              generalize wc.drew = w61 at HO_0 HO_1 HO_10 BK121 HB hx134_0 hx134_1 hHeld ⊢
              refine pu 0 84 HT_ ?_
              refine pu 1 85 HT_ ?_
              refine pu 2 86 HT_ ?_
              refine pu 3 87 HT_ ?_
              refine pu 4 88 HT_ ?_
              refine pu 5 89 HT_ ?_
              refine tk4 6 90 hHeld HT_ HW_ ?_
              refine tk4 7 91 hHeld HT_ HW_ ?_
              refine one_ (i := 8) (N := some 92) #[T,T,T,T,T,T,T,T,T,N,N,N] rfl rfl (on1 HT_) (by decide) (fun K hK => ?_)
              first | (refine goes_ Try.func78 (by kernel_rfl) rfl #[.agg #[.int .i64 ((rd_T29 x10_2 (ji56)).f0), .int .i64 ((rd_T29 x10_2 (ji56)).f1)], .agg #[.int .i64 x122000_31, .int .i64 x122001_31]] (by rfl) rfl rfl (by (try simp only [List.map_toArray, List.map_cons, List.map_nil]); first | done | (simp only [hji56]; rfl) | rfl | (simp only [List.length_drop, List.length_take]; rfl)) ?_) | (refine goesV_ Try.func78 (by kernel_rfl) rfl #[.agg #[.int .i64 ((rd_T29 x10_2 (ji56)).f0), .int .i64 ((rd_T29 x10_2 (ji56)).f1)], .agg #[.int .i64 x122000_31, .int .i64 x122001_31]] (by rfl) rfl rfl (by (try simp only [List.map_toArray, List.map_cons, List.map_nil]); first | done | (simp only [hji56]; rfl) | rfl | (simp only [List.length_drop, List.length_take]; rfl)) (by rfl) ?_)
              with_reducible refine (shape_add.calls ((rd_T29 x10_2 (ji56)).f0) ((rd_T29 x10_2 (ji56)).f1) x122000_31 x122001_31 t135 t136 _ A59.out).mono ?_
              rintro e w63 ⟨rfl, hb⟩
              have HS2_ := (hb.cell (World.block_lt_of_cell? _ _ (hHeld.2.2.1))).trans (hHeld.2.2.1)
              have HS3_ := (hb.cell (World.block_lt_of_cell? _ _ (hHeld.2.2.2))).trans (hHeld.2.2.2)
              refine ⟨_, rfl, ?_⟩
              replace HO_0 := Aside0.mk (Kd.V_below (vo HO_0) hb)
              replace HO_1 := Aside0.mk (Kd.V_below (vo HO_1) hb)
              replace HO_10 := Aside0.mk (Kd.R_below (ro HO_10) hb)
              replace BK121 := kb BK121 hb
              replace HB := Aside0.mk (below_step bh hb)
              (try clear hb); (try clear hb2); (try clear hk); (try clear hi)
              refine hK.out _ _ ⟨bc BK121 0, bc BK121 1, HS2_, HS3_⟩ (fun hHeld => ?_)
              clear hK K
              refine nm 92 ?_
              refine last_ (i := 9) (N := some 93) #[T,T,T,T,T,T,T,T,T,T,N,N] rfl rfl (on1 HT_) (by decide) (fun K hK => ?_)
              refine value_ (w1 := ?_) (v := ?_) (by rfl) rfl ?_ ?_
              rotate_left 2
              ·go_simp
               constructor
               ·rfl
               ·rfl
              refine hK.out _ _ ?_
              clear hK K
              refine nm 93 ?_
              refine last_ (i := 10) (N := some 94) #[T,T,T,T,T,T,T,T,T,T,T,N] rfl rfl (on1 HT_) (by decide) (fun K hK => ?_)
              refine Kd.R_append_step k29 (w0 := w) w.heap.size (by rfl) (.tmp 84) (.tmp 93) 22 29 (.agg #[(.int .i64 0), (.int .i64 0)]) 16 rfl Try.underlying22 info29 rfl (by decide) (by omega) (.slice (some ad134) x10_2.length co62) x10_2 (⟨t135, t136⟩ : S29) [.int .i64 t135, .int .i64 t136] (fun k_ => (w.heap.size ≤ k_) ∧ k_ ≠ gb121) (fun _ => False) rfl rfl ?aP (fun _ hk => hk.elim) ?aF ?aO ?aB ?aS ?aL ?_
              (case aP => exact k29_mkM _ _ _ (⟨t135, t136⟩ : S29))
              (case aB => exact bh)
              (case aF => exact (fun k_ hk => ⟨(Nat.le_trans (below_size bh) hk), Kd.freshB (g := gb121) (o := .cells #[.int .i64 x122000_31, .int .i64 x122001_31] 29 (0, 0)) (bk BK121) k_ hk⟩))
              (case aO => exact (ro HO_10))
              (case aS => exact (below_size bh))
              (case aL => have := LMc60.out; omega)
              intro v138 w64 ho hb hg hat
              rw [← Ny137.out] at ho
              have HO139 := Aside0.mk (ho)
              replace HO_0 := Aside0.mk (Kd.V_afterv (ok := (fun k_ => ((P0_ k_ ∨ P1_ k_) ∨ w.heap.size ≤ k_) ∧ k_ ≠ gb121)) (by (with_reducible repeat (first | apply Kd.V_alloc | apply Kd.V_drewN | apply Kd.V_drew)); exact Kd.V_mono HO_0.out (fun _ hk => ⟨⟨hk.1, hk.2.2⟩, hk.2.1⟩)) hg hat)
              replace HO_1 := Aside0.mk (Kd.V_afterv (ok := (fun k_ => ((P0_ k_ ∨ P1_ k_) ∨ w.heap.size ≤ k_) ∧ k_ ≠ gb121)) (by (with_reducible repeat (first | apply Kd.V_alloc | apply Kd.V_drewN | apply Kd.V_drew)); exact Kd.V_mono HO_1.out (fun _ hk => ⟨⟨hk.1, hk.2.2⟩, hk.2.1⟩)) hg hat)
              replace BK121 := Aside0.mk (blk_grown (g := gb121) (o := .cells #[.int .i64 x122000_31, .int .i64 x122001_31] 29 (0, 0)) (bk BK121) hg (Kd.R_away HO_10.out (fun _ hk => hk.2)))
              replace HB := Aside0.mk (hb)
              clear HO_10
              clear ho hb hg hat
              refine hK.out _ _ ?_
              clear hK K
              refine nm 94 ?_
              refine pu 11 10 HT_ ?_
              refine done_ (done_of HT_.out (by kernel_rfl)) ?_
              try go_wp2
              go_roundg kj31
              case measure => have := HK1.out; have := HK2.out; have := HJ19.out; have := HJ22.out; have := HJ31.out; omega
              case rel => exact ⟨(y137), (x11_31), (x12_2), sd, sd, H', ⟨by have := HK1.out; have := HK2.out; have := HJ19.out; have := HJ22.out; have := HJ31.out; omega⟩, ⟨by (with_reducible repeat (first | apply Kd.V_alloc | apply Kd.V_drewN | apply Kd.V_drew)); exact Kd.V_mono HO_0.out (fun _ hk => ⟨hk.1.1, hk.2⟩)⟩, ⟨by (with_reducible repeat (first | apply Kd.V_alloc | apply Kd.V_drewN | apply Kd.V_drew)); exact Kd.V_mono HO_1.out (fun _ hk => ⟨hk.1.1, hk.2⟩)⟩, ⟨by (with_reducible repeat (first | apply Kd.R_alloc | apply Kd.R_drewN | apply Kd.R_drew)); exact Kd.R_mono HO139.out (fun _ hk => hk.1)⟩, ⟨bh⟩⟩
        ·replace c22 := Bool.eq_false_iff.mpr c22
         subst c22
         rw [if_neg (show ¬ (false = true) by decide)] at H
         obtain ⟨ji65, hji65⟩ : ∃ j_ : Int, (wrap64 ((x10_2.length : Int) - 1)) = j_ := ⟨_, rfl⟩
         replace H : (if 0 ≤ (ji65) then (if (ji65) ≤ (x10_2.length : Int) then (some ((x10_2.take ((ji65) : Int).toNat), 0)) else (none)) else (none)) = some (r1, r2) := by first | (rw [hji65] at H; exact H) | (simp only [hji65] at H ⊢; exact H)
         have hji65w : (IntKind.i64.wrap ((x10_2.length : Int) - 1)) = ji65 := (i64_w _).trans hji65
         replace H := oi H
         obtain ⟨c66, H⟩ := H
         have c66b0 := eq_true c66
         have c66b1 := decide_eq_true c66
         clear c66
         replace H := oi H
         obtain ⟨c67, H⟩ := H
         have c67b0 := eq_true c67
         have c67b1 := decide_eq_true c67
         clear c67
         obtain ⟨y113, hy113⟩ : ∃ y_ : List (S29), y_ = (x10_2.take ((ji65) : Int).toNat) := ⟨_, rfl⟩
         replace H : (some (y113, 0)) = some (r1, r2) := by first | (rw [hy113]; with_reducible exact H) | (have H2_ := (Option.bind_some _ _).symm.trans H; rw [hy113]; with_reducible exact H2_) | (have H2_ := (Option.bind_some _ _).symm.trans H; with_reducible exact H2_) | with_reducible exact H | (rw [hy113]; exact H) | exact H
         have Ny113 := Aside0.mk hy113
         clear hy113
         simp only [Option.some.injEq, Prod.mk.injEq] at H
         obtain ⟨rfl, rfl⟩ := H
         obtain ⟨Ao68, co68, eo68⟩ := Kd.R_slice HO_10.out
         subst eo68
         have q69 : ((ji65) : Int) ≤ ((x10_2.length : Int) : Int) := dt
         obtain ⟨i069, hi069, _, hsz69, _⟩ := info_parts info29
         have hcut69 := cut_to (P := Try.prog) 22 29 .i64 Try.underlying22 hi069 Ao68 x10_2.length co68 (ji65) (dt) q69 (Kd.R_reads' HO_10.out).2.1
         have hr69 := Kd.R_take (m := ((ji65) : Int).toNat) HO_10.out (by omega)
         have hy69 : y113.length = ((ji65) : Int).toNat := (by rw [Ny113.out, List.length_take]; omega)
         rw [← Ny113.out] at hr69
         rw [← hy69] at hr69 hcut69
         clear hy69 hi069 hsz69 HO_10
         have HO115 := Aside0.mk hr69
         clear hr69
         replace q69 := eq_true q69
         go_wp2
         go_ret2
         exact ⟨_, by first | rfl | (simp [errW_none, errW_some] <;> rfl) | (simp only [← hji65]; first | rfl | (simp [errW_none, errW_some] <;> rfl)) | (simp [*, errW_none, errW_some] <;> rfl), by (with_reducible repeat (first | apply Kd.R_alloc | apply Kd.R_drewN | apply Kd.R_drew)); exact HO115.out, bh⟩
/-! ### shape_negative: function 80 -/
def shape_negative.l0 : Nat → List (S29) → List (S29) → Int → Int → Option ((List (S29)))
 | 0, _, _, _, _ => none
 | k + 1, x3, x6, x7, x8 => if x8 < x7 then (if 0 ≤ x8 then (if x8 < (x6.length : Int) then ((shape_sub.f 0 0 ((rd_T29 x6 x8).f0) ((rd_T29 x6 x8).f1)).bind fun bt103 => (if x3.length < 8796093022208 then (shape_negative.l0 k (x3 ++ [(⟨bt103.1, bt103.2⟩ : S29)]) x6 x7 (wrap64 (x8 + 1))) else (none))) else (none)) else (none)) else ((shape_begun.f k x3).bind fun t108 => (some t108))
def shape_negative.f (k : Nat) (l0 : List (S29)) : Option ((List (S29))) := shape_negative.l0 k ([] : List (S29)) l0 (l0.length : Int) 0
set_option maxHeartbeats 8000000 in
set_option maxRecDepth 100000 in
theorem shape_negative.calls (k : Nat) (A0 : Option Addr) (c0 : Nat) (l0 : List (S29)) (r : List (S29)) (w : World) (hr0 : Kd.C k29 w A0 l0.length l0) (hc0 : l0.length ≤ c0) (h : shape_negative.f k l0 = some r) :
  Calls Try.prog 80 #[.slice A0 l0.length c0] w fun e w' => ∃ v0_ : Value, e = .returned (v0_) ∧ Kd.R k29 29 w' w.heap.size (fun _ => True) v0_ r ∧ Below w.heap.size w w' := by
 have hu29 := Try.underlying29
 have HR0 := Aside0.mk hr0
 have HC0 := Aside0.mk hc0
 clear hr0 hc0
 have HB := Aside0.mk (Below.refl w.heap.size w)
 have H : (shape_negative.l0 k ([] : List (S29)) l0 (l0.length : Int) 0) = some r := h
 clear h
 have H' := Aside0.mk H
 clear H
 go_enter Try.func80, Try.ntmps80
 go_wp2
 go_loopg [3, 8] k (fun kq v3 v8 w' => ∃ (x3_1 : List (S29)) (x8_1 : Int), v8 = .int .i64 x8_1 ∧ Aside0 (shape_negative.l0 kq x3_1 l0 (l0.length : Int) x8_1 = some r) ∧ Aside0 (kq ≤ k) ∧ Aside0 (Kd.R k29 29 w' w.heap.size (fun _ => True) v3 x3_1) ∧ Aside0 (Below w.heap.size w w'))
 case atStart => exact ⟨(([] : List (S29))), (0), sd, H', ⟨Nat.le_refl _⟩, ⟨by first | exact Kd.R_nil _ _ _ _ _ | exact Kd.N_nil _ _ _ _ _ | exact Kd.V_nil _ _ _ _ _ | exact Kd.Q_nil _ _ _ _ _ | exact Kd.S_nil _ _ _ _ _⟩, ⟨bh⟩⟩
 case round =>
  clear H'
  obtain ⟨x3_1, x8_1, rfl, HA, HK1, HO_3, HB⟩ := hrel
  cases gk with
  | zero => exact absurd HA.out (by simp [shape_negative.l0])
  | succ k1 =>
   have H := HA.out
   clear HA
   simp only [shape_negative.l0] at H
   by_cases c2 : x8_1 < (l0.length : Int)
   ·rw [if_pos c2] at H
    have c2b0 := decide_eq_true c2
    clear c2
    replace H := oi H
    obtain ⟨c3, H⟩ := H
    have c3b0 := decide_eq_true c3
    clear c3
    replace H := oi H
    obtain ⟨c4, H⟩ := H
    have c4b0 := decide_eq_true c4
    clear c4
    replace H := Option.bind_eq_some_iff.mp H
    obtain ⟨⟨t103, t104⟩, A50, H⟩ := H
    try dsimp only at H
    have A5 := Aside0.mk A50
    clear A50
    replace H := oi H
    obtain ⟨c6, H⟩ := H
    have LMc6 := Aside0.mk c6
    clear c6
    obtain ⟨y105, hy105⟩ : ∃ y_ : List (S29), y_ = (x3_1 ++ [(⟨t103, t104⟩ : S29)]) := ⟨_, rfl⟩
    replace H : (shape_negative.l0 k1 y105 l0 (l0.length : Int) (wrap64 (x8_1 + 1))) = some r := by first | (rw [hy105]; with_reducible exact H) | (have H2_ := (Option.bind_some _ _).symm.trans H; rw [hy105]; with_reducible exact H2_) | (have H2_ := (Option.bind_some _ _).symm.trans H; with_reducible exact H2_) | with_reducible exact H | (rw [hy105]; exact H) | exact H
    have Ny105 := Aside0.mk hy105
    clear hy105
    have H' := Aside0.mk H
    clear H
    have p101 : 0 ≤ (x8_1 : Int) := dt
    have q101 : x8_1 < (l0.length : Int) := dt
    obtain ⟨ad101, e101, hx101_0, hx101_1⟩ := at_T29 HR0.out x8_1 p101 q101
    cases e101
    replace hx101_0 := hc HB hx101_0
    replace hx101_1 := hc HB hx101_1
    replace p101 := eq_true p101
    replace q101 := eq_true q101
    go_wp2_with (first | ((with_reducible refine gate_dst (N := 5) rfl ?_); refine bxe 5 #[.int .i64 0, .int .i64 0] 29 ?_; intro gb102 hg w7 hbox hb; have BK102 := Aside0.mk (hbox); have GW102 := Aside0.mk (gs hg : w.heap.size ≤ gb102); have GE102 := Aside0.mk (gs hg : w.heap.size ≤ gb102); replace HO_3 := Aside0.mk (Kd.R_below (Kd.R_elderB (ro HO_3) gb102 (Nat.le_of_eq hg.symm)) hb); replace HB := Aside0.mk (below_step bh hb); clear hb hbox hg; have hcz8_0 : w7.cell? ⟨gb102, 0, none⟩ = some (.int .i64 0) := bc BK102 0; have hcz8_1 : w7.cell? ⟨gb102, 1, none⟩ = some (.int .i64 0) := bc BK102 1; have hfz8_0 := blk_frozen BK102.out 0; have hfz8_1 := blk_frozen BK102.out 1) | ((with_reducible refine gc 70 rfl ?_); refine goesL_ (some 15) rfl rfl Try.func70 (by kernel_rfl) rfl #[.agg #[.int .i64 0, .int .i64 0], .agg #[.int .i64 ((rd_T29 l0 x8_1).f0), .int .i64 ((rd_T29 l0 x8_1).f1)]] rfl sg ?_; (with_reducible refine (shape_sub.calls 0 0 ((rd_T29 l0 x8_1).f0) ((rd_T29 l0 x8_1).f1) t103 t104 _ A5.out).mono ?_); rintro e w9 ⟨rfl, hb⟩; refine ⟨_, rfl, ?_⟩; replace HO_3 := Aside0.mk (Kd.R_below (by (with_reducible repeat (first | apply Kd.R_alloc | apply Kd.R_drewN | apply Kd.R_drew)); exact (Kd.R_mono (Kd.R_far (p := ⟨gb102, 1, none⟩) (Kd.R_far (p := ⟨gb102, 0, none⟩) (Kd.R_mono HO_3.out (fun k_ hk => (⟨hk, hk.2⟩ : _ ∧ k_ ≠ gb102))) (fun _ hk => hk.2) (.int .i64 ((rd_T29 l0 x8_1).f0))) (fun _ hk => hk.2) (.int .i64 ((rd_T29 l0 x8_1).f1))) (fun _ h_ => h_.1))) hb); replace BK102 := Aside0.mk (blk_below (g := gb102) (o := .cells #[.int .i64 ((rd_T29 l0 x8_1).f0), .int .i64 ((rd_T29 l0 x8_1).f1)] 29 (0, 0)) (by refine bd ?_; refine blk_put (cs := #[.int .i64 ((rd_T29 l0 x8_1).f0), .int .i64 0]) ?_ 1 _ rfl; refine bd ?_; refine blk_put (cs := #[.int .i64 0, .int .i64 0]) ?_ 0 _ rfl; refine bd ?_; exact BK102.out) hb); replace HB := Aside0.mk (below_step bh hb); (try clear hb); (try clear hb2); (try clear hk); (try clear hi)) | ((with_reducible refine gate_builtin (b := .append) (xs := #[.tmp 12, .tmp 16]) rfl ?_); at_builtin; refine Kd.R_append k29 (w0 := w) w.heap.size rfl (.tmp 12) (.tmp 16) 22 29 (.agg #[(.int .i64 0), (.int .i64 0)]) 16 rfl Try.underlying22 info29 rfl (by decide) (by omega) u3 x3_1 (⟨t103, t104⟩ : S29) [.int .i64 t103, .int .i64 t104] (fun k_ => k_ ≠ gb102) (fun _ => False) rfl rfl ?aP (fun _ hk => hk.elim) ?aF ?aO ?aB ?aS ?aL ?_; (case aP => exact k29_mkM _ _ _ (⟨t103, t104⟩ : S29)); (case aB => exact bh); (case aF => exact (fun k_ hk => Kd.freshB (g := gb102) (o := .cells #[.int .i64 ((rd_T29 l0 x8_1).f0), .int .i64 ((rd_T29 l0 x8_1).f1)] 29 (0, 0)) (bk BK102) k_ hk)); (case aO => exact (by (with_reducible repeat (first | apply Kd.R_alloc | apply Kd.R_drewN | apply Kd.R_drew)); exact Kd.R_mono HO_3.out (fun _ hk => hk.2))); (case aS => exact (below_size bh)); (case aL => have := LMc6.out; omega); intro v106 w10 ho hb hg hat; rw [← Ny105.out] at ho; have HO107 := Aside0.mk (ho); replace BK102 := Aside0.mk (blk_grown (g := gb102) (o := .cells #[.int .i64 ((rd_T29 l0 x8_1).f0), .int .i64 ((rd_T29 l0 x8_1).f1)] 29 (0, 0)) (bk BK102) hg (Kd.R_away HO_3.out (fun _ hk => hk.2))); replace HB := Aside0.mk (hb); clear HO_3; clear ho hb hg hat))
    go_roundg k1
    case measure => have := HK1.out; omega
    case rel => exact ⟨(y105), (wrap64 (x8_1 + 1)), sd, H', ⟨by have := HK1.out; omega⟩, ⟨by (with_reducible repeat (first | apply Kd.R_alloc | apply Kd.R_drewN | apply Kd.R_drew)); exact Kd.R_mono HO107.out (fun _ hk => trivial)⟩, ⟨bh⟩⟩
   ·rw [if_neg c2] at H
    have c2b0 := decide_eq_false c2
    clear c2
    replace H := Option.bind_eq_some_iff.mp H
    obtain ⟨t108, A110, H⟩ := H
    try dsimp only at H
    have A11 := Aside0.mk A110
    clear A110
    obtain rfl := Option.some.inj H
    obtain ⟨Ao12, co12, eo12⟩ := Kd.R_slice HO_3.out
    subst eo12
    go_wp2_with (first | ((with_reducible refine gc 58 rfl ?_); refine goesL_ (some 20) rfl rfl Try.func58 (by kernel_rfl) rfl #[.slice Ao12 x3_1.length co12] rfl sg ?_; (with_reducible refine (shape_begun.calls k1 (fun k_ => some k_ = (.slice Ao12 x3_1.length co12 : Value).ownBlock) _ _ x3_1 t108 _ ?side1 A11.out).mono ?_); (case side1 => exact Kd.R_V (Kd.R_tight rfl (HO_3.out))); rintro e w13 ⟨v109, rfl, ho0, hb⟩; refine ⟨_, rfl, ?_⟩; have HO110 := Aside0.mk (Kd.R_lower (Kd.R_new' (Kd.R_mono (ok' := fun k_ => True) ho0 (fun _ hk_ => trivial)) (Kd.R_lt (ro HO_3))) (below_size bh)); replace HO_3 := Aside0.mk (Kd.R_elder' (ro HO_3) (Kd.R_base ho0) hb); replace HB := Aside0.mk (below_step bh hb); (try clear hb); (try clear hb2); (try clear hk); (try clear hi); (try clear ho0)))
    go_ret
    exact ⟨_, by exact er, by (with_reducible repeat (first | apply Kd.R_alloc | apply Kd.R_drewN | apply Kd.R_drew)); exact Kd.R_mono HO110.out (fun _ hk => trivial), bh⟩
/-! ### shape_Negative: function 41 -/
def shape_Negative.f (k : Nat) (l0 : List (S29)) : Option ((List (S29)) × Int) := (shape_refused_normal.f k l0).bind fun t101 => (if t101 = 0 then ((shape_negative.f k l0).bind fun t102 => (some (t102, 0))) else (some (([] : List (S29)), t101)))
set_option maxHeartbeats 8000000 in
set_option maxRecDepth 100000 in
theorem shape_Negative.calls (k : Nat) (A0 : Option Addr) (c0 : Nat) (l0 : List (S29)) (r1 : List (S29)) (r2 : Int) (w : World) (hr0 : Kd.C k29 w A0 l0.length l0) (hc0 : l0.length ≤ c0) (h : shape_Negative.f k l0 = some (r1, r2)) :
  Calls Try.prog 41 #[.slice A0 l0.length c0] w fun e w' => ∃ v0_ : Value, e = .returned (.tuple #[v0_, .int .i64 r2]) ∧ Kd.R k29 29 w' w.heap.size (fun _ => True) v0_ r1 ∧ Below w.heap.size w w' := by
 have HR0 := Aside0.mk hr0
 have HC0 := Aside0.mk hc0
 clear hr0 hc0
 have HB := Aside0.mk (Below.refl w.heap.size w)
 have H : ((shape_refused_normal.f k l0).bind fun t101 => (if t101 = 0 then ((shape_negative.f k l0).bind fun t102 => (some (t102, 0))) else (some (([] : List (S29)), t101)))) = some (r1, r2) := h
 clear h
 replace H := Option.bind_eq_some_iff.mp H
 obtain ⟨t101, A20, H⟩ := H
 replace H : (if t101 = 0 then ((shape_negative.f k l0).bind fun t102 => (some (t102, 0))) else (some (([] : List (S29)), t101))) = some (r1, r2) := H
 have A2 := Aside0.mk A20
 clear A20
 by_cases c3 : t101 = 0
 ·rw [if_pos c3] at H
  have c3b0 : (t101 == 0) = true := beq_iff_eq.mpr c3
  have c3b1 : (t101 != 0) = false := bne_eq_false_iff_eq.mpr c3
  clear c3
  replace H := Option.bind_eq_some_iff.mp H
  obtain ⟨t102, A40, H⟩ := H
  replace H : (some (t102, 0)) = some (r1, r2) := H
  have A4 := Aside0.mk A40
  clear A40
  simp only [Option.some.injEq, Prod.mk.injEq] at H
  obtain ⟨rfl, rfl⟩ := H
  go_enter Try.func41, Try.ntmps41
  go_wp2_with (first | ((with_reducible refine gc 68 rfl ?_); refine goesL_ (some 6) rfl rfl Try.func68 (by kernel_rfl) rfl #[.slice A0 l0.length c0, .func (.func 72) #[] #[]] rfl sg ?_; (with_reducible refine (shape_refused_normal.calls k _ _ l0  t101 _ ?side1 ?side2 A2.out).mono ?_); (case side1 => repeat (first | exact HR0.out | (with_reducible refine Kd.C_alloc ?_ _) | (with_reducible refine Kd.C_drewN ?_ _) | (with_reducible refine Kd.C_drew ?_))); (case side2 => exact HC0.out); rintro e w5 ⟨rfl, hb⟩; refine ⟨_, rfl, ?_⟩; replace HB := Aside0.mk (below_step bh hb); (try clear hb); (try clear hb2); (try clear hk); (try clear hi)) | ((with_reducible refine gc 80 rfl ?_); refine goesL_ (some 11) rfl rfl Try.func80 (by kernel_rfl) rfl #[.slice A0 l0.length c0] rfl sg ?_; (with_reducible refine (shape_negative.calls k _ _ l0 t102 _ ?side1 ?side2 A4.out).mono ?_); (case side1 => exact cs (Kd.C_below HR0.out HB.out)); (case side2 => exact HC0.out); rintro e w6 ⟨v103, rfl, ho0, hb⟩; refine ⟨_, rfl, ?_⟩; have HO104 := Aside0.mk (Kd.R_lower ho0 (below_size bh)); replace HB := Aside0.mk (below_step bh hb); (try clear hb); (try clear hb2); (try clear hk); (try clear hi); (try clear ho0)))
  go_ret2
  exact ⟨_, by exact er, by (with_reducible repeat (first | apply Kd.R_alloc | apply Kd.R_drewN | apply Kd.R_drew)); exact HO104.out, bh⟩
 ·rw [if_neg c3] at H
  have c3b0 : (t101 == 0) = false := beq_eq_false_iff_ne.mpr c3
  have c3b1 : (t101 != 0) = true := bne_iff_ne.mpr c3
  simp only [Option.some.injEq, Prod.mk.injEq] at H
  obtain ⟨rfl, rfl⟩ := H
  go_enter Try.func41, Try.ntmps41
  go_wp2_with (first | ((with_reducible refine gc 68 rfl ?_); refine goesL_ (some 6) rfl rfl Try.func68 (by kernel_rfl) rfl #[.slice A0 l0.length c0, .func (.func 72) #[] #[]] rfl sg ?_; (with_reducible refine (shape_refused_normal.calls k _ _ l0  t101 _ ?side1 ?side2 A2.out).mono ?_); (case side1 => repeat (first | exact HR0.out | (with_reducible refine Kd.C_alloc ?_ _) | (with_reducible refine Kd.C_drewN ?_ _) | (with_reducible refine Kd.C_drew ?_))); (case side2 => exact HC0.out); rintro e w7 ⟨rfl, hb⟩; refine ⟨_, rfl, ?_⟩; replace HB := Aside0.mk (below_step bh hb); (try clear hb); (try clear hb2); (try clear hk); (try clear hi)))
  go_ret2
  exact ⟨_, by exact er, by first | exact Kd.R_nil _ _ _ _ _ | exact Kd.N_nil _ _ _ _ _ | exact Kd.V_nil _ _ _ _ _ | exact Kd.Q_nil _ _ _ _ _ | exact Kd.S_nil _ _ _ _ _, bh⟩
/-! ### cracknellaw04_ShapeSums: function 10 -/
def cracknellaw04_ShapeSums.j0 : Nat → List (S29) → List (S29) → List (S29) → Int → Bool → Option (Bool)
 | 0, _, _, _, _, _ => none
 | k + 1, x5, x6, x7, x8, x62 => if x62 = true then (some false) else ((cracknellaw04_convex.f k x6).bind fun t122 => (if t122 = 0 then ((cracknelref04_Sum.f k x5 x6).bind fun t123 => ((cracknelref04_Same.f k x7 t123).bind fun t126 => (if t126 = true then (some (x8 == 0)) else (some false)))) else (if (x7.length : Int) = 0 then (some (x8 == t122)) else (some false))))
def cracknellaw04_ShapeSums.f (k : Nat) (l0 : List (S29)) (l1 : List (S29)) : Option (Bool) := (cracknellaw04_cut.f l0 12).bind fun t101 => ((cracknellaw04_cut.f l1 12).bind fun t104 => ((shape_Sum.f k t101 t104).bind fun bt107 => ((shape_Negative.f k t101).bind fun bt111 => ((cracknellaw04_convex.f k t101).bind fun t115 => (if t115 = 0 then ((cracknelref04_Negative.f k t101).bind fun t117 => ((cracknelref04_Same.f k bt111.1 t117).bind fun t120 => (if t120 = true then (if bt111.2 = 0 then ((cracknellaw04_lives.f k).bind fun t121 => (cracknellaw04_ShapeSums.j0 k t101 t104 bt107.1 bt107.2 (!t121))) else (cracknellaw04_ShapeSums.j0 k t101 t104 bt107.1 bt107.2 true)) else (cracknellaw04_ShapeSums.j0 k t101 t104 bt107.1 bt107.2 true)))) else (if (wrap64 ((bt107.1.length : Int) + (bt111.1.length : Int))) = 0 then (if bt107.2 = t115 then (if bt111.2 = t115 then ((cracknellaw04_lives.f k).bind fun t116 => (some t116)) else (some false)) else (some false)) else (some false)))))))
theorem cracknellaw04_ShapeSums.j0_no (k : Nat) (a0 : List (S29)) (a1 : List (S29)) (a2 : List (S29)) (a3 : Int) : ¬ (cracknellaw04_ShapeSums.j0 k a0 a1 a2 a3 true = some true) := by cases k <;> simp [cracknellaw04_ShapeSums.j0]
set_option maxHeartbeats 8000000 in
set_option maxRecDepth 100000 in
theorem cracknellaw04_ShapeSums.calls (k : Nat) (A0 : Option Addr) (c0 : Nat) (l0 : List (S29)) (A1 : Option Addr) (c1 : Nat) (l1 : List (S29)) (r : Bool) (w : World) (hr0 : Kd.C k29 w A0 l0.length l0) (hc0 : l0.length ≤ c0) (hr1 : Kd.C k29 w A1 l1.length l1) (hc1 : l1.length ≤ c1) (h : cracknellaw04_ShapeSums.f k l0 l1 = some r) (hr : r = true) :
  Calls Try.prog 10 #[.slice A0 l0.length c0, .slice A1 l1.length c1] w fun e w' => e = .returned (.bool r) ∧ Below w.heap.size w w' := by
 have HR0 := Aside0.mk hr0
 have HC0 := Aside0.mk hc0
 clear hr0 hc0
 have HR1 := Aside0.mk hr1
 have HC1 := Aside0.mk hc1
 clear hr1 hc1
 have HB := Aside0.mk (Below.refl w.heap.size w)
 have H : ((cracknellaw04_cut.f l0 12).bind fun t101 => ((cracknellaw04_cut.f l1 12).bind fun t104 => ((shape_Sum.f k t101 t104).bind fun bt107 => ((shape_Negative.f k t101).bind fun bt111 => ((cracknellaw04_convex.f k t101).bind fun t115 => (if t115 = 0 then ((cracknelref04_Negative.f k t101).bind fun t117 => ((cracknelref04_Same.f k bt111.1 t117).bind fun t120 => (if t120 = true then (if bt111.2 = 0 then ((cracknellaw04_lives.f k).bind fun t121 => (cracknellaw04_ShapeSums.j0 k t101 t104 bt107.1 bt107.2 (!t121))) else (cracknellaw04_ShapeSums.j0 k t101 t104 bt107.1 bt107.2 true)) else (cracknellaw04_ShapeSums.j0 k t101 t104 bt107.1 bt107.2 true)))) else (if (wrap64 ((bt107.1.length : Int) + (bt111.1.length : Int))) = 0 then (if bt107.2 = t115 then (if bt111.2 = t115 then ((cracknellaw04_lives.f k).bind fun t116 => (some t116)) else (some false)) else (some false)) else (some false)))))))) = some r := h
 clear h
 replace H := Option.bind_eq_some_iff.mp H
 obtain ⟨t101, A30, H⟩ := H
 try dsimp only at H
 have A3 := Aside0.mk A30
 clear A30
 replace H := Option.bind_eq_some_iff.mp H
 obtain ⟨t104, A40, H⟩ := H
 try dsimp only at H
 have A4 := Aside0.mk A40
 clear A40
 replace H := Option.bind_eq_some_iff.mp H
 obtain ⟨⟨t107, t110⟩, A50, H⟩ := H
 try dsimp only at H
 have A5 := Aside0.mk A50
 clear A50
 replace H := Option.bind_eq_some_iff.mp H
 obtain ⟨⟨t111, t112⟩, A60, H⟩ := H
 try dsimp only at H
 have A6 := Aside0.mk A60
 clear A60
 replace H := Option.bind_eq_some_iff.mp H
 obtain ⟨t115, A70, H⟩ := H
 try dsimp only at H
 have A7 := Aside0.mk A70
 clear A70
 by_cases c8 : t115 = 0
 ·rw [if_pos c8] at H
  have c8b0 : (t115 == 0) = true := beq_iff_eq.mpr c8
  have c8b1 : (t115 != 0) = false := bne_eq_false_iff_eq.mpr c8
  clear c8
  have HC9 := Aside0.mk H
  clear H
  go_enter Try.func10, Try.ntmps10
  go_upto_region 7 with (first | ((with_reducible refine gc 15 rfl ?_); refine goesL_ (some 13) rfl rfl Try.func15 (by kernel_rfl) rfl #[.slice A0 l0.length c0, .int .i64 12] rfl sg ?_; (with_reducible refine (cracknellaw04_cut.calls _ _ l0 12 t101 _ ?side1 ?side2 A3.out).mono ?_); (case side1 => repeat (first | exact HR0.out | (with_reducible refine Kd.C_alloc ?_ _) | (with_reducible refine Kd.C_drewN ?_ _) | (with_reducible refine Kd.C_drew ?_))); (case side2 => exact HC0.out); rintro e w10 ⟨v102, rfl, ho0, hb⟩; refine ⟨_, rfl, ?_⟩; have HO103 := Aside0.mk (Kd.R_lower ho0 (below_size bh)); replace HB := Aside0.mk (below_step bh hb); (try clear hb); (try clear hb2); (try clear hk); (try clear hi); (try clear ho0)) | ((with_reducible refine gc 15 rfl ?_); refine goesL_ (some 15) rfl rfl Try.func15 (by kernel_rfl) rfl #[.slice A1 l1.length c1, .int .i64 12] rfl sg ?_; (with_reducible refine (cracknellaw04_cut.calls _ _ l1 12 t104 _ ?side1 ?side2 A4.out).mono ?_); (case side1 => exact cs (Kd.C_below HR1.out HB.out)); (case side2 => exact HC1.out); rintro e w11 ⟨v105, rfl, ho0, hb⟩; refine ⟨_, rfl, ?_⟩; have HO106 := Aside0.mk (Kd.R_lower (Kd.R_new' ho0 (Kd.R_lt (ro HO103))) (below_size bh)); replace HO103 := Aside0.mk (Kd.R_elder' (ro HO103) (Kd.R_base ho0) hb); replace HB := Aside0.mk (below_step bh hb); (try clear hb); (try clear hb2); (try clear hk); (try clear hi); (try clear ho0); obtain ⟨Ao12, co12, eo12⟩ := Kd.R_slice HO103.out; subst eo12; obtain ⟨Ao13, co13, eo13⟩ := Kd.R_slice HO106.out; subst eo13) | ((with_reducible refine gc 40 rfl ?_); refine goesL_ (some 19) rfl rfl Try.func40 (by kernel_rfl) rfl #[.slice Ao12 t101.length co12, .slice Ao13 t104.length co13] rfl sg ?_; (with_reducible refine (shape_Sum.calls k (fun k_ => some k_ = (.slice Ao12 t101.length co12 : Value).ownBlock) _ _ t101 (fun k_ => some k_ = (.slice Ao13 t104.length co13 : Value).ownBlock) _ _ t104 t107 t110 _ ?side1 ?side2 A5.out).mono ?_); (case side1 => exact Kd.R_V (Kd.R_tight rfl (HO103.out))); (case side2 => exact Kd.R_V (Kd.R_tight rfl (HO106.out))); rintro e w14 ⟨v108, rfl, ho0, hb⟩; refine ⟨_, rfl, ?_⟩; have HO109 := Aside0.mk (Kd.R_lower (Kd.R_new' (Kd.R_new' (Kd.R_mono (ok' := fun k_ => True) ho0 (fun _ hk_ => trivial)) (Kd.R_lt (ro HO103))) (Kd.R_lt (ro HO106))) (below_size bh)); replace HO103 := Aside0.mk (Kd.R_elder' (ro HO103) (Kd.R_base ho0) hb); replace HO106 := Aside0.mk (Kd.R_elder' (ro HO106) (Kd.R_base ho0) hb); replace HB := Aside0.mk (below_step bh hb); (try clear hb); (try clear hb2); (try clear hk); (try clear hi); (try clear ho0)) | ((with_reducible refine gc 41 rfl ?_); refine goesL_ (some 24) rfl rfl Try.func41 (by kernel_rfl) rfl #[.slice Ao12 t101.length co12] rfl sg ?_; (with_reducible refine (shape_Negative.calls k _ _ t101 t111 t112 _ ?side1 ?side2 A6.out).mono ?_); (case side1 => exact cs (Kd.R_reads' HO103.out).2.2); (case side2 => exact (Kd.R_reads' HO103.out).2.1); rintro e w15 ⟨v113, rfl, ho0, hb⟩; refine ⟨_, rfl, ?_⟩; have HO114 := Aside0.mk (Kd.R_lower (Kd.R_new' (Kd.R_new' (Kd.R_new' ho0 (Kd.R_lt (ro HO103))) (Kd.R_lt (ro HO106))) (Kd.R_lt (ro HO109))) (below_size bh)); replace HO103 := Aside0.mk (Kd.R_elder' (ro HO103) (Kd.R_base ho0) hb); replace HO106 := Aside0.mk (Kd.R_elder' (ro HO106) (Kd.R_base ho0) hb); replace HO109 := Aside0.mk (Kd.R_elder' (ro HO109) (Kd.R_base ho0) hb); replace HB := Aside0.mk (below_step bh hb); (try clear hb); (try clear hb2); (try clear hk); (try clear hi); (try clear ho0)) | ((with_reducible refine gc 36 rfl ?_); refine goesL_ (some 28) rfl rfl Try.func36 (by kernel_rfl) rfl #[.slice Ao12 t101.length co12] rfl sg ?_; (with_reducible refine (cracknellaw04_convex.calls k _ _ t101 t115 _ ?side1 ?side2 A7.out).mono ?_); (case side1 => exact cs (Kd.R_reads' HO103.out).2.2); (case side2 => exact (Kd.R_reads' HO103.out).2.1); rintro e w16 ⟨rfl, hb⟩; refine ⟨_, rfl, ?_⟩; replace HO103 := Aside0.mk (Kd.R_below (ro HO103) hb); replace HO106 := Aside0.mk (Kd.R_below (ro HO106) hb); replace HO109 := Aside0.mk (Kd.R_below (ro HO109) hb); replace HO114 := Aside0.mk (Kd.R_below (ro HO114) hb); replace HB := Aside0.mk (below_step bh hb); (try clear hb); (try clear hb2); (try clear hk); (try clear hi)))
  (try simp only [Act.put, List.setIfInBounds_toArray, List.set_cons_zero, List.set_cons_succ])
  go_cut [62] (fun v62 wc => ∃ (kq : Nat) (x62_8 : Bool), v62 = .bool x62_8 ∧ Aside0 (cracknellaw04_ShapeSums.j0 kq t101 t104 t107 t110 x62_8 = some r) ∧ Aside0 (kq ≤ k) ∧ Aside0 (Kd.R k29 29 wc w.heap.size (fun k_ => some k_ ≠ ((.slice Ao13 t104.length co13) : Value).ownBlock ∧ some k_ ≠ (v108 : Value).ownBlock) (.slice Ao12 t101.length co12) t101) ∧ Aside0 (Kd.R k29 29 wc w.heap.size (fun k_ => some k_ ≠ ((.slice Ao12 t101.length co12) : Value).ownBlock ∧ some k_ ≠ (v108 : Value).ownBlock) (.slice Ao13 t104.length co13) t104) ∧ Aside0 (Kd.R k29 29 wc w.heap.size (fun k_ => some k_ ≠ ((.slice Ao12 t101.length co12) : Value).ownBlock ∧ some k_ ≠ ((.slice Ao13 t104.length co13) : Value).ownBlock) v108 t107) ∧ Aside0 (Below w.heap.size w wc))
  case first =>
   have H := HC9.out
   clear HC9
   replace H := Option.bind_eq_some_iff.mp H
   obtain ⟨t117, A170, H⟩ := H
   try dsimp only at H
   have A17 := Aside0.mk A170
   clear A170
   replace H := Option.bind_eq_some_iff.mp H
   obtain ⟨t120, A180, H⟩ := H
   try dsimp only at H
   have A18 := Aside0.mk A180
   clear A180
   by_cases c19 : t120 = true
   ·subst c19
    rw [if_pos rfl] at H
    by_cases c20 : t112 = 0
    ·rw [if_pos c20] at H
     have c20b0 : (t112 == 0) = true := beq_iff_eq.mpr c20
     have c20b1 : (t112 != 0) = false := bne_eq_false_iff_eq.mpr c20
     clear c20
     (first | rw [c20b0] | (simp only [i64_w, i32_w]; rw [c20b0]) | skip)
     replace H := Option.bind_eq_some_iff.mp H
     obtain ⟨t121, A210, H⟩ := H
     try dsimp only at H
     have hl_ : t121 = true := by
      cases t121 with
      | true => rfl
      | false => exact absurd (hr ▸ H) (cracknellaw04_ShapeSums.j0_no _ _ _ _ _)
     have A21 := Aside0.mk A210
     clear A210
     have H' := Aside0.mk H
     clear H
     go_wp2_with (first | ((with_reducible refine gc 42 rfl ?_); refine goesL_ (some 52) rfl rfl Try.func42 (by kernel_rfl) rfl #[.slice Ao12 t101.length co12] rfl sg ?_; (with_reducible refine (cracknelref04_Negative.calls k _ _ t101 t117 _ ?side1 ?side2 A17.out).mono ?_); (case side1 => exact cs (Kd.R_reads' HO103.out).2.2); (case side2 => exact (Kd.R_reads' HO103.out).2.1); rintro e w22 ⟨v118, rfl, ho0, hb⟩; refine ⟨_, rfl, ?_⟩; have HO119 := Aside0.mk (Kd.R_lower (Kd.R_new' (Kd.R_new' (Kd.R_new' (Kd.R_new' ho0 (Kd.R_lt (ro HO103))) (Kd.R_lt (ro HO106))) (Kd.R_lt (ro HO109))) (Kd.R_lt (ro HO114))) (below_size bh)); replace HO103 := Aside0.mk (Kd.R_elder' (ro HO103) (Kd.R_base ho0) hb); replace HO106 := Aside0.mk (Kd.R_elder' (ro HO106) (Kd.R_base ho0) hb); replace HO109 := Aside0.mk (Kd.R_elder' (ro HO109) (Kd.R_base ho0) hb); replace HO114 := Aside0.mk (Kd.R_elder' (ro HO114) (Kd.R_base ho0) hb); replace HB := Aside0.mk (below_step bh hb); (try clear hb); (try clear hb2); (try clear hk); (try clear hi); (try clear ho0); obtain ⟨Ao23, co23, eo23⟩ := Kd.R_slice HO114.out; subst eo23; obtain ⟨Ao24, co24, eo24⟩ := Kd.R_slice HO119.out; subst eo24) | ((with_reducible refine gc 20 rfl ?_); refine goesL_ (some 53) rfl rfl Try.func20 (by kernel_rfl) rfl #[.slice Ao23 t111.length co23, .slice Ao24 t117.length co24] rfl sg ?_; (with_reducible refine (cracknelref04_Same.calls k _ _ t111 _ _ t117 true _ ?side1 ?side2 ?side3 ?side4 A18.out).mono ?_); (case side1 => exact cs (Kd.R_reads' HO114.out).2.2); (case side2 => exact (Kd.R_reads' HO114.out).2.1); (case side3 => exact cs (Kd.R_reads' HO119.out).2.2); (case side4 => exact (Kd.R_reads' HO119.out).2.1); rintro e w' ⟨rfl, ⟨nd, rfl⟩⟩; refine ⟨_, rfl, ?_⟩) | (go_at_call 18; (with_reducible refine (cracknellaw04_lives.calls k  t121 _ A21.out hl_).mono ?_); rintro e w25 ⟨rfl, hb⟩; replace HO103 := Aside0.mk (Kd.R_below (ro HO103) hb); replace HO106 := Aside0.mk (Kd.R_below (ro HO106) hb); replace HO109 := Aside0.mk (Kd.R_below (ro HO109) hb); replace HO114 := Aside0.mk (Kd.R_below (ro HO114) hb); replace HO119 := Aside0.mk (Kd.R_below (ro HO119) hb); replace HB := Aside0.mk (below_step bh hb); (try clear hb); (try clear hb2); (try clear hk); (try clear hi)))
     go_meet
     case rel => exact ⟨_, (!t121), sd, H', ⟨om⟩, ⟨by (with_reducible repeat (first | apply Kd.R_alloc | apply Kd.R_drewN | apply Kd.R_drew)); exact Kd.R_mono HO103.out (fun _ hk => ⟨hk.1.1.1.2, hk.1.1.2⟩)⟩, ⟨by (with_reducible repeat (first | apply Kd.R_alloc | apply Kd.R_drewN | apply Kd.R_drew)); exact Kd.R_mono HO106.out (fun _ hk => ⟨hk.1.1.1.2, hk.1.1.2⟩)⟩, ⟨by (with_reducible repeat (first | apply Kd.R_alloc | apply Kd.R_drewN | apply Kd.R_drew)); exact Kd.R_mono HO109.out (fun _ hk => ⟨hk.1.1.1.2, hk.1.1.2⟩)⟩, ⟨bh⟩⟩
    ·rw [if_neg c20] at H
     have c20b0 : (t112 == 0) = false := beq_eq_false_iff_ne.mpr c20
     have c20b1 : (t112 != 0) = true := bne_iff_ne.mpr c20
     (first | rw [c20b0] | (simp only [i64_w, i32_w]; rw [c20b0]) | skip)
     exact absurd (hr ▸ H) (cracknellaw04_ShapeSums.j0_no _ _ _ _ _)
   ·replace c19 := Bool.eq_false_iff.mpr c19
    subst c19
    rw [if_neg (show ¬ (false = true) by decide)] at H
    exact absurd (hr ▸ H) (cracknellaw04_ShapeSums.j0_no _ _ _ _ _)
  case rest =>
   clear HC9
   (try clear c1); (try clear c2); (try clear p2); (try clear c3); (try clear c4); (try clear p6); (try clear c8); (try clear c8b0); (try clear c8b1); (try clear c10); (try clear c15); (try clear c19); (try clear c20); (try clear c20b0); (try clear c20b1)
   obtain ⟨kq, x62_8, rfl, HA, HJ8, HO_5, HO_6, HO_7, HB⟩ := hcut
   cases kq with
   | zero => exact absurd HA.out (by simp [cracknellaw04_ShapeSums.j0])
   | succ kj8 =>
    have H := HA.out
    clear HA
    simp only [cracknellaw04_ShapeSums.j0] at H
    by_cases c32 : x62_8 = true
    ·subst c32
     rw [if_pos rfl] at H
     obtain rfl := Option.some.inj H
     cases hr
    ·replace c32 := Bool.eq_false_iff.mpr c32
     subst c32
     rw [if_neg (show ¬ (false = true) by decide)] at H
     replace H := Option.bind_eq_some_iff.mp H
     obtain ⟨t122, A330, H⟩ := H
     try dsimp only at H
     have A33 := Aside0.mk A330
     clear A330
     by_cases c34 : t122 = 0
     ·rw [if_pos c34] at H
      have c34b0 : (t122 == 0) = true := beq_iff_eq.mpr c34
      have c34b1 : (t122 != 0) = false := bne_eq_false_iff_eq.mpr c34
      clear c34
      replace H := Option.bind_eq_some_iff.mp H
      obtain ⟨t123, A350, H⟩ := H
      try dsimp only at H
      have A35 := Aside0.mk A350
      clear A350
      replace H := Option.bind_eq_some_iff.mp H
      obtain ⟨t126, A360, H⟩ := H
      try dsimp only at H
      have A36 := Aside0.mk A360
      clear A360
      by_cases c37 : t126 = true
      ·subst c37
       rw [if_pos rfl] at H
       obtain rfl := Option.some.inj H
       go_wp2_with (first | ((with_reducible refine gc 36 rfl ?_); refine goesL_ (some 64) rfl rfl Try.func36 (by kernel_rfl) rfl #[.slice Ao13 t104.length co13] rfl sg ?_; (with_reducible refine (cracknellaw04_convex.calls kj8 _ _ t104 t122 _ ?side1 ?side2 A33.out).mono ?_); (case side1 => exact cs (Kd.R_reads' HO_6.out).2.2); (case side2 => exact (Kd.R_reads' HO_6.out).2.1); rintro e w38 ⟨rfl, hb⟩; refine ⟨_, rfl, ?_⟩; replace HO_5 := Aside0.mk (Kd.R_below (ro HO_5) hb); replace HO_6 := Aside0.mk (Kd.R_below (ro HO_6) hb); replace HO_7 := Aside0.mk (Kd.R_below (ro HO_7) hb); replace HB := Aside0.mk (below_step bh hb); (try clear hb); (try clear hb2); (try clear hk); (try clear hi)) | ((with_reducible refine gc 43 rfl ?_); refine goesL_ (some 78) rfl rfl Try.func43 (by kernel_rfl) rfl #[.slice Ao12 t101.length co12, .slice Ao13 t104.length co13] rfl sg ?_; (with_reducible refine (cracknelref04_Sum.calls kj8 _ _ t101 _ _ t104 t123 _ ?side1 ?side2 ?side3 ?side4 A35.out).mono ?_); (case side1 => exact cs (Kd.R_reads' HO_5.out).2.2); (case side2 => exact (Kd.R_reads' HO_5.out).2.1); (case side3 => exact cs (Kd.R_reads' HO_6.out).2.2); (case side4 => exact (Kd.R_reads' HO_6.out).2.1); rintro e w39 ⟨v124, rfl, ho0, hb⟩; refine ⟨_, rfl, ?_⟩; have HO125 := Aside0.mk (Kd.R_lower (Kd.R_new' (Kd.R_new' (Kd.R_new' ho0 (Kd.R_lt (ro HO_5))) (Kd.R_lt (ro HO_6))) (Kd.R_lt (ro HO_7))) (below_size bh)); replace HO_5 := Aside0.mk (Kd.R_elder' (ro HO_5) (Kd.R_base ho0) hb); replace HO_6 := Aside0.mk (Kd.R_elder' (ro HO_6) (Kd.R_base ho0) hb); replace HO_7 := Aside0.mk (Kd.R_elder' (ro HO_7) (Kd.R_base ho0) hb); replace HB := Aside0.mk (below_step bh hb); (try clear hb); (try clear hb2); (try clear hk); (try clear hi); (try clear ho0); obtain ⟨Ao40, co40, eo40⟩ := Kd.R_slice HO_7.out; subst eo40; obtain ⟨Ao41, co41, eo41⟩ := Kd.R_slice HO125.out; subst eo41) | ((with_reducible refine gc 20 rfl ?_); refine goesL_ (some 79) rfl rfl Try.func20 (by kernel_rfl) rfl #[.slice Ao40 t107.length co40, .slice Ao41 t123.length co41] rfl sg ?_; (with_reducible refine (cracknelref04_Same.calls kj8 _ _ t107 _ _ t123 true _ ?side1 ?side2 ?side3 ?side4 A36.out).mono ?_); (case side1 => exact cs (Kd.R_reads' HO_7.out).2.2); (case side2 => exact (Kd.R_reads' HO_7.out).2.1); (case side3 => exact cs (Kd.R_reads' HO125.out).2.2); (case side4 => exact (Kd.R_reads' HO125.out).2.1); rintro e w' ⟨rfl, ⟨nd, rfl⟩⟩; refine ⟨_, rfl, ?_⟩))
       go_ret
       exact ⟨by exact er, bh⟩
      ·replace c37 := Bool.eq_false_iff.mpr c37
       subst c37
       rw [if_neg (show ¬ (false = true) by decide)] at H
       obtain rfl := Option.some.inj H
       cases hr
     ·rw [if_neg c34] at H
      have c34b0 : (t122 == 0) = false := beq_eq_false_iff_ne.mpr c34
      have c34b1 : (t122 != 0) = true := bne_iff_ne.mpr c34
      by_cases c46 : (t107.length : Int) = 0
      ·rw [if_pos c46] at H
       have c46b0 : ((t107.length : Int) == 0) = true := beq_iff_eq.mpr c46
       have c46b1 : ((t107.length : Int) != 0) = false := bne_eq_false_iff_eq.mpr c46
       clear c46
       obtain rfl := Option.some.inj H
       go_wp2_with (first | ((with_reducible refine gc 36 rfl ?_); refine goesL_ (some 64) rfl rfl Try.func36 (by kernel_rfl) rfl #[.slice Ao13 t104.length co13] rfl sg ?_; (with_reducible refine (cracknellaw04_convex.calls kj8 _ _ t104 t122 _ ?side1 ?side2 A33.out).mono ?_); (case side1 => exact cs (Kd.R_reads' HO_6.out).2.2); (case side2 => exact (Kd.R_reads' HO_6.out).2.1); rintro e w47 ⟨rfl, hb⟩; refine ⟨_, rfl, ?_⟩; replace HO_5 := Aside0.mk (Kd.R_below (ro HO_5) hb); replace HO_6 := Aside0.mk (Kd.R_below (ro HO_6) hb); replace HO_7 := Aside0.mk (Kd.R_below (ro HO_7) hb); replace HB := Aside0.mk (below_step bh hb); (try clear hb); (try clear hb2); (try clear hk); (try clear hi); obtain ⟨Ao48, co48, eo48⟩ := Kd.R_slice HO_7.out; subst eo48))
       go_ret
       exact ⟨by exact er, bh⟩
      ·rw [if_neg c46] at H
       have c46b0 : ((t107.length : Int) == 0) = false := beq_eq_false_iff_ne.mpr c46
       have c46b1 : ((t107.length : Int) != 0) = true := bne_iff_ne.mpr c46
       have c46b2 : ¬ (t107 = []) := fun h_ => c46 (by rw [h_]; rfl)
       obtain rfl := Option.some.inj H
       cases hr
 ·rw [if_neg c8] at H
  have c8b0 : (t115 == 0) = false := beq_eq_false_iff_ne.mpr c8
  have c8b1 : (t115 != 0) = true := bne_iff_ne.mpr c8
  by_cases c51 : (wrap64 ((t107.length : Int) + (t111.length : Int))) = 0
  ·rw [if_pos c51] at H
   have c51b0 : ((wrap64 ((t107.length : Int) + (t111.length : Int))) == 0) = true := beq_iff_eq.mpr c51
   have c51b1 : ((wrap64 ((t107.length : Int) + (t111.length : Int))) != 0) = false := bne_eq_false_iff_eq.mpr c51
   clear c51
   by_cases c52 : t110 = t115
   ·rw [if_pos c52] at H
    have c52b0 : (t110 == t115) = true := beq_iff_eq.mpr c52
    have c52b1 : (t110 != t115) = false := bne_eq_false_iff_eq.mpr c52
    clear c52
    by_cases c53 : t112 = t115
    ·rw [if_pos c53] at H
     have c53b0 : (t112 == t115) = true := beq_iff_eq.mpr c53
     have c53b1 : (t112 != t115) = false := bne_eq_false_iff_eq.mpr c53
     clear c53
     replace H := Option.bind_eq_some_iff.mp H
     obtain ⟨t116, A540, H⟩ := H
     try dsimp only at H
     have A54 := Aside0.mk A540
     clear A540
     obtain rfl := Option.some.inj H
     go_enter Try.func10, Try.ntmps10
     go_wp2_with (first | ((with_reducible refine gc 15 rfl ?_); refine goesL_ (some 13) rfl rfl Try.func15 (by kernel_rfl) rfl #[.slice A0 l0.length c0, .int .i64 12] rfl sg ?_; (with_reducible refine (cracknellaw04_cut.calls _ _ l0 12 t101 _ ?side1 ?side2 A3.out).mono ?_); (case side1 => repeat (first | exact HR0.out | (with_reducible refine Kd.C_alloc ?_ _) | (with_reducible refine Kd.C_drewN ?_ _) | (with_reducible refine Kd.C_drew ?_))); (case side2 => exact HC0.out); rintro e w55 ⟨v102, rfl, ho0, hb⟩; refine ⟨_, rfl, ?_⟩; have HO103 := Aside0.mk (Kd.R_lower ho0 (below_size bh)); replace HB := Aside0.mk (below_step bh hb); (try clear hb); (try clear hb2); (try clear hk); (try clear hi); (try clear ho0)) | ((with_reducible refine gc 15 rfl ?_); refine goesL_ (some 15) rfl rfl Try.func15 (by kernel_rfl) rfl #[.slice A1 l1.length c1, .int .i64 12] rfl sg ?_; (with_reducible refine (cracknellaw04_cut.calls _ _ l1 12 t104 _ ?side1 ?side2 A4.out).mono ?_); (case side1 => exact cs (Kd.C_below HR1.out HB.out)); (case side2 => exact HC1.out); rintro e w56 ⟨v105, rfl, ho0, hb⟩; refine ⟨_, rfl, ?_⟩; have HO106 := Aside0.mk (Kd.R_lower (Kd.R_new' ho0 (Kd.R_lt (ro HO103))) (below_size bh)); replace HO103 := Aside0.mk (Kd.R_elder' (ro HO103) (Kd.R_base ho0) hb); replace HB := Aside0.mk (below_step bh hb); (try clear hb); (try clear hb2); (try clear hk); (try clear hi); (try clear ho0); obtain ⟨Ao57, co57, eo57⟩ := Kd.R_slice HO103.out; subst eo57; obtain ⟨Ao58, co58, eo58⟩ := Kd.R_slice HO106.out; subst eo58) | ((with_reducible refine gc 40 rfl ?_); refine goesL_ (some 19) rfl rfl Try.func40 (by kernel_rfl) rfl #[.slice Ao57 t101.length co57, .slice Ao58 t104.length co58] rfl sg ?_; (with_reducible refine (shape_Sum.calls k (fun k_ => some k_ = (.slice Ao57 t101.length co57 : Value).ownBlock) _ _ t101 (fun k_ => some k_ = (.slice Ao58 t104.length co58 : Value).ownBlock) _ _ t104 t107 t110 _ ?side1 ?side2 A5.out).mono ?_); (case side1 => exact Kd.R_V (Kd.R_tight rfl (HO103.out))); (case side2 => exact Kd.R_V (Kd.R_tight rfl (HO106.out))); rintro e w59 ⟨v108, rfl, ho0, hb⟩; refine ⟨_, rfl, ?_⟩; have HO109 := Aside0.mk (Kd.R_lower (Kd.R_new' (Kd.R_new' (Kd.R_mono (ok' := fun k_ => True) ho0 (fun _ hk_ => trivial)) (Kd.R_lt (ro HO103))) (Kd.R_lt (ro HO106))) (below_size bh)); replace HO103 := Aside0.mk (Kd.R_elder' (ro HO103) (Kd.R_base ho0) hb); replace HO106 := Aside0.mk (Kd.R_elder' (ro HO106) (Kd.R_base ho0) hb); replace HB := Aside0.mk (below_step bh hb); (try clear hb); (try clear hb2); (try clear hk); (try clear hi); (try clear ho0)) | ((with_reducible refine gc 41 rfl ?_); refine goesL_ (some 24) rfl rfl Try.func41 (by kernel_rfl) rfl #[.slice Ao57 t101.length co57] rfl sg ?_; (with_reducible refine (shape_Negative.calls k _ _ t101 t111 t112 _ ?side1 ?side2 A6.out).mono ?_); (case side1 => exact cs (Kd.R_reads' HO103.out).2.2); (case side2 => exact (Kd.R_reads' HO103.out).2.1); rintro e w60 ⟨v113, rfl, ho0, hb⟩; refine ⟨_, rfl, ?_⟩; have HO114 := Aside0.mk (Kd.R_lower (Kd.R_new' (Kd.R_new' (Kd.R_new' ho0 (Kd.R_lt (ro HO103))) (Kd.R_lt (ro HO106))) (Kd.R_lt (ro HO109))) (below_size bh)); replace HO103 := Aside0.mk (Kd.R_elder' (ro HO103) (Kd.R_base ho0) hb); replace HO106 := Aside0.mk (Kd.R_elder' (ro HO106) (Kd.R_base ho0) hb); replace HO109 := Aside0.mk (Kd.R_elder' (ro HO109) (Kd.R_base ho0) hb); replace HB := Aside0.mk (below_step bh hb); (try clear hb); (try clear hb2); (try clear hk); (try clear hi); (try clear ho0)) | ((with_reducible refine gc 36 rfl ?_); refine goesL_ (some 28) rfl rfl Try.func36 (by kernel_rfl) rfl #[.slice Ao57 t101.length co57] rfl sg ?_; (with_reducible refine (cracknellaw04_convex.calls k _ _ t101 t115 _ ?side1 ?side2 A7.out).mono ?_); (case side1 => exact cs (Kd.R_reads' HO103.out).2.2); (case side2 => exact (Kd.R_reads' HO103.out).2.1); rintro e w61 ⟨rfl, hb⟩; refine ⟨_, rfl, ?_⟩; replace HO103 := Aside0.mk (Kd.R_below (ro HO103) hb); replace HO106 := Aside0.mk (Kd.R_below (ro HO106) hb); replace HO109 := Aside0.mk (Kd.R_below (ro HO109) hb); replace HO114 := Aside0.mk (Kd.R_below (ro HO114) hb); replace HB := Aside0.mk (below_step bh hb); (try clear hb); (try clear hb2); (try clear hk); (try clear hi); obtain ⟨Ao62, co62, eo62⟩ := Kd.R_slice HO109.out; subst eo62; obtain ⟨Ao63, co63, eo63⟩ := Kd.R_slice HO114.out; subst eo63) | (go_at_call 18; (with_reducible refine (cracknellaw04_lives.calls k  t116 _ A54.out hr).mono ?_); rintro e w64 ⟨rfl, hb⟩; replace HO103 := Aside0.mk (Kd.R_below (ro HO103) hb); replace HO106 := Aside0.mk (Kd.R_below (ro HO106) hb); replace HO109 := Aside0.mk (Kd.R_below (ro HO109) hb); replace HO114 := Aside0.mk (Kd.R_below (ro HO114) hb); replace HB := Aside0.mk (below_step bh hb); (try clear hb); (try clear hb2); (try clear hk); (try clear hi)))
     go_ret
     exact ⟨by exact er, bh⟩
    ·rw [if_neg c53] at H
     have c53b0 : (t112 == t115) = false := beq_eq_false_iff_ne.mpr c53
     have c53b1 : (t112 != t115) = true := bne_iff_ne.mpr c53
     obtain rfl := Option.some.inj H
     cases hr
   ·rw [if_neg c52] at H
    have c52b0 : (t110 == t115) = false := beq_eq_false_iff_ne.mpr c52
    have c52b1 : (t110 != t115) = true := bne_iff_ne.mpr c52
    obtain rfl := Option.some.inj H
    cases hr
  ·rw [if_neg c51] at H
   have c51b0 : ((wrap64 ((t107.length : Int) + (t111.length : Int))) == 0) = false := beq_eq_false_iff_ne.mpr c51
   have c51b1 : ((wrap64 ((t107.length : Int) + (t111.length : Int))) != 0) = true := bne_iff_ne.mpr c51
   obtain rfl := Option.some.inj H
   cases hr
end Go.Proofs.Ytoffmpkgickfhaa.PG
end
section
namespace Go.Proofs.Ytoffmpkgickfhaa.M
open Go.Proofs.Ytoffmpkgickfhaa.PG
abbrev Pt := S29
instance decS29 : DecidableEq S29 := fun a b => if h : a.f0 = b.f0 ∧ a.f1 = b.f1 then isTrue (by cases a; cases b; simp_all) else isFalse (by intro e; exact h (by rw [e]; exact ⟨rfl, rfl⟩))
def cr (a b c : Pt) : Int := (b.f0-a.f0)*(c.f1-a.f1) - (c.f0-a.f0)*(b.f1-a.f1)
def btw (a b p : Pt) : Prop := min a.f0 b.f0 ≤ p.f0 ∧ p.f0 ≤ max a.f0 b.f0 ∧ min a.f1 b.f1 ≤ p.f1 ∧ p.f1 ≤ max a.f1 b.f1
theorem pt_ext {a b : Pt} (h0 : a.f0 = b.f0) (h1 : a.f1 = b.f1) : a = b := by
 cases a; cases b; simp_all
theorem cr_swap (a b c : Pt) : cr a c b = -(cr a b c) := by unfold cr; grind
theorem cr_rot (a b c : Pt) : cr b c a = cr a b c := by unfold cr; grind
theorem cr_self1 (a b : Pt) : cr a b a = 0 := by unfold cr; grind
theorem cr_self2 (a b : Pt) : cr a b b = 0 := by unfold cr; grind
def HE (S : List Pt) (a b : Pt) : Prop := a ≠ b ∧ a ∈ S ∧ b ∈ S ∧ ∀ p ∈ S, 0 ≤ cr a b p ∧ (cr a b p = 0 → btw a b p)
theorem btw_eq {a b c : Pt} (h1 : btw a b c) (h2 : btw a c b) : b = c := by
 unfold btw at h1 h2
 apply pt_ext <;> omega
theorem btw_eq' {a b c : Pt} (h1 : btw a c b) (h2 : btw b c a) : a = b := by
 unfold btw at h1 h2
 apply pt_ext <;> omega
theorem he_succ {S : List Pt} {a b c : Pt} (h1 : HE S a b) (h2 : HE S a c) : b = c := by
 obtain ⟨_, _, hb, hB⟩ := h1
 obtain ⟨_, _, hc, hC⟩ := h2
 have h3 := hB c hc
 have h4 := hC b hb
 have h5 := cr_swap a b c
 exact btw_eq (h3.2 (by omega)) (h4.2 (by omega))
theorem he_pred {S : List Pt} {a b c : Pt} (h1 : HE S a c) (h2 : HE S b c) : a = b := by
 obtain ⟨_, ha, _, hA⟩ := h1
 obtain ⟨_, hb, _, hB⟩ := h2
 have h3 := hA b hb
 have h4 := hB a ha
 have h5 : cr b c a = -(cr a c b) := by unfold cr; grind
 exact btw_eq' (h3.2 (by omega)) (h4.2 (by omega))
def fn (p q : Int) (a b : Pt) : Int := p * (b.f0 - a.f0) + q * (b.f1 - a.f1)
theorem pos_of_mul {a b : Int} (ha : 0 < a) (h : 0 < a * b) : 0 < b := by
 rcases Int.lt_trichotomy b 0 with h1 | h1 | h1
 ·have := Int.mul_neg_of_pos_of_neg ha h1; omega
 ·subst h1; simp at h
 ·exact h1
theorem nonneg_of_mul {a b : Int} (ha : 0 < a) (h : 0 ≤ a * b) : 0 ≤ b := by
 rcases Int.lt_trichotomy b 0 with h1 | h1 | h1
 ·have := Int.mul_neg_of_pos_of_neg ha h1; omega
 ·omega
 ·omega
theorem tr {p q : Int} {o u v w : Pt} (hu : 0 < fn p q o u) (hv : 0 < fn p q o v) (hw : 0 < fn p q o w)
  (h1 : 0 ≤ cr o u v) (h2 : 0 ≤ cr o v w) : 0 ≤ cr o u w ∧ (0 < cr o u v ∨ 0 < cr o v w → 0 < cr o u w) := by
 have e : fn p q o v * cr o u w = fn p q o u * cr o v w + fn p q o w * cr o u v := by unfold fn cr; grind
 have a1 := Int.mul_nonneg (Int.le_of_lt hu) h2
 have a2 := Int.mul_nonneg (Int.le_of_lt hw) h1
 constructor
 ·exact nonneg_of_mul hv (by omega)
 ·intro h
  apply pos_of_mul hv
  rcases h with h | h
  ·have := Int.mul_pos hw h; omega
  ·have := Int.mul_pos hu h; omega
theorem le_of_mul_le {a b c : Int} (ha : 0 < a) (h : a * b ≤ a * c) : b ≤ c := Int.le_of_mul_le_mul_left h ha
theorem btw_of_fn {p q : Int} {a b c : Pt} (hb : 0 < fn p q a b) (h0 : 0 ≤ fn p q a c) (h1 : fn p q a c ≤ fn p q a b) (h : cr a b c = 0) : btw a b c := by
 have e0 : fn p q a b * (c.f0 - a.f0) = fn p q a c * (b.f0 - a.f0) := by unfold fn; unfold cr at h; grind
 have e1 : fn p q a b * (c.f1 - a.f1) = fn p q a c * (b.f1 - a.f1) := by unfold fn; unfold cr at h; grind
 have key : ∀ x y : Int, fn p q a b * x = fn p q a c * y → (0 ≤ y → 0 ≤ x ∧ x ≤ y) ∧ (y ≤ 0 → y ≤ x ∧ x ≤ 0) := by
  intro x y e
  constructor
  ·intro hy
   have m1 := Int.mul_nonneg h0 hy
   have m2 := Int.mul_le_mul_of_nonneg_right h1 hy
   exact ⟨nonneg_of_mul hb (by omega), le_of_mul_le hb (by omega)⟩
  ·intro hy
   have m1 := Int.mul_nonneg h0 (show 0 ≤ -y by omega)
   have m2 := Int.mul_le_mul_of_nonneg_right h1 (show 0 ≤ -y by omega)
   rw [Int.mul_neg] at m1 m2
   rw [Int.mul_neg] at m2
   exact ⟨le_of_mul_le hb (by omega), le_of_mul_le hb (by omega)⟩
 have k0 := key _ _ e0
 have k1 := key _ _ e1
 unfold btw
 omega
theorem fn_add (p q : Int) (a b c : Pt) : fn p q a c = fn p q a b + fn p q b c := by unfold fn; grind
theorem fn_neg (p q : Int) (a b : Pt) : fn p q b a = - fn p q a b := by unfold fn; grind
theorem fn_btw_le {p q : Int} {a b c : Pt} (h : btw a b c) (hc : cr a b c = 0) (hb : 0 < fn p q a b) : 0 ≤ fn p q a c ∧ fn p q a c ≤ fn p q a b := by
 unfold btw at h
 have e0 : fn p q a b * (c.f0 - a.f0) = fn p q a c * (b.f0 - a.f0) := by unfold fn; unfold cr at hc; grind
 have e1 : fn p q a b * (c.f1 - a.f1) = fn p q a c * (b.f1 - a.f1) := by unfold fn; unfold cr at hc; grind
 have hne : b.f0 - a.f0 ≠ 0 ∨ b.f1 - a.f1 ≠ 0 := by
  rcases Int.decEq (b.f0 - a.f0) 0 with h | h
  ·exact .inl h
  ·rcases Int.decEq (b.f1 - a.f1) 0 with h' | h'
   ·exact .inr h'
   ·unfold fn at hb; rw [h, h'] at hb; simp at hb
 have key : ∀ x y : Int, fn p q a b * x = fn p q a c * y → y ≠ 0 → (0 ≤ y → 0 ≤ x ∧ x ≤ y) → (y ≤ 0 → y ≤ x ∧ x ≤ 0) → 0 ≤ fn p q a c ∧ fn p q a c ≤ fn p q a b := by
  intro x y e hy h1 h2
  rcases Int.lt_trichotomy y 0 with h3 | h3 | h3
  ·have h4 := h2 (by omega)
   have m1 := Int.mul_nonneg (Int.le_of_lt hb) (show 0 ≤ -x by omega)
   have m2 := Int.mul_nonneg (Int.le_of_lt hb) (show 0 ≤ x - y by omega)
   rw [Int.mul_neg] at m1
   rw [Int.mul_sub] at m2
   constructor
   ·apply nonneg_of_mul (show 0 < -y by omega)
    rw [Int.neg_mul, Int.mul_comm]; omega
   ·apply le_of_mul_le (show 0 < -y by omega)
    rw [Int.neg_mul, Int.neg_mul, Int.mul_comm y, Int.mul_comm y]; omega
  ·exact absurd h3 hy
  ·have h4 := h1 (by omega)
   have m1 := Int.mul_nonneg (Int.le_of_lt hb) (show 0 ≤ x by omega)
   have m2 := Int.mul_nonneg (Int.le_of_lt hb) (show 0 ≤ y - x by omega)
   rw [Int.mul_sub] at m2
   constructor
   ·apply nonneg_of_mul h3
    rw [Int.mul_comm]; omega
   ·apply le_of_mul_le h3
    rw [Int.mul_comm y, Int.mul_comm y]; omega
 rcases hne with h' | h'
 ·exact key _ _ e0 h' (by omega) (by omega)
 ·exact key _ _ e1 h' (by omega) (by omega)
def Pairs (R : Pt → Pt → Prop) : List Pt → Prop
 | [] => True
 | [_] => True
 | a :: b :: l => R a b ∧ Pairs R (b :: l)
theorem Pairs.mono {R R' : Pt → Pt → Prop} (h : ∀ a b, R a b → R' a b) : ∀ l, Pairs R l → Pairs R' l
 | [], _ => trivial
 | [_], _ => trivial
 | _ :: b :: l, ⟨h1, h2⟩ => ⟨h _ _ h1, Pairs.mono h (b :: l) h2⟩
theorem Pairs.append {R : Pt → Pt → Prop} {m : Pt} : ∀ (l l' : List Pt), Pairs R (l ++ [m]) → Pairs R (m :: l') → Pairs R (l ++ m :: l')
 | [], _, _, h => h
 | [_], _, ⟨h1, _⟩, h => ⟨h1, h⟩
 | _ :: b :: l, l', ⟨h1, h2⟩, h => ⟨h1, Pairs.append (b :: l) l' h2 h⟩
theorem Pairs.tail {R : Pt → Pt → Prop} {a : Pt} {l : List Pt} (h : Pairs R (a :: l)) : Pairs R l := by
 cases l with
 | nil => trivial
 | cons b l => exact h.2
theorem Pairs.left {R : Pt → Pt → Prop} : ∀ (l l' : List Pt), Pairs R (l ++ l') → Pairs R l
 | [], _, _ => trivial
 | [_], _, _ => trivial
 | _ :: b :: l, l', ⟨h1, h2⟩ => ⟨h1, Pairs.left (b :: l) l' h2⟩
theorem Pairs.right {R : Pt → Pt → Prop} : ∀ (l l' : List Pt), Pairs R (l ++ l') → Pairs R l'
 | [], _, h => h
 | _ :: l, l', h => Pairs.right l l' h.tail
theorem Pairs.at_ {R : Pt → Pt → Prop} {a b : Pt} {l l' : List Pt} (h : Pairs R (l ++ a :: b :: l')) : R a b := (Pairs.right l _ h).1
theorem ways_eq {R : Pt → Pt → Prop} (hf : ∀ a b c, R a b → R a c → b = c) (a : Pt) : ∀ (x : Pt) (t t' : List Pt), Pairs R (x :: (t ++ [a])) → Pairs R (x :: (t' ++ [a])) → a ∉ t → a ∉ t' → t = t'
 | _, [], [], _, _, _, _ => rfl
 | _, [], y :: _, h, h', _, n' => absurd (hf _ _ _ h.1 h'.1) (fun e => n' (by simp [e]))
 | _, z :: _, [], h, h', n, _ => absurd (hf _ _ _ h.1 h'.1) (fun e => n (by simp [e]))
 | _, z :: t, y :: t', h, h', n, n' => by
  obtain rfl := hf _ _ _ h.1 h'.1
  rw [ways_eq hf a z t t' h.2 h'.2 (fun e => n (by simp [e])) (fun e => n' (by simp [e]))]
def Ring (S : List Pt) (h : List Pt) : Prop := ∃ a t, h = a :: t ∧ a ∉ t ∧ Pairs (HE S) (a :: (t ++ [a]))
theorem ring_eq {S h h' : List Pt} (r : Ring S h) (r' : Ring S h') (e : h.head? = h'.head?) : h = h' := by
 obtain ⟨a, t, rfl, n, p⟩ := r
 obtain ⟨a', t', rfl, n', p'⟩ := r'
 obtain rfl : a = a' := by simpa using e
 rw [ways_eq (R := HE S) (fun _ _ _ => he_succ) a a t t' p p' n n']
instance (a b c : Pt) : Decidable (btw a b c) := by unfold btw; infer_instance
def wrapStep (o tq p : Pt) : Pt := if p = o then tq else if tq = o ∨ cr o tq p < 0 ∨ (cr o tq p = 0 ∧ cr o p tq = 0 ∧ btw o p tq) then p else tq
def wrap (S : List Pt) (o : Pt) : Pt := S.foldl (wrapStep o) o
def Found (T : List Pt) (o tq : Pt) : Prop := (tq = o ∧ ∀ t ∈ T, t = o) ∨ (tq ≠ o ∧ tq ∈ T ∧ ∀ t ∈ T, 0 ≤ cr o tq t ∧ (cr o tq t = 0 → btw o tq t))
theorem btw_end (o a : Pt) : btw o a a := by unfold btw; omega
theorem btw_start (o a : Pt) : btw o a o := by unfold btw; omega
theorem step_ok {p q : Int} {T : List Pt} {o tq x : Pt} (hT : ∀ t ∈ T ++ [x], t = o ∨ 0 < fn p q o t) (h : Found T o tq) : Found (T ++ [x]) o (wrapStep o tq x) := by
 unfold wrapStep
 split
 ·rename_i hx
  subst hx
  rcases h with ⟨rfl, h⟩ | ⟨h1, h2, h3⟩
  ·exact .inl ⟨rfl, by intro t ht; rcases List.mem_append.mp ht with ht | ht; exact h t ht; simpa using ht⟩
  ·refine .inr ⟨h1, by simp [h2], ?_⟩
   intro t ht
   rcases List.mem_append.mp ht with ht | ht
   ·exact h3 t ht
   ·simp at ht; subst ht; rw [cr_self1]; exact ⟨by omega, fun _ => btw_start _ _⟩
 ·rename_i hx
  have fx : 0 < fn p q o x := (hT x (by simp)).resolve_left hx
  rcases h with ⟨rfl, h⟩ | ⟨h1, h2, h3⟩
  ·rw [if_pos (.inl rfl)]
   refine .inr ⟨hx, by simp, ?_⟩
   intro t ht
   rcases List.mem_append.mp ht with ht | ht
   ·rw [h t ht, cr_self1]; exact ⟨by omega, fun _ => btw_start _ _⟩
   ·simp at ht; subst ht; rw [cr_self2]; exact ⟨by omega, fun _ => btw_end _ _⟩
  ·have ft : 0 < fn p q o tq := (hT tq (by simp [h2])).resolve_left h1
   split
   ·rename_i hc
    refine .inr ⟨hx, by simp, ?_⟩
    have h0 : 0 ≤ cr o x tq ∧ (cr o x tq = 0 → btw o x tq) := by
     rcases hc with hc | hc | hc
     ·exact absurd hc h1
     ·have := cr_swap o tq x; exact ⟨by omega, fun h => by omega⟩
     ·exact ⟨by omega, fun _ => hc.2.2⟩
    intro t ht
    rcases List.mem_append.mp ht with ht | ht
    ·rcases hT t (by simp [ht]) with rfl | hf
     ·rw [cr_self1]; exact ⟨by omega, fun _ => btw_start _ _⟩
     ·have := tr fx ft hf h0.1 (h3 t ht).1
      refine ⟨this.1, fun hz => ?_⟩
      have z1 : cr o x tq = 0 := by
       rcases Int.lt_trichotomy 0 (cr o x tq) with h5 | h5 | h5
       ·have := this.2 (.inl h5); omega
       ·exact h5.symm
       ·omega
      have z2 : cr o tq t = 0 := by
       rcases Int.lt_trichotomy 0 (cr o tq t) with h5 | h5 | h5
       ·have := this.2 (.inr h5); omega
       ·exact h5.symm
       ·have := (h3 t ht).1; omega
      have b1 := fn_btw_le (h0.2 z1) z1 fx
      have b2 := fn_btw_le ((h3 t ht).2 z2) z2 ft
      exact btw_of_fn fx b2.1 (by omega) hz
    ·simp at ht; subst ht; rw [cr_self2]; exact ⟨by omega, fun _ => btw_end _ _⟩
   ·rename_i hc
    refine .inr ⟨h1, by simp [h2], ?_⟩
    intro t ht
    rcases List.mem_append.mp ht with ht | ht
    ·exact h3 t ht
    ·simp at ht; subst ht
     have n1 : ¬ cr o tq t < 0 := fun h => hc (.inr (.inl h))
     refine ⟨by omega, fun hz => ?_⟩
     have n2 : ¬ btw o t tq := fun h => hc (.inr (.inr ⟨hz, by rw [cr_swap]; omega, h⟩))
     have hz' : cr o t tq = 0 := by rw [cr_swap]; omega
     by_cases hle : fn p q o t ≤ fn p q o tq
     ·exact btw_of_fn ft (Int.le_of_lt fx) hle hz
     ·exact absurd (btw_of_fn fx (Int.le_of_lt ft) (by omega) hz') n2
theorem wrap_ok {p q : Int} {S : List Pt} {o : Pt} (ho : o ∈ S) (hS : ∀ t ∈ S, t = o ∨ 0 < fn p q o t) (h2 : ∃ t ∈ S, t ≠ o) : HE S o (wrap S o) := by
 have H : ∀ (R T : List Pt) (tq : Pt), T ++ R = S → Found T o tq → Found S o (R.foldl (wrapStep o) tq) := by
  intro R
  induction R with
  | nil => intro T tq e h; rw [← e, List.append_nil]; exact h
  | cons x R ih =>
   intro T tq e h
   rw [List.foldl_cons]
   apply ih (T ++ [x]) _ (by rw [← e]; simp)
   apply step_ok (p := p) (q := q) _ h
   intro t ht
   apply hS
   rw [← e]
   rcases List.mem_append.mp ht with ht | ht
   ·simp [ht]
   ·simp at ht; simp [ht]
 have := H S [] o rfl (.inl ⟨rfl, by simp⟩)
 unfold wrap
 rcases this with ⟨_, h3⟩ | ⟨h3, h4, h5⟩
 ·obtain ⟨t, ht, hn⟩ := h2
  exact absurd (h3 t ht) hn
 ·exact ⟨fun e => h3 e.symm, ho, h4, h5⟩
def Corner (S : List Pt) (o : Pt) : Prop := ∃ p q, ∀ t ∈ S, t = o ∨ 0 < fn p q o t
theorem bounded (f : Pt → Int) : ∀ S : List Pt, ∃ B, ∀ t ∈ S, f t < B
 | [] => ⟨0, by simp⟩
 | a :: S => by
  obtain ⟨B, hB⟩ := bounded f S
  refine ⟨max B (f a + 1), ?_⟩
  intro t ht
  rcases List.mem_cons.mp ht with rfl | ht
  ·omega
  ·have := hB t ht; omega
theorem corner_of_he {S : List Pt} {a b : Pt} (h : HE S a b) : Corner S b := by
 obtain ⟨hab, ha, hb, hS⟩ := h
 let g : Pt → Int := fun t => (b.f0 - a.f0) * (t.f0 - b.f0) + (b.f1 - a.f1) * (t.f1 - b.f1)
 obtain ⟨B, hB⟩ := bounded g S
 have hB0 : 0 < B := by have := hB b hb; simp [g] at this; exact this
 refine ⟨B * -(b.f1 - a.f1) - (b.f0 - a.f0), B * (b.f0 - a.f0) - (b.f1 - a.f1), ?_⟩
 intro t ht
 by_cases e : t = b
 ·exact .inl e
 ·right
  have e1 : fn (B * -(b.f1 - a.f1) - (b.f0 - a.f0)) (B * (b.f0 - a.f0) - (b.f1 - a.f1)) b t = B * cr a b t - g t := by simp only [g, fn, cr]; grind
  rw [e1]
  have h1 := hS t ht
  have h2 := hB t ht
  rcases Int.lt_trichotomy 0 (cr a b t) with h3 | h3 | h3
  ·have := Int.mul_le_mul_of_nonneg_left (show 1 ≤ cr a b t by omega) (Int.le_of_lt hB0)
   omega
  ·rw [← h3]
   have hbt := h1.2 h3.symm
   have hc : cr a b t = 0 := h3.symm
   have : g t < 0 := by
    have k0 : (b.f0 - a.f0) * (t.f0 - b.f0) ≤ 0 := by
     unfold btw at hbt
     rcases Int.le_total a.f0 b.f0 with h5 | h5
     ·have := Int.mul_nonneg (show 0 ≤ b.f0 - a.f0 by omega) (show 0 ≤ b.f0 - t.f0 by omega); grind
     ·have := Int.mul_nonneg (show 0 ≤ a.f0 - b.f0 by omega) (show 0 ≤ t.f0 - b.f0 by omega); grind
    have k1 : (b.f1 - a.f1) * (t.f1 - b.f1) ≤ 0 := by
     unfold btw at hbt
     rcases Int.le_total a.f1 b.f1 with h5 | h5
     ·have := Int.mul_nonneg (show 0 ≤ b.f1 - a.f1 by omega) (show 0 ≤ b.f1 - t.f1 by omega); grind
     ·have := Int.mul_nonneg (show 0 ≤ a.f1 - b.f1 by omega) (show 0 ≤ t.f1 - b.f1 by omega); grind
    rcases Int.lt_trichotomy (g t) 0 with h5 | h5 | h5
    ·exact h5
    ·exfalso
     simp only [g] at h5
     have z0 : (b.f0 - a.f0) * (t.f0 - b.f0) = 0 := by omega
     have z1 : (b.f1 - a.f1) * (t.f1 - b.f1) = 0 := by omega
     have z2 : (b.f0 - a.f0) * (t.f1 - b.f1) = (b.f1 - a.f1) * (t.f0 - b.f0) := by unfold cr at hc; grind
     have hne : b.f0 - a.f0 ≠ 0 ∨ b.f1 - a.f1 ≠ 0 := by
      rcases Int.decEq (b.f0 - a.f0) 0 with y | y
      ·exact .inl y
      ·exact .inr fun y1 => hab (pt_ext (by omega) (by omega))
     have fin : t.f0 - b.f0 = 0 ∧ t.f1 - b.f1 = 0 := by
      rcases hne with y | y
      ·have w0 := (Int.mul_eq_zero.mp z0).resolve_left y
       rw [w0, Int.mul_zero] at z2
       exact ⟨w0, (Int.mul_eq_zero.mp z2).resolve_left y⟩
      ·have w0 := (Int.mul_eq_zero.mp z1).resolve_left y
       rw [w0, Int.mul_zero] at z2
       exact ⟨(Int.mul_eq_zero.mp z2.symm).resolve_left y, w0⟩
     exact e (pt_ext (by omega) (by omega))
    ·simp only [g] at h5; omega
   omega
  ·omega
def first (a b : Pt) : Prop := a.f1 < b.f1 ∨ (a.f1 = b.f1 ∧ a.f0 < b.f0)
instance (a b : Pt) : Decidable (first a b) := by unfold first; infer_instance
theorem corner_of_first {S : List Pt} {o : Pt} (h : ∀ t ∈ S, t = o ∨ first o t) : Corner S o := by
 obtain ⟨B, hB⟩ := bounded (fun t => o.f0 - t.f0) S
 refine ⟨1, max B 1, ?_⟩
 intro t ht
 rcases h t ht with h1 | h1
 ·exact .inl h1
 ·right
  have h2 := hB t ht
  unfold fn
  rcases h1 with h1 | h1
  ·have := Int.mul_le_mul_of_nonneg_left (show 1 ≤ t.f1 - o.f1 by omega) (show 0 ≤ max B 1 by omega)
   omega
  ·rw [show t.f1 - o.f1 = 0 by omega]; omega
def around (S : List Pt) : Nat → Pt → List Pt
 | 0, o => [o]
 | n + 1, o => o :: around S n (wrap S o)
theorem length_le_of_nodup {l S : List Pt} (hn : l.Nodup) (h : ∀ a ∈ l, a ∈ S) : l.length ≤ S.length := by
 induction l generalizing S with
 | nil => simp
 | cons a l ih =>
  have ha := h a (by simp)
  have h2 : ∀ b ∈ l, b ∈ S.erase a := by
   intro b hb
   have hne : b ≠ a := by rintro rfl; exact (List.nodup_cons.mp hn).1 hb
   exact (List.mem_erase_of_ne hne).2 (h b (by simp [hb]))
  have := ih (List.nodup_cons.mp hn).2 h2
  have hl := List.length_erase_of_mem ha
  have : 0 < S.length := List.length_pos_of_mem ha
  simp only [List.length_cons]; omega
theorem ring_around {S : List Pt} {o : Pt} (ho : o ∈ S) (hmin : ∀ t ∈ S, t = o ∨ first o t) (h2 : ∃ a b, a ∈ S ∧ b ∈ S ∧ a ≠ b) :
  ∃ n, n < S.length ∧ Ring S (around S n o) ∧ (∃ x, (around S n o).getLast? = some x ∧ wrap S x = o) ∧ (∀ m, m < n → ∃ x, (around S m o).getLast? = some x ∧ wrap S x ≠ o) := by
 have other : ∀ x ∈ S, ∃ t ∈ S, t ≠ x := by
  intro x _
  obtain ⟨a, b, ha, hb, hab⟩ := h2
  by_cases e : a = x
  ·exact ⟨b, hb, fun e' => hab (e.trans e'.symm)⟩
  ·exact ⟨a, ha, e⟩
 have step : ∀ x, x ∈ S → Corner S x → HE S x (wrap S x) := by
  intro x hx hc
  obtain ⟨p, q, h⟩ := hc
  exact wrap_ok hx h (other x hx)
 have snoc : ∀ n x, ∃ y, (around S n x).getLast? = some y ∧ around S (n + 1) x = around S n x ++ [wrap S y] := by
  intro n
  induction n with
  | zero => intro x; exact ⟨x, rfl, rfl⟩
  | succ n ih =>
   intro x
   obtain ⟨y, h1, h2⟩ := ih (wrap S x)
   refine ⟨y, ?_, ?_⟩
   ·rw [around, List.getLast?_cons, h1]; rfl
   ·rw [around, h2]; rfl
 have pairs : ∀ n x, x ∈ S → Corner S x → Pairs (HE S) (around S n x) ∧ (∀ y ∈ around S n x, y ∈ S ∧ Corner S y) := by
  intro n
  induction n with
  | zero => intro x hx hc; exact ⟨trivial, by intro y hy; simp [around] at hy; subst hy; exact ⟨hx, hc⟩⟩
  | succ n ih =>
   intro x hx hc
   have he := step x hx hc
   obtain ⟨h1, h2⟩ := ih (wrap S x) he.2.2.1 (corner_of_he he)
   refine ⟨?_, ?_⟩
   ·cases n with
    | zero => exact ⟨he, trivial⟩
    | succ n => exact ⟨he, h1⟩
   ·intro y hy
    rw [around] at hy
    rcases List.mem_cons.mp hy with rfl | hy
    ·exact ⟨hx, hc⟩
    ·exact h2 y hy
 have hco := corner_of_first hmin
 have nodup : ∀ n, (∀ m, m < n → ∃ x, (around S m o).getLast? = some x ∧ wrap S x ≠ o) → (around S n o).Nodup ∧ o ∉ (around S n o).tail := by
  intro n
  induction n with
  | zero => intro _; simp [around]
  | succ n ih =>
   intro h
   obtain ⟨h1, h2⟩ := ih (fun m hm => h m (by omega))
   obtain ⟨y, e1, e2⟩ := snoc n o
   obtain ⟨y', e1', hn⟩ := h n (by omega)
   obtain rfl : y = y' := by rw [e1] at e1'; simpa using e1'
   have hy : y ∈ around S n o := List.mem_of_getLast? e1
   have hP := (pairs n o ho hco).1
   have hS := (pairs n o ho hco).2 y hy
   have hey := step y hS.1 hS.2
   rw [e2]
   obtain ⟨t, et⟩ : ∃ t, around S n o = o :: t := by cases n <;> exact ⟨_, rfl⟩
   rw [et] at h1 h2 e1 hy hP ⊢
   have hnot : wrap S y ∉ o :: t := by
    intro hm
    rcases List.mem_cons.mp hm with hm | hm
    ·exact hn hm
    ·-- it has one before it, which is y: but y is the last
     obtain ⟨l1, l2, el⟩ := List.append_of_mem hm
     have el' : o :: t = (o :: l1) ++ wrap S y :: l2 := by rw [el]; rfl
     obtain ⟨l0, z, ez⟩ : ∃ l0 z, o :: l1 = l0 ++ [z] := ⟨(o :: l1).dropLast, (o :: l1).getLast (by simp), (List.dropLast_concat_getLast (by simp)).symm⟩
     rw [el', ez, List.append_assoc] at hP
     have hz : HE S z (wrap S y) := Pairs.at_ hP
     have hzy := he_pred hz hey
     subst hzy
     rw [el', ez] at h1 e1
     rw [List.nodup_append] at h1
     have e3 : (wrap S z :: l2).getLast? = some z := by
      rw [List.getLast?_append, List.getLast?_eq_some_getLast (by simp : wrap S z :: l2 ≠ []), Option.some_or] at e1
      rw [List.getLast?_eq_some_getLast (by simp : wrap S z :: l2 ≠ [])]
      exact e1
     exact h1.2.2 z (by simp) z (List.mem_of_getLast? e3) rfl
   refine ⟨?_, ?_⟩
   ·rw [List.nodup_append]
    refine ⟨h1, by simp, ?_⟩
    intro a ha b hb e
    simp at hb
    subst hb; subst e
    exact hnot ha
   ·simp only [List.cons_append, List.tail_cons] at h2 ⊢
    intro hm
    rcases List.mem_append.mp hm with hm | hm
    ·exact h2 hm
    ·simp at hm; exact hn hm.symm
 have len : ∀ n x, (around S n x).length = n + 1 := by
  intro n
  induction n with
  | zero => intro x; rfl
  | succ n ih => intro x; simp [around, ih]
 have ex : ∃ n, n < S.length ∧ (∃ x, (around S n o).getLast? = some x ∧ wrap S x = o) ∧ (∀ m, m < n → ∃ x, (around S m o).getLast? = some x ∧ wrap S x ≠ o) := by
  apply Classical.byContradiction
  intro hno
  have all : ∀ n, n ≤ S.length → ∀ m, m < n → ∃ x, (around S m o).getLast? = some x ∧ wrap S x ≠ o := by
   intro n
   induction n with
   | zero => intro _ m hm; omega
   | succ n ih =>
    intro hn m hm
    have hb := ih (by omega)
    by_cases e : m < n
    ·exact hb m e
    ·obtain rfl : m = n := by omega
     obtain ⟨y, e1, _⟩ := snoc m o
     by_cases hw : wrap S y = o
     ·exact absurd ⟨m, by omega, ⟨y, e1, hw⟩, hb⟩ hno
     ·exact ⟨y, e1, hw⟩
  have h1 := (nodup S.length (all _ (Nat.le_refl _))).1
  have := length_le_of_nodup h1 (fun a ha => ((pairs S.length o ho hco).2 a ha).1)
  rw [len] at this
  omega
 obtain ⟨n, hn, ⟨x, e1, hw⟩, hm⟩ := ex
 refine ⟨n, hn, ?_, ⟨x, e1, hw⟩, hm⟩
 obtain ⟨h1, h2⟩ := nodup n hm
 obtain ⟨t, et⟩ : ∃ t, around S n o = o :: t := by cases n <;> exact ⟨_, rfl⟩
 have hP := (pairs n o ho hco).1
 have hx := (pairs n o ho hco).2 x (List.mem_of_getLast? e1)
 have he := step x hx.1 hx.2
 rw [hw] at he
 rw [et] at h2 e1 hP ⊢
 refine ⟨o, t, rfl, h2, ?_⟩
 obtain ⟨l0, z, ez⟩ : ∃ l0 z, o :: t = l0 ++ [z] := ⟨(o :: t).dropLast, (o :: t).getLast (by simp), (List.dropLast_concat_getLast (by simp)).symm⟩
 have : z = x := by rw [ez, List.getLast?_concat] at e1; simpa using e1
 subst this
 rw [← List.cons_append, ez, List.append_assoc]
 rw [ez] at hP
 exact Pairs.append l0 [o] hP ⟨he, trivial⟩
def at_ (h : List Pt) (i : Nat) : Pt := h.getD i ⟨0, 0⟩
theorem at_eq {h : List Pt} {i : Nat} (hi : i < h.length) : at_ h i = h[i] := by
 unfold at_; rw [List.getD_eq_getElem?_getD, List.getElem?_eq_getElem hi]; rfl
theorem at_mem {h : List Pt} {i : Nat} (hi : i < h.length) : at_ h i ∈ h := by
 rw [at_eq hi]; exact List.getElem_mem hi
theorem pairs_at {R : Pt → Pt → Prop} : ∀ (l : List Pt), Pairs R l → ∀ i, i + 1 < l.length → R (at_ l i) (at_ l (i + 1))
 | a :: b :: l, h, 0, _ => h.1
 | a :: b :: l, h, i + 1, hi => pairs_at (b :: l) h.2 i (by simpa using hi)
 | [_], _, _, hi => by simp at hi
 | [], _, _, hi => by simp at hi
theorem ring_at {S h : List Pt} (r : Ring S h) : ∀ i, i < h.length → HE S (at_ h i) (at_ h ((i + 1) % h.length)) := by
 obtain ⟨a, t, rfl, _, hp⟩ := r
 intro i hi
 have h1 := pairs_at _ hp i (by simpa using hi)
 have e1 : at_ (a :: (t ++ [a])) i = at_ (a :: t) i := by
  unfold at_; rw [List.getD_eq_getElem?_getD, List.getD_eq_getElem?_getD, ← List.cons_append, List.getElem?_append_left hi]
 have e2 : at_ (a :: (t ++ [a])) (i + 1) = at_ (a :: t) ((i + 1) % (a :: t).length) := by
  by_cases e : i + 1 = (a :: t).length
  ·rw [e, Nat.mod_self]; unfold at_; rw [List.getD_eq_getElem?_getD, ← List.cons_append, List.getElem?_append_right (by simp)]; simp
  ·have : i + 1 < (a :: t).length := by omega
   rw [Nat.mod_eq_of_lt this]
   unfold at_; rw [List.getD_eq_getElem?_getD, List.getD_eq_getElem?_getD, ← List.cons_append, List.getElem?_append_left this]
 rw [e1, e2] at h1
 exact h1
theorem ring_inj {S h : List Pt} (r : Ring S h) : ∀ i j, i < h.length → j < h.length → at_ h i = at_ h j → i = j := by
 have hr := ring_at r
 have h0 : ∀ j, 0 < j → j < h.length → at_ h 0 ≠ at_ h j := by
  obtain ⟨a, t, rfl, ha, _⟩ := r
  intro j hj hl e
  apply ha
  have : at_ (a :: t) j ∈ t := by
   match j, hj with
   | j + 1, _ => rw [at_eq hl]; simp
  rw [← e] at this
  exact this
 have back : ∀ i j, i < j → j < h.length → at_ h i ≠ at_ h j := by
  intro i
  induction i with
  | zero => exact fun j hj hl => h0 j hj hl
  | succ i ih =>
   intro j hj hl e
   have a1 := hr i (by omega)
   have a2 := hr (j - 1) (by omega)
   rw [Nat.mod_eq_of_lt (by omega)] at a1
   rw [show j - 1 + 1 = j by omega, Nat.mod_eq_of_lt hl, ← e] at a2
   exact ih (j - 1) (by omega) (by omega) (he_pred a1 a2)
 intro i j hi hj e
 rcases Nat.lt_trichotomy i j with h1 | h1 | h1
 ·exact absurd e (back i j h1 hj)
 ·exact h1
 ·exact absurd e.symm (back j i h1 hi)
theorem ring_corner {S h : List Pt} (r : Ring S h) : ∀ i, i < h.length → Corner S (at_ h i) ∧ at_ h i ∈ S := by
 intro i hi
 have hr := ring_at r
 rcases Nat.eq_zero_or_pos i with rfl | h0
 ·have := hr (h.length - 1) (by omega)
  rw [show h.length - 1 + 1 = h.length by omega, Nat.mod_self] at this
  exact ⟨corner_of_he this, this.2.2.1⟩
 ·have := hr (i - 1) (by omega)
  rw [show i - 1 + 1 = i by omega, Nat.mod_eq_of_lt hi] at this
  exact ⟨corner_of_he this, this.2.2.1⟩
theorem corner_not_between {S : List Pt} {v a b : Pt} (hv : Corner S v) (ha : a ∈ S) (hb : b ∈ S) (hab : a ≠ b) (hc : cr a b v = 0) (hbt : btw a b v) : v = a ∨ v = b := by
 obtain ⟨p, q, hF⟩ := hv
 rcases hF a ha with h1 | h1
 ·exact .inl h1.symm
 ·rcases hF b hb with h2 | h2
  ·exact .inr h2.symm
  ·exfalso
   have e0 : (v.f0 - a.f0) * fn p q v b + (b.f0 - v.f0) * fn p q v a = 0 := by unfold fn; unfold cr at hc; grind
   have e1 : (v.f1 - a.f1) * fn p q v b + (b.f1 - v.f1) * fn p q v a = 0 := by unfold fn; unfold cr at hc; grind
   have key : ∀ x y z : Int, (v.f0 = v.f0) → (min x z ≤ y ∧ y ≤ max x z) → (y - x) * fn p q v b + (z - y) * fn p q v a = 0 → x = z := by
    intro x y z _ hb e
    rcases Int.lt_trichotomy x z with h | h | h
    ·have m1 := Int.mul_nonneg (show 0 ≤ y - x by omega) (Int.le_of_lt h2)
     have m2 := Int.mul_nonneg (show 0 ≤ z - y by omega) (Int.le_of_lt h1)
     have k1 : (y - x) * fn p q v b = 0 := by omega
     have k2 : (z - y) * fn p q v a = 0 := by omega
     rcases Int.mul_eq_zero.mp k1 with k | k <;> rcases Int.mul_eq_zero.mp k2 with k' | k' <;> omega
    ·exact h
    ·have m1 := Int.mul_nonneg (show 0 ≤ x - y by omega) (Int.le_of_lt h2)
     have m2 := Int.mul_nonneg (show 0 ≤ y - z by omega) (Int.le_of_lt h1)
     have w1 : (y - x) * fn p q v b = - ((x - y) * fn p q v b) := by rw [← Int.neg_mul]; congr 1; omega
     have w2 : (z - y) * fn p q v a = - ((y - z) * fn p q v a) := by rw [← Int.neg_mul]; congr 1; omega
     have k1 : (y - x) * fn p q v b = 0 := by omega
     have k2 : (z - y) * fn p q v a = 0 := by omega
     rcases Int.mul_eq_zero.mp k1 with k | k <;> rcases Int.mul_eq_zero.mp k2 with k' | k' <;> omega
   unfold btw at hbt
   exact hab (pt_ext (key _ _ _ rfl ⟨hbt.1, hbt.2.1⟩ e0) (key _ _ _ rfl ⟨hbt.2.2.1, hbt.2.2.2⟩ e1))
def Strong (h : List Pt) : Prop :=
 (∀ i, i < h.length → at_ h i ≠ at_ h ((i + 1) % h.length)) ∧
 (∀ i j, i < h.length → j < h.length → at_ h i = at_ h j → i = j) ∧
 ∀ i k, i < h.length → k < h.length → 0 ≤ cr (at_ h i) (at_ h ((i + 1) % h.length)) (at_ h k) ∧
  (cr (at_ h i) (at_ h ((i + 1) % h.length)) (at_ h k) = 0 → k = i ∨ k = (i + 1) % h.length)
theorem ring_strong {S h : List Pt} (r : Ring S h) : Strong h := by
 have hr := ring_at r
 have hi := ring_inj r
 refine ⟨fun i h1 => (hr i h1).1, hi, ?_⟩
 intro i k h1 h2
 have he := hr i h1
 have hk := ring_corner r k h2
 have hn : (i + 1) % h.length < h.length := Nat.mod_lt _ (by omega)
 have := he.2.2.2 _ hk.2
 refine ⟨this.1, fun h0 => ?_⟩
 rcases corner_not_between hk.1 he.2.1 he.2.2.1 he.1 h0 (this.2 h0) with e | e
 ·exact .inl (hi _ _ h2 h1 e)
 ·exact .inr (hi _ _ h2 hn e)
def On (a b p : Pt) : Prop := cr a b p = 0 ∧ btw a b p
instance (a b p : Pt) : Decidable (On a b p) := by unfold On; infer_instance
def Meet (a b c d : Pt) : Prop := On a b c ∨ On a b d ∨ On c d a ∨ On c d b ∨
 (((0 < cr a b c ∧ cr a b d < 0) ∨ (cr a b c < 0 ∧ 0 < cr a b d)) ∧ ((0 < cr c d a ∧ cr c d b < 0) ∨ (cr c d a < 0 ∧ 0 < cr c d b)))
instance (a b c d : Pt) : Decidable (Meet a b c d) := by unfold Meet; infer_instance
def Simple (l : List Pt) : Prop :=
 (∀ i, i < l.length → at_ l i ≠ at_ l ((i + 1) % l.length)) ∧
 ∀ i, i < l.length → ¬ On (at_ l i) (at_ l ((i + 1) % l.length)) (at_ l ((i + 1 + 1) % l.length)) ∧
  ¬ On (at_ l ((i + 1) % l.length)) (at_ l ((i + 1 + 1) % l.length)) (at_ l i) ∧
  ∀ k, i + 2 ≤ k → k < l.length → (k + 1) % l.length ≠ i → ¬ Meet (at_ l i) (at_ l ((i + 1) % l.length)) (at_ l k) (at_ l ((k + 1) % l.length))
def Convex (l : List Pt) : Prop :=
 Simple l ∧ ∀ i, i < l.length → 0 < cr (at_ l i) (at_ l ((i + 1) % l.length)) (at_ l ((i + 1 + 1) % l.length)) ∧ (0 < i → first (at_ l 0) (at_ l i))
theorem mod_two {n i : Nat} (hn : 3 ≤ n) (hi : i < n) : (i + 1 + 1) % n ≠ i ∧ (i + 1 + 1) % n ≠ (i + 1) % n ∧ (i + 1) % n ≠ i := by
 by_cases h1 : i + 1 + 1 < n
 ·rw [Nat.mod_eq_of_lt h1, Nat.mod_eq_of_lt (by omega : i + 1 < n)]; omega
 ·by_cases h2 : i + 1 < n
  ·rw [Nat.mod_eq_of_lt h2, show i + 1 + 1 = n by omega, Nat.mod_self]; omega
  ·rw [show i + 1 = n by omega, Nat.mod_self, show n + 1 = 1 + n by omega, Nat.add_mod_right, Nat.mod_eq_of_lt (by omega)]; omega
theorem strong_turn {l : List Pt} (hn : 3 ≤ l.length) (h : Strong l) (i : Nat) (hi : i < l.length) : 0 < cr (at_ l i) (at_ l ((i + 1) % l.length)) (at_ l ((i + 1 + 1) % l.length)) := by
 have hm := mod_two hn hi
 have hk : (i + 1 + 1) % l.length < l.length := Nat.mod_lt _ (by omega)
 have := h.2.2 i _ hi hk
 rcases Int.lt_trichotomy 0 (cr (at_ l i) (at_ l ((i + 1) % l.length)) (at_ l ((i + 1 + 1) % l.length))) with h1 | h1 | h1
 ·exact h1
 ·rcases this.2 h1.symm with e | e
  ·exact absurd e hm.1
  ·exact absurd e hm.2.1
 ·omega
theorem strong_simple {l : List Pt} (hn : 3 ≤ l.length) (h : Strong l) : Simple l := by
 refine ⟨h.1, ?_⟩
 intro i hi
 have ht := strong_turn hn h i hi
 have hr := cr_rot (at_ l i) (at_ l ((i + 1) % l.length)) (at_ l ((i + 1 + 1) % l.length))
 refine ⟨fun o => by have := o.1; omega, fun o => by have := o.1; omega, ?_⟩
 intro k hk1 hk2 hk3 hm
 have hi1 : (i + 1) % l.length < l.length := Nat.mod_lt _ (by omega)
 have hk4 : (k + 1) % l.length < l.length := Nat.mod_lt _ (by omega)
 have ei : (i + 1) % l.length = i + 1 := Nat.mod_eq_of_lt (by omega)
 have c1 := h.2.2 i k hi hk2
 have c2 := h.2.2 i _ hi hk4
 have c3 := h.2.2 k i hk2 hi
 have c4 := h.2.2 k _ hk2 hi1
 rcases hm with hm | hm | hm | hm | hm
 ·have := c1.2 hm.1; omega
 ·have := c2.2 hm.1
  rcases this with e | e
  ·exact hk3 e
  ·rw [ei] at e
   by_cases h5 : k + 1 < l.length
   ·rw [Nat.mod_eq_of_lt h5] at e; omega
   ·rw [show k + 1 = l.length by omega, Nat.mod_self] at e; omega
 ·have := c3.2 hm.1; omega
 ·rcases c4.2 hm.1 with e | e
  ·omega
  ·rw [ei] at e
   by_cases h5 : k + 1 < l.length
   ·rw [Nat.mod_eq_of_lt h5] at e; omega
   ·rw [show k + 1 = l.length by omega, Nat.mod_self] at e; omega
 ·omega
theorem strong_convex {l : List Pt} (hn : 3 ≤ l.length) (h : Strong l) (h0 : ∀ i, i < l.length → 0 < i → first (at_ l 0) (at_ l i)) : Convex l :=
 ⟨strong_simple hn h, fun i hi => ⟨strong_turn hn h i hi, h0 i hi⟩⟩
def Flat (S : List Pt) : Prop := ∀ a ∈ S, ∀ b ∈ S, ∀ c ∈ S, cr a b c = 0
theorem flat_of_edge {S : List Pt} {a b : Pt} (hab : a ≠ b) (h : ∀ c ∈ S, cr a b c = 0) : Flat S := by
 intro x hx y hy z hz
 have e1 := h x hx
 have e2 := h y hy
 have e3 := h z hz
 have k0 : (b.f0 - a.f0) * cr x y z = 0 := by unfold cr at *; grind
 have k1 : (b.f1 - a.f1) * cr x y z = 0 := by unfold cr at *; grind
 rcases Int.mul_eq_zero.mp k0 with k | k
 ·rcases Int.mul_eq_zero.mp k1 with k' | k'
  ·exact absurd (pt_ext (by omega) (by omega)) hab
  ·exact k'
 ·exact k
theorem ring_three {S h : List Pt} (r : Ring S h) (hf : ¬ Flat S) : 3 ≤ h.length := by
 have hr := ring_at r
 have h0 : 0 < h.length := by obtain ⟨a, t, rfl, _⟩ := r; simp
 rcases Nat.lt_or_ge h.length 3 with h3 | h3
 ·exfalso
  have a1 := hr 0 h0
  by_cases e : h.length = 1
  ·rw [e] at a1; exact a1.1 rfl
  ·have e2 : h.length = 2 := by omega
   have a2 := hr 1 (by omega)
   rw [e2] at a1 a2
   simp only [Nat.zero_add, Nat.mod_self, Nat.one_mod] at a1 a2
   apply hf
   apply flat_of_edge a1.1
   intro c hc
   have b1 := (a1.2.2.2 c hc).1
   have b2 := (a2.2.2.2 c hc).1
   have : cr (at_ h (1 % 2)) (at_ h 0) c = - cr (at_ h 0) (at_ h (1 % 2)) c := by unfold cr; grind
   simp only [Nat.one_mod] at *
   omega
 ·exact h3
theorem ring_first {S h : List Pt} (r : Ring S h) (hf : ¬ Flat S) (i : Nat) (hi : i < h.length) (hmin : ∀ k, k < h.length → k = i ∨ first (at_ h i) (at_ h k)) : ∀ p ∈ S, p = at_ h i ∨ first (at_ h i) p := by
 have hn := ring_three r hf
 have hs := ring_strong r
 have hr := ring_at r
 intro x hx
 obtain ⟨B, hB⟩ := bounded (fun t => max ((at_ h i).f0 - t.f0) (t.f0 - (at_ h i).f0)) (x :: h)
 obtain ⟨j, hj, ej⟩ : ∃ j, j < h.length ∧ (j + 1) % h.length = i := by
  rcases Nat.eq_zero_or_pos i with rfl | h0
  ·exact ⟨h.length - 1, by omega, by rw [show h.length - 1 + 1 = h.length by omega, Nat.mod_self]⟩
  ·exact ⟨i - 1, by omega, by rw [show i - 1 + 1 = i by omega, Nat.mod_eq_of_lt hi]⟩
 have h1 := (hr j hj).2.2.2 x hx
 have h2 := (hr i hi).2.2.2 x hx
 have ht := strong_turn hn hs j hj
 have hm := mod_two hn hj
 have hm2 := mod_two hn hi
 have ej2 : (j + 1 + 1) % h.length = (i + 1) % h.length := by rw [← ej, Nat.mod_add_mod]
 rw [ej2, ej] at ht
 rw [ej] at h1 hm
 have hk : (i + 1) % h.length < h.length := Nat.mod_lt _ (by omega)
 have f1 : first (at_ h i) (at_ h j) := (hmin j hj).resolve_left (fun e => hm.2.2 e.symm)
 have f2 : first (at_ h i) (at_ h ((i + 1) % h.length)) := (hmin _ hk).resolve_left hm2.2.2
 generalize at_ h i = o at *
 generalize hu : at_ h j = u at *
 generalize hw : at_ h ((i + 1) % h.length) = w at *
 have bx := hB x (by simp)
 have bu := hB u (by rw [← hu]; simp [at_mem hj])
 have bw := hB w (by rw [← hw]; simp [at_mem hk])
 have F : ∀ t : Pt, max (o.f0 - t.f0) (t.f0 - o.f0) < B → (first o t ↔ 0 < fn 1 B o t) := by
  intro t hb
  unfold first fn
  constructor
  ·rintro (h | ⟨h, h'⟩)
   ·have := Int.mul_le_mul_of_nonneg_left (show 1 ≤ t.f1 - o.f1 by omega) (show 0 ≤ B by omega); omega
   ·rw [show t.f1 - o.f1 = 0 by omega]; omega
  ·intro h
   rcases Int.lt_trichotomy o.f1 t.f1 with h3 | h3 | h3
   ·exact .inl h3
   ·rw [show t.f1 - o.f1 = 0 by omega] at h; exact .inr ⟨h3, by omega⟩
   ·have := Int.mul_le_mul_of_nonneg_left (show 1 ≤ o.f1 - t.f1 by omega) (show 0 ≤ B by omega)
    have e : B * (t.f1 - o.f1) = - (B * (o.f1 - t.f1)) := by grind
    omega
 have g1 := (F u bu).1 f1
 have g2 := (F w bw).1 f2
 by_cases e : x = o
 ·exact .inl e
 ·right
  rw [F x bx]
  have id : fn 1 B o x * cr u o w = fn 1 B o w * cr u o x + fn 1 B o u * cr o w x := by unfold fn cr; grind
  have m1 := Int.mul_nonneg (Int.le_of_lt g2) h1.1
  have m2 := Int.mul_nonneg (Int.le_of_lt g1) h2.1
  rcases Int.lt_trichotomy 0 (fn 1 B o x) with h3 | h3 | h3
  ·exact h3
  ·exfalso
   rw [← h3] at id
   have z1 : fn 1 B o w * cr u o x = 0 := by omega
   have z2 : fn 1 B o u * cr o w x = 0 := by omega
   have z3 := (Int.mul_eq_zero.mp z1).resolve_left (by omega)
   have z4 := (Int.mul_eq_zero.mp z2).resolve_left (by omega)
   have y0 : cr u o w * (x.f0 - o.f0) = 0 := by unfold cr at *; grind
   have y1 : cr u o w * (x.f1 - o.f1) = 0 := by unfold cr at *; grind
   have := (Int.mul_eq_zero.mp y0).resolve_left (by omega)
   have := (Int.mul_eq_zero.mp y1).resolve_left (by omega)
   exact e (pt_ext (by omega) (by omega))
  ·have := Int.mul_neg_of_neg_of_pos h3 ht; omega
theorem ring_rot {S h1 h2 : List Pt} (r : Ring S (h1 ++ h2)) (h : h2 ≠ []) : Ring S (h2 ++ h1) := by
 cases h1 with
 | nil => simpa using r
 | cons a t1 =>
  cases h2 with
  | nil => exact absurd rfl h
  | cons b t2 =>
   have hi := ring_inj r
   obtain ⟨a', t, e, ha, hp⟩ := r
   simp only [List.cons_append, List.cons.injEq] at e
   obtain ⟨rfl, rfl⟩ := e
   have e1 : a :: (t1 ++ b :: t2 ++ [a]) = (a :: t1) ++ (b :: (t2 ++ [a])) := by simp
   rw [e1] at hp
   have q1 : Pairs (HE S) ((a :: t1) ++ [b]) := by
    apply Pairs.left ((a :: t1) ++ [b]) (t2 ++ [a]); simpa using hp
   have q2 := Pairs.right _ _ hp
   refine ⟨b, t2 ++ a :: t1, by simp, ?_, ?_⟩
   ·intro hb
    obtain ⟨n, hn, en⟩ := List.mem_iff_getElem.mp hb
    simp only [List.length_append, List.length_cons] at hn
    have p0 : at_ (a :: t1 ++ b :: t2) (t1.length + 1) = b := by
     unfold at_; rw [List.getD_eq_getElem?_getD, List.getElem?_append_right (by simp)]; simp
    by_cases hlt : n < t2.length
    ·have p1 : at_ (a :: t1 ++ b :: t2) (t1.length + 1 + (n + 1)) = b := by
      unfold at_
      rw [List.getD_eq_getElem?_getD, List.getElem?_append_right (by simp)]
      rw [List.getElem_append_left hlt] at en
      simp only [List.length_cons, Nat.add_sub_cancel_left, List.getElem?_cons_succ]
      rw [List.getElem?_eq_getElem hlt]; exact en
     have := hi (t1.length + 1) (t1.length + 1 + (n + 1)) (by simp) (by simp; omega) (p0.trans p1.symm)
     omega
    ·have p1 : at_ (a :: t1 ++ b :: t2) (n - t2.length) = b := by
      unfold at_
      rw [List.getD_eq_getElem?_getD, List.getElem?_append_left (by simp; omega)]
      rw [List.getElem_append_right (by omega)] at en
      rw [List.getElem?_eq_getElem (by simp; omega)]; exact en
     have := hi (t1.length + 1) (n - t2.length) (by simp) (by simp; omega) (p0.trans p1.symm)
     omega
   ·have := Pairs.append (b :: t2) (t1 ++ [b]) (by simpa using q2) (by simpa using q1)
    simpa using this
theorem first_tri (a b : Pt) : a = b ∨ first a b ∨ first b a := by
 unfold first
 rcases Int.lt_trichotomy a.f1 b.f1 with h | h | h
 ·exact .inr (.inl (.inl h))
 ·rcases Int.lt_trichotomy a.f0 b.f0 with h' | h' | h'
  ·exact .inr (.inl (.inr ⟨h, h'⟩))
  ·exact .inl (pt_ext h' h)
  ·exact .inr (.inr (.inr ⟨h.symm, h'⟩))
 ·exact .inr (.inr (.inl h))
theorem first_trans {a b c : Pt} (h : first a b) (h' : first b c) : first a c := by unfold first at *; omega
theorem first_irrefl (a : Pt) : ¬ first a a := by unfold first; omega
theorem rings_one {S h h' : List Pt} (hf : ¬ Flat S) (r : Ring S h) (r' : Ring S h') (m : ∀ k, k < h.length → k = 0 ∨ first (at_ h 0) (at_ h k)) (m' : ∀ p ∈ S, p = at_ h' 0 ∨ first (at_ h' 0) p) : h = h' := by
 have l := ring_three r hf
 have l' := ring_three r' hf
 have h1 := ring_first r hf 0 (by omega) m
 have a1 := (ring_corner r 0 (by omega)).2
 have a2 := (ring_corner r' 0 (by omega)).2
 have e : at_ h 0 = at_ h' 0 := by
  rcases h1 _ a2 with e | e
  ·exact e.symm
  ·rcases m' _ a1 with e' | e'
   ·exact e'
   ·exact absurd (first_trans e e') (first_irrefl _)
 apply ring_eq r r'
 obtain ⟨x, t, rfl, _⟩ := r
 obtain ⟨x', t', rfl, _⟩ := r'
 exact congrArg some e
theorem flat_ring {S h : List Pt} (r : Ring S h) (hf : Flat S) : h.length < 3 := by
 rcases Nat.lt_or_ge h.length 3 with h3 | h3
 ·exact h3
 ·have hs := (ring_strong r).2.2 0 2 (by omega) (by omega)
  have c0 := (ring_corner r 0 (by omega)).2
  have c1 := (ring_corner r ((0 + 1) % h.length) (Nat.mod_lt _ (by omega))).2
  have c2 := (ring_corner r 2 (by omega)).2
  have := hs.2 (hf _ c0 _ c1 _ c2)
  rw [Nat.mod_eq_of_lt (by omega)] at this
  omega
theorem flat_of_first {S : List Pt} {o : Pt} (h : ∀ a ∈ S, ∀ b ∈ S, cr o a b = 0) : Flat S := by
 by_cases e : ∃ a ∈ S, a ≠ o
 ·obtain ⟨a, ha, hne⟩ := e
  exact flat_of_edge (fun e => hne e.symm) (h a ha)
 ·have : ∀ a ∈ S, a = o := fun a ha => Classical.byContradiction fun hn => e ⟨a, ha, hn⟩
  intro a ha b hb c hc
  rw [this a ha, this b hb, this c hc, cr_self1]
theorem two_of_not_flat {S : List Pt} (hf : ¬ Flat S) : ∃ a b, a ∈ S ∧ b ∈ S ∧ a ≠ b := by
 apply Classical.byContradiction
 intro hn
 apply hf
 intro a ha b hb c hc
 have e : ∀ x ∈ S, x = a := fun x hx => Classical.byContradiction fun hne => hn ⟨x, a, hx, ha, hne⟩
 rw [e b hb, e c hc, cr_self1]
end Go.Proofs.Ytoffmpkgickfhaa.M
end
section
namespace Go.Proofs.Ytoffmpkgickfhaa.M
open Go.Proofs.Ytoffmpkgickfhaa.PG
def vec (a b : Pt) : Pt := ⟨b.f0 - a.f0, b.f1 - a.f1⟩
def cx (u v : Pt) : Int := u.f0 * v.f1 - u.f1 * v.f0
def ph (p q : Int) (u : Pt) : Int := p * u.f0 + q * u.f1
def plus (u v : Pt) : Pt := ⟨u.f0 + v.f0, u.f1 + v.f1⟩
theorem id3 (p q : Int) (u v w : Pt) : ph p q u * cx v w = ph p q v * cx u w - ph p q w * cx u v := by unfold ph cx; grind
theorem cx_swap (u v : Pt) : cx v u = - cx u v := by unfold cx; grind
theorem cr_cx (a b c : Pt) : cr a b c = cx (vec a b) (vec a c) := by unfold cr cx vec; dsimp only; grind
def P (l : List Pt) (i : Nat) : Pt := at_ l (i % l.length)
def ed (l : List Pt) (i : Nat) : Pt := vec (P l i) (P l (i + 1))
structure Cvx (p q : Int) (l : List Pt) : Prop where
 three : 3 ≤ l.length
 strong : Strong l
 low : ∀ k, k < l.length → k = 0 ∨ 0 < fn p q (at_ l 0) (at_ l k)
 some_ : ∀ i, ph p q (ed l i) ≠ 0
section
variable {p q : Int} {l : List Pt}
theorem P_lt {i : Nat} (h : i < l.length) : P l i = at_ l i := by unfold P; rw [Nat.mod_eq_of_lt h]
theorem P_len (l : List Pt) : P l l.length = P l 0 := by unfold P; rw [Nat.mod_self, Nat.zero_mod]
theorem P_add (l : List Pt) (i : Nat) : P l (i + l.length) = P l i := by unfold P; rw [Nat.add_mod_right]
theorem ed_add (l : List Pt) (i : Nat) : ed l (i + l.length) = ed l i := by unfold ed; rw [P_add, show i + l.length + 1 = (i + 1) + l.length by omega, P_add]
theorem ed_len (l : List Pt) : ed l l.length = ed l 0 := by have := ed_add l 0; rwa [Nat.zero_add] at this
theorem Cvx.left (h : Cvx p q l) (i k : Nat) : 0 ≤ cx (ed l i) (vec (P l i) (P l k)) ∧ (cx (ed l i) (vec (P l i) (P l k)) = 0 → P l k = P l i ∨ P l k = P l (i + 1)) := by
 have n0 : 0 < l.length := by have := h.three; omega
 have hi := Nat.mod_lt i n0
 have hk := Nat.mod_lt k n0
 obtain ⟨s1, s2⟩ := h.strong.2.2 _ _ hi hk
 have e : at_ l ((i % l.length + 1) % l.length) = P l (i + 1) := by unfold P; rw [Nat.mod_add_mod]
 rw [e] at s1 s2
 have e2 : cr (at_ l (i % l.length)) (P l (i + 1)) (at_ l (k % l.length)) = cx (ed l i) (vec (P l i) (P l k)) := cr_cx _ _ _
 rw [e2] at s1 s2
 refine ⟨s1, fun h0 => ?_⟩
 rcases s2 h0 with h1 | h1
 ·left; unfold P; rw [h1]
 ·right; rw [← e]; unfold P; rw [h1]
theorem Cvx.turn (h : Cvx p q l) (i : Nat) : 0 < cx (ed l i) (ed l (i + 1)) := by
 have n0 : 0 < l.length := by have := h.three; omega
 have hi := Nat.mod_lt i n0
 have t := strong_turn h.three h.strong _ hi
 have e1 : at_ l ((i % l.length + 1) % l.length) = P l (i + 1) := by unfold P; rw [Nat.mod_add_mod]
 have e2 : at_ l ((i % l.length + 1 + 1) % l.length) = P l (i + 2) := by
  unfold P; rw [show i % l.length + 1 + 1 = i % l.length + 2 by omega, Nat.mod_add_mod]
 rw [e1, e2, cr_cx] at t
 have : cx (vec (P l i) (P l (i + 1))) (vec (P l i) (P l (i + 2))) = cx (ed l i) (ed l (i + 1)) := by unfold ed cx vec; dsimp only; grind
 rw [← this]; exact t
theorem Cvx.up0 (h : Cvx p q l) : 0 < ph p q (ed l 0) := by
 have h3 := h.three
 have := (h.low 1 (by omega)).resolve_left (by omega)
 unfold ed; rw [P_lt (by omega), P_lt (by omega)]; exact this
theorem Cvx.down (h : Cvx p q l) : ph p q (ed l (l.length - 1)) < 0 := by
 have h3 := h.three
 have := (h.low (l.length - 1) (by omega)).resolve_left (by omega)
 unfold ed; rw [P_lt (by omega), show l.length - 1 + 1 = l.length by omega, P_len, P_lt (by omega)]
 unfold fn at this; unfold ph vec; dsimp only
 rw [Int.mul_sub, Int.mul_sub] at *; omega
theorem Cvx.extreme (h : Cvx p q l) (j : Nat) (e : Pt) (h1 : 0 ≤ cx e (ed l (j + 1))) (h2 : 0 < cx (ed l j) e) (k : Nat) :
  0 ≤ cx e (vec (P l (j + 1)) (P l k)) ∧ (cx e (vec (P l (j + 1)) (P l k)) = 0 → P l k = P l (j + 1) ∨ (cx e (ed l (j + 1)) = 0 ∧ P l k = P l (j + 2))) := by
 have T := h.turn j
 obtain ⟨a1, a2⟩ := h.left (j + 1) k
 obtain ⟨b1, _⟩ := h.left j k
 have b1' : 0 ≤ cx (ed l j) (vec (P l (j + 1)) (P l k)) := by
  have : cx (ed l j) (vec (P l (j + 1)) (P l k)) = cx (ed l j) (vec (P l j) (P l k)) := by unfold ed cx vec; dsimp only; grind
  rw [this]; exact b1
 generalize hw : vec (P l (j + 1)) (P l k) = w at *
 have id : cx (ed l j) (ed l (j + 1)) * cx e w = cx (ed l j) w * cx e (ed l (j + 1)) + cx (ed l (j + 1)) w * cx (ed l j) e := by unfold cx; grind
 have m1 : 0 ≤ cx (ed l j) w * cx e (ed l (j + 1)) := Int.mul_nonneg b1' h1
 have m2 : 0 ≤ cx (ed l (j + 1)) w * cx (ed l j) e := Int.mul_nonneg a1 (by omega)
 refine ⟨nonneg_of_mul T (by omega), fun h0 => ?_⟩
 rw [h0, Int.mul_zero] at id
 have z2 : cx (ed l (j + 1)) w * cx (ed l j) e = 0 := by omega
 have z1 : cx (ed l j) w * cx e (ed l (j + 1)) = 0 := by omega
 have z3 : cx (ed l (j + 1)) w = 0 := by
  rcases Int.mul_eq_zero.mp z2 with h | h
  ·exact h
  ·omega
 rcases a2 z3 with h4 | h4
 ·exact Or.inl h4
 ·right
  have e3 : w = ed l (j + 1) := by rw [← hw]; unfold ed; rw [h4]
  rw [e3] at z1
  rcases Int.mul_eq_zero.mp z1 with h | h
  ·omega
  ·exact ⟨h, h4⟩
theorem Cvx.phases (h : Cvx p q l) (i : Nat) (hi : i + 1 < l.length) : ¬ (ph p q (ed l i) < 0 ∧ 0 < ph p q (ed l (i + 1))) := by
 rintro ⟨h1, h2⟩
 have T := h.turn i
 obtain ⟨a1, _⟩ := h.left (i + 1) 0
 obtain ⟨b1, _⟩ := h.left i 0
 have b1' : 0 ≤ cx (ed l i) (vec (P l (i + 1)) (P l 0)) := by
  have : cx (ed l i) (vec (P l (i + 1)) (P l 0)) = cx (ed l i) (vec (P l i) (P l 0)) := by unfold ed cx vec; dsimp only; grind
  rw [this]; exact b1
 have hlow := (h.low (i + 1) hi).resolve_left (by omega)
 have hw : ph p q (vec (P l (i + 1)) (P l 0)) < 0 := by
  rw [P_lt hi, P_lt (by omega)]; unfold fn at hlow; unfold ph vec; dsimp only
  rw [Int.mul_sub, Int.mul_sub] at *; omega
 generalize vec (P l (i + 1)) (P l 0) = w at *
 have id := id3 p q w (ed l i) (ed l (i + 1))
 have s1 : cx w (ed l (i + 1)) = - cx (ed l (i + 1)) w := cx_swap _ _
 have s2 : cx w (ed l i) = - cx (ed l i) w := cx_swap _ _
 rw [s1, s2] at id
 have m1 : ph p q w * cx (ed l i) (ed l (i + 1)) < 0 := Int.mul_neg_of_neg_of_pos hw T
 have m2 : 0 ≤ ph p q (ed l i) * - cx (ed l (i + 1)) w := Int.mul_nonneg_of_nonpos_of_nonpos (by omega) (by omega)
 have m3 : ph p q (ed l (i + 1)) * - cx (ed l i) w ≤ 0 := Int.mul_nonpos_of_nonneg_of_nonpos (by omega) (by omega)
 omega
def Bf (p q : Int) (u v : Pt) : Prop := (0 < ph p q u ∧ ph p q v < 0) ∨ (0 < ph p q u ∧ 0 < ph p q v ∧ 0 < cx u v) ∨ (ph p q u < 0 ∧ ph p q v < 0 ∧ 0 < cx u v)
theorem Bf.trans {u v w : Pt} (h1 : Bf p q u v) (h2 : Bf p q v w) : Bf p q u w := by
 have id := id3 p q v u w
 have s : cx v u = - cx u v := cx_swap u v
 rw [s] at id
 rcases h1 with ⟨a, b⟩ | ⟨a, b, c⟩ | ⟨a, b, c⟩ <;> rcases h2 with ⟨d, e⟩ | ⟨d, e, f⟩ | ⟨d, e, f⟩
 ·omega
 ·omega
 ·exact Or.inl ⟨a, e⟩
 ·exact Or.inl ⟨a, e⟩
 ·refine Or.inr (Or.inl ⟨a, e, ?_⟩)
  have m1 : 0 < ph p q u * cx v w := Int.mul_pos a f
  have m2 : ph p q w * - cx u v < 0 := Int.mul_neg_of_pos_of_neg e (by omega)
  exact pos_of_mul d (by omega)
 ·omega
 ·omega
 ·omega
 ·refine Or.inr (Or.inr ⟨a, e, ?_⟩)
  have m1 : ph p q u * cx v w < 0 := Int.mul_neg_of_neg_of_pos a f
  have m2 : 0 < ph p q w * - cx u v := Int.mul_pos_of_neg_of_neg e (by omega)
  rcases Int.lt_or_le 0 (cx u w) with h | h
  ·exact h
  ·have : 0 ≤ ph p q v * cx u w := Int.mul_nonneg_of_nonpos_of_nonpos (by omega) h
   omega
theorem Cvx.sorted (h : Cvx p q l) (i : Nat) (hi : i + 1 < l.length) : Bf p q (ed l i) (ed l (i + 1)) := by
 have T := h.turn i
 have hp := h.phases i hi
 have n1 := h.some_ i
 have n2 := h.some_ (i + 1)
 unfold Bf
 omega
end
end Go.Proofs.Ytoffmpkgickfhaa.M
end
section
namespace Go.Proofs.Ytoffmpkgickfhaa.M
open Go.Proofs.Ytoffmpkgickfhaa.PG
abbrev El := Pt × Int × Int
abbrev X (e : El) : Int := e.2.1
abbrev Y (e : El) : Int := e.2.2
def s0 (f : El → Int) : List El → Int
 | [] => 0
 | e :: L => f e * e.1.f0 + s0 f L
def s1 (f : El → Int) : List El → Int
 | [] => 0
 | e :: L => f e * e.1.f1 + s1 f L
def Bq (f g : El → Int) : List El → Int
 | [] => 0
 | e :: L => f e * (e.1.f0 * s1 g L - e.1.f1 * s0 g L) + g e * (e.1.f0 * s1 f L - e.1.f1 * s0 f L) + Bq f g L
theorem s0_app (f : El → Int) (L M : List El) : s0 f (L ++ M) = s0 f L + s0 f M := by
 induction L with
 | nil => simp [s0]
 | cons e L ih => simp only [List.cons_append, s0, ih]; omega
theorem s1_app (f : El → Int) (L M : List El) : s1 f (L ++ M) = s1 f L + s1 f M := by
 induction L with
 | nil => simp [s1]
 | cons e L ih => simp only [List.cons_append, s1, ih]; omega
theorem Bq_app (f g : El → Int) (L M : List El) : Bq f g (L ++ M) = Bq f g L + Bq f g M + (s0 f L * s1 g M - s1 f L * s0 g M) + (s0 g L * s1 f M - s1 g L * s0 f M) := by
 induction L with
 | nil => simp [Bq, s0, s1]
 | cons e L ih => simp only [List.cons_append, Bq, s0, s1, s0_app, s1_app, ih]; grind
def Clo (f : El → Int) (L : List El) : Prop := s0 f L = 0 ∧ s1 f L = 0
theorem Clo.rot {f : El → Int} {L M : List El} (h : Clo f (L ++ M)) : Clo f (M ++ L) := by
 unfold Clo at *; rw [s0_app, s1_app] at *; omega
theorem Bq_rot {f g : El → Int} {L M : List El} (hf : Clo f (L ++ M)) (hg : Clo g (L ++ M)) : Bq f g (M ++ L) = Bq f g (L ++ M) := by
 unfold Clo at *; rw [s0_app, s1_app] at *
 obtain ⟨f0, f1⟩ := hf
 obtain ⟨g0, g1⟩ := hg
 have a0 : s0 f M = - s0 f L := by omega
 have a1 : s1 f M = - s1 f L := by omega
 have b0 : s0 g M = - s0 g L := by omega
 have b1 : s1 g M = - s1 g L := by omega
 rw [Bq_app, Bq_app, a0, a1, b0, b1]; grind
def tri (a b c : Pt) : Prop := (0 < cx a b ∧ 0 < cx b c) ∨ (0 < cx b c ∧ 0 < cx c a) ∨ (0 < cx c a ∧ 0 < cx a b)
theorem tri.rot {a b c : Pt} (h : tri a b c) : tri b c a := by unfold tri at *; omega
def Cyc (L : List El) : Prop := ∀ a b c, List.Sublist [a, b, c] (L.map Prod.fst) → tri a b c
theorem Cyc.rot {L M : List El} (h : Cyc (L ++ M)) : Cyc (M ++ L) := by
 intro a b c t
 rw [List.map_append] at t
 obtain ⟨t1, t2, e, h1, h2⟩ := List.sublist_append_iff.mp t
 have key : List.Sublist (t2 ++ t1) ((L ++ M).map Prod.fst) := by rw [List.map_append]; exact h2.append h1
 match t1, t2, e with
 | [], t2, e => rw [List.nil_append] at e; subst e; exact h _ _ _ (by simpa using key)
 | [x], t2, e => simp only [List.cons_append, List.nil_append, List.cons.injEq] at e; obtain ⟨rfl, rfl⟩ := e; exact (h _ _ _ (by simpa using key)).rot.rot
 | [x, y], t2, e => simp only [List.cons_append, List.nil_append, List.cons.injEq] at e; obtain ⟨rfl, rfl, rfl⟩ := e; exact (h _ _ _ (by simpa using key)).rot
 | [x, y, z], t2, e => simp only [List.cons_append, List.nil_append, List.cons.injEq] at e; obtain ⟨rfl, rfl, rfl, e4⟩ := e; subst e4; exact h _ _ _ (by simpa using key)
 | x :: y :: z :: w :: r, t2, e => simp at e
theorem cross_sum (f : El → Int) (v : Pt) : ∀ L : List El, (∀ e ∈ L, 0 ≤ f e * cx e.1 v) → 0 ≤ s0 f L * v.f1 - s1 f L * v.f0 := by
 intro L
 induction L with
 | nil => intro _; simp [s0, s1]
 | cons e L ih =>
  intro h
  have h1 := h e (by simp)
  have h2 := ih (fun x hx => h x (by simp [hx]))
  have : (f e * e.1.f0 + s0 f L) * v.f1 - (f e * e.1.f1 + s1 f L) * v.f0 = f e * cx e.1 v + (s0 f L * v.f1 - s1 f L * v.f0) := by unfold cx; grind
  simp only [s0, s1]; omega
theorem cross_sum' (f : El → Int) (v : Pt) : ∀ L : List El, (∀ e ∈ L, f e * cx e.1 v ≤ 0) → s0 f L * v.f1 - s1 f L * v.f0 ≤ 0 := by
 intro L
 induction L with
 | nil => intro _; simp [s0, s1]
 | cons e L ih =>
  intro h
  have h1 := h e (by simp)
  have h2 := ih (fun x hx => h x (by simp [hx]))
  have : (f e * e.1.f0 + s0 f L) * v.f1 - (f e * e.1.f1 + s1 f L) * v.f0 = f e * cx e.1 v + (s0 f L * v.f1 - s1 f L * v.f0) := by unfold cx; grind
  simp only [s0, s1]; omega
end Go.Proofs.Ytoffmpkgickfhaa.M
end
section
namespace Go.Proofs.Ytoffmpkgickfhaa.M
open Go.RowKit Go.Proofs.Ytoffmpkgickfhaa.PG Go.Proofs.YtoffmpkgickfhaaW.PrintMore Go.Proofs.YtoffmpkgickfhaaW.PrintWords
def Rt {α : Type} (g : Nat → Option α) (v : α) : Prop := ∃ K, ∀ k, K ≤ k → g k = some v
theorem wz (n : Int) (h0 : -9223372036854775808 ≤ n) (h1 : n ≤ 9223372036854775807) : wrap64 n = n := by unfold wrap64; omega
def Bd (p : Pt) : Prop := -1000000 ≤ p.f0 ∧ p.f0 ≤ 1000000 ∧ -1000000 ≤ p.f1 ∧ p.f1 ≤ 1000000
theorem mulb {a b : Int} (h0 : -2000000 ≤ a) (h1 : a ≤ 2000000) (h2 : -2000000 ≤ b) (h3 : b ≤ 2000000) : -4000000000000 ≤ a * b ∧ a * b ≤ 4000000000000 := by
 have h : (a * b).natAbs = a.natAbs * b.natAbs := Int.natAbs_mul a b
 have h' : a.natAbs * b.natAbs ≤ 2000000 * 2000000 := Nat.mul_le_mul (by omega) (by omega)
 omega
theorem cr_eq (a b c : Pt) : cr a b c = (b.f0 - a.f0) * (c.f1 - a.f1) - (c.f0 - a.f0) * (b.f1 - a.f1) := rfl
theorem Cross_f {a b c : Pt} (ha : Bd a) (hb : Bd b) (hc : Bd c) : cracknelref04_Cross.f a.f0 a.f1 b.f0 b.f1 c.f0 c.f1 = some (cr a b c) := by
 obtain ⟨a0, a1, a2, a3⟩ := ha; obtain ⟨b0, b1, b2, b3⟩ := hb; obtain ⟨c0, c1, c2, c3⟩ := hc
 have h1 := @mulb (b.f0 - a.f0) (c.f1 - a.f1) (by omega) (by omega) (by omega) (by omega)
 have h2 := @mulb (c.f0 - a.f0) (b.f1 - a.f1) (by omega) (by omega) (by omega) (by omega)
 unfold cracknelref04_Cross.f
 rw [wz (b.f0 - a.f0) (by omega) (by omega), wz (c.f1 - a.f1) (by omega) (by omega), wz (c.f0 - a.f0) (by omega) (by omega), wz (b.f1 - a.f1) (by omega) (by omega), wz ((b.f0 - a.f0) * (c.f1 - a.f1)) (by omega) (by omega), wz ((c.f0 - a.f0) * (b.f1 - a.f1)) (by omega) (by omega), wz _ (by omega) (by omega), cr_eq]
theorem side_f {a b c : Pt} (ha : Bd a) (hb : Bd b) (hc : Bd c) : shape_side.f a.f0 a.f1 b.f0 b.f1 c.f0 c.f1 = some (cr a b c) := by
 obtain ⟨a0, a1, a2, a3⟩ := ha; obtain ⟨b0, b1, b2, b3⟩ := hb; obtain ⟨c0, c1, c2, c3⟩ := hc
 have h1 := @mulb (b.f0 - a.f0) (c.f1 - a.f1) (by omega) (by omega) (by omega) (by omega)
 have h2 := @mulb (b.f1 - a.f1) (c.f0 - a.f0) (by omega) (by omega) (by omega) (by omega)
 unfold shape_side.f shape_sub.f shape_cross.f
 simp only [Option.bind_some]
 rw [wz (b.f0 - a.f0) (by omega) (by omega), wz (c.f1 - a.f1) (by omega) (by omega), wz (c.f0 - a.f0) (by omega) (by omega), wz (b.f1 - a.f1) (by omega) (by omega), wz ((b.f0 - a.f0) * (c.f1 - a.f1)) (by omega) (by omega), wz ((b.f1 - a.f1) * (c.f0 - a.f0)) (by omega) (by omega), wz _ (by omega) (by omega), cr_eq]
 congr 1; grind
theorem in_f (v a b : Int) : cracknelref04_in.f v a b = some (decide (a ≤ v ∧ v ≤ b)) := by
 unfold cracknelref04_in.f
 by_cases h : v ≥ a
 ·rw [if_pos h]; simp; omega
 ·rw [if_neg h]; simp; omega
theorem mn_eq (a b : Int) : mn a b = min a b := by unfold mn; split <;> omega
theorem mx_eq (a b : Int) : mx a b = max a b := by unfold mx; split <;> omega
theorem On_f {a b c : Pt} (ha : Bd a) (hb : Bd b) (hc : Bd c) : cracknelref04_On.f a.f0 a.f1 b.f0 b.f1 c.f0 c.f1 = some (decide (On a b c)) := by
 unfold cracknelref04_On.f
 rw [Cross_f ha hb hc]
 simp only [Option.bind_some, in_f, mn_eq, mx_eq]
 by_cases h : cr a b c = 0
 ·rw [if_pos h]
  by_cases h2 : min a.f0 b.f0 ≤ c.f0 ∧ c.f0 ≤ max a.f0 b.f0
  ·simp only [h2, and_self, decide_true, if_true]; simp only [On, btw, h, h2, true_and]
  ·rw [if_neg (by simpa using h2)]; simp only [On, btw, h, true_and]; rw [decide_eq_false]; intro h3; exact h2 ⟨h3.1, h3.2.1⟩
 ·rw [if_neg h]; simp only [On, h, false_and, decide_false]
theorem sq_nn (x : Int) : 0 ≤ x * x := by
 rcases Int.le_total 0 x with h | h
 ·exact Int.mul_nonneg h h
 ·exact Int.mul_nonneg_of_nonpos_of_nonpos h h
theorem dot_on {a b p : Pt} (h : cr a b p = 0) : (a.f0 - p.f0) * (b.f0 - p.f0) + (a.f1 - p.f1) * (b.f1 - p.f1) ≤ 0 ↔ btw a b p := by
 have hx : (a.f0 - p.f0) * (b.f1 - p.f1) = (a.f1 - p.f1) * (b.f0 - p.f0) := by rw [cr_eq] at h; grind
 generalize hu : a.f0 - p.f0 = u at *
 generalize hv : b.f0 - p.f0 = v at *
 generalize hs : a.f1 - p.f1 = s at *
 generalize ht : b.f1 - p.f1 = t at *
 have key : u * v + s * t ≤ 0 ↔ (u * v ≤ 0 ∧ s * t ≤ 0) := by
  constructor
  ·intro h0
   have e : (u * v) * (s * t) = (u * t) * (u * t) := by grind
   have sq : 0 ≤ (u * v) * (s * t) := by rw [e]; exact sq_nn _
   constructor
   ·rcases Int.lt_or_le 0 (u * v) with h1 | h1
    ·have h2 : s * t < 0 := by omega
     have := Int.mul_neg_of_pos_of_neg h1 h2; omega
    ·exact h1
   ·rcases Int.lt_or_le 0 (s * t) with h1 | h1
    ·have h2 : u * v < 0 := by omega
     have := Int.mul_neg_of_neg_of_pos h2 h1; omega
    ·exact h1
  ·omega
 have sgn : ∀ x y : Int, x * y ≤ 0 ↔ ((x ≤ 0 ∧ 0 ≤ y) ∨ (0 ≤ x ∧ y ≤ 0)) := by
  intro x y
  constructor
  ·intro h
   rcases Int.lt_trichotomy x 0 with h1 | h1 | h1
   ·rcases Int.lt_or_le y 0 with h2 | h2
    ·have := Int.mul_pos_of_neg_of_neg h1 h2; omega
    ·omega
   ·omega
   ·rcases Int.lt_or_le 0 y with h2 | h2
    ·have := Int.mul_pos h1 h2; omega
    ·omega
  ·rintro (⟨h1, h2⟩ | ⟨h1, h2⟩)
   ·exact Int.mul_nonpos_of_nonpos_of_nonneg h1 h2
   ·exact Int.mul_nonpos_of_nonneg_of_nonpos h1 h2
 rw [key, sgn, sgn]; unfold btw; omega
theorem dot_f {a b p : Pt} (ha : Bd a) (hb : Bd b) (hp : Bd p) : shape_dot.f (a.f0 - p.f0) (a.f1 - p.f1) (b.f0 - p.f0) (b.f1 - p.f1) = some ((a.f0 - p.f0) * (b.f0 - p.f0) + (a.f1 - p.f1) * (b.f1 - p.f1)) := by
 obtain ⟨a0, a1, a2, a3⟩ := ha; obtain ⟨b0, b1, b2, b3⟩ := hb; obtain ⟨c0, c1, c2, c3⟩ := hp
 have h1 := @mulb (a.f0 - p.f0) (b.f0 - p.f0) (by omega) (by omega) (by omega) (by omega)
 have h2 := @mulb (a.f1 - p.f1) (b.f1 - p.f1) (by omega) (by omega) (by omega) (by omega)
 unfold shape_dot.f
 rw [wz ((a.f0 - p.f0) * (b.f0 - p.f0)) (by omega) (by omega), wz ((a.f1 - p.f1) * (b.f1 - p.f1)) (by omega) (by omega), wz _ (by omega) (by omega)]
theorem sub_f {a b : Pt} (ha : Bd a) (hb : Bd b) : shape_sub.f a.f0 a.f1 b.f0 b.f1 = some (a.f0 - b.f0, a.f1 - b.f1) := by
 obtain ⟨a0, a1, a2, a3⟩ := ha; obtain ⟨b0, b1, b2, b3⟩ := hb
 unfold shape_sub.f
 rw [wz _ (by omega) (by omega), wz _ (by omega) (by omega)]
theorem on_f {a b c : Pt} (ha : Bd a) (hb : Bd b) (hc : Bd c) : shape_on.f a.f0 a.f1 b.f0 b.f1 c.f0 c.f1 = some (decide (On a b c)) := by
 unfold shape_on.f
 rw [side_f ha hb hc, sub_f ha hc, sub_f hb hc]
 simp only [Option.bind_some]
 rw [dot_f ha hb hc]
 simp only [Option.bind_some]
 by_cases h : cr a b c = 0
 ·rw [if_pos h]; have e := dot_on h; simp only [e, On, h, true_and]
 ·rw [if_neg h]; simp only [On, h, false_and, decide_false]
def sg (n : Int) : Int := if n > 0 then 1 else if n < 0 then -1 else 0
theorem compare_f (a b : Int) : cmp_Compare_int.f a b = some (sg (a - b)) := by
 unfold cmp_Compare_int.f cmp_isNaN_int.f sg
 simp
 split <;> (try split) <;> (try split) <;> (try split) <;> first | rfl | omega | (simp; done) | skip
theorem sign_f (n : Int) : shape_sign.f n = some (sg n) := by
 unfold shape_sign.f; rw [compare_f]; simp
theorem sg_neg (x y : Int) : wrap64 (sg x * sg y) < 0 ↔ ((0 < x ∧ y < 0) ∨ (x < 0 ∧ 0 < y)) := by
 unfold sg
 split <;> (try split) <;> (try split) <;> (try split) <;> simp only [wrap64] <;> omega
theorem meet_f {a b c d : Pt} (ha : Bd a) (hb : Bd b) (hc : Bd c) (hd : Bd d) (k : Nat) : shape_meet.f (k + 1) a.f0 a.f1 b.f0 b.f1 c.f0 c.f1 d.f0 d.f1 = some (decide (Meet a b c d)) := by
 unfold shape_meet.f
 simp only [shape_meet.j0, on_f ha hb hc, on_f ha hb hd, on_f hc hd ha, on_f hc hd hb, side_f ha hb hc, side_f ha hb hd, side_f hc hd ha, side_f hc hd hb, sign_f, Option.bind_some, sg_neg, decide_eq_true_eq]
 unfold Meet
 split
 ·simp_all
 ·split
  ·simp_all
  ·split
   ·simp_all
   ·split
    ·simp_all
    ·split <;> simp_all <;> omega
theorem rd_at (l : List Pt) (i : Nat) : rd_T29 l (i : Int) = at_ l i := rfl
theorem tmod_nat (i n : Nat) (h : (i : Int) ≤ 9223372036854775806) : Int.tmod (wrap64 ((i : Int) + 1)) (n : Int) = (((i + 1) % n : Nat) : Int) := by
 rw [wz _ (by omega) (by omega)]
 rw [show ((i : Int) + 1) = ((i + 1 : Nat) : Int) by omega, ← Int.ofNat_tmod]
theorem first_f (a b : Pt) : cracknelref04_first.f a.f0 a.f1 b.f0 b.f1 = some (decide (first a b)) := by
 unfold cracknelref04_first.f first
 split
 ·simp_all
 ·split
  ·simp_all
  ·simp_all
theorem pt_beq (a b : Pt) : (a.f0 == b.f0 && a.f1 == b.f1) = decide (a = b) := by
 by_cases h : a = b
 ·subst h; simp
 ·simp only [h, decide_false, Bool.and_eq_false_imp, beq_iff_eq]
  intro h0
  simp only [beq_eq_false_iff_ne, ne_eq]
  intro h1; exact h (pt_ext h0 h1)
theorem from_split {n i : Nat} (hi : i < n) (P : Nat → Prop) : (∀ i', i ≤ i' → i' < n → P i') ↔ (P i ∧ ∀ i', i + 1 ≤ i' → i' < n → P i') := by
 constructor
 ·intro h; exact ⟨h i (Nat.le_refl _) hi, fun j' h1 h2 => h j' (by omega) h2⟩
 ·rintro ⟨h0, h⟩ j' h1 h2
  rcases Nat.eq_or_lt_of_le h1 with rfl | h3
  ·exact h0
  ·exact h j' h3 h2
theorem fuel1 {k K : Nat} (h : K + 1 ≤ k) : ∃ m, k = m + 1 := ⟨k - 1, by omega⟩
theorem fuel2 {k K : Nat} (h : K + 2 ≤ k) : ∃ m, k = m + 1 + 1 := ⟨k - 2, by omega⟩
theorem rt_step {α : Type} {g h : Nat → Option α} {v : α} (e : ∀ k, g (k + 1) = h k) (r : Rt h v) : Rt g v := by
 obtain ⟨K, hK⟩ := r
 refine ⟨K + 1, fun k hk => ?_⟩
 obtain ⟨k, rfl⟩ := fuel1 hk
 rw [e]; exact hK k (by omega)
theorem rt_ret {α : Type} {g : Nat → Option α} {v : α} (e : ∀ k, g (k + 1) = some v) : Rt g v := by
 refine ⟨0 + 1, fun k hk => ?_⟩
 obtain ⟨k, rfl⟩ := fuel1 hk
 exact e k
theorem wrap_succ (i : Nat) (h : i ≤ 1000000) : wrap64 ((i : Int) + 1) = ((i + 1 : Nat) : Int) := by rw [wz _ (by omega) (by omega)]; omega
theorem wrap_succ2 (i : Nat) (h : i ≤ 1000000) : wrap64 ((i : Int) + 2) = ((i + 2 : Nat) : Int) := by rw [wz _ (by omega) (by omega)]; omega
theorem tmod_nat' (i n : Nat) (_h : i ≤ 1000000) : Int.tmod (((i + 1 : Nat)) : Int) (n : Int) = (((i + 1) % n : Nat) : Int) := by
 rw [← Int.ofNat_tmod]
theorem at_bd {l : List Pt} (hb : ∀ p ∈ l, Bd p) {i : Nat} (hi : i < l.length) : Bd (at_ l i) := hb _ (at_mem hi)
theorem tmod_in (i n : Nat) (hn : 0 < n) : (0 : Int) ≤ (((i % n : Nat)) : Int) ∧ (((i % n : Nat)) : Int) < (n : Int) := by
 have := Nat.mod_lt i hn; omega
end Go.Proofs.Ytoffmpkgickfhaa.M
end
section
namespace Go.Proofs.Ytoffmpkgickfhaa.M
open Go.RowKit Go.Proofs.Ytoffmpkgickfhaa.PG Go.Proofs.YtoffmpkgickfhaaW.PrintMore Go.Proofs.YtoffmpkgickfhaaW.PrintWords
theorem on_line {a b c : Pt} (h : cr a b c = 0) : btw a c b ∨ btw a b c ∨ btw b c a := by
 have h2 : cr a c b = 0 := by rw [cr_swap]; omega
 have h3 : cr b c a = 0 := by rw [cr_rot]; exact h
 rw [← dot_on h, ← dot_on h2, ← dot_on h3]
 rcases Int.lt_or_le 0 ((a.f0 - b.f0) * (c.f0 - b.f0) + (a.f1 - b.f1) * (c.f1 - b.f1)) with q1 | q1
 ·rcases Int.lt_or_le 0 ((a.f0 - c.f0) * (b.f0 - c.f0) + (a.f1 - c.f1) * (b.f1 - c.f1)) with q2 | q2
  ·rcases Int.lt_or_le 0 ((b.f0 - a.f0) * (c.f0 - a.f0) + (b.f1 - a.f1) * (c.f1 - a.f1)) with q3 | q3
   ·exfalso
    rw [cr_eq] at h
    have e2 : (a.f0 - c.f0) * (b.f0 - c.f0) + (a.f1 - c.f1) * (b.f1 - c.f1) = ((c.f0 - b.f0) * (c.f0 - b.f0) + (c.f1 - b.f1) * (c.f1 - b.f1)) - ((a.f0 - b.f0) * (c.f0 - b.f0) + (a.f1 - b.f1) * (c.f1 - b.f1)) := by grind
    have e3 : (b.f0 - a.f0) * (c.f0 - a.f0) + (b.f1 - a.f1) * (c.f1 - a.f1) = ((a.f0 - b.f0) * (a.f0 - b.f0) + (a.f1 - b.f1) * (a.f1 - b.f1)) - ((a.f0 - b.f0) * (c.f0 - b.f0) + (a.f1 - b.f1) * (c.f1 - b.f1)) := by grind
    have e4 : ((a.f0 - b.f0) * (c.f0 - b.f0) + (a.f1 - b.f1) * (c.f1 - b.f1)) * ((a.f0 - b.f0) * (c.f0 - b.f0) + (a.f1 - b.f1) * (c.f1 - b.f1)) = ((a.f0 - b.f0) * (a.f0 - b.f0) + (a.f1 - b.f1) * (a.f1 - b.f1)) * ((c.f0 - b.f0) * (c.f0 - b.f0) + (c.f1 - b.f1) * (c.f1 - b.f1)) := by grind
    rw [e2] at q2; rw [e3] at q3
    generalize (a.f0 - b.f0) * (c.f0 - b.f0) + (a.f1 - b.f1) * (c.f1 - b.f1) = P at *
    generalize (a.f0 - b.f0) * (a.f0 - b.f0) + (a.f1 - b.f1) * (a.f1 - b.f1) = Q at *
    generalize (c.f0 - b.f0) * (c.f0 - b.f0) + (c.f1 - b.f1) * (c.f1 - b.f1) = R at *
    have : P * P < Q * R := Int.lt_of_lt_of_le (Int.mul_lt_mul_of_pos_left (show P < R by omega) q1) (Int.mul_le_mul_of_nonneg_right (by omega) (by omega))
    omega
   ·right; right; have : (b.f0 - a.f0) * (c.f0 - a.f0) + (b.f1 - a.f1) * (c.f1 - a.f1) ≤ 0 := q3; exact this
  ·right; left; exact q2
 ·left; exact q1
theorem spike {a b c : Pt} (hab : a ≠ b) (hbc : b ≠ c) : (cr b a c = 0 ∧ 0 < (a.f0 - b.f0) * (c.f0 - b.f0) + (a.f1 - b.f1) * (c.f1 - b.f1)) ↔ (On a b c ∨ On b c a) := by
 have e1 : cr b a c = - cr a b c := by rw [cr_eq, cr_eq]; grind
 have e2 : cr a c b = - cr a b c := cr_swap a b c
 have e3 : cr b c a = cr a b c := cr_rot a b c
 by_cases h : cr a b c = 0
 ·have d := dot_on (show cr a c b = 0 by omega)
  have t := on_line h
  have x1 : btw a c b → btw a b c → False := fun p q => hbc (btw_eq q p)
  have x2 : btw a c b → btw b c a → False := fun p q => hab (btw_eq' p q)
  unfold On
  rw [e1, e3, h]
  constructor
  ·rintro ⟨_, h1⟩
   have : ¬ btw a c b := by rw [← d]; omega
   rcases t with t | t | t
   ·exact absurd t this
   ·exact Or.inl ⟨rfl, t⟩
   ·exact Or.inr ⟨rfl, t⟩
  ·intro h1
   refine ⟨by omega, ?_⟩
   have : ¬ btw a c b := by
    intro hb
    rcases h1 with ⟨_, h1⟩ | ⟨_, h1⟩
    ·exact x1 hb h1
    ·exact x2 hb h1
   rw [← d] at this; omega
 ·unfold On; rw [e1, e3]
  constructor
  ·rintro ⟨h1, _⟩; omega
  ·rintro (⟨h1, _⟩ | ⟨h1, _⟩) <;> omega
theorem Meet_comm (a b c d : Pt) : Meet a b c d ↔ Meet c d a b := by
 unfold Meet
 constructor
 ·rintro (h | h | h | h | h)
  ·exact Or.inr (Or.inr (Or.inl h))
  ·exact Or.inr (Or.inr (Or.inr (Or.inl h)))
  ·exact Or.inl h
  ·exact Or.inr (Or.inl h)
  ·exact Or.inr (Or.inr (Or.inr (Or.inr h.symm)))
 ·rintro (h | h | h | h | h)
  ·exact Or.inr (Or.inr (Or.inl h))
  ·exact Or.inr (Or.inr (Or.inr (Or.inl h)))
  ·exact Or.inl h
  ·exact Or.inr (Or.inl h)
  ·exact Or.inr (Or.inr (Or.inr (Or.inr h.symm)))
def CSimple (l : List Pt) : Prop := ∀ i, i < l.length →
 at_ l i ≠ at_ l ((i + 1) % l.length) ∧
 ¬ (cr (at_ l i) (at_ l ((i + l.length - 1) % l.length)) (at_ l ((i + 1) % l.length)) = 0 ∧ 0 < ((at_ l ((i + l.length - 1) % l.length)).f0 - (at_ l i).f0) * ((at_ l ((i + 1) % l.length)).f0 - (at_ l i).f0) + ((at_ l ((i + l.length - 1) % l.length)).f1 - (at_ l i).f1) * ((at_ l ((i + 1) % l.length)).f1 - (at_ l i).f1)) ∧
 ∀ j, j < i → j + 1 ≠ i → (j ≠ 0 ∨ i + 1 ≠ l.length) → ¬ Meet (at_ l i) (at_ l ((i + 1) % l.length)) (at_ l j) (at_ l (j + 1))
theorem csimple_iff (l : List Pt) (hn : 3 ≤ l.length) : CSimple l ↔ Simple l := by
 unfold CSimple Simple
 generalize hl : l.length = n at *
 have prev : ∀ i, i < n → (((i + n - 1) % n) + 1) % n = i ∧ (i + n - 1) % n < n := by
  intro i hi
  refine ⟨?_, Nat.mod_lt _ (by omega)⟩
  by_cases h0 : i = 0
  ·subst h0; rw [show 0 + n - 1 = n - 1 by omega, Nat.mod_eq_of_lt (show n - 1 < n by omega), show n - 1 + 1 = n by omega, Nat.mod_self]
  ·rw [show i + n - 1 = (i - 1) + n by omega, Nat.add_mod_right, Nat.mod_eq_of_lt (show i - 1 < n by omega), show i - 1 + 1 = i by omega, Nat.mod_eq_of_lt hi]
 have nxt : ∀ i, i < n → ((i + 1) % n + n - 1) % n = i ∧ (i + 1) % n < n := by
  intro i hi
  refine ⟨?_, Nat.mod_lt _ (by omega)⟩
  by_cases h0 : i + 1 = n
  ·rw [h0, Nat.mod_self, show 0 + n - 1 = n - 1 by omega, Nat.mod_eq_of_lt (by omega)]; omega
  ·rw [Nat.mod_eq_of_lt (show i + 1 < n by omega), show i + 1 + n - 1 = i + n by omega, Nat.add_mod_right, Nat.mod_eq_of_lt hi]
 have two : ∀ i, ((i + 1) % n + 1) % n = (i + 1 + 1) % n := fun i => by rw [Nat.mod_add_mod]
 constructor
 ·intro h
  refine ⟨fun i hi => (h i hi).1, fun i hi => ?_⟩
  obtain ⟨p1, p2⟩ := nxt i hi
  have q := (h _ p2).2.1
  rw [p1, two i] at q
  have e1 := (h i hi).1
  have e2 := (h _ p2).1
  rw [two i] at e2
  rw [spike e1 e2] at q
  refine ⟨fun h1 => q (Or.inl h1), fun h1 => q (Or.inr h1), fun k hk hkn hki hm => ?_⟩
  have hw : i ≠ 0 ∨ k + 1 ≠ n := by
   rcases Nat.lt_or_ge (k + 1) n with h1 | h1
   ·right; omega
   ·left; intro h0; apply hki; rw [show k + 1 = n by omega, Nat.mod_self, h0]
  have := (h k hkn).2.2 i (by omega) (by omega) hw
  apply this
  rw [Meet_comm]
  rwa [Nat.mod_eq_of_lt (show i + 1 < n by omega)] at hm
 ·rintro ⟨h0, h⟩ i hi
  obtain ⟨p1, p2⟩ := prev i hi
  refine ⟨h0 i hi, ?_, fun j hj hji hw hm => ?_⟩
  ·have e1 := h0 _ p2
   rw [p1] at e1
   rw [spike e1 (h0 i hi)]
   have q := h _ p2
   rw [← two ((i + n - 1) % n), p1] at q
   rintro (h1 | h1)
   ·exact q.1 h1
   ·exact q.2.1 h1
  ·have q := (h j (by omega)).2.2 i (by omega) hi (by
    rcases Nat.lt_or_ge (i + 1) n with h1 | h1
    ·rw [Nat.mod_eq_of_lt h1]; omega
    ·rw [show i + 1 = n by omega, Nat.mod_self]; omega)
   apply q
   rw [Nat.mod_eq_of_lt (show j + 1 < n by omega), Meet_comm]
   exact hm
theorem simple_l1 {l : List Pt} (hb : ∀ p ∈ l, Bd p) (hn : 3 ≤ l.length) (hN : l.length ≤ 1000000) {i : Nat} (hi : i < l.length) {b' : Bool} (hnext : Rt (fun k => shape_simple.l0 k l (l.length : Int) (l.length : Int) ((i + 1 : Nat) : Int)) b') :
  ∀ d j, i = j + d → ∃ b, Rt (fun k => shape_simple.l1 k l (l.length : Int) (i : Int) (l.length : Int) (i : Int) (i : Int) (j : Int) (at_ l ((i + 1) % l.length)).f0 (at_ l ((i + 1) % l.length)).f1) b ∧ (b = true ↔ (∀ j', j ≤ j' → j' < i → j' + 1 ≠ i → (j' ≠ 0 ∨ i + 1 ≠ l.length) → ¬ Meet (at_ l i) (at_ l ((i + 1) % l.length)) (at_ l j') (at_ l (j' + 1))) ∧ b' = true) := by
 intro d
 induction d with
 | zero =>
  intro j hj
  obtain ⟨K, hK⟩ := hnext
  refine ⟨b', ⟨K + 1, fun k hk => ?_⟩, ⟨fun h => ⟨fun j' h1 h2 => by omega, h⟩, fun h => h.2⟩⟩
  obtain ⟨k, rfl⟩ : ∃ m, k = m + 1 := ⟨k - 1, by omega⟩
  dsimp only; rw [shape_simple.l1, if_neg (by omega), wz _ (by omega) (by omega)]
  exact hK k (by omega)
 | succ d ih =>
  intro j hj
  obtain ⟨b1, ⟨K, hK⟩, hb1⟩ := ih (j + 1) (by omega)
  have skip : ∀ k, K + 1 ≤ k → shape_simple.j3 k l (l.length : Int) (i : Int) (l.length : Int) (i : Int) (i : Int) (j : Int) false (at_ l ((i + 1) % l.length)).f0 (at_ l ((i + 1) % l.length)).f1 = some b1 := by
   intro k hk
   obtain ⟨k, rfl⟩ : ∃ m, k = m + 1 := ⟨k - 1, by omega⟩
   rw [shape_simple.j3, if_neg (by simp), wz _ (by omega) (by omega)]
   exact hK k (by omega)
  have split_ : ∀ (P : Nat → Prop), (∀ j', j ≤ j' → j' < i → P j') ↔ (P j ∧ ∀ j', j + 1 ≤ j' → j' < i → P j') := by
   intro P
   constructor
   ·intro h; exact ⟨h j (Nat.le_refl _) (by omega), fun j' h1 h2 => h j' (by omega) h2⟩
   ·rintro ⟨h0, h⟩ j' h1 h2
    rcases Nat.eq_or_lt_of_le h1 with rfl | h3
    ·exact h0
    ·exact h j' h3 h2
  rw [show (∃ b, Rt (fun k => shape_simple.l1 k l (l.length : Int) (i : Int) (l.length : Int) (i : Int) (i : Int) (j : Int) (at_ l ((i + 1) % l.length)).f0 (at_ l ((i + 1) % l.length)).f1) b ∧ (b = true ↔ (∀ j', j ≤ j' → j' < i → j' + 1 ≠ i → (j' ≠ 0 ∨ i + 1 ≠ l.length) → ¬ Meet (at_ l i) (at_ l ((i + 1) % l.length)) (at_ l j') (at_ l (j' + 1))) ∧ b' = true)) ↔ (∃ b, Rt (fun k => shape_simple.l1 k l (l.length : Int) (i : Int) (l.length : Int) (i : Int) (i : Int) (j : Int) (at_ l ((i + 1) % l.length)).f0 (at_ l ((i + 1) % l.length)).f1) b ∧ (b = true ↔ ((j + 1 ≠ i → (j ≠ 0 ∨ i + 1 ≠ l.length) → ¬ Meet (at_ l i) (at_ l ((i + 1) % l.length)) (at_ l j) (at_ l (j + 1))) ∧ b1 = true))) from by
   rw [split_]; simp only [hb1, and_assoc]]
  by_cases h1 : j + 1 = i
  ·refine ⟨b1, ⟨K + 2, fun k hk => ?_⟩, ⟨fun h => ⟨fun h2 => absurd h1 h2, h⟩, fun h => h.2⟩⟩
   obtain ⟨k, rfl⟩ : ∃ m, k = m + 1 := ⟨k - 1, by omega⟩
   dsimp only; rw [shape_simple.l1, if_pos (by omega), wz _ (by omega) (by omega), if_pos (by omega)]
   exact skip k (by omega)
  ·have hBi := at_bd hb hi
   have hBn := at_bd hb (show (i + 1) % l.length < l.length from Nat.mod_lt _ (by omega))
   have hBj := at_bd hb (show j < l.length by omega)
   have hBk := at_bd hb (show j + 1 < l.length by omega)
   have go : (j ≠ 0 ∨ i + 1 ≠ l.length) → ∀ k, K + 2 ≤ k → ((shape_meet.f k (rd_T29 l i).f0 (rd_T29 l i).f1 (at_ l ((i + 1) % l.length)).f0 (at_ l ((i + 1) % l.length)).f1 (rd_T29 l j).f0 (rd_T29 l j).f1 (rd_T29 l (((j + 1 : Nat)) : Int)).f0 (rd_T29 l ((j + 1 : Nat) : Int)).f1).bind fun t => shape_simple.j3 k l (l.length : Int) (i : Int) (l.length : Int) (i : Int) (i : Int) (j : Int) t (at_ l ((i + 1) % l.length)).f0 (at_ l ((i + 1) % l.length)).f1) = some (!decide (Meet (at_ l i) (at_ l ((i + 1) % l.length)) (at_ l j) (at_ l (j + 1))) && b1) := by
    intro hw k hk
    obtain ⟨k, rfl⟩ : ∃ m, k = m + 1 := ⟨k - 1, by omega⟩
    rw [rd_at, rd_at, rd_at, meet_f hBi hBn hBj hBk, Option.bind_some]
    by_cases hm : Meet (at_ l i) (at_ l ((i + 1) % l.length)) (at_ l j) (at_ l (j + 1))
    ·simp only [hm, decide_true, Bool.not_true, Bool.false_and]
     rw [shape_simple.j3, if_pos rfl]
    ·simp only [hm, decide_false, Bool.not_false, Bool.true_and]
     exact skip (k + 1) (by omega)
   by_cases h2 : j = 0
   ·by_cases h3 : i + 1 = l.length
    ·refine ⟨b1, ⟨K + 2, fun k hk => ?_⟩, ⟨fun h => ⟨fun _ h2 => by omega, h⟩, fun h => h.2⟩⟩
     obtain ⟨k, rfl⟩ : ∃ m, k = m + 1 := ⟨k - 1, by omega⟩
     dsimp only; rw [shape_simple.l1, if_pos (by omega), wz ((j : Int) + 1) (by omega) (by omega), if_neg (by omega), if_pos (by omega), wz _ (by omega) (by omega), if_pos (by omega)]
     exact skip k (by omega)
    ·refine ⟨(!decide (Meet (at_ l i) (at_ l ((i + 1) % l.length)) (at_ l j) (at_ l (j + 1))) && b1), ⟨K + 3, fun k hk => ?_⟩, ?_⟩
     ·obtain ⟨k, rfl⟩ : ∃ m, k = m + 1 := ⟨k - 1, by omega⟩
      dsimp only; rw [shape_simple.l1, if_pos (by omega), wz ((j : Int) + 1) (by omega) (by omega), if_neg (by omega), if_pos (by omega), wz _ (by omega) (by omega), if_neg (by omega), if_pos (by omega), if_pos (by omega), if_pos (by omega), if_pos (by omega), if_pos (by omega), if_pos (by omega)]
      exact go (by omega) k (by omega)
     ·simp only [Bool.and_eq_true, Bool.not_eq_true', decide_eq_false_iff_not]
      exact ⟨fun h => ⟨fun _ _ => h.1, h.2⟩, fun h => ⟨h.1 h1 (Or.inr h3), h.2⟩⟩
   ·refine ⟨(!decide (Meet (at_ l i) (at_ l ((i + 1) % l.length)) (at_ l j) (at_ l (j + 1))) && b1), ⟨K + 3, fun k hk => ?_⟩, ?_⟩
    ·obtain ⟨k, rfl⟩ : ∃ m, k = m + 1 := ⟨k - 1, by omega⟩
     dsimp only; rw [shape_simple.l1, if_pos (by omega), wz ((j : Int) + 1) (by omega) (by omega), if_neg (by omega), if_neg (by omega), if_pos (by omega), if_pos (by omega), if_pos (by omega), if_pos (by omega), if_pos (by omega), if_pos (by omega)]
     exact go (by omega) k (by omega)
    ·simp only [Bool.and_eq_true, Bool.not_eq_true', decide_eq_false_iff_not]
     exact ⟨fun h => ⟨fun _ _ => h.1, h.2⟩, fun h => ⟨h.1 h1 (Or.inl h2), h.2⟩⟩
theorem tmod_last (i n : Nat) (hi : i < n) (hN : n ≤ 1000000) : Int.tmod (wrap64 (wrap64 ((i : Int) + (n : Int)) - 1)) (n : Int) = (((i + n - 1) % n : Nat) : Int) := by
 rw [wz ((i : Int) + (n : Int)) (by omega) (by omega), wz _ (by omega) (by omega), show ((i : Int) + (n : Int)) - 1 = ((i + n - 1 : Nat) : Int) by omega, ← Int.ofNat_tmod]
theorem simple_l0 {l : List Pt} (hb : ∀ p ∈ l, Bd p) (hn : 3 ≤ l.length) (hN : l.length ≤ 1000000) :
  ∀ d i, l.length = i + d → ∃ b, Rt (fun k => shape_simple.l0 k l (l.length : Int) (l.length : Int) (i : Int)) b ∧ (b = true ↔ ∀ i', i ≤ i' → i' < l.length →
   at_ l i' ≠ at_ l ((i' + 1) % l.length) ∧
   ¬ (cr (at_ l i') (at_ l ((i' + l.length - 1) % l.length)) (at_ l ((i' + 1) % l.length)) = 0 ∧ 0 < ((at_ l ((i' + l.length - 1) % l.length)).f0 - (at_ l i').f0) * ((at_ l ((i' + 1) % l.length)).f0 - (at_ l i').f0) + ((at_ l ((i' + l.length - 1) % l.length)).f1 - (at_ l i').f1) * ((at_ l ((i' + 1) % l.length)).f1 - (at_ l i').f1)) ∧
   ∀ j, j < i' → j + 1 ≠ i' → (j ≠ 0 ∨ i' + 1 ≠ l.length) → ¬ Meet (at_ l i') (at_ l ((i' + 1) % l.length)) (at_ l j) (at_ l (j + 1))) := by
 intro d
 induction d with
 | zero =>
  intro i hi
  refine ⟨true, ⟨1, fun k hk => ?_⟩, ⟨fun _ i' h1 h2 => by omega, fun _ => rfl⟩⟩
  obtain ⟨k, rfl⟩ : ∃ m, k = m + 1 := ⟨k - 1, by omega⟩
  dsimp only; rw [shape_simple.l0, if_neg (by omega)]
 | succ d ih =>
  intro i hi
  obtain ⟨b1, hR1, hb1⟩ := ih (i + 1) (by omega)
  obtain ⟨b2, ⟨K, hK⟩, hb2⟩ := simple_l1 hb hn hN (show i < l.length by omega) hR1 i 0 (by omega)
  have hlt : i < l.length := by omega
  have hBi := at_bd hb hlt
  have hBn := at_bd hb (show (i + 1) % l.length < l.length from Nat.mod_lt _ (by omega))
  have hBl := at_bd hb (show (i + l.length - 1) % l.length < l.length from Nat.mod_lt _ (by omega))
  have t1 := tmod_in (i + 1) l.length (by omega)
  have t2 := tmod_in (i + l.length - 1) l.length (by omega)
  have hcross : shape_cross.f ((at_ l ((i + l.length - 1) % l.length)).f0 - (at_ l i).f0) ((at_ l ((i + l.length - 1) % l.length)).f1 - (at_ l i).f1) ((at_ l ((i + 1) % l.length)).f0 - (at_ l i).f0) ((at_ l ((i + 1) % l.length)).f1 - (at_ l i).f1) = some (cr (at_ l i) (at_ l ((i + l.length - 1) % l.length)) (at_ l ((i + 1) % l.length))) := by
   have := side_f hBi hBl hBn
   unfold shape_side.f at this
   rw [sub_f hBl hBi, sub_f hBn hBi] at this
   simpa using this
  have split_ : ∀ (P : Nat → Prop), (∀ i', i ≤ i' → i' < l.length → P i') ↔ (P i ∧ ∀ i', i + 1 ≤ i' → i' < l.length → P i') := by
   intro P
   constructor
   ·intro h; exact ⟨h i (Nat.le_refl _) hlt, fun j' h1 h2 => h j' (by omega) h2⟩
   ·rintro ⟨h0, h⟩ j' h1 h2
    rcases Nat.eq_or_lt_of_le h1 with rfl | h3
    ·exact h0
    ·exact h j' h3 h2
  by_cases e1 : at_ l i = at_ l ((i + 1) % l.length)
  ·refine ⟨false, ⟨1, fun k hk => ?_⟩, ⟨fun h => by simp at h, fun h => absurd e1 (h i (Nat.le_refl _) hlt).1⟩⟩
   obtain ⟨k, rfl⟩ : ∃ m, k = m + 1 := ⟨k - 1, by omega⟩
   dsimp only
   rw [shape_simple.l0, if_pos (by omega), if_neg (by omega), tmod_last i l.length hlt hN, tmod_nat i l.length (by omega), if_pos (by omega), if_pos (by omega), if_pos (by omega), if_pos (by omega), if_pos (by omega), if_pos (by omega), rd_at, rd_at, rd_at, pt_beq, if_pos (by simpa using e1)]
  ·by_cases e2 : (cr (at_ l i) (at_ l ((i + l.length - 1) % l.length)) (at_ l ((i + 1) % l.length)) = 0 ∧ 0 < ((at_ l ((i + l.length - 1) % l.length)).f0 - (at_ l i).f0) * ((at_ l ((i + 1) % l.length)).f0 - (at_ l i).f0) + ((at_ l ((i + l.length - 1) % l.length)).f1 - (at_ l i).f1) * ((at_ l ((i + 1) % l.length)).f1 - (at_ l i).f1))
   ·refine ⟨false, ⟨2, fun k hk => ?_⟩, ⟨fun h => by simp at h, fun h => absurd e2 (h i (Nat.le_refl _) hlt).2.1⟩⟩
    obtain ⟨k, rfl⟩ : ∃ m, k = m + 1 + 1 := ⟨k - 2, by omega⟩
    dsimp only
    rw [shape_simple.l0, if_pos (by omega), if_neg (by omega), tmod_last i l.length hlt hN, tmod_nat i l.length (by omega), if_pos (by omega), if_pos (by omega), if_pos (by omega), if_pos (by omega), if_pos (by omega), if_pos (by omega), rd_at, rd_at, rd_at, pt_beq, if_neg (by simpa using e1), sub_f hBl hBi, Option.bind_some, sub_f hBn hBi, Option.bind_some, hcross, Option.bind_some, if_pos e2.1, dot_f hBl hBn hBi, Option.bind_some, shape_simple.j1, if_pos (by simpa using e2.2)]
   ·refine ⟨b2, ⟨K + 2, fun k hk => ?_⟩, ?_⟩
    ·obtain ⟨k, rfl⟩ : ∃ m, k = m + 1 + 1 := ⟨k - 2, by omega⟩
     dsimp only
     rw [shape_simple.l0, if_pos (by omega), if_neg (by omega), tmod_last i l.length hlt hN, tmod_nat i l.length (by omega), if_pos (by omega), if_pos (by omega), if_pos (by omega), if_pos (by omega), if_pos (by omega), if_pos (by omega), rd_at, rd_at, rd_at, pt_beq, if_neg (by simpa using e1), sub_f hBl hBi, Option.bind_some, sub_f hBn hBi, Option.bind_some, hcross, Option.bind_some]
     have := hK k (by omega)
     by_cases h3 : cr (at_ l i) (at_ l ((i + l.length - 1) % l.length)) (at_ l ((i + 1) % l.length)) = 0
     ·rw [if_pos h3, dot_f hBl hBn hBi, Option.bind_some, shape_simple.j1, if_neg (by simpa using fun h4 => e2 ⟨h3, h4⟩)]
      exact this
     ·rw [if_neg h3, shape_simple.j1, if_neg (by simp)]
      exact this
    ·rw [split_, hb2, hb1]
     constructor
     ·rintro ⟨h1, h2⟩
      exact ⟨⟨e1, e2, fun j hj h3 h4 => h1 j (Nat.zero_le _) hj h3 h4⟩, h2⟩
     ·rintro ⟨⟨_, _, h1⟩, h2⟩
      exact ⟨fun j _ hj h3 h4 => h1 j hj h3 h4, h2⟩
theorem simple_run {l : List Pt} (hb : ∀ p ∈ l, Bd p) (hn : 3 ≤ l.length) (hN : l.length ≤ 1000000) : ∃ b, Rt (fun k => shape_simple.f k l) b ∧ (b = true ↔ Simple l) := by
 obtain ⟨b, hR, h⟩ := simple_l0 hb hn hN l.length 0 (by omega)
 refine ⟨b, hR, ?_⟩
 rw [← csimple_iff l hn, h]
 exact ⟨fun h i hi => h i (Nat.zero_le _) hi, fun h i _ hi => h i hi⟩
end Go.Proofs.Ytoffmpkgickfhaa.M
end
section
namespace Go.Proofs.Ytoffmpkgickfhaa.M
open Go.Proofs.Ytoffmpkgickfhaa.PG
def cnI (a b k : Int) : Int := if a < 0 ∧ 0 < b ∧ 0 < k then 1 else if 0 < a ∧ b < 0 ∧ k < 0 then -1 else 0
def cn (p q : Int) (u v : Pt) : Int := cnI (ph p q u) (ph p q v) (cx u v)
theorem mulsg {a b : Int} (ha : 0 < a) : (0 ≤ b → 0 ≤ a * b) ∧ (0 < b → 0 < a * b) ∧ (b ≤ 0 → a * b ≤ 0) ∧ (b < 0 → a * b < 0) :=
 ⟨fun h => Int.mul_nonneg (by omega) h, fun h => Int.mul_pos ha h, fun h => Int.mul_nonpos_of_nonneg_of_nonpos (by omega) h, fun h => Int.mul_neg_of_pos_of_neg ha h⟩
theorem comb {u v w s t m : Int} (hu : 0 < u) (hv : 0 < v) (hw : 0 < w) (h : w * m = u * s + v * t) :
  (0 ≤ s → 0 ≤ t → (0 < s ∨ 0 < t) → 0 < m) ∧ (s ≤ 0 → t ≤ 0 → (s < 0 ∨ t < 0) → m < 0) := by
 have k1 := mulsg (b := s) hu
 have k2 := mulsg (b := t) hv
 have k3 := mulsg (b := m) hw
 refine ⟨fun h1 h2 h3 => ?_, fun h1 h2 h3 => ?_⟩
 ·rcases Int.lt_or_le 0 m with x | x
  ·exact x
  ·have := k3.2.2.1 x
   have a1 := k1.1 h1
   have a2 := k2.1 h2
   rcases h3 with h3 | h3
   ·have := k1.2.1 h3; omega
   ·have := k2.2.1 h3; omega
 ·rcases Int.lt_or_le m 0 with x | x
  ·exact x
  ·have := k3.1 x
   have a1 := k1.2.2.1 h1
   have a2 := k2.2.2.1 h2
   rcases h3 with h3 | h3
   ·have := k1.2.2.2 h3; omega
   ·have := k2.2.2.2 h3; omega
theorem cnI_up {a b k : Int} (h1 : a < 0) (h2 : 0 < b) : cnI a b k = if 0 < k then 1 else 0 := by
 unfold cnI; by_cases h : 0 < k
 ·rw [if_pos ⟨h1, h2, h⟩, if_pos h]
 ·rw [if_neg (by omega), if_neg (by omega), if_neg h]
theorem cnI_dn {a b k : Int} (h1 : 0 < a) (h2 : b < 0) : cnI a b k = if k < 0 then -1 else 0 := by
 unfold cnI; by_cases h : k < 0
 ·rw [if_neg (by omega), if_pos ⟨h1, h2, h⟩, if_pos h]
 ·rw [if_neg (by omega), if_neg (by omega), if_neg h]
theorem cnI_pp {a b k : Int} (h1 : 0 < a) (h2 : 0 < b) : cnI a b k = 0 := by unfold cnI; rw [if_neg (by omega), if_neg (by omega)]
theorem cnI_nn {a b k : Int} (h1 : a < 0) (h2 : b < 0) : cnI a b k = 0 := by unfold cnI; rw [if_neg (by omega), if_neg (by omega)]
set_option maxHeartbeats 4000000 in
theorem quadI {a b c d al be ga de : Int} (ha : a ≠ 0) (hb : b ≠ 0) (hc : c ≠ 0) (hd : d ≠ 0) (hs : a + c = b + d) (hk : al + ga = be + de)
  (t1 : a * be = b * (al + ga) - c * al) (t2 : a * (be - al) = b * ga - d * al) (t3 : -(a * de) = c * ga - d * (al + ga)) (t4 : -(b * de) = c * (be - al) - d * be)
  (zA : (a < 0 ∧ 0 < b ∨ 0 < a ∧ b < 0) → al ≠ 0) (zB : (b < 0 ∧ 0 < c ∨ 0 < b ∧ c < 0) → be ≠ 0) (zG : (a < 0 ∧ 0 < d ∨ 0 < a ∧ d < 0) → ga ≠ 0) (zD : (d < 0 ∧ 0 < c ∨ 0 < d ∧ c < 0) → de ≠ 0)
  (nM : ¬ (((0 < ga ∧ be < 0) ∨ (ga < 0 ∧ 0 < be)) ∧ ((0 < al ∧ de < 0) ∨ (al < 0 ∧ 0 < de)))) :
  cnI a b al + cnI b c be = cnI a d ga + cnI d c de := by
 rcases Int.lt_or_gt_of_ne ha with sa | sa <;> rcases Int.lt_or_gt_of_ne hb with sb | sb <;> rcases Int.lt_or_gt_of_ne hc with sc | sc <;> rcases Int.lt_or_gt_of_ne hd with sd | sd
 ·rw [cnI_nn (by omega) (by omega), cnI_nn (by omega) (by omega), cnI_nn (by omega) (by omega), cnI_nn (by omega) (by omega)]
 ·have k := comb (u := -c) (v := -a) (w := d) (s := -ga) (t := -de) (m := al + ga) (by omega) (by omega) (by omega) (by clear zA zB zG zD nM ha hb hc hd sa sb sc sd; grind)
  rw [cnI_nn (by omega) (by omega), cnI_nn (by omega) (by omega), cnI_up (by omega) (by omega), cnI_dn (by omega) (by omega)]
  repeat' split
  all_goals omega
 ·have k := comb (u := -d) (v := -b) (w := c) (s := -be) (t := de) (m := be - al) (by omega) (by omega) (by omega) (by clear zA zB zG zD nM ha hb hc hd sa sb sc sd; grind)
  rw [cnI_nn (by omega) (by omega), cnI_up (by omega) (by omega), cnI_nn (by omega) (by omega), cnI_up (by omega) (by omega)]
  repeat' split
  all_goals omega
 ·have k := comb (u := -a) (v := -b) (w := c - b) (s := be) (t := -ga) (m := al) (by omega) (by omega) (by omega) (by clear zA zB zG zD nM ha hb hc hd sa sb sc sd; grind)
  have k' := comb (u := c) (v := d) (w := d - a) (s := ga) (t := -be) (m := de) (by omega) (by omega) (by omega) (by clear zA zB zG zD nM ha hb hc hd sa sb sc sd; grind)
  rw [cnI_nn (by omega) (by omega), cnI_up (by omega) (by omega), cnI_up (by omega) (by omega), cnI_pp (by omega) (by omega)]
  repeat' split
  all_goals omega
 ·have k := comb (u := -a) (v := -c) (w := b) (s := -be) (t := -al) (m := al + ga) (by omega) (by omega) (by omega) (by clear zA zB zG zD nM ha hb hc hd sa sb sc sd; grind)
  rw [cnI_up (by omega) (by omega), cnI_dn (by omega) (by omega), cnI_nn (by omega) (by omega), cnI_nn (by omega) (by omega)]
  repeat' split
  all_goals omega
 ·omega
 ·have k := comb (u := b) (v := c) (w := b - a) (s := -de) (t := al) (m := be) (by omega) (by omega) (by omega) (by clear zA zB zG zD nM ha hb hc hd sa sb sc sd; grind)
  have k' := comb (u := -a) (v := -d) (w := c - d) (s := de) (t := -al) (m := ga) (by omega) (by omega) (by omega) (by clear zA zB zG zD nM ha hb hc hd sa sb sc sd; grind)
  rw [cnI_up (by omega) (by omega), cnI_pp (by omega) (by omega), cnI_nn (by omega) (by omega), cnI_up (by omega) (by omega)]
  repeat' split
  all_goals omega
 ·have k := comb (u := b) (v := d) (w := -a) (s := ga) (t := -al) (m := al - be) (by omega) (by omega) (by omega) (by clear zA zB zG zD nM ha hb hc hd sa sb sc sd; grind)
  rw [cnI_up (by omega) (by omega), cnI_pp (by omega) (by omega), cnI_up (by omega) (by omega), cnI_pp (by omega) (by omega)]
  repeat' split
  all_goals omega
 ·have k := comb (u := -b) (v := -d) (w := a) (s := -ga) (t := al) (m := be - al) (by omega) (by omega) (by omega) (by clear zA zB zG zD nM ha hb hc hd sa sb sc sd; grind)
  rw [cnI_dn (by omega) (by omega), cnI_nn (by omega) (by omega), cnI_dn (by omega) (by omega), cnI_nn (by omega) (by omega)]
  repeat' split
  all_goals omega
 ·have k := comb (u := -b) (v := -c) (w := a - b) (s := -de) (t := al) (m := be) (by omega) (by omega) (by omega) (by clear zA zB zG zD nM ha hb hc hd sa sb sc sd; grind)
  have k' := comb (u := a) (v := d) (w := d - c) (s := de) (t := -al) (m := ga) (by omega) (by omega) (by omega) (by clear zA zB zG zD nM ha hb hc hd sa sb sc sd; grind)
  rw [cnI_dn (by omega) (by omega), cnI_nn (by omega) (by omega), cnI_pp (by omega) (by omega), cnI_dn (by omega) (by omega)]
  repeat' split
  all_goals omega
 ·omega
 ·have k := comb (u := a) (v := c) (w := -b) (s := be) (t := al) (m := -(al + ga)) (by omega) (by omega) (by omega) (by clear zA zB zG zD nM ha hb hc hd sa sb sc sd; grind)
  rw [cnI_dn (by omega) (by omega), cnI_up (by omega) (by omega), cnI_pp (by omega) (by omega), cnI_pp (by omega) (by omega)]
  repeat' split
  all_goals omega
 ·have k := comb (u := a) (v := b) (w := b - c) (s := be) (t := -ga) (m := al) (by omega) (by omega) (by omega) (by clear zA zB zG zD nM ha hb hc hd sa sb sc sd; grind)
  have k' := comb (u := -c) (v := -d) (w := a - d) (s := ga) (t := -be) (m := de) (by omega) (by omega) (by omega) (by clear zA zB zG zD nM ha hb hc hd sa sb sc sd; grind)
  rw [cnI_pp (by omega) (by omega), cnI_dn (by omega) (by omega), cnI_dn (by omega) (by omega), cnI_nn (by omega) (by omega)]
  repeat' split
  all_goals omega
 ·have k := comb (u := d) (v := b) (w := -c) (s := be) (t := -de) (m := al - be) (by omega) (by omega) (by omega) (by clear zA zB zG zD nM ha hb hc hd sa sb sc sd; grind)
  rw [cnI_pp (by omega) (by omega), cnI_dn (by omega) (by omega), cnI_pp (by omega) (by omega), cnI_dn (by omega) (by omega)]
  repeat' split
  all_goals omega
 ·have k := comb (u := c) (v := a) (w := -d) (s := ga) (t := de) (m := -(al + ga)) (by omega) (by omega) (by omega) (by clear zA zB zG zD nM ha hb hc hd sa sb sc sd; grind)
  rw [cnI_pp (by omega) (by omega), cnI_pp (by omega) (by omega), cnI_dn (by omega) (by omega), cnI_up (by omega) (by omega)]
  repeat' split
  all_goals omega
 ·rw [cnI_pp (by omega) (by omega), cnI_pp (by omega) (by omega), cnI_pp (by omega) (by omega), cnI_pp (by omega) (by omega)]
theorem on_height {p q : Int} {a b c : Pt} (h : cr a b c = 0) (hs : (ph p q (vec a c) < 0 ∧ 0 < ph p q (vec b c)) ∨ (0 < ph p q (vec a c) ∧ ph p q (vec b c) < 0)) : On a b c := by
 refine ⟨h, ?_⟩
 have e1 : ∀ u v, fn p q u v = ph p q (vec u v) := fun u v => rfl
 have e2 := fn_add p q a b c
 have e3 := fn_neg p q b c
 rw [e1, e1, e1] at e2
 rcases hs with ⟨h1, h2⟩ | ⟨h1, h2⟩
 ·have n : ∀ u v, fn (-p) (-q) u v = - ph p q (vec u v) := by intro u v; unfold fn ph vec; dsimp only; grind
  exact btw_of_fn (p := -p) (q := -q) (by rw [n]; omega) (by rw [n]; omega) (by rw [n, n]; omega) h
 ·exact btw_of_fn (p := p) (q := q) (by rw [e1]; omega) (by rw [e1]; omega) (by rw [e1, e1]; omega) h
theorem quad {p q : Int} {a b c d : Pt} (hA : ph p q (vec a c) ≠ 0) (hB : ph p q (vec a d) ≠ 0) (hC : ph p q (vec b d) ≠ 0) (hD : ph p q (vec b c) ≠ 0) (hM : ¬ Meet a b c d) :
  cn p q (vec a c) (vec a d) + cn p q (vec a d) (vec b d) = cn p q (vec a c) (vec b c) + cn p q (vec b c) (vec b d) := by
 have x1 : cx (vec a c) (vec a d) = cr c d a := by unfold cx vec cr; dsimp only; grind
 have x2 : cx (vec a d) (vec b d) = cr a b d := by unfold cx vec cr; dsimp only; grind
 have x3 : cx (vec a c) (vec b c) = cr a b c := by unfold cx vec cr; dsimp only; grind
 have x4 : cx (vec b c) (vec b d) = cr c d b := by unfold cx vec cr; dsimp only; grind
 unfold cn
 rw [x1, x2, x3, x4]
 unfold Meet at hM
 refine quadI hA hB hC hD ?_ ?_ ?_ ?_ ?_ ?_ (fun h e => ?_) (fun h e => ?_) (fun h e => ?_) (fun h e => ?_) (fun h => hM (Or.inr (Or.inr (Or.inr (Or.inr h)))))
 ·unfold ph vec; dsimp only; grind
 ·unfold cr; grind
 ·unfold cr ph vec; dsimp only; grind
 ·unfold cr ph vec; dsimp only; grind
 ·unfold cr ph vec; dsimp only; grind
 ·unfold cr ph vec; dsimp only; grind
 ·refine hM (Or.inr (Or.inr (Or.inl (on_height (p := -p) (q := -q) e ?_))))
  have n : ∀ u v, ph (-p) (-q) (vec u v) = ph p q (vec v u) := by intro u v; unfold ph vec; dsimp only; grind
  rw [n, n]; omega
 ·exact hM (Or.inr (Or.inl (on_height (p := p) (q := q) e (by omega))))
 ·exact hM (Or.inl (on_height (p := p) (q := q) e (by omega)))
 ·refine hM (Or.inr (Or.inr (Or.inr (Or.inl (on_height (p := -p) (q := -q) e ?_)))))
  have n : ∀ u v, ph (-p) (-q) (vec u v) = ph p q (vec v u) := by intro u v; unfold ph vec; dsimp only; grind
  rw [n, n]; omega
theorem cn_sum {p q : Int} {u v w : Pt} (h0 : w.f0 = u.f0 + v.f0) (h1 : w.f1 = u.f1 + v.f1) (hu : ph p q u ≠ 0) (hv : ph p q v ≠ 0) (hw : ph p q w ≠ 0) : cn p q u w + cn p q w v = cn p q u v := by
 have e : ph p q w = ph p q u + ph p q v := by unfold ph; rw [h0, h1]; grind
 have c1 : cx u w = cx u v := by unfold cx; rw [h0, h1]; grind
 have c2 : cx w v = cx u v := by unfold cx; rw [h0, h1]; grind
 unfold cn
 rw [c1, c2]
 unfold cnI; repeat' split
 all_goals omega
end Go.Proofs.Ytoffmpkgickfhaa.M
end
section
namespace Go.Proofs.Ytoffmpkgickfhaa.M
open Go.Proofs.Ytoffmpkgickfhaa.PG
theorem Bq_comm (f g : El → Int) (L : List El) : Bq f g L = Bq g f L := by
 induction L with
 | nil => rfl
 | cons e L ih => simp only [Bq, ih]; omega
theorem s0_map (f : El → Int) (m : El → El) (h : ∀ e, (m e).1 = e.1) (L : List El) : s0 f (L.map m) = s0 (fun e => f (m e)) L := by
 induction L with
 | nil => rfl
 | cons e L ih => simp only [List.map_cons, s0, ih, h]
theorem s1_map (f : El → Int) (m : El → El) (h : ∀ e, (m e).1 = e.1) (L : List El) : s1 f (L.map m) = s1 (fun e => f (m e)) L := by
 induction L with
 | nil => rfl
 | cons e L ih => simp only [List.map_cons, s1, ih, h]
theorem Bq_map (f g : El → Int) (m : El → El) (h : ∀ e, (m e).1 = e.1) (L : List El) : Bq f g (L.map m) = Bq (fun e => f (m e)) (fun e => g (m e)) L := by
 induction L with
 | nil => rfl
 | cons e L ih => simp only [List.map_cons, Bq, ih, h, s0_map f m h, s1_map f m h, s0_map g m h, s1_map g m h]
theorem cyc_map (m : El → El) (h : ∀ e, (m e).1 = e.1) {L : List El} (hC : Cyc L) : Cyc (L.map m) := by
 unfold Cyc at *
 have : (L.map m).map Prod.fst = L.map Prod.fst := by rw [List.map_map]; exact List.map_congr_left (fun e _ => h e)
 rw [this]; exact hC
def Ok (L : List El) : Prop := (∀ e ∈ L, 0 ≤ X e ∧ 0 ≤ Y e) ∧ Clo X L ∧ Clo Y L ∧ Cyc L
def Ineq (L : List El) : Prop := Bq X X L * Bq Y Y L ≤ Bq X Y L * Bq X Y L
theorem Ok.rot {L M : List El} (h : Ok (L ++ M)) : Ok (M ++ L) :=
 ⟨fun e he => h.1 e (by simp only [List.mem_append] at *; exact he.symm), h.2.1.rot, h.2.2.1.rot, h.2.2.2.rot⟩
theorem Ineq.rot {L M : List El} (ok : Ok (L ++ M)) (h : Ineq (M ++ L)) : Ineq (L ++ M) := by
 unfold Ineq at *
 rw [Bq_rot ok.2.1 ok.2.1, Bq_rot ok.2.2.1 ok.2.2.1, Bq_rot ok.2.1 ok.2.2.1] at h; exact h
def swp (e : El) : El := (e.1, e.2.2, e.2.1)
theorem Ok.swap {L : List El} (h : Ok L) : Ok (L.map swp) := by
 refine ⟨fun e he => ?_, ?_, ?_, cyc_map swp (fun _ => rfl) h.2.2.2⟩
 ·obtain ⟨x, hx, rfl⟩ := List.mem_map.mp he
  have := h.1 x hx; unfold X Y swp at *; dsimp only; omega
 ·unfold Clo; rw [s0_map _ swp (fun _ => rfl), s1_map _ swp (fun _ => rfl)]; exact h.2.2.1
 ·unfold Clo; rw [s0_map _ swp (fun _ => rfl), s1_map _ swp (fun _ => rfl)]; exact h.2.1
theorem Ineq.swap {L : List El} (h : Ineq (L.map swp)) : Ineq L := by
 unfold Ineq at *
 rw [Bq_map _ _ swp (fun _ => rfl), Bq_map _ _ swp (fun _ => rfl), Bq_map _ _ swp (fun _ => rfl)] at h
 have e1 : Bq (fun e => X (swp e)) (fun e => X (swp e)) L = Bq Y Y L := rfl
 have e2 : Bq (fun e => Y (swp e)) (fun e => Y (swp e)) L = Bq X X L := rfl
 have e3 : Bq (fun e => X (swp e)) (fun e => Y (swp e)) L = Bq X Y L := Bq_comm Y X L
 rw [e1, e2, e3, Int.mul_comm] at h; exact h
theorem move (m u p : Pt) (xm xp ym yp yu b z : Int) (R : List El) (h0 : yu * u.f0 = b * m.f0 + z * p.f0) (h1 : yu * u.f1 = b * m.f1 + z * p.f1) :
  s0 Y ((m, xm, ym + b) :: (p, xp, yp + z) :: R) = s0 Y ((m, xm, ym) :: (u, 0, yu) :: (p, xp, yp) :: R) ∧
  s1 Y ((m, xm, ym + b) :: (p, xp, yp + z) :: R) = s1 Y ((m, xm, ym) :: (u, 0, yu) :: (p, xp, yp) :: R) ∧
  Bq X Y ((m, xm, ym + b) :: (p, xp, yp + z) :: R) = Bq X Y ((m, xm, ym) :: (u, 0, yu) :: (p, xp, yp) :: R) ∧
  Bq Y Y ((m, xm, ym + b) :: (p, xp, yp + z) :: R) = Bq Y Y ((m, xm, ym) :: (u, 0, yu) :: (p, xp, yp) :: R) + 2 * (b * (z * cx m p)) ∧
  Bq X X ((m, xm, ym + b) :: (p, xp, yp + z) :: R) = Bq X X ((m, xm, ym) :: (u, 0, yu) :: (p, xp, yp) :: R) := by
 simp only [Bq, s0, s1, X, Y, cx]
 refine ⟨by grind, by grind, ?_, ?_, by grind⟩
 ·grind
 ·grind
end Go.Proofs.Ytoffmpkgickfhaa.M
end
section
namespace Go.Proofs.Ytoffmpkgickfhaa.M
open Go.Proofs.Ytoffmpkgickfhaa.PG
end Go.Proofs.Ytoffmpkgickfhaa.M
end
section
namespace Go.Proofs.Ytoffmpkgickfhaa.M
open Go.Proofs.Ytoffmpkgickfhaa.PG
section
variable {p q : Int} {a b : List Pt} {S : List Pt}
def Sums (a b S : List Pt) : Prop := ∀ s, s ∈ S ↔ ∃ k l, k < a.length ∧ l < b.length ∧ s = plus (at_ a k) (at_ b l)
def V (a b : List Pt) (i j : Nat) : Pt := plus (P a i) (P b j)
theorem Sums.swap (h : Sums a b S) : Sums b a S := by
 intro s
 rw [h s]
 constructor
 ·rintro ⟨k, l, h1, h2, h3⟩; exact ⟨l, k, h2, h1, by rw [h3]; unfold plus; rw [Int.add_comm, Int.add_comm (at_ a k).f1]⟩
 ·rintro ⟨k, l, h1, h2, h3⟩; exact ⟨l, k, h2, h1, by rw [h3]; unfold plus; rw [Int.add_comm, Int.add_comm (at_ b k).f1]⟩
theorem V_swap (a b : List Pt) (i j : Nat) : V a b i j = V b a j i := by unfold V plus; rw [Int.add_comm, Int.add_comm (P a i).f1]
theorem Sums.mem (h : Sums a b S) (ha : 0 < a.length) (hb : 0 < b.length) (i j : Nat) : V a b i j ∈ S := by
 rw [h]; exact ⟨i % a.length, j % b.length, Nat.mod_lt _ ha, Nat.mod_lt _ hb, rfl⟩
theorem Sums.get (h : Sums a b S) {s : Pt} (hs : s ∈ S) : ∃ k l, s = V a b k l := by
 obtain ⟨k, l, h1, h2, h3⟩ := (h s).mp hs
 exact ⟨k, l, by unfold V; rw [P_lt h1, P_lt h2]; exact h3⟩
theorem ed_ne (h : Cvx p q a) (i : Nat) : P a i ≠ P a (i + 1) := by
 intro e
 have := h.some_ i
 apply this
 unfold ed vec ph; rw [e]; dsimp only; simp
theorem step_a (ca : Cvx p q a) (cb : Cvx p q b) (hS : Sums a b S) (i j : Nat) (h1 : 0 < cx (ed a i) (ed b (j + 1))) (h2 : 0 < cx (ed b j) (ed a i)) : HE S (V a b i (j + 1)) (V a b (i + 1) (j + 1)) := by
 have la := ca.three
 have lb := cb.three
 refine ⟨fun e => ed_ne ca i ?_, hS.mem (by omega) (by omega) _ _, hS.mem (by omega) (by omega) _ _, fun s hs => ?_⟩
 ·unfold V plus at e
  have e0 := congrArg S29.f0 e
  have e1 := congrArg S29.f1 e
  dsimp only at e0 e1
  exact pt_ext (by omega) (by omega)
 ·obtain ⟨k, l, rfl⟩ := hS.get hs
  obtain ⟨a1, a2⟩ := ca.left i k
  obtain ⟨b1, b2⟩ := cb.extreme j (ed a i) (by omega) h2 l
  have e : cr (V a b i (j + 1)) (V a b (i + 1) (j + 1)) (V a b k l) = cx (ed a i) (vec (P a i) (P a k)) + cx (ed a i) (vec (P b (j + 1)) (P b l)) := by
   unfold cr V plus cx ed vec; dsimp only; grind
  rw [e]
  refine ⟨by omega, fun h0 => ?_⟩
  have c1 := a2 (by omega)
  have c2 := (b2 (by omega)).resolve_right (by omega)
  rcases c1 with c1 | c1
  ·have : V a b k l = V a b i (j + 1) := by unfold V; rw [c1, c2]
   rw [this]; exact btw_start _ _
  ·have : V a b k l = V a b (i + 1) (j + 1) := by unfold V; rw [c1, c2]
   rw [this]; exact btw_end _ _
theorem step_ab (ca : Cvx p q a) (cb : Cvx p q b) (hS : Sums a b S) (i j : Nat) (h0 : cx (ed a (i + 1)) (ed b (j + 1)) = 0) (hs : 0 < ph p q (ed a (i + 1)) * ph p q (ed b (j + 1))) (_h1 : 0 < cx (ed a i) (ed b (j + 1))) (h2 : 0 < cx (ed b j) (ed a (i + 1))) :
  HE S (V a b (i + 1) (j + 1)) (V a b (i + 2) (j + 2)) := by
 have la := ca.three
 have lb := cb.three
 have par : ∀ w, ph p q (ed a (i + 1)) * cx (ed b (j + 1)) w = ph p q (ed b (j + 1)) * cx (ed a (i + 1)) w := by
  intro w
  have := id3 p q (ed a (i + 1)) (ed b (j + 1)) w
  rw [h0, Int.mul_zero, Int.sub_zero] at this; exact this
 have sgn : ∀ u v : Int, ph p q (ed a (i + 1)) * v = ph p q (ed b (j + 1)) * u → 0 ≤ u → 0 ≤ v ∧ (v = 0 ↔ u = 0) := by
  intro u v e hu
  generalize ph p q (ed a (i + 1)) = A at *
  generalize ph p q (ed b (j + 1)) = B at *
  have e2 : (A * B) * v = (B * B) * u := by
   have : B * (A * v) = B * (B * u) := by rw [e]
   grind
  have hB : B ≠ 0 := by intro h; rw [h, Int.mul_zero] at hs; omega
  have hBB : 0 < B * B := by
   rcases Int.lt_trichotomy B 0 with h | h | h
   ·exact Int.mul_pos_of_neg_of_neg h h
   ·exact absurd h hB
   ·exact Int.mul_pos h h
  have m : 0 ≤ (B * B) * u := Int.mul_nonneg (by omega) hu
  refine ⟨nonneg_of_mul hs (by omega), fun hv => ?_, fun hu => ?_⟩
  ·rw [hv, Int.mul_zero] at e2
   rcases Int.mul_eq_zero.mp e2.symm with h | h
   ·omega
   ·exact h
  ·rw [hu, Int.mul_zero] at e2
   rcases Int.mul_eq_zero.mp e2 with h | h
   ·omega
   ·exact h
 have sgn2 : ∀ u v : Int, ph p q (ed a (i + 1)) * v = ph p q (ed b (j + 1)) * u → (0 ≤ u ∧ 0 ≤ v) ∨ (u ≤ 0 ∧ v ≤ 0) := by
  intro u v e
  rcases Int.le_total 0 u with hu | hu
  ·exact Or.inl ⟨hu, (sgn u v e hu).1⟩
  ·right
   have := sgn (-u) (-v) (by rw [Int.mul_neg, Int.mul_neg, e]) (by omega)
   omega
 have ne : P a (i + 1) ≠ P a (i + 2) := ed_ne ca (i + 1)
 have f0 : ph p q (ed a (i + 1)) * (ed b (j + 1)).f0 = ph p q (ed b (j + 1)) * (ed a (i + 1)).f0 := by
  have := h0; unfold cx at this; unfold ph; grind
 have f1 : ph p q (ed a (i + 1)) * (ed b (j + 1)).f1 = ph p q (ed b (j + 1)) * (ed a (i + 1)).f1 := by
  have := h0; unfold cx at this; unfold ph; grind
 have g0 := sgn2 _ _ f0
 have g1 := sgn2 _ _ f1
 have ea0 : (ed a (i + 1)).f0 = (P a (i + 2)).f0 - (P a (i + 1)).f0 := rfl
 have ea1 : (ed a (i + 1)).f1 = (P a (i + 2)).f1 - (P a (i + 1)).f1 := rfl
 have eb0 : (ed b (j + 1)).f0 = (P b (j + 2)).f0 - (P b (j + 1)).f0 := rfl
 have eb1 : (ed b (j + 1)).f1 = (P b (j + 2)).f1 - (P b (j + 1)).f1 := rfl
 refine ⟨fun e => ne ?_, hS.mem (by omega) (by omega) _ _, hS.mem (by omega) (by omega) _ _, fun s hs' => ?_⟩
 ·unfold V plus at e
  have e0 := congrArg S29.f0 e
  have e1 := congrArg S29.f1 e
  dsimp only at e0 e1
  exact pt_ext (by omega) (by omega)
 ·obtain ⟨k, l, rfl⟩ := hS.get hs'
  obtain ⟨a1, a2⟩ := ca.left (i + 1) k
  obtain ⟨b1, b2⟩ := cb.left (j + 1) l
  have x1 := sgn _ _ (par (vec (P a (i + 1)) (P a k))) a1
  have hab : 0 ≤ cx (ed a (i + 1)) (vec (P b (j + 1)) (P b l)) := (cb.extreme j (ed a (i + 1)) (by omega) h2 l).1
  have e : cr (V a b (i + 1) (j + 1)) (V a b (i + 2) (j + 2)) (V a b k l) = cx (ed a (i + 1)) (vec (P a (i + 1)) (P a k)) + cx (ed b (j + 1)) (vec (P a (i + 1)) (P a k)) + cx (ed a (i + 1)) (vec (P b (j + 1)) (P b l)) + cx (ed b (j + 1)) (vec (P b (j + 1)) (P b l)) := by
   unfold cr V plus cx ed vec; dsimp only; grind
  rw [e]
  refine ⟨by omega, fun hz => ?_⟩
  have c1 := a2 (by omega)
  have c2 := b2 (by omega)
  rcases c1 with c1 | c1 <;> rcases c2 with c2 | c2
  ·have : V a b k l = V a b (i + 1) (j + 1) := by unfold V; rw [c1, c2]
   rw [this]; exact btw_start _ _
  ·have : V a b k l = V a b (i + 1) (j + 2) := by unfold V; rw [c1, c2]
   rw [this]; unfold btw V plus; dsimp only; omega
  ·have : V a b k l = V a b (i + 2) (j + 1) := by unfold V; rw [c1, c2]
   rw [this]; unfold btw V plus; dsimp only; omega
  ·have : V a b k l = V a b (i + 2) (j + 2) := by unfold V; rw [c1, c2]
   rw [this]; exact btw_end _ _
def Inv (p q : Int) (a b : List Pt) (i j : Nat) : Prop := i ≤ a.length ∧ j ≤ b.length ∧ (i < a.length → 0 < j → Bf p q (ed b (j - 1)) (ed a i)) ∧ (j < b.length → 0 < i → Bf p q (ed a (i - 1)) (ed b j))
theorem Inv.swap {i j : Nat} (h : Inv p q a b i j) : Inv p q b a j i := ⟨h.2.1, h.1, h.2.2.2, h.2.2.1⟩
theorem cmp_ud (_ca : Cvx p q a) (cb : Cvx p q b) {i j : Nat} (h : Inv p q a b i j) (hi : i < a.length) (hj : j < b.length) (h1 : 0 < ph p q (ed a i)) (h2 : ph p q (ed b j) < 0) : 0 < cx (ed a i) (ed b j) := by
 have j0 : 0 < j := by
  rcases Nat.eq_zero_or_pos j with e | e
  ·subst e; have := cb.up0; omega
  ·exact e
 have hB := h.2.2.1 hi j0
 have T := cb.turn (j - 1)
 rw [show j - 1 + 1 = j by omega] at T
 have id := id3 p q (ed b (j - 1)) (ed a i) (ed b j)
 rcases hB with ⟨x, y⟩ | ⟨x, y, z⟩ | ⟨x, y, z⟩
 ·omega
 ·have m1 : 0 < ph p q (ed a i) * cx (ed b (j - 1)) (ed b j) := Int.mul_pos h1 T
  have m2 : ph p q (ed b j) * cx (ed b (j - 1)) (ed a i) < 0 := Int.mul_neg_of_neg_of_pos h2 z
  exact pos_of_mul x (by omega)
 ·omega
theorem cmp3 (ca : Cvx p q a) (cb : Cvx p q b) {i j : Nat} (h : Inv p q a b i j) (hi : i < a.length) (hj : j < b.length) :
  (0 < cx (ed a i) (ed b j) → Bf p q (ed a i) (ed b j)) ∧ (cx (ed a i) (ed b j) < 0 → Bf p q (ed b j) (ed a i)) ∧ (cx (ed a i) (ed b j) = 0 → 0 < ph p q (ed a i) * ph p q (ed b j)) := by
 have n1 := ca.some_ i
 have n2 := cb.some_ j
 have s : cx (ed b j) (ed a i) = - cx (ed a i) (ed b j) := cx_swap _ _
 have ud : 0 < ph p q (ed a i) → ph p q (ed b j) < 0 → 0 < cx (ed a i) (ed b j) := cmp_ud ca cb h hi hj
 have du : 0 < ph p q (ed b j) → ph p q (ed a i) < 0 → 0 < cx (ed b j) (ed a i) := cmp_ud cb ca h.swap hj hi
 unfold Bf
 rcases Int.lt_trichotomy (ph p q (ed a i)) 0 with x | x | x <;> rcases Int.lt_trichotomy (ph p q (ed b j)) 0 with y | y | y
 ·exact ⟨fun h => Or.inr (Or.inr ⟨x, y, h⟩), fun h => Or.inr (Or.inr ⟨y, x, by omega⟩), fun _ => Int.mul_pos_of_neg_of_neg x y⟩
 ·exact absurd y n2
 ·have := du y x
  exact ⟨fun h => by omega, fun _ => Or.inl ⟨y, x⟩, fun h => by omega⟩
 ·exact absurd x n1
 ·exact absurd x n1
 ·exact absurd x n1
 ·have := ud x y
  exact ⟨fun _ => Or.inl ⟨x, y⟩, fun h => by omega, fun h => by omega⟩
 ·exact absurd y n2
 ·exact ⟨fun h => Or.inr (Or.inl ⟨x, y, h⟩), fun h => Or.inr (Or.inl ⟨y, x, by omega⟩), fun _ => Int.mul_pos x y⟩
theorem prev_ed (cb : Cvx p q b) (j : Nat) (_hj : j ≤ b.length) : ∃ j', ed b (j' + 1) = ed b j ∧ P b (j' + 1) = P b j ∧ P b (j' + 2) = P b (j + 1) ∧ ((0 < j → ed b j' = ed b (j - 1)) ∧ (j = 0 → ed b j' = ed b (b.length - 1))) := by
 have := cb.three
 by_cases h : j = 0
 ·refine ⟨b.length - 1, ?_, ?_, ?_, ?_, fun _ => rfl⟩
  ·rw [show b.length - 1 + 1 = b.length by omega, ed_len, h]
  ·rw [show b.length - 1 + 1 = b.length by omega, P_len, h]
  ·rw [show b.length - 1 + 2 = 1 + b.length by omega, P_add, h]
  ·intro h1; omega
 ·exact ⟨j - 1, by rw [show j - 1 + 1 = j by omega], by rw [show j - 1 + 1 = j by omega], by rw [show j - 1 + 2 = j + 1 by omega], fun _ => rfl, fun h1 => absurd h1 h⟩
theorem before_a (ca : Cvx p q a) (cb : Cvx p q b) {i j : Nat} (h : Inv p q a b i j) (hi : i < a.length) (hc : j < b.length → 0 ≤ cx (ed a i) (ed b j) ∧ (Bf p q (ed a i) (ed b j) ∨ 0 < ph p q (ed a i) * ph p q (ed b j))) {j' : Nat} (hj' : (0 < j → ed b j' = ed b (j - 1)) ∧ (j = 0 → ed b j' = ed b (b.length - 1))) (ht : 0 < cx (ed b j') (ed b j)) : 0 < cx (ed b j') (ed a i) := by
 have lb := cb.three
 have n1 := ca.some_ i
 by_cases j0 : j = 0
 ·subst j0
  obtain ⟨c1, c2⟩ := hc (by omega)
  have u := cb.up0
  have d := cb.down
  rw [hj'.2 rfl] at ht ⊢
  have ua : 0 < ph p q (ed a i) := by
   rcases c2 with c2 | c2
   ·unfold Bf at c2; omega
   ·exact pos_of_mul u (by rw [Int.mul_comm]; exact c2)
  have id := id3 p q (ed b 0) (ed b (b.length - 1)) (ed a i)
  have s : cx (ed b 0) (ed a i) = - cx (ed a i) (ed b 0) := cx_swap _ _
  have s2 : cx (ed b 0) (ed b (b.length - 1)) = - cx (ed b (b.length - 1)) (ed b 0) := cx_swap _ _
  rw [s, s2] at id
  have m1 : 0 ≤ ph p q (ed b (b.length - 1)) * - cx (ed a i) (ed b 0) := Int.mul_nonneg_of_nonpos_of_nonpos (by omega) (by omega)
  have m2 : ph p q (ed a i) * - cx (ed b (b.length - 1)) (ed b 0) < 0 := Int.mul_neg_of_pos_of_neg ua (by omega)
  exact pos_of_mul u (by omega)
 ·rw [hj'.1 (by omega)] at ht ⊢
  rcases h.2.2.1 hi (by omega) with ⟨x, y⟩ | ⟨x, y, z⟩ | ⟨x, y, z⟩
  ·have jl : j < b.length := by
    rcases Nat.lt_or_ge j b.length with h1 | h1
    ·exact h1
    ·have := h.2.1
     have e : j = b.length := by omega
     subst e
     have := cb.down; omega
   obtain ⟨c1, c2⟩ := hc jl
   have db : ph p q (ed b j) < 0 := by
    rcases c2 with c2 | c2
    ·unfold Bf at c2; omega
    ·rcases Int.lt_or_le (ph p q (ed b j)) 0 with h1 | h1
     ·exact h1
     ·have := Int.mul_nonpos_of_nonpos_of_nonneg (show ph p q (ed a i) ≤ 0 by omega) h1; omega
   have id := id3 p q (ed b j) (ed b (j - 1)) (ed a i)
   have s : cx (ed b j) (ed a i) = - cx (ed a i) (ed b j) := cx_swap _ _
   have s2 : cx (ed b j) (ed b (j - 1)) = - cx (ed b (j - 1)) (ed b j) := cx_swap _ _
   rw [s, s2] at id
   have m1 : ph p q (ed b (j - 1)) * - cx (ed a i) (ed b j) ≤ 0 := Int.mul_nonpos_of_nonneg_of_nonpos (by omega) (by omega)
   have m2 : 0 < ph p q (ed a i) * - cx (ed b (j - 1)) (ed b j) := Int.mul_pos_of_neg_of_neg y (by omega)
   rcases Int.lt_or_le 0 (cx (ed b (j - 1)) (ed a i)) with h1 | h1
   ·exact h1
   ·have := Int.mul_nonneg_of_nonpos_of_nonpos (show ph p q (ed b j) ≤ 0 by omega) h1; omega
  ·exact z
  ·exact z
theorem after_b (_ca : Cvx p q a) (cb : Cvx p q b) {i : Nat} (h : Inv p q a b i b.length) (hi : i < a.length) : 0 < cx (ed a i) (ed b b.length) := by
 have lb := cb.three
 have u := cb.up0
 have d := cb.down
 have T := cb.turn (b.length - 1)
 rw [show b.length - 1 + 1 = b.length by omega] at T
 rw [ed_len] at T ⊢
 rcases h.2.2.1 hi (by omega) with ⟨x, y⟩ | ⟨x, y, z⟩ | ⟨x, y, z⟩
 ·omega
 ·omega
 ·have id := id3 p q (ed b (b.length - 1)) (ed a i) (ed b 0)
  have m1 : ph p q (ed a i) * cx (ed b (b.length - 1)) (ed b 0) < 0 := Int.mul_neg_of_neg_of_pos y T
  have m2 : 0 < ph p q (ed b 0) * cx (ed b (b.length - 1)) (ed a i) := Int.mul_pos u z
  rcases Int.lt_or_le 0 (cx (ed a i) (ed b 0)) with h1 | h1
  ·exact h1
  ·have := Int.mul_nonneg_of_nonpos_of_nonpos (show ph p q (ed b (b.length - 1)) ≤ 0 by omega) h1; omega
theorem take_a (ca : Cvx p q a) (cb : Cvx p q b) (hS : Sums a b S) {i j : Nat} (h : Inv p q a b i j) (hi : i < a.length) (hc : j < b.length → 0 < cx (ed a i) (ed b j)) : HE S (V a b i j) (V a b (i + 1) j) ∧ Inv p q a b (i + 1) j := by
 obtain ⟨j', e1, e2, _, e3⟩ := prev_ed cb j h.2.1
 have hB : j < b.length → Bf p q (ed a i) (ed b j) := fun hj => (cmp3 ca cb h hi hj).1 (hc hj)
 have T := cb.turn j'
 rw [e1] at T
 have x1 := before_a ca cb h hi (fun hj => ⟨by have := hc hj; omega, Or.inl (hB hj)⟩) e3 T
 have x2 : 0 < cx (ed a i) (ed b j) := by
  rcases Nat.lt_or_ge j b.length with h1 | h1
  ·exact hc h1
  ·have e : j = b.length := by have := h.2.1; omega
   subst e; exact after_b ca cb h hi
 constructor
 ·have := step_a ca cb hS i j' (by rw [e1]; exact x2) x1
  unfold V at this ⊢; rw [e2] at this; exact this
 ·refine ⟨by omega, h.2.1, fun h1 h2 => ?_, fun h1 _ => by rw [Nat.add_sub_cancel]; exact hB h1⟩
  exact Bf.trans (h.2.2.1 hi h2) (ca.sorted i h1)
theorem take_b (ca : Cvx p q a) (cb : Cvx p q b) (hS : Sums a b S) {i j : Nat} (h : Inv p q a b i j) (hj : j < b.length) (hc : i < a.length → cx (ed a i) (ed b j) < 0) : HE S (V a b i j) (V a b i (j + 1)) ∧ Inv p q a b i (j + 1) := by
 obtain ⟨h1, h2⟩ := take_a cb ca hS.swap h.swap hj (fun hi => by have := hc hi; rw [cx_swap]; omega)
 exact ⟨by rw [V_swap a b, V_swap a b]; exact h1, h2.swap⟩
theorem take_ab (ca : Cvx p q a) (cb : Cvx p q b) (hS : Sums a b S) {i j : Nat} (h : Inv p q a b i j) (hi : i < a.length) (hj : j < b.length) (hc : cx (ed a i) (ed b j) = 0) : HE S (V a b i j) (V a b (i + 1) (j + 1)) ∧ Inv p q a b (i + 1) (j + 1) := by
 obtain ⟨j', e1, e2, e2', e3⟩ := prev_ed cb j h.2.1
 obtain ⟨i', d1, d2, d2', d3⟩ := prev_ed ca i h.1
 have hs := (cmp3 ca cb h hi hj).2.2 hc
 have Tb := cb.turn j'
 have Ta := ca.turn i'
 rw [e1] at Tb
 rw [d1] at Ta
 have hc' : cx (ed b j) (ed a i) = 0 := by rw [cx_swap]; omega
 have x1 := before_a ca cb h hi (fun _ => ⟨by omega, Or.inr hs⟩) e3 Tb
 have x2 := before_a cb ca h.swap hj (fun _ => ⟨by omega, Or.inr (by rw [Int.mul_comm]; exact hs)⟩) d3 Ta
 constructor
 ·have := step_ab ca cb hS i' j' (by rw [d1, e1]; exact hc) (by rw [d1, e1]; exact hs) (by rw [e1]; exact x2) (by rw [d1]; exact x1)
  unfold V at this ⊢; rw [d2, e2, d2', e2'] at this; exact this
 ·have par : ∀ {u v w : Pt}, cx u v = 0 → 0 < ph p q u * ph p q v → Bf p q v w → Bf p q u w := by
   intro u v w h0 hs hB
   have id := id3 p q v u w
   have s : cx v u = - cx u v := cx_swap u v
   rw [s, h0, Int.neg_zero, Int.mul_zero, Int.sub_zero] at id
   have sg : (0 < ph p q u ∧ 0 < ph p q v) ∨ (ph p q u < 0 ∧ ph p q v < 0) := by
    rcases Int.lt_trichotomy (ph p q u) 0 with h | h | h
    ·right; refine ⟨h, ?_⟩
     rcases Int.lt_or_le (ph p q v) 0 with h1 | h1
     ·exact h1
     ·have := Int.mul_nonpos_of_nonpos_of_nonneg (show ph p q u ≤ 0 by omega) h1; omega
    ·rw [h, Int.zero_mul] at hs; omega
    ·left; exact ⟨h, pos_of_mul h hs⟩
   rcases hB with ⟨x, y⟩ | ⟨x, y, z⟩ | ⟨x, y, z⟩
   ·exact Or.inl ⟨by omega, y⟩
   ·refine Or.inr (Or.inl ⟨by omega, y, ?_⟩)
    have m : 0 < ph p q u * cx v w := Int.mul_pos (by omega) z
    exact pos_of_mul x (by omega)
   ·refine Or.inr (Or.inr ⟨by omega, y, ?_⟩)
    have m : ph p q u * cx v w < 0 := Int.mul_neg_of_neg_of_pos (by omega) z
    rcases Int.lt_or_le 0 (cx u w) with h1 | h1
    ·exact h1
    ·have := Int.mul_nonneg_of_nonpos_of_nonpos (show ph p q v ≤ 0 by omega) h1; omega
  refine ⟨by omega, by omega, fun h1 _ => ?_, fun h1 _ => ?_⟩
  ·rw [Nat.add_sub_cancel]
   exact par hc' (by rw [Int.mul_comm]; exact hs) (ca.sorted i h1)
  ·rw [Nat.add_sub_cancel]
   exact par hc hs (cb.sorted j h1)
end
end Go.Proofs.Ytoffmpkgickfhaa.M
end
section
namespace Go.Proofs.Ytoffmpkgickfhaa.M
open Go.Proofs.Ytoffmpkgickfhaa.PG
def path (a b : List Pt) : Nat → Nat → Nat → List Pt
 | 0, _, _ => []
 | d + 1, i, j =>
  if i < a.length ∧ (j < b.length → 0 < cx (ed a i) (ed b j)) then V a b (i + 1) j :: path a b d (i + 1) j
  else if j < b.length ∧ (i < a.length → cx (ed a i) (ed b j) < 0) then V a b i (j + 1) :: path a b d i (j + 1)
  else if i < a.length ∧ j < b.length then V a b (i + 1) (j + 1) :: path a b d (i + 1) (j + 1)
  else []
section
variable {p q : Int} {a b S : List Pt}
theorem path_pairs (ca : Cvx p q a) (cb : Cvx p q b) (hS : Sums a b S) : ∀ d i j, Inv p q a b i j → Pairs (HE S) (V a b i j :: path a b d i j) := by
 intro d
 induction d with
 | zero => intro i j _; trivial
 | succ d ih =>
  intro i j h
  unfold path
  by_cases h1 : i < a.length ∧ (j < b.length → 0 < cx (ed a i) (ed b j))
  ·rw [if_pos h1]
   obtain ⟨s1, s2⟩ := take_a ca cb hS h h1.1 h1.2
   exact ⟨s1, ih _ _ s2⟩
  ·rw [if_neg h1]
   by_cases h2 : j < b.length ∧ (i < a.length → cx (ed a i) (ed b j) < 0)
   ·rw [if_pos h2]
    obtain ⟨s1, s2⟩ := take_b ca cb hS h h2.1 h2.2
    exact ⟨s1, ih _ _ s2⟩
   ·rw [if_neg h2]
    by_cases h3 : i < a.length ∧ j < b.length
    ·rw [if_pos h3]
     have hc : cx (ed a i) (ed b j) = 0 := by
      rcases Int.lt_trichotomy (cx (ed a i) (ed b j)) 0 with x | x | x
      ·exact absurd ⟨h3.2, fun _ => x⟩ h2
      ·exact x
      ·exact absurd ⟨h3.1, fun _ => x⟩ h1
     obtain ⟨s1, s2⟩ := take_ab ca cb hS h h3.1 h3.2 hc
     exact ⟨s1, ih _ _ s2⟩
    ·rw [if_neg h3]; trivial
theorem start_once (ca : Cvx p q a) (cb : Cvx p q b) {i j : Nat} (h : Inv p q a b i j) (h0 : 0 < i + j) (h1 : i < a.length ∨ j < b.length) : V a b i j ≠ V a b 0 0 := by
 have la := ca.three
 have lb := cb.three
 intro e
 have lin : fn p q (V a b 0 0) (V a b i j) = fn p q (P a 0) (P a i) + fn p q (P b 0) (P b j) := by unfold V plus fn; dsimp only; grind
 have z : fn p q (V a b 0 0) (V a b i j) = 0 := by rw [e]; unfold fn; simp
 have lo : ∀ {c : List Pt}, Cvx p q c → ∀ i, i ≤ c.length → (i = 0 ∨ i = c.length) ∨ 0 < fn p q (P c 0) (P c i) := by
  intro c cc i hi
  have := cc.three
  rcases Nat.lt_or_ge i c.length with h | h
  ·rcases cc.low i h with h2 | h2
   ·exact Or.inl (Or.inl h2)
   ·right; rw [P_lt (by omega), P_lt h]; exact h2
  ·exact Or.inl (Or.inr (by omega))
 have nn : ∀ {c : List Pt}, Cvx p q c → ∀ i, i ≤ c.length → 0 ≤ fn p q (P c 0) (P c i) := by
  intro c cc i hi
  rcases lo cc i hi with (h | h) | h
  ·rw [h]; unfold fn; simp
  ·rw [h, P_len]; unfold fn; simp
  ·omega
 have na := nn ca i h.1
 have nb := nn cb j h.2.1
 have xa := (lo ca i h.1).resolve_right (by omega)
 have xb := (lo cb j h.2.1).resolve_right (by omega)
 have u := ca.up0
 have u' := cb.up0
 have d := ca.down
 have d' := cb.down
 rcases xa with xa | xa <;> rcases xb with xb | xb
 ·omega
 ·subst xa; subst xb
  have := h.2.2.1 (by omega) (by omega)
  unfold Bf at this; omega
 ·subst xa; subst xb
  have := h.2.2.2 (by omega) (by omega)
  unfold Bf at this; omega
 ·omega
theorem path_ends (ca : Cvx p q a) (cb : Cvx p q b) (hS : Sums a b S) : ∀ d i j, Inv p q a b i j → (a.length - i) + (b.length - j) ≤ d → (i < a.length ∨ j < b.length) → ∃ t, path a b d i j = t ++ [V a b a.length b.length] ∧ t.length < (a.length - i) + (b.length - j) ∧ V a b 0 0 ∉ t := by
 intro d
 induction d with
 | zero => intro i j _ h1 h2; omega
 | succ d ih =>
  intro i j h hd hij
  have next : ∀ i' j', Inv p q a b i' j' → (a.length - i') + (b.length - j') < (a.length - i) + (b.length - j) → 0 < i' + j' → ∃ t, V a b i' j' :: path a b d i' j' = t ++ [V a b a.length b.length] ∧ t.length < (a.length - i) + (b.length - j) ∧ V a b 0 0 ∉ t := by
   intro i' j' h' hlt h0
   by_cases he : i' < a.length ∨ j' < b.length
   ·obtain ⟨t, e, hl, hn⟩ := ih i' j' h' (by omega) he
    refine ⟨V a b i' j' :: t, by rw [e]; rfl, by simp only [List.length_cons]; omega, ?_⟩
    intro hm
    rcases List.mem_cons.mp hm with h1 | h1
    ·exact start_once ca cb h' h0 he h1.symm
    ·exact hn h1
   ·have e1 : i' = a.length := by have := h'.1; omega
    have e2 : j' = b.length := by have := h'.2.1; omega
    subst e1; subst e2
    have ep : path a b d a.length b.length = [] := by
     cases d with
     | zero => rfl
     | succ d => unfold path; rw [if_neg (by omega), if_neg (by omega), if_neg (by omega)]
    exact ⟨[], by rw [ep]; rfl, by simp only [List.length_nil]; omega, by simp⟩
  unfold path
  by_cases h1 : i < a.length ∧ (j < b.length → 0 < cx (ed a i) (ed b j))
  ·rw [if_pos h1]
   exact next _ _ (take_a ca cb hS h h1.1 h1.2).2 (by omega) (by omega)
  ·rw [if_neg h1]
   by_cases h2 : j < b.length ∧ (i < a.length → cx (ed a i) (ed b j) < 0)
   ·rw [if_pos h2]
    exact next _ _ (take_b ca cb hS h h2.1 h2.2).2 (by omega) (by omega)
   ·rw [if_neg h2]
    have h3 : i < a.length ∧ j < b.length := by
     rcases hij with x | x
     ·refine ⟨x, ?_⟩
      apply Classical.byContradiction
      intro hn; exact h1 ⟨x, fun hy => absurd hy hn⟩
     ·refine ⟨?_, x⟩
      apply Classical.byContradiction
      intro hn; exact h2 ⟨x, fun hy => absurd hy hn⟩
    rw [if_pos h3]
    have hc : cx (ed a i) (ed b j) = 0 := by
     rcases Int.lt_trichotomy (cx (ed a i) (ed b j)) 0 with x | x | x
     ·exact absurd ⟨h3.2, fun _ => x⟩ h2
     ·exact x
     ·exact absurd ⟨h3.1, fun _ => x⟩ h1
    exact next _ _ (take_ab ca cb hS h h3.1 h3.2 hc).2 (by omega) (by omega)
theorem sum_ring (ca : Cvx p q a) (cb : Cvx p q b) (hS : Sums a b S) : ∃ t, path a b (a.length + b.length) 0 0 = t ++ [V a b 0 0] ∧ Ring S (V a b 0 0 :: t) ∧ t.length < a.length + b.length := by
 have la := ca.three
 have h : Inv p q a b 0 0 := ⟨Nat.zero_le _, Nat.zero_le _, fun _ h => absurd h (by omega), fun _ h => absurd h (by omega)⟩
 obtain ⟨t, e, hl, hn⟩ := path_ends ca cb hS (a.length + b.length) 0 0 h (by omega) (by omega)
 have hp := path_pairs ca cb hS (a.length + b.length) 0 0 h
 have ev : V a b a.length b.length = V a b 0 0 := by unfold V; rw [P_len, P_len]
 rw [ev] at e
 rw [e] at hp
 exact ⟨t, e, ⟨V a b 0 0, t, rfl, hn, hp⟩, by omega⟩
theorem sum_low (ca : Cvx p q a) (cb : Cvx p q b) (hS : Sums a b S) : ∀ s ∈ S, s = V a b 0 0 ∨ 0 < fn p q (V a b 0 0) s := by
 have la := ca.three
 have lb := cb.three
 intro s hs
 obtain ⟨k, l, hk, hl, rfl⟩ := (hS s).mp hs
 have e0 : V a b 0 0 = plus (at_ a 0) (at_ b 0) := by unfold V; rw [P_lt (by omega), P_lt (by omega)]
 have lin : fn p q (plus (at_ a 0) (at_ b 0)) (plus (at_ a k) (at_ b l)) = fn p q (at_ a 0) (at_ a k) + fn p q (at_ b 0) (at_ b l) := by unfold plus fn; dsimp only; grind
 rw [e0, lin]
 have z : ∀ c : Pt, fn p q c c = 0 := by intro c; unfold fn; simp
 rcases ca.low k hk with h1 | h1 <;> rcases cb.low l hl with h2 | h2
 ·subst h1; subst h2; exact Or.inl rfl
 ·right; subst h1; rw [z]; omega
 ·right; subst h2; rw [z]; omega
 ·right; omega
end
end Go.Proofs.Ytoffmpkgickfhaa.M
end
section
namespace Go.Proofs.Ytoffmpkgickfhaa.M
open Go.RowKit Go.Proofs.Ytoffmpkgickfhaa.PG Go.Proofs.YtoffmpkgickfhaaW.PrintMore Go.Proofs.YtoffmpkgickfhaaW.PrintWords
theorem or_f (a b : Int) (k : Nat) (hk : 3 ≤ k) : cmp_Or_int.f k [a, b] = some (if a = 0 then b else a) := by
 obtain ⟨k, rfl⟩ : ∃ m, k = m + 3 := ⟨k - 3, by omega⟩
 unfold cmp_Or_int.f
 rw [cmp_Or_int.l0]
 simp only [List.length_cons, List.length_nil]
 rw [if_pos (by omega), if_pos (by omega), if_pos (by omega)]
 by_cases h : a = 0
 ·rw [if_pos (show rd [a, b] 0 = 0 from h), cmp_Or_int.l0]
  rw [show wrap64 (0 + 1) = 1 from by unfold wrap64; omega]
  simp only [List.length_cons, List.length_nil]
  rw [if_pos (by omega), if_pos (by omega), if_pos (by omega), if_pos h]
  by_cases h2 : b = 0
  ·rw [if_pos (show rd [a, b] 1 = 0 from h2), cmp_Or_int.l0]
   rw [show wrap64 (1 + 1) = 2 from by unfold wrap64; omega]
   simp only [List.length_cons, List.length_nil]
   rw [if_neg (by omega), h2]
  ·rw [if_neg (show ¬ rd [a, b] 1 = 0 from h2)]; rfl
 ·rw [if_neg (show ¬ rd [a, b] 0 = 0 from h), if_neg h]; rfl
theorem lower_f (a b : Pt) (k : Nat) (hk : 3 ≤ k) : ∃ c, shape_lower.f k a.f0 a.f1 b.f0 b.f1 = some c ∧ (c < 0 ↔ first a b) := by
 refine ⟨_, by unfold shape_lower.f; rw [compare_f, Option.bind_some, compare_f, Option.bind_some, or_f _ _ _ hk, Option.bind_some], ?_⟩
 unfold sg first
 split <;> (try split) <;> (try split) <;> (try split) <;> (try split) <;> omega
theorem min_l0 {l : List Pt} (hN : l.length ≤ 1000000) : ∀ d i (m : Pt), l.length = i + d → ∃ r : Pt, Rt (fun k => slices_MinFunc_lower.l0 k l (i : Int) m.f0 m.f1) (r.f0, r.f1) ∧ (r = m ∨ ∃ j, i ≤ j ∧ j < l.length ∧ r = at_ l j) ∧ ¬ first m r ∧ ∀ j, i ≤ j → j < l.length → ¬ first (at_ l j) r := by
 intro d
 induction d with
 | zero =>
  intro i m hi
  refine ⟨m, ⟨0 + 1, fun k hk => ?_⟩, Or.inl rfl, first_irrefl m, fun j h1 h2 => by omega⟩
  obtain ⟨k, rfl⟩ := fuel1 hk
  dsimp only; rw [slices_MinFunc_lower.l0, if_neg (by omega)]
 | succ d ih =>
  intro i m hi
  have hlt : i < l.length := by omega
  by_cases h : first (at_ l i) m
  ·obtain ⟨r, ⟨K, hK⟩, h1, h2, h3⟩ := ih (i + 1) (at_ l i) (by omega)
   refine ⟨r, ⟨K + 4, fun k hk => ?_⟩, ?_, ?_, ?_⟩
   ·obtain ⟨k, rfl⟩ : ∃ m, k = m + 1 := ⟨k - 1, by omega⟩
    obtain ⟨c, hc, hc'⟩ := lower_f (at_ l i) m k (by omega)
    dsimp only; rw [slices_MinFunc_lower.l0, if_pos (by omega), if_pos (by omega), rd_at, hc, Option.bind_some, if_pos (hc'.mpr h), wrap_succ i (by omega)]
    exact hK k (by omega)
   ·right
    rcases h1 with h1 | ⟨j, h4, h5, h6⟩
    ·exact ⟨i, Nat.le_refl _, hlt, h1⟩
    ·exact ⟨j, by omega, h5, h6⟩
   ·intro h4
    exact h2 (first_trans h h4)
   ·intro j h4 h5
    rcases Nat.eq_or_lt_of_le h4 with rfl | h6
    ·exact h2
    ·exact h3 j h6 h5
  ·obtain ⟨r, ⟨K, hK⟩, h1, h2, h3⟩ := ih (i + 1) m (by omega)
   refine ⟨r, ⟨K + 4, fun k hk => ?_⟩, ?_, h2, ?_⟩
   ·obtain ⟨k, rfl⟩ : ∃ m, k = m + 1 := ⟨k - 1, by omega⟩
    obtain ⟨c, hc, hc'⟩ := lower_f (at_ l i) m k (by omega)
    dsimp only; rw [slices_MinFunc_lower.l0, if_pos (by omega), if_pos (by omega), rd_at, hc, Option.bind_some, if_neg (fun h4 => h (hc'.mp h4)), wrap_succ i (by omega)]
    exact hK k (by omega)
   ·rcases h1 with h1 | ⟨j, h4, h5, h6⟩
    ·exact Or.inl h1
    ·exact Or.inr ⟨j, by omega, h5, h6⟩
   ·intro j h4 h5
    rcases Nat.eq_or_lt_of_le h4 with rfl | h6
    ·intro h7
     rcases first_tri m r with e | e | e
     ·rw [e] at h; exact h h7
     ·exact h2 e
     ·exact h (first_trans h7 e)
    ·exact h3 j h6 h5
theorem min_run {l : List Pt} (h0 : 0 < l.length) (hN : l.length ≤ 1000000) : ∃ r : Pt, Rt (fun k => slices_MinFunc_lower.f k l) (r.f0, r.f1) ∧ r ∈ l ∧ ∀ p ∈ l, ¬ first p r := by
 obtain ⟨r, ⟨K, hK⟩, h1, h2, h3⟩ := min_l0 hN (l.length - 1) 1 (at_ l 0) (by omega)
 refine ⟨r, ⟨K, fun k hk => ?_⟩, ?_, ?_⟩
 ·unfold slices_MinFunc_lower.f
  dsimp only; rw [if_neg (by omega), if_pos (by omega)]
  exact hK k hk
 ·rcases h1 with rfl | ⟨j, _, h5, rfl⟩
  ·exact at_mem h0
  ·exact at_mem h5
 ·intro p hp
  obtain ⟨j, hj, rfl⟩ := List.mem_iff_getElem.mp hp
  rw [← at_eq hj]
  by_cases h4 : j = 0
  ·subst h4; exact h2
  ·exact h3 j (by omega) hj
theorem tmod_two (i n : Nat) (h : i ≤ 1000000) : Int.tmod (wrap64 ((i : Int) + 2)) (n : Int) = (((i + 1 + 1) % n : Nat) : Int) := by
 rw [wrap_succ2 i h, ← Int.ofNat_tmod]
theorem normal_l0 {l : List Pt} (hb : ∀ p ∈ l, Bd p) (hn : 3 ≤ l.length) (hN : l.length ≤ 1000000) {r : Pt} (hmin : Rt (fun k => slices_MinFunc_lower.f k l) (r.f0, r.f1)) {b' : Bool} (hs : Rt (fun k => shape_simple.f k l) b') :
  ∀ d i, l.length = i + d → ∃ b, Rt (fun k => shape_normal.l0 k l (l.length : Int) (i : Int)) b ∧ (b = true ↔ (∀ i', i ≤ i' → i' < l.length → 0 < cr (at_ l i') (at_ l ((i' + 1) % l.length)) (at_ l ((i' + 1 + 1) % l.length))) ∧ at_ l 0 = r ∧ b' = true) := by
 intro d
 induction d with
 | zero =>
  intro i hi
  obtain ⟨K1, hK1⟩ := hmin
  obtain ⟨K2, hK2⟩ := hs
  refine ⟨decide (at_ l 0 = r) && b', ⟨K1 + K2 + 1, fun k hk => ?_⟩, ?_⟩
  ·obtain ⟨k, rfl⟩ := fuel1 hk
   have e1 := hK1 k (by omega)
   have e2 := hK2 k (by omega)
   dsimp only at e1 e2 ⊢
   rw [shape_normal.l0, if_neg (by omega), if_pos (by omega), e1, Option.bind_some]
   dsimp only
   rw [show rd_T29 l 0 = at_ l 0 from rfl, pt_beq]
   by_cases h : at_ l 0 = r
   ·rw [if_pos (by simpa using h), e2, Option.bind_some]; simp [h]
   ·rw [if_neg (by simpa using h)]; simp [h]
  ·simp only [Bool.and_eq_true, decide_eq_true_eq]
   exact ⟨fun h => ⟨fun i' h1 h2 => by omega, h⟩, fun h => h.2⟩
 | succ d ih =>
  intro i hi
  have hlt : i < l.length := by omega
  obtain ⟨b1, ⟨K, hK⟩, hb1⟩ := ih (i + 1) (by omega)
  have hBi := at_bd hb hlt
  have hBn := at_bd hb (show (i + 1) % l.length < l.length from Nat.mod_lt _ (by omega))
  have hBm := at_bd hb (show (i + 1 + 1) % l.length < l.length from Nat.mod_lt _ (by omega))
  have t1 := tmod_in (i + 1) l.length (by omega)
  have t2 := tmod_in (i + 1 + 1) l.length (by omega)
  rw [from_split hlt]
  by_cases h1 : cr (at_ l i) (at_ l ((i + 1) % l.length)) (at_ l ((i + 1 + 1) % l.length)) ≤ 0
  ·refine ⟨false, ⟨0 + 1, fun k hk => ?_⟩, ⟨fun h => by simp at h, fun h => absurd h.1.1 (by omega)⟩⟩
   obtain ⟨k, rfl⟩ := fuel1 hk
   dsimp only
   rw [shape_normal.l0, if_pos (by omega), if_pos (by omega), if_pos (by omega), if_neg (by omega), tmod_nat i _ (by omega), tmod_two i _ (by omega), if_pos (by omega), if_pos (by omega), if_pos (by omega), if_pos (by omega), rd_at, rd_at, rd_at, side_f hBi hBn hBm, Option.bind_some, if_pos h1]
  ·refine ⟨b1, ⟨K + 1, fun k hk => ?_⟩, ?_⟩
   ·obtain ⟨k, rfl⟩ := fuel1 hk
    dsimp only
    rw [shape_normal.l0, if_pos (by omega), if_pos (by omega), if_pos (by omega), if_neg (by omega), tmod_nat i _ (by omega), tmod_two i _ (by omega), if_pos (by omega), if_pos (by omega), if_pos (by omega), if_pos (by omega), rd_at, rd_at, rd_at, side_f hBi hBn hBm, Option.bind_some, if_neg h1, wrap_succ i (by omega)]
    exact hK k (by omega)
   ·rw [hb1]; exact ⟨fun h => ⟨⟨by omega, h.1⟩, h.2⟩, fun h => ⟨h.1.2, h.2⟩⟩
theorem simple_once {l : List Pt} (hn : 3 ≤ l.length) (h : Simple l) {i : Nat} (hi : i < l.length) (h0 : 0 < i) : at_ l 0 ≠ at_ l i := by
 intro e
 by_cases h1 : i = 1
 ·subst h1
  have := h.1 0 (by omega)
  rw [Nat.mod_eq_of_lt (by omega)] at this; exact this e
 ·by_cases h2 : i + 1 = l.length
  ·have := h.1 i hi
   rw [h2, Nat.mod_self] at this; exact this e.symm
  ·have := (h.2 0 (by omega)).2.2 i (by omega) hi (by rw [Nat.mod_eq_of_lt (by omega)]; omega)
   apply this
   left
   rw [← e]
   exact ⟨cr_self1 _ _, btw_start _ _⟩
theorem normal_run {l : List Pt} (hb : ∀ p ∈ l, Bd p) (hn : 3 ≤ l.length) (hN : l.length ≤ 1000000) : ∃ b, Rt (fun k => shape_normal.f k l) b ∧ (b = true ↔ Convex l) := by
 obtain ⟨r, hR, hr1, hr2⟩ := min_run (show 0 < l.length by omega) hN
 obtain ⟨b1, hS, hb1⟩ := simple_run hb hn hN
 obtain ⟨b, hB, hb2⟩ := normal_l0 hb hn hN hR hS l.length 0 (by omega)
 refine ⟨b, hB, ?_⟩
 rw [hb2, hb1]
 constructor
 ·rintro ⟨h1, h2, h3⟩
  refine ⟨h3, fun i hi => ⟨h1 i (Nat.zero_le _) hi, fun h0 => ?_⟩⟩
  rcases first_tri (at_ l 0) (at_ l i) with e | e | e
  ·exact absurd e (simple_once hn h3 hi h0)
  ·exact e
  ·rw [h2] at e; exact absurd e (hr2 _ (at_mem hi))
 ·rintro ⟨h3, h4⟩
  refine ⟨fun i _ hi => (h4 i hi).1, ?_, h3⟩
  obtain ⟨j, hj, rfl⟩ := List.mem_iff_getElem.mp hr1
  rw [← at_eq hj] at hr2 ⊢
  by_cases h5 : j = 0
  ·rw [h5]
  ·exact absurd ((h4 j hj).2 (by omega)) (hr2 _ (at_mem (by omega)))
end Go.Proofs.Ytoffmpkgickfhaa.M
end
section
namespace Go.Proofs.Ytoffmpkgickfhaa.M
open Go.RowKit Go.Proofs.Ytoffmpkgickfhaa.PG Go.Proofs.YtoffmpkgickfhaaW.PrintMore Go.Proofs.YtoffmpkgickfhaaW.PrintWords
def In (m : Int) (p : Pt) : Prop := -m ≤ p.f0 ∧ p.f0 ≤ m ∧ -m ≤ p.f1 ∧ p.f1 ≤ m
instance (m : Int) (p : Pt) : Decidable (In m p) := by unfold In; infer_instance
def Poly (l : List Pt) : Prop := 3 ≤ l.length ∧ l.length ≤ 32 ∧ ∀ p ∈ l, In 10000 p
instance (l : List Pt) : Decidable (Poly l) := by unfold Poly; infer_instance
theorem beyond_f (m : Int) (h0 : 0 ≤ m) (h1 : m ≤ 1000000) (p : Pt) : beyond m p = !decide (In m p) := by
 unfold beyond
 rw [wz _ (by omega) (by omega), Bool.eq_iff_iff]
 simp only [Bool.or_eq_true, decide_eq_true_eq, Bool.not_eq_true']
 rw [decide_eq_false_iff_not]
 unfold In
 omega
theorem within_f (l : List Pt) (m : Int) (h0 : 0 ≤ m) (h1 : m ≤ 1000000) : shape_within.f l m = some (decide (∀ p ∈ l, In m p)) := by
 unfold shape_within.f
 congr 1
 rw [Bool.eq_iff_iff]
 simp only [Bool.not_eq_true', List.any_eq_false, beyond_f m h0 h1, decide_eq_true_eq, Bool.not_eq_true', decide_eq_false_iff_not, Decidable.not_not]
theorem polygon_f (l : List Pt) : shape_polygon.f l = some (decide (Poly l)) := by
 unfold shape_polygon.f
 by_cases h : (l.length : Int) ≥ 3
 ·rw [if_pos h]
  by_cases h2 : (l.length : Int) ≤ 32
  ·rw [if_pos h2, within_f _ _ (by omega) (by omega), Option.bind_some]
   congr 1; rw [decide_eq_decide]
   exact ⟨fun h3 => ⟨by omega, by omega, h3⟩, fun h3 => h3.2.2⟩
  ·rw [if_neg h2]
   congr 1; symm; rw [decide_eq_false_iff_not]
   intro h3; have := h3.2.1; omega
 ·rw [if_neg h]
  congr 1; symm; rw [decide_eq_false_iff_not]
  intro h3; have := h3.1; omega
theorem in_bd {p : Pt} (h : In 10000 p) : Bd p := by unfold In at h; unfold Bd; omega
def term (l : List Pt) (i : Nat) : Int := (at_ l i).f0 * (at_ l ((i + 1) % l.length)).f1 - (at_ l i).f1 * (at_ l ((i + 1) % l.length)).f0
def areaTo (l : List Pt) : Nat → Int
 | 0 => 0
 | i + 1 => areaTo l i + term l i
def area (l : List Pt) : Int := areaTo l l.length
end Go.Proofs.Ytoffmpkgickfhaa.M
end
section
namespace Go.Proofs.Ytoffmpkgickfhaa.M
open Go.Proofs.Ytoffmpkgickfhaa.PG
theorem common (p q : Int) : ∀ (n : Nat) (e f : Pt), (ph p q e).natAbs + (ph p q f).natAbs ≤ n → cx e f = 0 → 0 < ph p q e * ph p q f →
  ∃ (g : Pt) (x y : Int), 0 < x ∧ 0 < y ∧ e.f0 = x * g.f0 ∧ e.f1 = x * g.f1 ∧ f.f0 = y * g.f0 ∧ f.f1 = y * g.f1 := by
 intro n
 induction n with
 | zero =>
  intro e f hn _ h
  have h1 : ph p q e = 0 := by omega
  rw [h1, Int.zero_mul] at h; omega
 | succ n ih =>
  intro e f hn hc h
  have sg : (0 < ph p q e ∧ 0 < ph p q f) ∨ (ph p q e < 0 ∧ ph p q f < 0) := by
   rcases Int.lt_trichotomy (ph p q e) 0 with a | a | a
   ·right; refine ⟨a, ?_⟩
    rcases Int.lt_or_le (ph p q f) 0 with b | b
    ·exact b
    ·have := Int.mul_nonpos_of_nonpos_of_nonneg (show ph p q e ≤ 0 by omega) b; omega
   ·rw [a, Int.zero_mul] at h; omega
   ·exact Or.inl ⟨a, pos_of_mul a h⟩
  have d1 : ph p q ⟨e.f0 - f.f0, e.f1 - f.f1⟩ = ph p q e - ph p q f := by unfold ph; dsimp only; grind
  have d2 : ph p q ⟨f.f0 - e.f0, f.f1 - e.f1⟩ = ph p q f - ph p q e := by unfold ph; dsimp only; grind
  have c1 : cx ⟨e.f0 - f.f0, e.f1 - f.f1⟩ f = 0 := by unfold cx at *; dsimp only; grind
  have c2 : cx e ⟨f.f0 - e.f0, f.f1 - e.f1⟩ = 0 := by unfold cx at *; dsimp only; grind
  rcases Int.lt_trichotomy (ph p q e) (ph p q f) with hl | hl | hl
  ·rcases sg with ⟨s1, s2⟩ | ⟨s1, s2⟩
   ·obtain ⟨g, x, y, hx, hy, e0, e1, f0, f1⟩ := ih e ⟨f.f0 - e.f0, f.f1 - e.f1⟩ (by rw [d2]; omega) c2 (by rw [d2]; exact Int.mul_pos s1 (by omega))
    dsimp only at f0 f1
    exact ⟨g, x, x + y, hx, by omega, e0, e1, by rw [Int.add_mul]; omega, by rw [Int.add_mul]; omega⟩
   ·obtain ⟨g, x, y, hx, hy, e0, e1, f0, f1⟩ := ih ⟨e.f0 - f.f0, e.f1 - f.f1⟩ f (by rw [d1]; omega) c1 (by rw [d1]; exact Int.mul_pos_of_neg_of_neg (by omega) s2)
    dsimp only at e0 e1
    exact ⟨g, x + y, y, by omega, hy, by rw [Int.add_mul]; omega, by rw [Int.add_mul]; omega, f0, f1⟩
  ·have k0 : ph p q e * f.f0 = ph p q f * e.f0 := by unfold ph cx at *; grind
   have k1 : ph p q e * f.f1 = ph p q f * e.f1 := by unfold ph cx at *; grind
   rw [← hl] at k0 k1
   have e0 := Int.eq_of_mul_eq_mul_left (show ph p q e ≠ 0 by omega) k0
   have e1 := Int.eq_of_mul_eq_mul_left (show ph p q e ≠ 0 by omega) k1
   exact ⟨e, 1, 1, by omega, by omega, by omega, by omega, by omega, by omega⟩
  ·rcases sg with ⟨s1, s2⟩ | ⟨s1, s2⟩
   ·obtain ⟨g, x, y, hx, hy, e0, e1, f0, f1⟩ := ih ⟨e.f0 - f.f0, e.f1 - f.f1⟩ f (by rw [d1]; omega) c1 (by rw [d1]; exact Int.mul_pos (by omega) s2)
    dsimp only at e0 e1
    exact ⟨g, x + y, y, by omega, hy, by rw [Int.add_mul]; omega, by rw [Int.add_mul]; omega, f0, f1⟩
   ·obtain ⟨g, x, y, hx, hy, e0, e1, f0, f1⟩ := ih e ⟨f.f0 - e.f0, f.f1 - e.f1⟩ (by rw [d2]; omega) c2 (by rw [d2]; exact Int.mul_pos_of_neg_of_neg s1 (by omega))
    dsimp only at f0 f1
    exact ⟨g, x, x + y, hx, by omega, e0, e1, by rw [Int.add_mul]; omega, by rw [Int.add_mul]; omega⟩
theorem Bf.right {p q : Int} {u v g : Pt} {y : Int} (hy : 0 < y) (h0 : v.f0 = y * g.f0) (h1 : v.f1 = y * g.f1) (h : Bf p q u v) : Bf p q u g := by
 have e : ph p q v = y * ph p q g := by unfold ph; rw [h0, h1]; grind
 have c : cx u v = y * cx u g := by unfold cx; rw [h0, h1]; grind
 have up : 0 < ph p q v → 0 < ph p q g := fun h => pos_of_mul hy (by rw [← e]; exact h)
 have dn : ph p q v < 0 → ph p q g < 0 := fun h => by
  rcases Int.lt_or_le (ph p q g) 0 with k | k
  ·exact k
  ·have := Int.mul_nonneg (show 0 ≤ y by omega) k; omega
 have cp : 0 < cx u v → 0 < cx u g := fun h => pos_of_mul hy (by rw [← c]; exact h)
 rcases h with ⟨a, b⟩ | ⟨a, b, d⟩ | ⟨a, b, d⟩
 ·exact Or.inl ⟨a, dn b⟩
 ·exact Or.inr (Or.inl ⟨a, up b, cp d⟩)
 ·exact Or.inr (Or.inr ⟨a, dn b, cp d⟩)
theorem Bf.left {p q : Int} {u v g : Pt} {y : Int} (hy : 0 < y) (h0 : u.f0 = y * g.f0) (h1 : u.f1 = y * g.f1) (h : Bf p q u v) : Bf p q g v := by
 have e : ph p q u = y * ph p q g := by unfold ph; rw [h0, h1]; grind
 have c : cx u v = y * cx g v := by unfold cx; rw [h0, h1]; grind
 have up : 0 < ph p q u → 0 < ph p q g := fun h => pos_of_mul hy (by rw [← e]; exact h)
 have dn : ph p q u < 0 → ph p q g < 0 := fun h => by
  rcases Int.lt_or_le (ph p q g) 0 with k | k
  ·exact k
  ·have := Int.mul_nonneg (show 0 ≤ y by omega) k; omega
 have cp : 0 < cx u v → 0 < cx g v := fun h => pos_of_mul hy (by rw [← c]; exact h)
 rcases h with ⟨a, b⟩ | ⟨a, b, d⟩ | ⟨a, b, d⟩
 ·exact Or.inl ⟨up a, b⟩
 ·exact Or.inr (Or.inl ⟨up a, b, cp d⟩)
 ·exact Or.inr (Or.inr ⟨dn a, b, cp d⟩)
theorem Bf.tri {p q : Int} {u v w : Pt} (h1 : Bf p q u v) (h2 : Bf p q v w) : tri u v w := by
 have id := id3 p q u v w
 have id2 := id3 p q w u v
 have sw := cx_swap u w
 have sw2 := cx_swap v w
 unfold M.tri
 rcases h1 with ⟨a, b⟩ | ⟨a, b, c⟩ | ⟨a, b, c⟩ <;> rcases h2 with ⟨d, e⟩ | ⟨d, e, f⟩ | ⟨d, e, f⟩
 ·omega
 ·omega
 ·-- up, down, down
  rcases Int.lt_or_le 0 (cx u v) with k | k
  ·exact Or.inl ⟨k, f⟩
  ·refine Or.inr (Or.inl ⟨f, ?_⟩)
   have m1 : 0 < ph p q u * cx v w := Int.mul_pos a f
   have m2 : 0 ≤ ph p q w * cx u v := Int.mul_nonneg_of_nonpos_of_nonpos (by omega) k
   rcases Int.lt_or_le (cx u w) 0 with k2 | k2
   ·omega
   ·have := Int.mul_nonpos_of_nonpos_of_nonneg (show ph p q v ≤ 0 by omega) k2; omega
 ·-- up, up, down
  rcases Int.lt_or_le 0 (cx v w) with k | k
  ·exact Or.inl ⟨c, k⟩
  ·refine Or.inr (Or.inr ⟨?_, c⟩)
   have m1 : ph p q u * cx v w ≤ 0 := Int.mul_nonpos_of_nonneg_of_nonpos (by omega) k
   have m2 : ph p q w * cx u v < 0 := Int.mul_neg_of_neg_of_pos e c
   rcases Int.lt_or_le (cx u w) 0 with k2 | k2
   ·omega
   ·have := Int.mul_nonneg (show 0 ≤ ph p q v by omega) k2; omega
 ·exact Or.inl ⟨c, f⟩
 ·omega
 ·omega
 ·omega
 ·exact Or.inl ⟨c, f⟩
theorem cyc_of_bf {p q : Int} {L : List El} (h : L.Pairwise (fun e e' => Bf p q e.1 e'.1)) : Cyc L := by
 intro a b c hs
 have h1 : (L.map Prod.fst).Pairwise (Bf p q) := List.pairwise_map.mpr h
 have h2 := h1.sublist hs
 simp only [List.pairwise_cons, List.mem_cons, List.not_mem_nil, or_false, forall_eq_or_imp, forall_eq] at h2
 exact h2.1.1.tri h2.2.1
def arA (l : List Pt) : Nat → Nat → Int
 | 0, _ => 0
 | d + 1, i => cx (P l i) (P l (i + 1)) + arA l d (i + 1)
def par : List Pt → Int
 | a :: b :: r => cx a b + par (b :: r)
 | _ => 0
section
variable {p q : Int} {a b S : List Pt}
def Z (e : El) : Int := X e + Y e
structure Way (p q : Int) (a b : List Pt) (d i j : Nat) (U : List El) : Prop where
 ord : U.Pairwise (fun e e' => Bf p q e.1 e'.1)
 bef : ∀ e ∈ U, (0 < i → Bf p q (ed a (i - 1)) e.1) ∧ (0 < j → Bf p q (ed b (j - 1)) e.1)
 pos : ∀ e ∈ U, 0 ≤ X e ∧ 0 ≤ Y e
 sx0 : s0 X U = (P a a.length).f0 - (P a i).f0
 sx1 : s1 X U = (P a a.length).f1 - (P a i).f1
 sy0 : s0 Y U = (P b b.length).f0 - (P b j).f0
 sy1 : s1 Y U = (P b b.length).f1 - (P b j).f1
 az : 2 * par (V a b i j :: path a b d i j) = 2 * ((V a b i j).f0 * s1 Z U - (V a b i j).f1 * s0 Z U) + Bq Z Z U
 ax : 2 * arA a (a.length - i) i = 2 * ((P a i).f0 * s1 X U - (P a i).f1 * s0 X U) + Bq X X U
 ay : 2 * arA b (b.length - j) j = 2 * ((P b j).f0 * s1 Y U - (P b j).f1 * s0 Y U) + Bq Y Y U
theorem way (ca : Cvx p q a) (cb : Cvx p q b) (hS : Sums a b S) : ∀ d i j, Inv p q a b i j → (a.length - i) + (b.length - j) ≤ d → ∃ U, Way p q a b d i j U := by
 intro d
 have done : ∀ d, ∃ U, Way p q a b d a.length b.length U := by
  intro d
  have ep : path a b d a.length b.length = [] := by
   cases d with
   | zero => rfl
   | succ d => unfold path; rw [if_neg (by omega), if_neg (by omega), if_neg (by omega)]
  refine ⟨[], List.Pairwise.nil, fun e he => by simp at he, fun e he => by simp at he, ?_, ?_, ?_, ?_, ?_, ?_, ?_⟩ <;> simp [s0, s1, Bq, ep, par, arA]
 induction d with
 | zero =>
  intro i j h hd
  have e1 : i = a.length := by have := h.1; omega
  have e2 : j = b.length := by have := h.2.1; omega
  subst e1; subst e2; exact done 0
 | succ d ih =>
  intro i j h hd
  by_cases h1 : i < a.length ∧ (j < b.length → 0 < cx (ed a i) (ed b j))
  ·have ep : path a b (d + 1) i j = V a b (i + 1) j :: path a b d (i + 1) j := by
    conv => lhs; unfold path
    rw [if_pos h1]
   have ni := (take_a ca cb hS h h1.1 h1.2).2
   obtain ⟨U, w⟩ := ih (i + 1) j ni (by omega)
   refine ⟨(ed a i, 1, 0) :: U, List.Pairwise.cons (fun e he => ?_) w.ord, fun e he => ?_, fun e he => ?_, ?_, ?_, ?_, ?_, ?_, ?_, ?_⟩
   ·have := (w.bef e he).1 (by omega); rwa [Nat.add_sub_cancel] at this
   ·have fa : 0 < i → Bf p q (ed a (i - 1)) (ed a i) := fun h0 => by
     have := ca.sorted (i - 1) (by omega); rwa [show i - 1 + 1 = i by omega] at this
    have fb : 0 < j → Bf p q (ed b (j - 1)) (ed a i) := fun h0 => h.2.2.1 h1.1 h0
    rcases List.mem_cons.mp he with r | he
    ·subst r; exact ⟨fa, fb⟩
    ·have g := (w.bef e he).1 (by omega)
     rw [Nat.add_sub_cancel] at g
     exact ⟨fun h0 => (fa h0).trans g, fun h0 => (fb h0).trans g⟩
   ·rcases List.mem_cons.mp he with r | he
    ·subst r; dsimp only [X, Y]; omega
    ·exact w.pos e he
   all_goals
    have x0 := w.sx0
    have x1 := w.sx1
    have y0 := w.sy0
    have y1 := w.sy1
    have z0 : (V a b (i + 1) j).f0 = (V a b i j).f0 + (ed a i).f0 := by unfold V plus ed vec; dsimp only; omega
    have z1 : (V a b (i + 1) j).f1 = (V a b i j).f1 + (ed a i).f1 := by unfold V plus ed vec; dsimp only; omega
    have p0 : (P a (i + 1)).f0 = (P a i).f0 + (ed a i).f0 := by unfold ed vec; dsimp only; omega
    have p1 : (P a (i + 1)).f1 = (P a i).f1 + (ed a i).f1 := by unfold ed vec; dsimp only; omega
   ·simp only [s0, X]; omega
   ·simp only [s1, X]; omega
   ·simp only [s0, Y]; omega
   ·simp only [s1, Y]; omega
   ·have az := w.az
    rw [ep, par]
    simp only [s0, s1, Bq, Z, X, Y, cx] at az ⊢
    rw [z0, z1] at az ⊢
    grind
   ·have ax := w.ax
    rw [show a.length - i = (a.length - (i + 1)) + 1 by omega, arA]
    simp only [s0, s1, Bq, X, cx] at ax ⊢
    rw [p0, p1] at ax ⊢
    grind
   ·have ay := w.ay
    simp only [s0, s1, Bq, Y] at ay ⊢
    grind
  ·by_cases h2 : j < b.length ∧ (i < a.length → cx (ed a i) (ed b j) < 0)
   ·have ep : path a b (d + 1) i j = V a b i (j + 1) :: path a b d i (j + 1) := by
     conv => lhs; unfold path
     rw [if_neg h1, if_pos h2]
    have ni := (take_b ca cb hS h h2.1 h2.2).2
    obtain ⟨U, w⟩ := ih i (j + 1) ni (by omega)
    refine ⟨(ed b j, 0, 1) :: U, List.Pairwise.cons (fun e he => ?_) w.ord, fun e he => ?_, fun e he => ?_, ?_, ?_, ?_, ?_, ?_, ?_, ?_⟩
    ·have := (w.bef e he).2 (by omega); rwa [Nat.add_sub_cancel] at this
    ·have fb : 0 < j → Bf p q (ed b (j - 1)) (ed b j) := fun h0 => by
      have := cb.sorted (j - 1) (by omega); rwa [show j - 1 + 1 = j by omega] at this
     have fa : 0 < i → Bf p q (ed a (i - 1)) (ed b j) := fun h0 => h.2.2.2 h2.1 h0
     rcases List.mem_cons.mp he with r | he
     ·subst r; exact ⟨fa, fb⟩
     ·have g := (w.bef e he).2 (by omega)
      rw [Nat.add_sub_cancel] at g
      exact ⟨fun h0 => (fa h0).trans g, fun h0 => (fb h0).trans g⟩
    ·rcases List.mem_cons.mp he with r | he
     ·subst r; dsimp only [X, Y]; omega
     ·exact w.pos e he
    all_goals
     have x0 := w.sx0
     have x1 := w.sx1
     have y0 := w.sy0
     have y1 := w.sy1
     have z0 : (V a b i (j + 1)).f0 = (V a b i j).f0 + (ed b j).f0 := by unfold V plus ed vec; dsimp only; omega
     have z1 : (V a b i (j + 1)).f1 = (V a b i j).f1 + (ed b j).f1 := by unfold V plus ed vec; dsimp only; omega
     have p0 : (P b (j + 1)).f0 = (P b j).f0 + (ed b j).f0 := by unfold ed vec; dsimp only; omega
     have p1 : (P b (j + 1)).f1 = (P b j).f1 + (ed b j).f1 := by unfold ed vec; dsimp only; omega
    ·simp only [s0, X]; omega
    ·simp only [s1, X]; omega
    ·simp only [s0, Y]; omega
    ·simp only [s1, Y]; omega
    ·have az := w.az
     rw [ep, par]
     simp only [s0, s1, Bq, Z, X, Y, cx] at az ⊢
     rw [z0, z1] at az ⊢
     grind
    ·have ax := w.ax
     simp only [s0, s1, Bq, X] at ax ⊢
     grind
    ·have ay := w.ay
     rw [show b.length - j = (b.length - (j + 1)) + 1 by omega, arA]
     simp only [s0, s1, Bq, Y, cx] at ay ⊢
     rw [p0, p1] at ay ⊢
     grind
   ·by_cases h3 : i < a.length ∧ j < b.length
    ·have hc : cx (ed a i) (ed b j) = 0 := by
      rcases Int.lt_trichotomy (cx (ed a i) (ed b j)) 0 with x | x | x
      ·exact absurd ⟨h3.2, fun _ => x⟩ h2
      ·exact x
      ·exact absurd ⟨h3.1, fun _ => x⟩ h1
     have ep : path a b (d + 1) i j = V a b (i + 1) (j + 1) :: path a b d (i + 1) (j + 1) := by
      conv => lhs; unfold path
      rw [if_neg h1, if_neg h2, if_pos h3]
     have ni := (take_ab ca cb hS h h3.1 h3.2 hc).2
     obtain ⟨g, x, y, hx, hy, e0, e1, f0, f1⟩ := common p q _ (ed a i) (ed b j) (Nat.le_refl _) hc ((cmp3 ca cb h h3.1 h3.2).2.2 hc)
     obtain ⟨U, w⟩ := ih (i + 1) (j + 1) ni (by omega)
     refine ⟨(g, x, y) :: U, List.Pairwise.cons (fun e he => ?_) w.ord, fun e he => ?_, fun e he => ?_, ?_, ?_, ?_, ?_, ?_, ?_, ?_⟩
     ·have := (w.bef e he).2 (by omega)
      rw [Nat.add_sub_cancel] at this
      exact this.left hy f0 f1
     ·have fa : 0 < i → Bf p q (ed a (i - 1)) g := fun h0 => by
       have := ca.sorted (i - 1) (by omega)
       rw [show i - 1 + 1 = i by omega] at this
       exact this.right hx e0 e1
      have fb : 0 < j → Bf p q (ed b (j - 1)) g := fun h0 => by
       have := cb.sorted (j - 1) (by omega)
       rw [show j - 1 + 1 = j by omega] at this
       exact this.right hy f0 f1
      rcases List.mem_cons.mp he with r | he
      ·subst r; exact ⟨fa, fb⟩
      ·have k := (w.bef e he).2 (by omega)
       rw [Nat.add_sub_cancel] at k
       have k2 := k.left hy f0 f1
       exact ⟨fun h0 => (fa h0).trans k2, fun h0 => (fb h0).trans k2⟩
     ·rcases List.mem_cons.mp he with r | he
      ·subst r; dsimp only [X, Y]; omega
      ·exact w.pos e he
     all_goals
      have x0 := w.sx0
      have x1 := w.sx1
      have y0 := w.sy0
      have y1 := w.sy1
      have p0 : (P a (i + 1)).f0 = (P a i).f0 + x * g.f0 := by rw [← e0]; unfold ed vec; dsimp only; omega
      have p1 : (P a (i + 1)).f1 = (P a i).f1 + x * g.f1 := by rw [← e1]; unfold ed vec; dsimp only; omega
      have q0 : (P b (j + 1)).f0 = (P b j).f0 + y * g.f0 := by rw [← f0]; unfold ed vec; dsimp only; omega
      have q1 : (P b (j + 1)).f1 = (P b j).f1 + y * g.f1 := by rw [← f1]; unfold ed vec; dsimp only; omega
      have z0 : (V a b (i + 1) (j + 1)).f0 = (V a b i j).f0 + (x * g.f0 + y * g.f0) := by unfold V plus; dsimp only; omega
      have z1 : (V a b (i + 1) (j + 1)).f1 = (V a b i j).f1 + (x * g.f1 + y * g.f1) := by unfold V plus; dsimp only; omega
     ·simp only [s0, X] at x0 ⊢; omega
     ·simp only [s1, X] at x1 ⊢; omega
     ·simp only [s0, Y] at y0 ⊢; omega
     ·simp only [s1, Y] at y1 ⊢; omega
     ·have az := w.az
      rw [ep, par]
      simp only [s0, s1, Bq, Z, X, Y, cx] at az ⊢
      rw [z0, z1] at az ⊢
      grind
     ·have ax := w.ax
      rw [show a.length - i = (a.length - (i + 1)) + 1 by omega, arA]
      simp only [s0, s1, Bq, X, cx] at ax ⊢
      rw [p0, p1] at ax ⊢
      grind
     ·have ay := w.ay
      rw [show b.length - j = (b.length - (j + 1)) + 1 by omega, arA]
      simp only [s0, s1, Bq, Y, cx] at ay ⊢
      rw [q0, q1] at ay ⊢
      grind
    ·have e1 : i = a.length := by
      have := h.1
      rcases Nat.lt_or_ge i a.length with x | x
      ·exact absurd ⟨x, fun hj => absurd ⟨x, hj⟩ h3⟩ h1
      ·omega
     have e2 : j = b.length := by
      have := h.2.1
      rcases Nat.lt_or_ge j b.length with x | x
      ·exact absurd ⟨x, fun hi => absurd ⟨hi, x⟩ h3⟩ h2
      ·omega
     subst e1; subst e2; exact done (d + 1)
end
end Go.Proofs.Ytoffmpkgickfhaa.M
end
