/- Parts of the proof of YtoffmpkgickfhaaLawShapeNoFit: printed walks, their words, and plain laws. -/
import Derived.Test.YtoffmpkgickfhaaQN1
import Derived.Test.YtoffmpkgickfhaaQN2
import Derived.Test.YtoffmpkgickfhaaQN5
import Derived.Test.YtoffmpkgickfhaaQN4
import Derived.Test.YtoffmpkgickfhaaQN3
import Derived.KernelRfl
section
namespace Go.Proofs.Ytoffmpkgickfhaa.PG
open Go.RowKit Go.Proofs.YtoffmpkgickfhaaW.PrintWords Go.Proofs.YtoffmpkgickfhaaW.PrintLast Go.Proofs.YtoffmpkgickfhaaW.PrintMore
attribute [local go_sem] max2_int min2_int max_two min_two max_three min_three max_four min_four
set_option linter.unusedVariables false
set_option linter.unusedSimpArgs false
/-! ### shape_negative: function 80 -/
def shape_negative.l0 : Nat → List (S29) → List (S29) → Int → Int → Option ((List (S29)))
 | 0, _, _, _, _ => none
 | k + 1, x3, x6, x7, x8 => if x8 < x7 then (if 0 ≤ x8 then (if x8 < (x6.length : Int) then ((shape_sub.f 0 0 ((rd_T29 x6 x8).f0) ((rd_T29 x6 x8).f1)).bind fun bt103 => (if x3.length < 8796093022208 then (shape_negative.l0 k (x3 ++ [(⟨bt103.1, bt103.2⟩ : S29)]) x6 x7 (wrap64 (x8 + 1))) else (none))) else (none)) else (none)) else ((shape_begun.f k x3).bind fun t108 => (some t108))
def shape_negative.f (k : Nat) (l0 : List (S29)) : Option ((List (S29))) := shape_negative.l0 k ([] : List (S29)) l0 (l0.length : Int) 0
set_option maxHeartbeats 8000000 in
set_option maxRecDepth 100000 in
theorem shape_negative.calls (k : Nat) (A0 : Option Addr) (c0 : Nat) (l0 : List (S29)) (r : List (S29)) (w : World) (hr0 : Kd.C k29 w A0 l0.length l0) (hc0 : l0.length ≤ c0) (h : shape_negative.f k l0 = some r) :
  Calls Try.prog 80 #[.slice A0 l0.length c0] w fun e w' => ∃ v0_ : Value, e = .returned (v0_) ∧ Kd.R k29 29 w' w.heap.size (fun _ => True) v0_ r ∧ Below w.heap.size w w' := by
 have hu29 := Try.underlying29
 have HR0 := Aside0.mk hr0
 have HC0 := Aside0.mk hc0
 clear hr0 hc0
 have HB := Aside0.mk (Below.refl w.heap.size w)
 have H : (shape_negative.l0 k ([] : List (S29)) l0 (l0.length : Int) 0) = some r := h
 clear h
 have H' := Aside0.mk H
 clear H
 go_enter Try.func80, Try.ntmps80
 go_wp2
 go_loopg [3, 8] k (fun kq v3 v8 w' => ∃ (x3_1 : List (S29)) (x8_1 : Int), v8 = .int .i64 x8_1 ∧ Aside0 (shape_negative.l0 kq x3_1 l0 (l0.length : Int) x8_1 = some r) ∧ Aside0 (kq ≤ k) ∧ Aside0 (Kd.R k29 29 w' w.heap.size (fun _ => True) v3 x3_1) ∧ Aside0 (Below w.heap.size w w'))
 case atStart => exact ⟨(([] : List (S29))), (0), sd, H', ⟨Nat.le_refl _⟩, ⟨by first | exact Kd.R_nil _ _ _ _ _ | exact Kd.N_nil _ _ _ _ _ | exact Kd.V_nil _ _ _ _ _ | exact Kd.Q_nil _ _ _ _ _ | exact Kd.S_nil _ _ _ _ _⟩, ⟨bh⟩⟩
 case round =>
  clear H'
  obtain ⟨x3_1, x8_1, rfl, HA, HK1, HO_3, HB⟩ := hrel
  cases gk with
  | zero => exact absurd HA.out (by simp [shape_negative.l0])
  | succ k1 =>
   have H := HA.out
   clear HA
   simp only [shape_negative.l0] at H
   by_cases c2 : x8_1 < (l0.length : Int)
   ·rw [if_pos c2] at H
    have c2b0 := decide_eq_true c2
    clear c2
    by_cases c3 : 0 ≤ x8_1
    ·rw [if_pos c3] at H
     have c3b0 := decide_eq_true c3
     clear c3
     by_cases c4 : x8_1 < (l0.length : Int)
     ·rw [if_pos c4] at H
      have c4b0 := decide_eq_true c4
      clear c4
      replace H := Option.bind_eq_some_iff.mp H
      obtain ⟨⟨t103, t104⟩, A50, H⟩ := H
      try dsimp only at H
      have A5 := Aside0.mk A50
      clear A50
      by_cases c6 : x3_1.length < 8796093022208
      ·rw [if_pos c6] at H
       have LMc6 := Aside0.mk c6
       clear c6
       obtain ⟨y105, hy105⟩ : ∃ y_ : List (S29), y_ = (x3_1 ++ [(⟨t103, t104⟩ : S29)]) := ⟨_, rfl⟩
       replace H : (shape_negative.l0 k1 y105 l0 (l0.length : Int) (wrap64 (x8_1 + 1))) = some r := by first | (rw [hy105]; with_reducible exact H) | (have H2_ := (Option.bind_some _ _).symm.trans H; rw [hy105]; with_reducible exact H2_) | (have H2_ := (Option.bind_some _ _).symm.trans H; with_reducible exact H2_) | with_reducible exact H | (rw [hy105]; exact H) | exact H
       have Ny105 := Aside0.mk hy105
       clear hy105
       have H' := Aside0.mk H
       clear H
       have p101 : 0 ≤ (x8_1 : Int) := dt
       have q101 : x8_1 < (l0.length : Int) := dt
       obtain ⟨ad101, e101, hx101_0, hx101_1⟩ := at_T29 HR0.out x8_1 p101 q101
       cases e101
       replace hx101_0 := hc HB hx101_0
       replace hx101_1 := hc HB hx101_1
       replace p101 := eq_true p101
       replace q101 := eq_true q101
       go_wp2_with (first | ((with_reducible refine gate_dst (N := 5) rfl ?_); refine bxe 5 #[.int .i64 0, .int .i64 0] 29 ?_; intro gb102 hg w7 hbox hb; have BK102 := Aside0.mk (hbox); have GW102 := Aside0.mk (gs hg : w.heap.size ≤ gb102); have GE102 := Aside0.mk (gs hg : w.heap.size ≤ gb102); replace HO_3 := Aside0.mk (Kd.R_below (Kd.R_elderB (ro HO_3) gb102 (Nat.le_of_eq hg.symm)) hb); replace HB := Aside0.mk (below_step bh hb); clear hb hbox hg; have hcz8_0 : w7.cell? ⟨gb102, 0, none⟩ = some (.int .i64 0) := bc BK102 0; have hcz8_1 : w7.cell? ⟨gb102, 1, none⟩ = some (.int .i64 0) := bc BK102 1; have hfz8_0 := blk_frozen BK102.out 0; have hfz8_1 := blk_frozen BK102.out 1) | ((with_reducible refine gc 70 rfl ?_); refine goesL_ (some 15) rfl rfl Try.func70 (by kernel_rfl) rfl #[.agg #[.int .i64 0, .int .i64 0], .agg #[.int .i64 ((rd_T29 l0 x8_1).f0), .int .i64 ((rd_T29 l0 x8_1).f1)]] rfl sg ?_; (with_reducible refine (shape_sub.calls 0 0 ((rd_T29 l0 x8_1).f0) ((rd_T29 l0 x8_1).f1) t103 t104 _ A5.out).mono ?_); rintro e w9 ⟨rfl, hb⟩; refine ⟨_, rfl, ?_⟩; replace HO_3 := Aside0.mk (Kd.R_below (by (with_reducible repeat (first | apply Kd.R_alloc | apply Kd.R_drewN | apply Kd.R_drew)); exact (Kd.R_mono (Kd.R_far (p := ⟨gb102, 1, none⟩) (Kd.R_far (p := ⟨gb102, 0, none⟩) (Kd.R_mono HO_3.out (fun k_ hk => (⟨hk, hk.2⟩ : _ ∧ k_ ≠ gb102))) (fun _ hk => hk.2) (.int .i64 ((rd_T29 l0 x8_1).f0))) (fun _ hk => hk.2) (.int .i64 ((rd_T29 l0 x8_1).f1))) (fun _ h_ => h_.1))) hb); replace BK102 := Aside0.mk (blk_below (g := gb102) (o := .cells #[.int .i64 ((rd_T29 l0 x8_1).f0), .int .i64 ((rd_T29 l0 x8_1).f1)] 29 (0, 0)) (by (with_reducible repeat (first | refine blk_drewN ?_ _ | refine blk_drew ?_ | refine blk_alloc ?_ _)); refine blk_put (cs := #[.int .i64 ((rd_T29 l0 x8_1).f0), .int .i64 0]) ?_ 1 _ rfl; (with_reducible repeat (first | refine blk_drewN ?_ _ | refine blk_drew ?_ | refine blk_alloc ?_ _)); refine blk_put (cs := #[.int .i64 0, .int .i64 0]) ?_ 0 _ rfl; (with_reducible repeat (first | refine blk_drewN ?_ _ | refine blk_drew ?_ | refine blk_alloc ?_ _)); exact BK102.out) hb); replace HB := Aside0.mk (below_step bh hb); (try clear hb); (try clear hb2); (try clear hk); (try clear hi)) | ((with_reducible refine gate_builtin (b := .append) (xs := #[.tmp 12, .tmp 16]) rfl ?_); at_builtin; refine Kd.R_append k29 (w0 := w) w.heap.size rfl (.tmp 12) (.tmp 16) 22 29 (.agg #[(.int .i64 0), (.int .i64 0)]) 16 rfl Try.underlying22 info29 rfl (by decide) (by omega) u3 x3_1 (⟨t103, t104⟩ : S29) [.int .i64 t103, .int .i64 t104] (fun k_ => k_ ≠ gb102) (fun _ => False) rfl rfl ?aP (fun _ hk => hk.elim) ?aF ?aO ?aB ?aS ?aL ?_; (case aP => exact k29_mkM _ _ _ (⟨t103, t104⟩ : S29)); (case aB => exact bh); (case aF => exact (fun k_ hk => Kd.freshB (g := gb102) (o := .cells #[.int .i64 ((rd_T29 l0 x8_1).f0), .int .i64 ((rd_T29 l0 x8_1).f1)] 29 (0, 0)) (bk BK102) k_ hk)); (case aO => exact (by (with_reducible repeat (first | apply Kd.R_alloc | apply Kd.R_drewN | apply Kd.R_drew)); exact Kd.R_mono HO_3.out (fun _ hk => hk.2))); (case aS => exact (below_size bh)); (case aL => have := LMc6.out; omega); intro v106 w10 ho hb hg hat; rw [← Ny105.out] at ho; have HO107 := Aside0.mk (ho); replace BK102 := Aside0.mk (blk_grown (g := gb102) (o := .cells #[.int .i64 ((rd_T29 l0 x8_1).f0), .int .i64 ((rd_T29 l0 x8_1).f1)] 29 (0, 0)) (bk BK102) hg (Kd.R_away HO_3.out (fun _ hk => hk.2))); replace HB := Aside0.mk (hb); clear HO_3; clear ho hb hg hat))
       go_roundg k1
       case measure => have := HK1.out; omega
       case rel => exact ⟨(y105), (wrap64 (x8_1 + 1)), sd, H', ⟨by have := HK1.out; omega⟩, ⟨by (with_reducible repeat (first | apply Kd.R_alloc | apply Kd.R_drewN | apply Kd.R_drew)); exact Kd.R_mono HO107.out (fun _ hk => trivial)⟩, ⟨bh⟩⟩
      ·rw [if_neg c6] at H
       exact absurd H (by simp)
     ·rw [if_neg c4] at H
      exact absurd H (by simp)
    ·rw [if_neg c3] at H
     exact absurd H (by simp)
   ·rw [if_neg c2] at H
    have c2b0 := decide_eq_false c2
    clear c2
    replace H := Option.bind_eq_some_iff.mp H
    obtain ⟨t108, A110, H⟩ := H
    try dsimp only at H
    have A11 := Aside0.mk A110
    clear A110
    obtain rfl := Option.some.inj H
    obtain ⟨Ao12, co12, eo12⟩ := Kd.R_slice HO_3.out
    subst eo12
    go_wp2_with (first | ((with_reducible refine gc 58 rfl ?_); refine goesL_ (some 20) rfl rfl Try.func58 (by kernel_rfl) rfl #[.slice Ao12 x3_1.length co12] rfl sg ?_; (with_reducible refine (shape_begun.calls k1 (fun k_ => some k_ = (.slice Ao12 x3_1.length co12 : Value).ownBlock) _ _ x3_1 t108 _ ?side1 A11.out).mono ?_); (case side1 => exact Kd.R_V (Kd.R_tight rfl (HO_3.out))); rintro e w13 ⟨v109, rfl, ho0, hb⟩; refine ⟨_, rfl, ?_⟩; have HO110 := Aside0.mk (Kd.R_lower (Kd.R_new' (Kd.R_mono (ok' := fun k_ => True) ho0 (fun _ hk_ => trivial)) (Kd.R_lt (ro HO_3))) (below_size bh)); replace HO_3 := Aside0.mk (Kd.R_elder' (ro HO_3) (Kd.R_base ho0) hb); replace HB := Aside0.mk (below_step bh hb); (try clear hb); (try clear hb2); (try clear hk); (try clear hi); (try clear ho0)))
    go_ret
    exact ⟨_, by exact er, by (with_reducible repeat (first | apply Kd.R_alloc | apply Kd.R_drewN | apply Kd.R_drew)); exact Kd.R_mono HO110.out (fun _ hk => trivial), bh⟩
/-! ### shape_Negative: function 41 -/
def shape_Negative.f (k : Nat) (l0 : List (S29)) : Option ((List (S29)) × Int) := (shape_refused_normal.f k l0).bind fun t101 => (if t101 = 0 then ((shape_negative.f k l0).bind fun t102 => (some (t102, 0))) else (some (([] : List (S29)), t101)))
set_option maxHeartbeats 8000000 in
set_option maxRecDepth 100000 in
theorem shape_Negative.calls (k : Nat) (A0 : Option Addr) (c0 : Nat) (l0 : List (S29)) (r1 : List (S29)) (r2 : Int) (w : World) (hr0 : Kd.C k29 w A0 l0.length l0) (hc0 : l0.length ≤ c0) (h : shape_Negative.f k l0 = some (r1, r2)) :
  Calls Try.prog 41 #[.slice A0 l0.length c0] w fun e w' => ∃ v0_ : Value, e = .returned (.tuple #[v0_, .int .i64 r2]) ∧ Kd.R k29 29 w' w.heap.size (fun _ => True) v0_ r1 ∧ Below w.heap.size w w' := by
 have HR0 := Aside0.mk hr0
 have HC0 := Aside0.mk hc0
 clear hr0 hc0
 have HB := Aside0.mk (Below.refl w.heap.size w)
 have H : ((shape_refused_normal.f k l0).bind fun t101 => (if t101 = 0 then ((shape_negative.f k l0).bind fun t102 => (some (t102, 0))) else (some (([] : List (S29)), t101)))) = some (r1, r2) := h
 clear h
 replace H := Option.bind_eq_some_iff.mp H
 obtain ⟨t101, A20, H⟩ := H
 replace H : (if t101 = 0 then ((shape_negative.f k l0).bind fun t102 => (some (t102, 0))) else (some (([] : List (S29)), t101))) = some (r1, r2) := H
 have A2 := Aside0.mk A20
 clear A20
 by_cases c3 : t101 = 0
 ·rw [if_pos c3] at H
  have c3b0 : (t101 == 0) = true := beq_iff_eq.mpr c3
  have c3b1 : (t101 != 0) = false := bne_eq_false_iff_eq.mpr c3
  clear c3
  replace H := Option.bind_eq_some_iff.mp H
  obtain ⟨t102, A40, H⟩ := H
  replace H : (some (t102, 0)) = some (r1, r2) := H
  have A4 := Aside0.mk A40
  clear A40
  simp only [Option.some.injEq, Prod.mk.injEq] at H
  obtain ⟨rfl, rfl⟩ := H
  go_enter Try.func41, Try.ntmps41
  go_wp2_with (first | ((with_reducible refine gc 68 rfl ?_); refine goesL_ (some 6) rfl rfl Try.func68 (by kernel_rfl) rfl #[.slice A0 l0.length c0, .func (.func 72) #[] #[]] rfl sg ?_; (with_reducible refine (shape_refused_normal.calls k _ _ l0  t101 _ ?side1 ?side2 A2.out).mono ?_); (case side1 => repeat (first | exact HR0.out | (with_reducible refine Kd.C_alloc ?_ _) | (with_reducible refine Kd.C_drewN ?_ _) | (with_reducible refine Kd.C_drew ?_))); (case side2 => exact HC0.out); rintro e w5 ⟨rfl, hb⟩; refine ⟨_, rfl, ?_⟩; replace HB := Aside0.mk (below_step bh hb); (try clear hb); (try clear hb2); (try clear hk); (try clear hi)) | ((with_reducible refine gc 80 rfl ?_); refine goesL_ (some 11) rfl rfl Try.func80 (by kernel_rfl) rfl #[.slice A0 l0.length c0] rfl sg ?_; (with_reducible refine (shape_negative.calls k _ _ l0 t102 _ ?side1 ?side2 A4.out).mono ?_); (case side1 => exact cs (Kd.C_below HR0.out HB.out)); (case side2 => exact HC0.out); rintro e w6 ⟨v103, rfl, ho0, hb⟩; refine ⟨_, rfl, ?_⟩; have HO104 := Aside0.mk (Kd.R_lower ho0 (below_size bh)); replace HB := Aside0.mk (below_step bh hb); (try clear hb); (try clear hb2); (try clear hk); (try clear hi); (try clear ho0)))
  go_ret2
  exact ⟨_, by exact er, by (with_reducible repeat (first | apply Kd.R_alloc | apply Kd.R_drewN | apply Kd.R_drew)); exact HO104.out, bh⟩
 ·rw [if_neg c3] at H
  have c3b0 : (t101 == 0) = false := beq_eq_false_iff_ne.mpr c3
  have c3b1 : (t101 != 0) = true := bne_iff_ne.mpr c3
  simp only [Option.some.injEq, Prod.mk.injEq] at H
  obtain ⟨rfl, rfl⟩ := H
  go_enter Try.func41, Try.ntmps41
  go_wp2_with (first | ((with_reducible refine gc 68 rfl ?_); refine goesL_ (some 6) rfl rfl Try.func68 (by kernel_rfl) rfl #[.slice A0 l0.length c0, .func (.func 72) #[] #[]] rfl sg ?_; (with_reducible refine (shape_refused_normal.calls k _ _ l0  t101 _ ?side1 ?side2 A2.out).mono ?_); (case side1 => repeat (first | exact HR0.out | (with_reducible refine Kd.C_alloc ?_ _) | (with_reducible refine Kd.C_drewN ?_ _) | (with_reducible refine Kd.C_drew ?_))); (case side2 => exact HC0.out); rintro e w7 ⟨rfl, hb⟩; refine ⟨_, rfl, ?_⟩; replace HB := Aside0.mk (below_step bh hb); (try clear hb); (try clear hb2); (try clear hk); (try clear hi)))
  go_ret2
  exact ⟨_, by exact er, by first | exact Kd.R_nil _ _ _ _ _ | exact Kd.N_nil _ _ _ _ _ | exact Kd.V_nil _ _ _ _ _ | exact Kd.Q_nil _ _ _ _ _ | exact Kd.S_nil _ _ _ _ _, bh⟩
/-! ### cracknellaw04_ShapeNoFit: function 14 -/
def cracknellaw04_ShapeNoFit.f (k : Nat) (l0 : List (S29)) (l1 : List (S29)) (a2_0 : Int) (a2_1 : Int) : Option (Bool) := (cracknellaw04_hull.f k l0 4000).bind fun t102 => ((cracknellaw04_hull.f k l1 4000).bind fun t105 => ((shape_Negative.f k t105).bind fun bt108 => ((shape_Sum.f k t102 bt108.1).bind fun bt112 => ((shape_Apart.f k t102 t105 (Int.tmod a2_0 9001) (Int.tmod a2_1 9001)).bind fun bt116 => ((shape_Where.f k bt112.1 (Int.tmod a2_0 9001) (Int.tmod a2_1 9001)).bind fun bt118 => ((shape_Apart.f k t105 t102 (wrap64 (-(Int.tmod a2_0 9001))) (wrap64 (-(Int.tmod a2_1 9001)))).bind fun bt120 => (if bt108.2 = 0 then (if bt112.2 = 0 then (if bt116.2 = 0 then (if bt118.2 = 0 then (if bt120.2 = 0 then (if (bt116.1 == (decide (bt118.1 ≤ 0))) = true then (if (bt116.1 == bt120.1) = true then ((cracknellaw04_lives.f k).bind fun t122 => (some t122)) else (some false)) else (some false)) else (some false)) else (some false)) else (some false)) else (some false)) else (some false))))))))
set_option maxHeartbeats 8000000 in
set_option maxRecDepth 100000 in
theorem cracknellaw04_ShapeNoFit.calls (k : Nat) (A0 : Option Addr) (c0 : Nat) (l0 : List (S29)) (A1 : Option Addr) (c1 : Nat) (l1 : List (S29)) (a2_0 : Int) (a2_1 : Int) (r : Bool) (w : World) (hr0 : Kd.C k29 w A0 l0.length l0) (hc0 : l0.length ≤ c0) (hr1 : Kd.C k29 w A1 l1.length l1) (hc1 : l1.length ≤ c1) (h : cracknellaw04_ShapeNoFit.f k l0 l1 a2_0 a2_1 = some r) (hr : r = true) :
  Calls Try.prog 14 #[.slice A0 l0.length c0, .slice A1 l1.length c1, .agg #[.int .i64 a2_0, .int .i64 a2_1]] w fun e w' => e = .returned (.bool r) ∧ Below w.heap.size w w' := by
 have hu29 := Try.underlying29
 have HR0 := Aside0.mk hr0
 have HC0 := Aside0.mk hc0
 clear hr0 hc0
 have HR1 := Aside0.mk hr1
 have HC1 := Aside0.mk hc1
 clear hr1 hc1
 have HB := Aside0.mk (Below.refl w.heap.size w)
 have H : ((cracknellaw04_hull.f k l0 4000).bind fun t102 => ((cracknellaw04_hull.f k l1 4000).bind fun t105 => ((shape_Negative.f k t105).bind fun bt108 => ((shape_Sum.f k t102 bt108.1).bind fun bt112 => ((shape_Apart.f k t102 t105 (Int.tmod a2_0 9001) (Int.tmod a2_1 9001)).bind fun bt116 => ((shape_Where.f k bt112.1 (Int.tmod a2_0 9001) (Int.tmod a2_1 9001)).bind fun bt118 => ((shape_Apart.f k t105 t102 (wrap64 (-(Int.tmod a2_0 9001))) (wrap64 (-(Int.tmod a2_1 9001)))).bind fun bt120 => (if bt108.2 = 0 then (if bt112.2 = 0 then (if bt116.2 = 0 then (if bt118.2 = 0 then (if bt120.2 = 0 then (if (bt116.1 == (decide (bt118.1 ≤ 0))) = true then (if (bt116.1 == bt120.1) = true then ((cracknellaw04_lives.f k).bind fun t122 => (some t122)) else (some false)) else (some false)) else (some false)) else (some false)) else (some false)) else (some false)) else (some false))))))))) = some r := h
 clear h
 replace H := Option.bind_eq_some_iff.mp H
 obtain ⟨t102, A40, H⟩ := H
 try dsimp only at H
 have A4 := Aside0.mk A40
 clear A40
 replace H := Option.bind_eq_some_iff.mp H
 obtain ⟨t105, A50, H⟩ := H
 try dsimp only at H
 have A5 := Aside0.mk A50
 clear A50
 replace H := Option.bind_eq_some_iff.mp H
 obtain ⟨⟨t108, t109⟩, A60, H⟩ := H
 try dsimp only at H
 have A6 := Aside0.mk A60
 clear A60
 replace H := Option.bind_eq_some_iff.mp H
 obtain ⟨⟨t112, t115⟩, A70, H⟩ := H
 try dsimp only at H
 have A7 := Aside0.mk A70
 clear A70
 replace H := Option.bind_eq_some_iff.mp H
 obtain ⟨⟨t116, t117⟩, A80, H⟩ := H
 try dsimp only at H
 have A8 := Aside0.mk A80
 clear A80
 replace H := Option.bind_eq_some_iff.mp H
 obtain ⟨⟨t118, t119⟩, A90, H⟩ := H
 try dsimp only at H
 have A9 := Aside0.mk A90
 clear A90
 replace H := Option.bind_eq_some_iff.mp H
 obtain ⟨⟨t120, t121⟩, A100, H⟩ := H
 try dsimp only at H
 have A10 := Aside0.mk A100
 clear A100
 by_cases c11 : t109 = 0
 ·rw [if_pos c11] at H
  have c11b0 : (t109 == 0) = true := beq_iff_eq.mpr c11
  have c11b1 : (t109 != 0) = false := bne_eq_false_iff_eq.mpr c11
  clear c11
  by_cases c12 : t115 = 0
  ·rw [if_pos c12] at H
   have c12b0 : (t115 == 0) = true := beq_iff_eq.mpr c12
   have c12b1 : (t115 != 0) = false := bne_eq_false_iff_eq.mpr c12
   clear c12
   by_cases c13 : t117 = 0
   ·rw [if_pos c13] at H
    have c13b0 : (t117 == 0) = true := beq_iff_eq.mpr c13
    have c13b1 : (t117 != 0) = false := bne_eq_false_iff_eq.mpr c13
    clear c13
    by_cases c14 : t119 = 0
    ·rw [if_pos c14] at H
     have c14b0 : (t119 == 0) = true := beq_iff_eq.mpr c14
     have c14b1 : (t119 != 0) = false := bne_eq_false_iff_eq.mpr c14
     clear c14
     by_cases c15 : t121 = 0
     ·rw [if_pos c15] at H
      have c15b0 : (t121 == 0) = true := beq_iff_eq.mpr c15
      have c15b1 : (t121 != 0) = false := bne_eq_false_iff_eq.mpr c15
      clear c15
      by_cases c16 : (t116 == (decide (t118 ≤ 0))) = true
      ·rw [if_pos c16] at H
       have c16b0 : (t116 == (decide (t118 ≤ 0))) = true := c16
       (try (have c16b1 : decide (t116 = (decide (t118 ≤ 0))) = true := by simpa using c16))
       (try (have c16b2 : (t116 == (decide (t118 ≤ 0))) = true := by simpa using c16))
       clear c16
       by_cases c17 : (t116 == t120) = true
       ·rw [if_pos c17] at H
        have c17b0 : (t116 == t120) = true := c17
        (try (have c17b1 : decide (t116 = t120) = true := by simpa using c17))
        (try (have c17b2 : (t116 == t120) = true := by simpa using c17))
        clear c17
        replace H := Option.bind_eq_some_iff.mp H
        obtain ⟨t122, A180, H⟩ := H
        try dsimp only at H
        have A18 := Aside0.mk A180
        clear A180
        obtain rfl := Option.some.inj H
        go_enter Try.func14, Try.ntmps14
        go_wp2_with (first | ((with_reducible refine gate_dst (N := 5) rfl ?_); refine bxe 5 #[.int .i64 a2_0, .int .i64 a2_1] 29 ?_; intro gb101 hg w19 hbox hb; have BK101 := Aside0.mk (hbox); have GW101 := Aside0.mk (gs hg : w.heap.size ≤ gb101); have GE101 := Aside0.mk (gs hg : w.heap.size ≤ gb101); replace HB := Aside0.mk (below_step bh hb); clear hb hbox hg) | ((with_reducible refine gc 23 rfl ?_); refine goesL_ (some 20) rfl rfl Try.func23 (by kernel_rfl) rfl #[.slice A0 l0.length c0, .int .i64 4000] rfl sg ?_; (with_reducible refine (cracknellaw04_hull.calls k _ _ l0 4000 t102 _ ?side1 ?side2 A4.out).mono ?_); (case side1 => exact cs (Kd.C_below HR0.out HB.out)); (case side2 => exact HC0.out); rintro e w20 ⟨v103, rfl, ho0, hb⟩; refine ⟨_, rfl, ?_⟩; have HO104 := Aside0.mk (Kd.R_lower (Kd.R_newB ho0 (g := gb101) (o := .cells #[.int .i64 a2_0, .int .i64 a2_1] 29 (0, 0)) (bk BK101)) (below_size bh)); replace BK101 := kb BK101 hb; replace HB := Aside0.mk (below_step bh hb); (try clear hb); (try clear hb2); (try clear hk); (try clear hi); (try clear ho0)) | ((with_reducible refine gc 23 rfl ?_); refine goesL_ (some 22) rfl rfl Try.func23 (by kernel_rfl) rfl #[.slice A1 l1.length c1, .int .i64 4000] rfl sg ?_; (with_reducible refine (cracknellaw04_hull.calls k _ _ l1 4000 t105 _ ?side1 ?side2 A5.out).mono ?_); (case side1 => exact cs (Kd.C_below HR1.out HB.out)); (case side2 => exact HC1.out); rintro e w21 ⟨v106, rfl, ho0, hb⟩; refine ⟨_, rfl, ?_⟩; have HO107 := Aside0.mk (Kd.R_lower (Kd.R_newB (Kd.R_new' ho0 (Kd.R_lt (ro HO104))) (g := gb101) (o := .cells #[.int .i64 a2_0, .int .i64 a2_1] 29 (0, 0)) (bk BK101)) (below_size bh)); replace HO104 := Aside0.mk (Kd.R_elder' (ro HO104) (Kd.R_base ho0) hb); replace BK101 := kb BK101 hb; replace HB := Aside0.mk (below_step bh hb); (try clear hb); (try clear hb2); (try clear hk); (try clear hi); (try clear ho0); have hcz22_0 : w21.cell? ⟨gb101, 0, none⟩ = some (.int .i64 a2_0) := bc BK101 0; have hcz22_1 : w21.cell? ⟨gb101, 1, none⟩ = some (.int .i64 a2_1) := bc BK101 1; have hfz22_0 := blk_frozen BK101.out 0; have hfz22_1 := blk_frozen BK101.out 1; obtain ⟨Ao23, co23, eo23⟩ := Kd.R_slice HO107.out; subst eo23) | ((with_reducible refine gc 41 rfl ?_); refine goesL_ (some 32) rfl rfl Try.func41 (by kernel_rfl) rfl #[.slice Ao23 t105.length co23] rfl sg ?_; (with_reducible refine (shape_Negative.calls k _ _ t105 t108 t109 _ ?side1 ?side2 A6.out).mono ?_); (case side1 => refine (Kd.R_reads' (e := 29) (base := w.heap.size) (ok := fun k_ => ((True ∧ some k_ ≠ (v103 : Value).ownBlock) ∧ k_ ≠ gb101)) (n := t105.length) (c := co23) ?_).2.2; exact (by (with_reducible repeat (first | apply Kd.R_alloc | apply Kd.R_drewN | apply Kd.R_drew)); exact (Kd.R_mono (Kd.R_far (p := ⟨gb101, 1, none⟩) (Kd.R_far (p := ⟨gb101, 0, none⟩) (Kd.R_mono HO107.out (fun k_ hk => (⟨hk, hk.2⟩ : _ ∧ k_ ≠ gb101))) (fun _ hk => hk.2) (.int .i64 (Int.tmod a2_0 9001))) (fun _ hk => hk.2) (.int .i64 (Int.tmod a2_1 9001))) (fun _ h_ => h_.1)))); (case side2 => exact (Kd.R_reads' HO107.out).2.1); rintro e w24 ⟨v110, rfl, ho0, hb⟩; refine ⟨_, rfl, ?_⟩; have HO111 := Aside0.mk (Kd.R_lower (Kd.R_newB (Kd.R_new' (Kd.R_new' ho0 (Kd.R_lt (by (with_reducible repeat (first | apply Kd.R_alloc | apply Kd.R_drewN | apply Kd.R_drew)); exact (Kd.R_mono (Kd.R_far (p := ⟨gb101, 1, none⟩) (Kd.R_far (p := ⟨gb101, 0, none⟩) (Kd.R_mono HO104.out (fun k_ hk => (⟨hk, hk.1.2⟩ : _ ∧ k_ ≠ gb101))) (fun _ hk => hk.2) (.int .i64 (Int.tmod a2_0 9001))) (fun _ hk => hk.2) (.int .i64 (Int.tmod a2_1 9001))) (fun _ h_ => h_.1))))) (Kd.R_lt (by (with_reducible repeat (first | apply Kd.R_alloc | apply Kd.R_drewN | apply Kd.R_drew)); exact (Kd.R_mono (Kd.R_far (p := ⟨gb101, 1, none⟩) (Kd.R_far (p := ⟨gb101, 0, none⟩) (Kd.R_mono HO107.out (fun k_ hk => (⟨hk, hk.2⟩ : _ ∧ k_ ≠ gb101))) (fun _ hk => hk.2) (.int .i64 (Int.tmod a2_0 9001))) (fun _ hk => hk.2) (.int .i64 (Int.tmod a2_1 9001))) (fun _ h_ => h_.1))))) (g := gb101) (o := .cells #[.int .i64 (Int.tmod a2_0 9001), .int .i64 (Int.tmod a2_1 9001)] 29 (0, 0)) (by (with_reducible repeat (first | refine blk_drewN ?_ _ | refine blk_drew ?_ | refine blk_alloc ?_ _)); refine blk_put (cs := #[.int .i64 (Int.tmod a2_0 9001), .int .i64 a2_1]) ?_ 1 _ rfl; (with_reducible repeat (first | refine blk_drewN ?_ _ | refine blk_drew ?_ | refine blk_alloc ?_ _)); refine blk_put (cs := #[.int .i64 a2_0, .int .i64 a2_1]) ?_ 0 _ rfl; (with_reducible repeat (first | refine blk_drewN ?_ _ | refine blk_drew ?_ | refine blk_alloc ?_ _)); exact BK101.out)) (below_size bh)); replace HO104 := Aside0.mk (Kd.R_elder' (by (with_reducible repeat (first | apply Kd.R_alloc | apply Kd.R_drewN | apply Kd.R_drew)); exact (Kd.R_mono (Kd.R_far (p := ⟨gb101, 1, none⟩) (Kd.R_far (p := ⟨gb101, 0, none⟩) (Kd.R_mono HO104.out (fun k_ hk => (⟨hk, hk.1.2⟩ : _ ∧ k_ ≠ gb101))) (fun _ hk => hk.2) (.int .i64 (Int.tmod a2_0 9001))) (fun _ hk => hk.2) (.int .i64 (Int.tmod a2_1 9001))) (fun _ h_ => h_.1))) (Kd.R_base ho0) hb); replace HO107 := Aside0.mk (Kd.R_elder' (by (with_reducible repeat (first | apply Kd.R_alloc | apply Kd.R_drewN | apply Kd.R_drew)); exact (Kd.R_mono (Kd.R_far (p := ⟨gb101, 1, none⟩) (Kd.R_far (p := ⟨gb101, 0, none⟩) (Kd.R_mono HO107.out (fun k_ hk => (⟨hk, hk.2⟩ : _ ∧ k_ ≠ gb101))) (fun _ hk => hk.2) (.int .i64 (Int.tmod a2_0 9001))) (fun _ hk => hk.2) (.int .i64 (Int.tmod a2_1 9001))) (fun _ h_ => h_.1))) (Kd.R_base ho0) hb); replace BK101 := Aside0.mk (blk_below (g := gb101) (o := .cells #[.int .i64 (Int.tmod a2_0 9001), .int .i64 (Int.tmod a2_1 9001)] 29 (0, 0)) (by (with_reducible repeat (first | refine blk_drewN ?_ _ | refine blk_drew ?_ | refine blk_alloc ?_ _)); refine blk_put (cs := #[.int .i64 (Int.tmod a2_0 9001), .int .i64 a2_1]) ?_ 1 _ rfl; (with_reducible repeat (first | refine blk_drewN ?_ _ | refine blk_drew ?_ | refine blk_alloc ?_ _)); refine blk_put (cs := #[.int .i64 a2_0, .int .i64 a2_1]) ?_ 0 _ rfl; (with_reducible repeat (first | refine blk_drewN ?_ _ | refine blk_drew ?_ | refine blk_alloc ?_ _)); exact BK101.out) hb); replace HB := Aside0.mk (below_step bh hb); (try clear hb); (try clear hb2); (try clear hk); (try clear hi); (try clear ho0); obtain ⟨Ao25, co25, eo25⟩ := Kd.R_slice HO104.out; subst eo25; obtain ⟨Ao26, co26, eo26⟩ := Kd.R_slice HO111.out; subst eo26) | ((with_reducible refine gc 40 rfl ?_); refine goesL_ (some 38) rfl rfl Try.func40 (by kernel_rfl) rfl #[.slice Ao25 t102.length co25, .slice Ao26 t108.length co26] rfl sg ?_; (with_reducible refine (shape_Sum.calls k (fun k_ => some k_ = (.slice Ao25 t102.length co25 : Value).ownBlock) _ _ t102 (fun k_ => some k_ = (.slice Ao26 t108.length co26 : Value).ownBlock) _ _ t108 t112 t115 _ ?side1 ?side2 A7.out).mono ?_); (case side1 => exact Kd.R_V (Kd.R_tight rfl (HO104.out))); (case side2 => exact Kd.R_V (Kd.R_tight rfl (HO111.out))); rintro e w27 ⟨v113, rfl, ho0, hb⟩; refine ⟨_, rfl, ?_⟩; have HO114 := Aside0.mk (Kd.R_lower (Kd.R_newB (Kd.R_new' (Kd.R_new' (Kd.R_new' (Kd.R_mono (ok' := fun k_ => True) ho0 (fun _ hk_ => trivial)) (Kd.R_lt (ro HO104))) (Kd.R_lt (ro HO107))) (Kd.R_lt (ro HO111))) (g := gb101) (o := .cells #[.int .i64 (Int.tmod a2_0 9001), .int .i64 (Int.tmod a2_1 9001)] 29 (0, 0)) (bk BK101)) (below_size bh)); replace HO104 := Aside0.mk (Kd.R_elder' (ro HO104) (Kd.R_base ho0) hb); replace HO107 := Aside0.mk (Kd.R_elder' (ro HO107) (Kd.R_base ho0) hb); replace HO111 := Aside0.mk (Kd.R_elder' (ro HO111) (Kd.R_base ho0) hb); replace BK101 := kb BK101 hb; replace HB := Aside0.mk (below_step bh hb); (try clear hb); (try clear hb2); (try clear hk); (try clear hi); (try clear ho0); have hcz28_0 : w27.cell? ⟨gb101, 0, none⟩ = some (.int .i64 (Int.tmod a2_0 9001)) := bc BK101 0; have hcz28_1 : w27.cell? ⟨gb101, 1, none⟩ = some (.int .i64 (Int.tmod a2_1 9001)) := bc BK101 1; have hfz28_0 := blk_frozen BK101.out 0; have hfz28_1 := blk_frozen BK101.out 1) | ((with_reducible refine gc 35 rfl ?_); refine goesL_ (some 45) rfl rfl Try.func35 (by kernel_rfl) rfl #[.slice Ao25 t102.length co25, .slice Ao23 t105.length co23, .agg #[.int .i64 (Int.tmod a2_0 9001), .int .i64 (Int.tmod a2_1 9001)]] rfl sg ?_; (with_reducible refine (shape_Apart.calls k (fun k_ => some k_ = (.slice Ao25 t102.length co25 : Value).ownBlock) _ _ t102 (fun k_ => some k_ = (.slice Ao23 t105.length co23 : Value).ownBlock) _ _ t105 (Int.tmod a2_0 9001) (Int.tmod a2_1 9001) t116 t117 _ ?side1 ?side2 A8.out).mono ?_); (case side1 => exact Kd.R_V (Kd.R_tight rfl (HO104.out))); (case side2 => exact Kd.R_V (Kd.R_tight rfl (HO107.out))); rintro e w29 ⟨rfl, hb⟩; refine ⟨_, rfl, ?_⟩; replace HO104 := Aside0.mk (Kd.R_below (ro HO104) hb); replace HO107 := Aside0.mk (Kd.R_below (ro HO107) hb); replace HO111 := Aside0.mk (Kd.R_below (ro HO111) hb); replace HO114 := Aside0.mk (Kd.R_below (ro HO114) hb); replace BK101 := kb BK101 hb; replace HB := Aside0.mk (below_step bh hb); (try clear hb); (try clear hb2); (try clear hk); (try clear hi); have hcz30_0 : w29.cell? ⟨gb101, 0, none⟩ = some (.int .i64 (Int.tmod a2_0 9001)) := bc BK101 0; have hcz30_1 : w29.cell? ⟨gb101, 1, none⟩ = some (.int .i64 (Int.tmod a2_1 9001)) := bc BK101 1; have hfz30_0 := blk_frozen BK101.out 0; have hfz30_1 := blk_frozen BK101.out 1; obtain ⟨Ao31, co31, eo31⟩ := Kd.R_slice HO114.out; subst eo31) | ((with_reducible refine gc 32 rfl ?_); refine goesL_ (some 51) rfl rfl Try.func32 (by kernel_rfl) rfl #[.slice Ao31 t112.length co31, .agg #[.int .i64 (Int.tmod a2_0 9001), .int .i64 (Int.tmod a2_1 9001)]] rfl sg ?_; (with_reducible refine (shape_Where.calls k _ _ t112 (Int.tmod a2_0 9001) (Int.tmod a2_1 9001) t118 t119 _ ?side1 ?side2 A9.out).mono ?_); (case side1 => exact cs (Kd.R_reads' HO114.out).2.2); (case side2 => exact (Kd.R_reads' HO114.out).2.1); rintro e w32 ⟨rfl, hb⟩; refine ⟨_, rfl, ?_⟩; replace HO104 := Aside0.mk (Kd.R_below (ro HO104) hb); replace HO107 := Aside0.mk (Kd.R_below (ro HO107) hb); replace HO111 := Aside0.mk (Kd.R_below (ro HO111) hb); replace HO114 := Aside0.mk (Kd.R_below (ro HO114) hb); replace BK101 := kb BK101 hb; replace HB := Aside0.mk (below_step bh hb); (try clear hb); (try clear hb2); (try clear hk); (try clear hi); have hcz33_0 : w32.cell? ⟨gb101, 0, none⟩ = some (.int .i64 (Int.tmod a2_0 9001)) := bc BK101 0; have hcz33_1 : w32.cell? ⟨gb101, 1, none⟩ = some (.int .i64 (Int.tmod a2_1 9001)) := bc BK101 1; have hfz33_0 := blk_frozen BK101.out 0; have hfz33_1 := blk_frozen BK101.out 1) | ((with_reducible refine gc 35 rfl ?_); refine goesL_ (some 64) rfl rfl Try.func35 (by kernel_rfl) rfl #[.slice Ao23 t105.length co23, .slice Ao25 t102.length co25, .agg #[.int .i64 (wrap64 (-(Int.tmod a2_0 9001))), .int .i64 (wrap64 (-(Int.tmod a2_1 9001)))]] rfl sg ?_; (with_reducible refine (shape_Apart.calls k (fun k_ => some k_ = (.slice Ao23 t105.length co23 : Value).ownBlock) _ _ t105 (fun k_ => some k_ = (.slice Ao25 t102.length co25 : Value).ownBlock) _ _ t102 (wrap64 (-(Int.tmod a2_0 9001))) (wrap64 (-(Int.tmod a2_1 9001))) t120 t121 _ ?side1 ?side2 A10.out).mono ?_); (case side1 => exact Kd.R_V (Kd.R_tight rfl (HO107.out))); (case side2 => exact Kd.R_V (Kd.R_tight rfl (HO104.out))); rintro e w34 ⟨rfl, hb⟩; refine ⟨_, rfl, ?_⟩; replace HO104 := Aside0.mk (Kd.R_below (ro HO104) hb); replace HO107 := Aside0.mk (Kd.R_below (ro HO107) hb); replace HO111 := Aside0.mk (Kd.R_below (ro HO111) hb); replace HO114 := Aside0.mk (Kd.R_below (ro HO114) hb); replace BK101 := kb BK101 hb; replace HB := Aside0.mk (below_step bh hb); (try clear hb); (try clear hb2); (try clear hk); (try clear hi)) | (go_at_call 18; (with_reducible refine (cracknellaw04_lives.calls k  t122 _ A18.out).mono ?_); rintro e w35 ⟨rfl, hb⟩; replace HO104 := Aside0.mk (Kd.R_below (ro HO104) hb); replace HO107 := Aside0.mk (Kd.R_below (ro HO107) hb); replace HO111 := Aside0.mk (Kd.R_below (ro HO111) hb); replace HO114 := Aside0.mk (Kd.R_below (ro HO114) hb); replace BK101 := kb BK101 hb; replace HB := Aside0.mk (below_step bh hb); (try clear hb); (try clear hb2); (try clear hk); (try clear hi)))
        go_ret
        exact ⟨by exact er, bh⟩
       ·rw [if_neg c17] at H
        have c17b0 : (t116 == t120) = false := by simpa using c17
        (try (have c17b1 : decide (t116 = t120) = false := by simpa using c17))
        (try (have c17b2 : (t116 == t120) = false := by simpa using c17))
        (try (have c17b3 : ¬ (t116 = t120) := by simpa using c17))
        clear c17
        obtain rfl := Option.some.inj H
        cases hr
      ·rw [if_neg c16] at H
       have c16b0 : (t116 == (decide (t118 ≤ 0))) = false := by simpa using c16
       (try (have c16b1 : decide (t116 = (decide (t118 ≤ 0))) = false := by simpa using c16))
       (try (have c16b2 : (t116 == (decide (t118 ≤ 0))) = false := by simpa using c16))
       (try (have c16b3 : ¬ (t116 = (decide (t118 ≤ 0))) := by simpa using c16))
       clear c16
       obtain rfl := Option.some.inj H
       cases hr
     ·rw [if_neg c15] at H
      have c15b0 : (t121 == 0) = false := beq_eq_false_iff_ne.mpr c15
      have c15b1 : (t121 != 0) = true := bne_iff_ne.mpr c15
      obtain rfl := Option.some.inj H
      cases hr
    ·rw [if_neg c14] at H
     have c14b0 : (t119 == 0) = false := beq_eq_false_iff_ne.mpr c14
     have c14b1 : (t119 != 0) = true := bne_iff_ne.mpr c14
     obtain rfl := Option.some.inj H
     cases hr
   ·rw [if_neg c13] at H
    have c13b0 : (t117 == 0) = false := beq_eq_false_iff_ne.mpr c13
    have c13b1 : (t117 != 0) = true := bne_iff_ne.mpr c13
    obtain rfl := Option.some.inj H
    cases hr
  ·rw [if_neg c12] at H
   have c12b0 : (t115 == 0) = false := beq_eq_false_iff_ne.mpr c12
   have c12b1 : (t115 != 0) = true := bne_iff_ne.mpr c12
   obtain rfl := Option.some.inj H
   cases hr
 ·rw [if_neg c11] at H
  have c11b0 : (t109 == 0) = false := beq_eq_false_iff_ne.mpr c11
  have c11b1 : (t109 != 0) = true := bne_iff_ne.mpr c11
  obtain rfl := Option.some.inj H
  cases hr
end Go.Proofs.Ytoffmpkgickfhaa.PG
end
section
namespace Go.Proofs.Ytoffmpkgickfhaa.M
open Go.Proofs.Ytoffmpkgickfhaa.PG
abbrev Pt := S29
instance decS29 : DecidableEq S29 := fun a b => if h : a.f0 = b.f0 ∧ a.f1 = b.f1 then isTrue (by cases a; cases b; simp_all) else isFalse (by intro e; exact h (by rw [e]; exact ⟨rfl, rfl⟩))
def cr (a b c : Pt) : Int := (b.f0-a.f0)*(c.f1-a.f1) - (c.f0-a.f0)*(b.f1-a.f1)
/-- p lies on the segment from a to b (for collinear points) -/
def btw (a b p : Pt) : Prop := min a.f0 b.f0 ≤ p.f0 ∧ p.f0 ≤ max a.f0 b.f0 ∧ min a.f1 b.f1 ≤ p.f1 ∧ p.f1 ≤ max a.f1 b.f1
theorem pt_ext {a b : Pt} (h0 : a.f0 = b.f0) (h1 : a.f1 = b.f1) : a = b := by
 cases a; cases b; simp_all
theorem cr_swap (a b c : Pt) : cr a c b = -(cr a b c) := by unfold cr; grind
theorem cr_rot (a b c : Pt) : cr b c a = cr a b c := by unfold cr; grind
theorem cr_self1 (a b : Pt) : cr a b a = 0 := by unfold cr; grind
theorem cr_self2 (a b : Pt) : cr a b b = 0 := by unfold cr; grind
/-- a hull edge of the points S: all lie to its left, or on it -/
def HE (S : List Pt) (a b : Pt) : Prop := a ≠ b ∧ a ∈ S ∧ b ∈ S ∧ ∀ p ∈ S, 0 ≤ cr a b p ∧ (cr a b p = 0 → btw a b p)
theorem btw_eq {a b c : Pt} (h1 : btw a b c) (h2 : btw a c b) : b = c := by
 unfold btw at h1 h2
 apply pt_ext <;> omega
theorem btw_eq' {a b c : Pt} (h1 : btw a c b) (h2 : btw b c a) : a = b := by
 unfold btw at h1 h2
 apply pt_ext <;> omega
theorem he_succ {S : List Pt} {a b c : Pt} (h1 : HE S a b) (h2 : HE S a c) : b = c := by
 obtain ⟨_, _, hb, hB⟩ := h1
 obtain ⟨_, _, hc, hC⟩ := h2
 have h3 := hB c hc
 have h4 := hC b hb
 have h5 := cr_swap a b c
 exact btw_eq (h3.2 (by omega)) (h4.2 (by omega))
theorem he_pred {S : List Pt} {a b c : Pt} (h1 : HE S a c) (h2 : HE S b c) : a = b := by
 obtain ⟨_, ha, _, hA⟩ := h1
 obtain ⟨_, hb, _, hB⟩ := h2
 have h3 := hA b hb
 have h4 := hB a ha
 have h5 : cr b c a = -(cr a c b) := by unfold cr; grind
 exact btw_eq' (h3.2 (by omega)) (h4.2 (by omega))
/-- a linear functional -/
def fn (p q : Int) (a b : Pt) : Int := p * (b.f0 - a.f0) + q * (b.f1 - a.f1)
theorem pos_of_mul {a b : Int} (ha : 0 < a) (h : 0 < a * b) : 0 < b := by
 rcases Int.lt_trichotomy b 0 with h1 | h1 | h1
 ·have := Int.mul_neg_of_pos_of_neg ha h1; omega
 ·subst h1; simp at h
 ·exact h1
theorem nonneg_of_mul {a b : Int} (ha : 0 < a) (h : 0 ≤ a * b) : 0 ≤ b := by
 rcases Int.lt_trichotomy b 0 with h1 | h1 | h1
 ·have := Int.mul_neg_of_pos_of_neg ha h1; omega
 ·omega
 ·omega
/-- around o, in the half plane fn > 0: 'left of' is transitive -/
theorem tr {p q : Int} {o u v w : Pt} (hu : 0 < fn p q o u) (hv : 0 < fn p q o v) (hw : 0 < fn p q o w)
  (h1 : 0 ≤ cr o u v) (h2 : 0 ≤ cr o v w) : 0 ≤ cr o u w ∧ (0 < cr o u v ∨ 0 < cr o v w → 0 < cr o u w) := by
 have e : fn p q o v * cr o u w = fn p q o u * cr o v w + fn p q o w * cr o u v := by unfold fn cr; grind
 have a1 := Int.mul_nonneg (Int.le_of_lt hu) h2
 have a2 := Int.mul_nonneg (Int.le_of_lt hw) h1
 constructor
 ·exact nonneg_of_mul hv (by omega)
 ·intro h
  apply pos_of_mul hv
  rcases h with h | h
  ·have := Int.mul_pos hw h; omega
  ·have := Int.mul_pos hu h; omega
theorem le_of_mul_le {a b c : Int} (ha : 0 < a) (h : a * b ≤ a * c) : b ≤ c := Int.le_of_mul_le_mul_left h ha
/-- collinear, and between by a functional: between -/
theorem btw_of_fn {p q : Int} {a b c : Pt} (hb : 0 < fn p q a b) (h0 : 0 ≤ fn p q a c) (h1 : fn p q a c ≤ fn p q a b) (h : cr a b c = 0) : btw a b c := by
 have e0 : fn p q a b * (c.f0 - a.f0) = fn p q a c * (b.f0 - a.f0) := by unfold fn; unfold cr at h; grind
 have e1 : fn p q a b * (c.f1 - a.f1) = fn p q a c * (b.f1 - a.f1) := by unfold fn; unfold cr at h; grind
 have key : ∀ x y : Int, fn p q a b * x = fn p q a c * y → (0 ≤ y → 0 ≤ x ∧ x ≤ y) ∧ (y ≤ 0 → y ≤ x ∧ x ≤ 0) := by
  intro x y e
  constructor
  ·intro hy
   have m1 := Int.mul_nonneg h0 hy
   have m2 := Int.mul_le_mul_of_nonneg_right h1 hy
   exact ⟨nonneg_of_mul hb (by omega), le_of_mul_le hb (by omega)⟩
  ·intro hy
   have m1 := Int.mul_nonneg h0 (show 0 ≤ -y by omega)
   have m2 := Int.mul_le_mul_of_nonneg_right h1 (show 0 ≤ -y by omega)
   rw [Int.mul_neg] at m1 m2
   rw [Int.mul_neg] at m2
   exact ⟨le_of_mul_le hb (by omega), le_of_mul_le hb (by omega)⟩
 have k0 := key _ _ e0
 have k1 := key _ _ e1
 unfold btw
 omega
theorem fn_add (p q : Int) (a b c : Pt) : fn p q a c = fn p q a b + fn p q b c := by unfold fn; grind
theorem fn_neg (p q : Int) (a b : Pt) : fn p q b a = - fn p q a b := by unfold fn; grind
theorem fn_btw_le {p q : Int} {a b c : Pt} (h : btw a b c) (hc : cr a b c = 0) (hb : 0 < fn p q a b) : 0 ≤ fn p q a c ∧ fn p q a c ≤ fn p q a b := by
 unfold btw at h
 -- c = a + t (b - a), t in [0,1], coordinate by coordinate
 have e0 : fn p q a b * (c.f0 - a.f0) = fn p q a c * (b.f0 - a.f0) := by unfold fn; unfold cr at hc; grind
 have e1 : fn p q a b * (c.f1 - a.f1) = fn p q a c * (b.f1 - a.f1) := by unfold fn; unfold cr at hc; grind
 have hne : b.f0 - a.f0 ≠ 0 ∨ b.f1 - a.f1 ≠ 0 := by
  rcases Int.decEq (b.f0 - a.f0) 0 with h | h
  ·exact .inl h
  ·rcases Int.decEq (b.f1 - a.f1) 0 with h' | h'
   ·exact .inr h'
   ·unfold fn at hb; rw [h, h'] at hb; simp at hb
 have key : ∀ x y : Int, fn p q a b * x = fn p q a c * y → y ≠ 0 → (0 ≤ y → 0 ≤ x ∧ x ≤ y) → (y ≤ 0 → y ≤ x ∧ x ≤ 0) → 0 ≤ fn p q a c ∧ fn p q a c ≤ fn p q a b := by
  intro x y e hy h1 h2
  rcases Int.lt_trichotomy y 0 with h3 | h3 | h3
  ·have h4 := h2 (by omega)
   have m1 := Int.mul_nonneg (Int.le_of_lt hb) (show 0 ≤ -x by omega)
   have m2 := Int.mul_nonneg (Int.le_of_lt hb) (show 0 ≤ x - y by omega)
   rw [Int.mul_neg] at m1
   rw [Int.mul_sub] at m2
   constructor
   ·apply nonneg_of_mul (show 0 < -y by omega)
    rw [Int.neg_mul, Int.mul_comm]; omega
   ·apply le_of_mul_le (show 0 < -y by omega)
    rw [Int.neg_mul, Int.neg_mul, Int.mul_comm y, Int.mul_comm y]; omega
  ·exact absurd h3 hy
  ·have h4 := h1 (by omega)
   have m1 := Int.mul_nonneg (Int.le_of_lt hb) (show 0 ≤ x by omega)
   have m2 := Int.mul_nonneg (Int.le_of_lt hb) (show 0 ≤ y - x by omega)
   rw [Int.mul_sub] at m2
   constructor
   ·apply nonneg_of_mul h3
    rw [Int.mul_comm]; omega
   ·apply le_of_mul_le h3
    rw [Int.mul_comm y, Int.mul_comm y]; omega
 rcases hne with h' | h'
 ·exact key _ _ e0 h' (by omega) (by omega)
 ·exact key _ _ e1 h' (by omega) (by omega)
/-- R holds of each two that follow each other -/
def Pairs (R : Pt → Pt → Prop) : List Pt → Prop
 | [] => True
 | [_] => True
 | a :: b :: l => R a b ∧ Pairs R (b :: l)
theorem Pairs.mono {R R' : Pt → Pt → Prop} (h : ∀ a b, R a b → R' a b) : ∀ l, Pairs R l → Pairs R' l
 | [], _ => trivial
 | [_], _ => trivial
 | _ :: b :: l, ⟨h1, h2⟩ => ⟨h _ _ h1, Pairs.mono h (b :: l) h2⟩
theorem Pairs.append {R : Pt → Pt → Prop} {m : Pt} : ∀ (l l' : List Pt), Pairs R (l ++ [m]) → Pairs R (m :: l') → Pairs R (l ++ m :: l')
 | [], _, _, h => h
 | [_], _, ⟨h1, _⟩, h => ⟨h1, h⟩
 | _ :: b :: l, l', ⟨h1, h2⟩, h => ⟨h1, Pairs.append (b :: l) l' h2 h⟩
theorem Pairs.tail {R : Pt → Pt → Prop} {a : Pt} {l : List Pt} (h : Pairs R (a :: l)) : Pairs R l := by
 cases l with
 | nil => trivial
 | cons b l => exact h.2
theorem Pairs.left {R : Pt → Pt → Prop} : ∀ (l l' : List Pt), Pairs R (l ++ l') → Pairs R l
 | [], _, _ => trivial
 | [_], _, _ => trivial
 | _ :: b :: l, l', ⟨h1, h2⟩ => ⟨h1, Pairs.left (b :: l) l' h2⟩
theorem Pairs.right {R : Pt → Pt → Prop} : ∀ (l l' : List Pt), Pairs R (l ++ l') → Pairs R l'
 | [], _, h => h
 | _ :: l, l', h => Pairs.right l l' h.tail
theorem Pairs.at_ {R : Pt → Pt → Prop} {a b : Pt} {l l' : List Pt} (h : Pairs R (l ++ a :: b :: l')) : R a b := (Pairs.right l _ h).1
/-- two ways in a functional relation, from x on to the first a -/
theorem ways_eq {R : Pt → Pt → Prop} (hf : ∀ a b c, R a b → R a c → b = c) (a : Pt) : ∀ (x : Pt) (t t' : List Pt), Pairs R (x :: (t ++ [a])) → Pairs R (x :: (t' ++ [a])) → a ∉ t → a ∉ t' → t = t'
 | _, [], [], _, _, _, _ => rfl
 | _, [], y :: _, h, h', _, n' => absurd (hf _ _ _ h.1 h'.1) (fun e => n' (by simp [e]))
 | _, z :: _, [], h, h', n, _ => absurd (hf _ _ _ h.1 h'.1) (fun e => n (by simp [e]))
 | _, z :: t, y :: t', h, h', n, n' => by
  obtain rfl := hf _ _ _ h.1 h'.1
  rw [ways_eq hf a z t t' h.2 h'.2 (fun e => n (by simp [e])) (fun e => n' (by simp [e]))]
/-- a closed way of hull edges from a on, that comes to a at its end alone -/
def Ring (S : List Pt) (h : List Pt) : Prop := ∃ a t, h = a :: t ∧ a ∉ t ∧ Pairs (HE S) (a :: (t ++ [a]))
theorem ring_eq {S h h' : List Pt} (r : Ring S h) (r' : Ring S h') (e : h.head? = h'.head?) : h = h' := by
 obtain ⟨a, t, rfl, n, p⟩ := r
 obtain ⟨a', t', rfl, n', p'⟩ := r'
 obtain rfl : a = a' := by simpa using e
 rw [ways_eq (R := HE S) (fun _ _ _ => he_succ) a a t t' p p' n n']
theorem he_congr {S S' : List Pt} (h : ∀ a, a ∈ S ↔ a ∈ S') {a b : Pt} (he : HE S a b) : HE S' a b :=
 ⟨he.1, (h _).1 he.2.1, (h _).1 he.2.2.1, fun c hc => he.2.2.2 c ((h _).2 hc)⟩
/-! ### going round (gift wrapping) -/
instance (a b c : Pt) : Decidable (btw a b c) := by unfold btw; infer_instance
/-- one step of the inner loop -/
def wrapStep (o tq p : Pt) : Pt := if p = o then tq else if tq = o ∨ cr o tq p < 0 ∨ (cr o tq p = 0 ∧ cr o p tq = 0 ∧ btw o p tq) then p else tq
def wrap (S : List Pt) (o : Pt) : Pt := S.foldl (wrapStep o) o
/-- what the inner loop has found among T -/
def Found (T : List Pt) (o tq : Pt) : Prop := (tq = o ∧ ∀ t ∈ T, t = o) ∨ (tq ≠ o ∧ tq ∈ T ∧ ∀ t ∈ T, 0 ≤ cr o tq t ∧ (cr o tq t = 0 → btw o tq t))
theorem btw_end (o a : Pt) : btw o a a := by unfold btw; omega
theorem btw_start (o a : Pt) : btw o a o := by unfold btw; omega
theorem step_ok {p q : Int} {T : List Pt} {o tq x : Pt} (hT : ∀ t ∈ T ++ [x], t = o ∨ 0 < fn p q o t) (h : Found T o tq) : Found (T ++ [x]) o (wrapStep o tq x) := by
 unfold wrapStep
 split
 ·rename_i hx
  subst hx
  rcases h with ⟨rfl, h⟩ | ⟨h1, h2, h3⟩
  ·exact .inl ⟨rfl, by intro t ht; rcases List.mem_append.mp ht with ht | ht; exact h t ht; simpa using ht⟩
  ·refine .inr ⟨h1, by simp [h2], ?_⟩
   intro t ht
   rcases List.mem_append.mp ht with ht | ht
   ·exact h3 t ht
   ·simp at ht; subst ht; rw [cr_self1]; exact ⟨by omega, fun _ => btw_start _ _⟩
 ·rename_i hx
  have fx : 0 < fn p q o x := (hT x (by simp)).resolve_left hx
  rcases h with ⟨rfl, h⟩ | ⟨h1, h2, h3⟩
  ·rw [if_pos (.inl rfl)]
   refine .inr ⟨hx, by simp, ?_⟩
   intro t ht
   rcases List.mem_append.mp ht with ht | ht
   ·rw [h t ht, cr_self1]; exact ⟨by omega, fun _ => btw_start _ _⟩
   ·simp at ht; subst ht; rw [cr_self2]; exact ⟨by omega, fun _ => btw_end _ _⟩
  ·have ft : 0 < fn p q o tq := (hT tq (by simp [h2])).resolve_left h1
   split
   ·rename_i hc
    refine .inr ⟨hx, by simp, ?_⟩
    have h0 : 0 ≤ cr o x tq ∧ (cr o x tq = 0 → btw o x tq) := by
     rcases hc with hc | hc | hc
     ·exact absurd hc h1
     ·have := cr_swap o tq x; exact ⟨by omega, fun h => by omega⟩
     ·exact ⟨by omega, fun _ => hc.2.2⟩
    intro t ht
    rcases List.mem_append.mp ht with ht | ht
    ·rcases hT t (by simp [ht]) with rfl | hf
     ·rw [cr_self1]; exact ⟨by omega, fun _ => btw_start _ _⟩
     ·have := tr fx ft hf h0.1 (h3 t ht).1
      refine ⟨this.1, fun hz => ?_⟩
      have z1 : cr o x tq = 0 := by
       rcases Int.lt_trichotomy 0 (cr o x tq) with h5 | h5 | h5
       ·have := this.2 (.inl h5); omega
       ·exact h5.symm
       ·omega
      have z2 : cr o tq t = 0 := by
       rcases Int.lt_trichotomy 0 (cr o tq t) with h5 | h5 | h5
       ·have := this.2 (.inr h5); omega
       ·exact h5.symm
       ·have := (h3 t ht).1; omega
      have b1 := fn_btw_le (h0.2 z1) z1 fx
      have b2 := fn_btw_le ((h3 t ht).2 z2) z2 ft
      exact btw_of_fn fx b2.1 (by omega) hz
    ·simp at ht; subst ht; rw [cr_self2]; exact ⟨by omega, fun _ => btw_end _ _⟩
   ·rename_i hc
    refine .inr ⟨h1, by simp [h2], ?_⟩
    intro t ht
    rcases List.mem_append.mp ht with ht | ht
    ·exact h3 t ht
    ·simp at ht; subst ht
     have n1 : ¬ cr o tq t < 0 := fun h => hc (.inr (.inl h))
     refine ⟨by omega, fun hz => ?_⟩
     have n2 : ¬ btw o t tq := fun h => hc (.inr (.inr ⟨hz, by rw [cr_swap]; omega, h⟩))
     have hz' : cr o t tq = 0 := by rw [cr_swap]; omega
     by_cases hle : fn p q o t ≤ fn p q o tq
     ·exact btw_of_fn ft (Int.le_of_lt fx) hle hz
     ·exact absurd (btw_of_fn fx (Int.le_of_lt ft) (by omega) hz') n2
theorem wrap_ok {p q : Int} {S : List Pt} {o : Pt} (ho : o ∈ S) (hS : ∀ t ∈ S, t = o ∨ 0 < fn p q o t) (h2 : ∃ t ∈ S, t ≠ o) : HE S o (wrap S o) := by
 have H : ∀ (R T : List Pt) (tq : Pt), T ++ R = S → Found T o tq → Found S o (R.foldl (wrapStep o) tq) := by
  intro R
  induction R with
  | nil => intro T tq e h; rw [← e, List.append_nil]; exact h
  | cons x R ih =>
   intro T tq e h
   rw [List.foldl_cons]
   apply ih (T ++ [x]) _ (by rw [← e]; simp)
   apply step_ok (p := p) (q := q) _ h
   intro t ht
   apply hS
   rw [← e]
   rcases List.mem_append.mp ht with ht | ht
   ·simp [ht]
   ·simp at ht; simp [ht]
 have := H S [] o rfl (.inl ⟨rfl, by simp⟩)
 unfold wrap
 rcases this with ⟨_, h3⟩ | ⟨h3, h4, h5⟩
 ·obtain ⟨t, ht, hn⟩ := h2
  exact absurd (h3 t ht) hn
 ·exact ⟨fun e => h3 e.symm, ho, h4, h5⟩
/-- points that can be told from all others by a functional -/
def Corner (S : List Pt) (o : Pt) : Prop := ∃ p q, ∀ t ∈ S, t = o ∨ 0 < fn p q o t
theorem bounded (f : Pt → Int) : ∀ S : List Pt, ∃ B, ∀ t ∈ S, f t < B
 | [] => ⟨0, by simp⟩
 | a :: S => by
  obtain ⟨B, hB⟩ := bounded f S
  refine ⟨max B (f a + 1), ?_⟩
  intro t ht
  rcases List.mem_cons.mp ht with rfl | ht
  ·omega
  ·have := hB t ht; omega
/-- the end of a hull edge is a corner -/
theorem corner_of_he {S : List Pt} {a b : Pt} (h : HE S a b) : Corner S b := by
 obtain ⟨hab, ha, hb, hS⟩ := h
 let g : Pt → Int := fun t => (b.f0 - a.f0) * (t.f0 - b.f0) + (b.f1 - a.f1) * (t.f1 - b.f1)
 obtain ⟨B, hB⟩ := bounded g S
 have hB0 : 0 < B := by have := hB b hb; simp [g] at this; exact this
 refine ⟨B * -(b.f1 - a.f1) - (b.f0 - a.f0), B * (b.f0 - a.f0) - (b.f1 - a.f1), ?_⟩
 intro t ht
 by_cases e : t = b
 ·exact .inl e
 ·right
  have e1 : fn (B * -(b.f1 - a.f1) - (b.f0 - a.f0)) (B * (b.f0 - a.f0) - (b.f1 - a.f1)) b t = B * cr a b t - g t := by simp only [g, fn, cr]; grind
  rw [e1]
  have h1 := hS t ht
  have h2 := hB t ht
  rcases Int.lt_trichotomy 0 (cr a b t) with h3 | h3 | h3
  ·have := Int.mul_le_mul_of_nonneg_left (show 1 ≤ cr a b t by omega) (Int.le_of_lt hB0)
   omega
  ·rw [← h3]
   have hbt := h1.2 h3.symm
   have hc : cr a b t = 0 := h3.symm
   -- t is between a and b, not b: it lies behind
   have : g t < 0 := by
    have k0 : (b.f0 - a.f0) * (t.f0 - b.f0) ≤ 0 := by
     unfold btw at hbt
     rcases Int.le_total a.f0 b.f0 with h5 | h5
     ·have := Int.mul_nonneg (show 0 ≤ b.f0 - a.f0 by omega) (show 0 ≤ b.f0 - t.f0 by omega); grind
     ·have := Int.mul_nonneg (show 0 ≤ a.f0 - b.f0 by omega) (show 0 ≤ t.f0 - b.f0 by omega); grind
    have k1 : (b.f1 - a.f1) * (t.f1 - b.f1) ≤ 0 := by
     unfold btw at hbt
     rcases Int.le_total a.f1 b.f1 with h5 | h5
     ·have := Int.mul_nonneg (show 0 ≤ b.f1 - a.f1 by omega) (show 0 ≤ b.f1 - t.f1 by omega); grind
     ·have := Int.mul_nonneg (show 0 ≤ a.f1 - b.f1 by omega) (show 0 ≤ t.f1 - b.f1 by omega); grind
    rcases Int.lt_trichotomy (g t) 0 with h5 | h5 | h5
    ·exact h5
    ·exfalso
     simp only [g] at h5
     have z0 : (b.f0 - a.f0) * (t.f0 - b.f0) = 0 := by omega
     have z1 : (b.f1 - a.f1) * (t.f1 - b.f1) = 0 := by omega
     have z2 : (b.f0 - a.f0) * (t.f1 - b.f1) = (b.f1 - a.f1) * (t.f0 - b.f0) := by unfold cr at hc; grind
     have hne : b.f0 - a.f0 ≠ 0 ∨ b.f1 - a.f1 ≠ 0 := by
      rcases Int.decEq (b.f0 - a.f0) 0 with y | y
      ·exact .inl y
      ·exact .inr fun y1 => hab (pt_ext (by omega) (by omega))
     have fin : t.f0 - b.f0 = 0 ∧ t.f1 - b.f1 = 0 := by
      rcases hne with y | y
      ·have w0 := (Int.mul_eq_zero.mp z0).resolve_left y
       rw [w0, Int.mul_zero] at z2
       exact ⟨w0, (Int.mul_eq_zero.mp z2).resolve_left y⟩
      ·have w0 := (Int.mul_eq_zero.mp z1).resolve_left y
       rw [w0, Int.mul_zero] at z2
       exact ⟨(Int.mul_eq_zero.mp z2.symm).resolve_left y, w0⟩
     exact e (pt_ext (by omega) (by omega))
    ·simp only [g] at h5; omega
   omega
  ·omega
/-- lower, or as low and more to the left -/
def first (a b : Pt) : Prop := a.f1 < b.f1 ∨ (a.f1 = b.f1 ∧ a.f0 < b.f0)
instance (a b : Pt) : Decidable (first a b) := by unfold first; infer_instance
theorem corner_of_first {S : List Pt} {o : Pt} (h : ∀ t ∈ S, t = o ∨ first o t) : Corner S o := by
 obtain ⟨B, hB⟩ := bounded (fun t => o.f0 - t.f0) S
 refine ⟨1, max B 1, ?_⟩
 intro t ht
 rcases h t ht with h1 | h1
 ·exact .inl h1
 ·right
  have h2 := hB t ht
  unfold fn
  rcases h1 with h1 | h1
  ·have := Int.mul_le_mul_of_nonneg_left (show 1 ≤ t.f1 - o.f1 by omega) (show 0 ≤ max B 1 by omega)
   omega
  ·rw [show t.f1 - o.f1 = 0 by omega]; omega
/-- going round: the corners from o on, the last one first -/
def around (S : List Pt) : Nat → Pt → List Pt
 | 0, o => [o]
 | n + 1, o => o :: around S n (wrap S o)
theorem length_le_of_nodup {l S : List Pt} (hn : l.Nodup) (h : ∀ a ∈ l, a ∈ S) : l.length ≤ S.length := by
 induction l generalizing S with
 | nil => simp
 | cons a l ih =>
  have ha := h a (by simp)
  have h2 : ∀ b ∈ l, b ∈ S.erase a := by
   intro b hb
   have hne : b ≠ a := by rintro rfl; exact (List.nodup_cons.mp hn).1 hb
   exact (List.mem_erase_of_ne hne).2 (h b (by simp [hb]))
  have := ih (List.nodup_cons.mp hn).2 h2
  have hl := List.length_erase_of_mem ha
  have : 0 < S.length := List.length_pos_of_mem ha
  simp only [List.length_cons]; omega
theorem ring_around {S : List Pt} {o : Pt} (ho : o ∈ S) (hmin : ∀ t ∈ S, t = o ∨ first o t) (h2 : ∃ a b, a ∈ S ∧ b ∈ S ∧ a ≠ b) :
  ∃ n, n < S.length ∧ Ring S (around S n o) ∧ (∃ x, (around S n o).getLast? = some x ∧ wrap S x = o) ∧ (∀ m, m < n → ∃ x, (around S m o).getLast? = some x ∧ wrap S x ≠ o) := by
 have other : ∀ x ∈ S, ∃ t ∈ S, t ≠ x := by
  intro x _
  obtain ⟨a, b, ha, hb, hab⟩ := h2
  by_cases e : a = x
  ·exact ⟨b, hb, fun e' => hab (e.trans e'.symm)⟩
  ·exact ⟨a, ha, e⟩
 have step : ∀ x, x ∈ S → Corner S x → HE S x (wrap S x) := by
  intro x hx hc
  obtain ⟨p, q, h⟩ := hc
  exact wrap_ok hx h (other x hx)
 have snoc : ∀ n x, ∃ y, (around S n x).getLast? = some y ∧ around S (n + 1) x = around S n x ++ [wrap S y] := by
  intro n
  induction n with
  | zero => intro x; exact ⟨x, rfl, rfl⟩
  | succ n ih =>
   intro x
   obtain ⟨y, h1, h2⟩ := ih (wrap S x)
   refine ⟨y, ?_, ?_⟩
   ·rw [around, List.getLast?_cons, h1]; rfl
   ·rw [around, h2]; rfl
 have pairs : ∀ n x, x ∈ S → Corner S x → Pairs (HE S) (around S n x) ∧ (∀ y ∈ around S n x, y ∈ S ∧ Corner S y) := by
  intro n
  induction n with
  | zero => intro x hx hc; exact ⟨trivial, by intro y hy; simp [around] at hy; subst hy; exact ⟨hx, hc⟩⟩
  | succ n ih =>
   intro x hx hc
   have he := step x hx hc
   obtain ⟨h1, h2⟩ := ih (wrap S x) he.2.2.1 (corner_of_he he)
   refine ⟨?_, ?_⟩
   ·cases n with
    | zero => exact ⟨he, trivial⟩
    | succ n => exact ⟨he, h1⟩
   ·intro y hy
    rw [around] at hy
    rcases List.mem_cons.mp hy with rfl | hy
    ·exact ⟨hx, hc⟩
    ·exact h2 y hy
 have hco := corner_of_first hmin
 -- as long as o does not come, all are different
 have nodup : ∀ n, (∀ m, m < n → ∃ x, (around S m o).getLast? = some x ∧ wrap S x ≠ o) → (around S n o).Nodup ∧ o ∉ (around S n o).tail := by
  intro n
  induction n with
  | zero => intro _; simp [around]
  | succ n ih =>
   intro h
   obtain ⟨h1, h2⟩ := ih (fun m hm => h m (by omega))
   obtain ⟨y, e1, e2⟩ := snoc n o
   obtain ⟨y', e1', hn⟩ := h n (by omega)
   obtain rfl : y = y' := by rw [e1] at e1'; simpa using e1'
   have hy : y ∈ around S n o := List.mem_of_getLast? e1
   have hP := (pairs n o ho hco).1
   have hS := (pairs n o ho hco).2 y hy
   have hey := step y hS.1 hS.2
   rw [e2]
   obtain ⟨t, et⟩ : ∃ t, around S n o = o :: t := by cases n <;> exact ⟨_, rfl⟩
   rw [et] at h1 h2 e1 hy hP ⊢
   have hnot : wrap S y ∉ o :: t := by
    intro hm
    rcases List.mem_cons.mp hm with hm | hm
    ·exact hn hm
    ·-- it has one before it, which is y: but y is the last
     obtain ⟨l1, l2, el⟩ := List.append_of_mem hm
     have el' : o :: t = (o :: l1) ++ wrap S y :: l2 := by rw [el]; rfl
     obtain ⟨l0, z, ez⟩ : ∃ l0 z, o :: l1 = l0 ++ [z] := ⟨(o :: l1).dropLast, (o :: l1).getLast (by simp), (List.dropLast_concat_getLast (by simp)).symm⟩
     rw [el', ez, List.append_assoc] at hP
     have hz : HE S z (wrap S y) := Pairs.at_ hP
     have hzy := he_pred hz hey
     subst hzy
     rw [el', ez] at h1 e1
     rw [List.nodup_append] at h1
     have e3 : (wrap S z :: l2).getLast? = some z := by
      rw [List.getLast?_append, List.getLast?_eq_some_getLast (by simp : wrap S z :: l2 ≠ []), Option.some_or] at e1
      rw [List.getLast?_eq_some_getLast (by simp : wrap S z :: l2 ≠ [])]
      exact e1
     exact h1.2.2 z (by simp) z (List.mem_of_getLast? e3) rfl
   refine ⟨?_, ?_⟩
   ·rw [List.nodup_append]
    refine ⟨h1, by simp, ?_⟩
    intro a ha b hb e
    simp at hb
    subst hb; subst e
    exact hnot ha
   ·simp only [List.cons_append, List.tail_cons] at h2 ⊢
    intro hm
    rcases List.mem_append.mp hm with hm | hm
    ·exact h2 hm
    ·simp at hm; exact hn hm.symm
 have len : ∀ n x, (around S n x).length = n + 1 := by
  intro n
  induction n with
  | zero => intro x; rfl
  | succ n ih => intro x; simp [around, ih]
 -- so it comes
 have ex : ∃ n, n < S.length ∧ (∃ x, (around S n o).getLast? = some x ∧ wrap S x = o) ∧ (∀ m, m < n → ∃ x, (around S m o).getLast? = some x ∧ wrap S x ≠ o) := by
  apply Classical.byContradiction
  intro hno
  have all : ∀ n, n ≤ S.length → ∀ m, m < n → ∃ x, (around S m o).getLast? = some x ∧ wrap S x ≠ o := by
   intro n
   induction n with
   | zero => intro _ m hm; omega
   | succ n ih =>
    intro hn m hm
    have hb := ih (by omega)
    by_cases e : m < n
    ·exact hb m e
    ·obtain rfl : m = n := by omega
     obtain ⟨y, e1, _⟩ := snoc m o
     by_cases hw : wrap S y = o
     ·exact absurd ⟨m, by omega, ⟨y, e1, hw⟩, hb⟩ hno
     ·exact ⟨y, e1, hw⟩
  have h1 := (nodup S.length (all _ (Nat.le_refl _))).1
  have := length_le_of_nodup h1 (fun a ha => ((pairs S.length o ho hco).2 a ha).1)
  rw [len] at this
  omega
 obtain ⟨n, hn, ⟨x, e1, hw⟩, hm⟩ := ex
 refine ⟨n, hn, ?_, ⟨x, e1, hw⟩, hm⟩
 obtain ⟨h1, h2⟩ := nodup n hm
 obtain ⟨t, et⟩ : ∃ t, around S n o = o :: t := by cases n <;> exact ⟨_, rfl⟩
 have hP := (pairs n o ho hco).1
 have hx := (pairs n o ho hco).2 x (List.mem_of_getLast? e1)
 have he := step x hx.1 hx.2
 rw [hw] at he
 rw [et] at h2 e1 hP ⊢
 refine ⟨o, t, rfl, h2, ?_⟩
 obtain ⟨l0, z, ez⟩ : ∃ l0 z, o :: t = l0 ++ [z] := ⟨(o :: t).dropLast, (o :: t).getLast (by simp), (List.dropLast_concat_getLast (by simp)).symm⟩
 have : z = x := by rw [ez, List.getLast?_concat] at e1; simpa using e1
 subst this
 rw [← List.cons_append, ez, List.append_assoc]
 rw [ez] at hP
 exact Pairs.append l0 [o] hP ⟨he, trivial⟩
/-! ### a ring by its indices -/
def at_ (h : List Pt) (i : Nat) : Pt := h.getD i ⟨0, 0⟩
theorem at_eq {h : List Pt} {i : Nat} (hi : i < h.length) : at_ h i = h[i] := by
 unfold at_; rw [List.getD_eq_getElem?_getD, List.getElem?_eq_getElem hi]; rfl
theorem at_mem {h : List Pt} {i : Nat} (hi : i < h.length) : at_ h i ∈ h := by
 rw [at_eq hi]; exact List.getElem_mem hi
theorem pairs_at {R : Pt → Pt → Prop} : ∀ (l : List Pt), Pairs R l → ∀ i, i + 1 < l.length → R (at_ l i) (at_ l (i + 1))
 | a :: b :: l, h, 0, _ => h.1
 | a :: b :: l, h, i + 1, hi => pairs_at (b :: l) h.2 i (by simpa using hi)
 | [_], _, _, hi => by simp at hi
 | [], _, _, hi => by simp at hi
theorem ring_at {S h : List Pt} (r : Ring S h) : ∀ i, i < h.length → HE S (at_ h i) (at_ h ((i + 1) % h.length)) := by
 obtain ⟨a, t, rfl, _, hp⟩ := r
 intro i hi
 have h1 := pairs_at _ hp i (by simpa using hi)
 have e1 : at_ (a :: (t ++ [a])) i = at_ (a :: t) i := by
  unfold at_; rw [List.getD_eq_getElem?_getD, List.getD_eq_getElem?_getD, ← List.cons_append, List.getElem?_append_left hi]
 have e2 : at_ (a :: (t ++ [a])) (i + 1) = at_ (a :: t) ((i + 1) % (a :: t).length) := by
  by_cases e : i + 1 = (a :: t).length
  ·rw [e, Nat.mod_self]; unfold at_; rw [List.getD_eq_getElem?_getD, ← List.cons_append, List.getElem?_append_right (by simp)]; simp
  ·have : i + 1 < (a :: t).length := by omega
   rw [Nat.mod_eq_of_lt this]
   unfold at_; rw [List.getD_eq_getElem?_getD, List.getD_eq_getElem?_getD, ← List.cons_append, List.getElem?_append_left this]
 rw [e1, e2] at h1
 exact h1
theorem ring_inj {S h : List Pt} (r : Ring S h) : ∀ i j, i < h.length → j < h.length → at_ h i = at_ h j → i = j := by
 have hr := ring_at r
 have h0 : ∀ j, 0 < j → j < h.length → at_ h 0 ≠ at_ h j := by
  obtain ⟨a, t, rfl, ha, _⟩ := r
  intro j hj hl e
  apply ha
  have : at_ (a :: t) j ∈ t := by
   match j, hj with
   | j + 1, _ => rw [at_eq hl]; simp
  rw [← e] at this
  exact this
 -- shift both back
 have back : ∀ i j, i < j → j < h.length → at_ h i ≠ at_ h j := by
  intro i
  induction i with
  | zero => exact fun j hj hl => h0 j hj hl
  | succ i ih =>
   intro j hj hl e
   have a1 := hr i (by omega)
   have a2 := hr (j - 1) (by omega)
   rw [Nat.mod_eq_of_lt (by omega)] at a1
   rw [show j - 1 + 1 = j by omega, Nat.mod_eq_of_lt hl, ← e] at a2
   exact ih (j - 1) (by omega) (by omega) (he_pred a1 a2)
 intro i j hi hj e
 rcases Nat.lt_trichotomy i j with h1 | h1 | h1
 ·exact absurd e (back i j h1 hj)
 ·exact h1
 ·exact absurd e.symm (back j i h1 hi)
theorem ring_corner {S h : List Pt} (r : Ring S h) : ∀ i, i < h.length → Corner S (at_ h i) ∧ at_ h i ∈ S := by
 intro i hi
 have hr := ring_at r
 rcases Nat.eq_zero_or_pos i with rfl | h0
 ·have := hr (h.length - 1) (by omega)
  rw [show h.length - 1 + 1 = h.length by omega, Nat.mod_self] at this
  exact ⟨corner_of_he this, this.2.2.1⟩
 ·have := hr (i - 1) (by omega)
  rw [show i - 1 + 1 = i by omega, Nat.mod_eq_of_lt hi] at this
  exact ⟨corner_of_he this, this.2.2.1⟩
theorem corner_not_between {S : List Pt} {v a b : Pt} (hv : Corner S v) (ha : a ∈ S) (hb : b ∈ S) (hab : a ≠ b) (hc : cr a b v = 0) (hbt : btw a b v) : v = a ∨ v = b := by
 obtain ⟨p, q, hF⟩ := hv
 rcases hF a ha with h1 | h1
 ·exact .inl h1.symm
 ·rcases hF b hb with h2 | h2
  ·exact .inr h2.symm
  ·exfalso
   have e0 : (v.f0 - a.f0) * fn p q v b + (b.f0 - v.f0) * fn p q v a = 0 := by unfold fn; unfold cr at hc; grind
   have e1 : (v.f1 - a.f1) * fn p q v b + (b.f1 - v.f1) * fn p q v a = 0 := by unfold fn; unfold cr at hc; grind
   have key : ∀ x y z : Int, (v.f0 = v.f0) → (min x z ≤ y ∧ y ≤ max x z) → (y - x) * fn p q v b + (z - y) * fn p q v a = 0 → x = z := by
    intro x y z _ hb e
    rcases Int.lt_trichotomy x z with h | h | h
    ·have m1 := Int.mul_nonneg (show 0 ≤ y - x by omega) (Int.le_of_lt h2)
     have m2 := Int.mul_nonneg (show 0 ≤ z - y by omega) (Int.le_of_lt h1)
     have k1 : (y - x) * fn p q v b = 0 := by omega
     have k2 : (z - y) * fn p q v a = 0 := by omega
     rcases Int.mul_eq_zero.mp k1 with k | k <;> rcases Int.mul_eq_zero.mp k2 with k' | k' <;> omega
    ·exact h
    ·have m1 := Int.mul_nonneg (show 0 ≤ x - y by omega) (Int.le_of_lt h2)
     have m2 := Int.mul_nonneg (show 0 ≤ y - z by omega) (Int.le_of_lt h1)
     have w1 : (y - x) * fn p q v b = - ((x - y) * fn p q v b) := by rw [← Int.neg_mul]; congr 1; omega
     have w2 : (z - y) * fn p q v a = - ((y - z) * fn p q v a) := by rw [← Int.neg_mul]; congr 1; omega
     have k1 : (y - x) * fn p q v b = 0 := by omega
     have k2 : (z - y) * fn p q v a = 0 := by omega
     rcases Int.mul_eq_zero.mp k1 with k | k <;> rcases Int.mul_eq_zero.mp k2 with k' | k' <;> omega
   unfold btw at hbt
   exact hab (pt_ext (key _ _ _ rfl ⟨hbt.1, hbt.2.1⟩ e0) (key _ _ _ rfl ⟨hbt.2.2.1, hbt.2.2.2⟩ e1))
/-- strongly convex: each corner lies to the left of each edge that it is not an end of -/
def Strong (h : List Pt) : Prop :=
 (∀ i, i < h.length → at_ h i ≠ at_ h ((i + 1) % h.length)) ∧
 (∀ i j, i < h.length → j < h.length → at_ h i = at_ h j → i = j) ∧
 ∀ i k, i < h.length → k < h.length → 0 ≤ cr (at_ h i) (at_ h ((i + 1) % h.length)) (at_ h k) ∧
  (cr (at_ h i) (at_ h ((i + 1) % h.length)) (at_ h k) = 0 → k = i ∨ k = (i + 1) % h.length)
theorem ring_strong {S h : List Pt} (r : Ring S h) : Strong h := by
 have hr := ring_at r
 have hi := ring_inj r
 refine ⟨fun i h1 => (hr i h1).1, hi, ?_⟩
 intro i k h1 h2
 have he := hr i h1
 have hk := ring_corner r k h2
 have hn : (i + 1) % h.length < h.length := Nat.mod_lt _ (by omega)
 have := he.2.2.2 _ hk.2
 refine ⟨this.1, fun h0 => ?_⟩
 rcases corner_not_between hk.1 he.2.1 he.2.2.1 he.1 h0 (this.2 h0) with e | e
 ·exact .inl (hi _ _ h2 h1 e)
 ·exact .inr (hi _ _ h2 hn e)
/-- on a segment, as the reference has it -/
def On (a b p : Pt) : Prop := cr a b p = 0 ∧ btw a b p
instance (a b p : Pt) : Decidable (On a b p) := by unfold On; infer_instance
def Meet (a b c d : Pt) : Prop := On a b c ∨ On a b d ∨ On c d a ∨ On c d b ∨
 (((0 < cr a b c ∧ cr a b d < 0) ∨ (cr a b c < 0 ∧ 0 < cr a b d)) ∧ ((0 < cr c d a ∧ cr c d b < 0) ∨ (cr c d a < 0 ∧ 0 < cr c d b)))
instance (a b c d : Pt) : Decidable (Meet a b c d) := by unfold Meet; infer_instance
/-- simple, as the reference has it -/
def Simple (l : List Pt) : Prop :=
 (∀ i, i < l.length → at_ l i ≠ at_ l ((i + 1) % l.length)) ∧
 ∀ i, i < l.length → ¬ On (at_ l i) (at_ l ((i + 1) % l.length)) (at_ l ((i + 1 + 1) % l.length)) ∧
  ¬ On (at_ l ((i + 1) % l.length)) (at_ l ((i + 1 + 1) % l.length)) (at_ l i) ∧
  ∀ k, i + 2 ≤ k → k < l.length → (k + 1) % l.length ≠ i → ¬ Meet (at_ l i) (at_ l ((i + 1) % l.length)) (at_ l k) (at_ l ((k + 1) % l.length))
/-- convex in normal form, as the reference has it -/
def Convex (l : List Pt) : Prop :=
 Simple l ∧ ∀ i, i < l.length → 0 < cr (at_ l i) (at_ l ((i + 1) % l.length)) (at_ l ((i + 1 + 1) % l.length)) ∧ (0 < i → first (at_ l 0) (at_ l i))
theorem mod_two {n i : Nat} (hn : 3 ≤ n) (hi : i < n) : (i + 1 + 1) % n ≠ i ∧ (i + 1 + 1) % n ≠ (i + 1) % n ∧ (i + 1) % n ≠ i := by
 by_cases h1 : i + 1 + 1 < n
 ·rw [Nat.mod_eq_of_lt h1, Nat.mod_eq_of_lt (by omega : i + 1 < n)]; omega
 ·by_cases h2 : i + 1 < n
  ·rw [Nat.mod_eq_of_lt h2, show i + 1 + 1 = n by omega, Nat.mod_self]; omega
  ·rw [show i + 1 = n by omega, Nat.mod_self, show n + 1 = 1 + n by omega, Nat.add_mod_right, Nat.mod_eq_of_lt (by omega)]; omega
theorem strong_turn {l : List Pt} (hn : 3 ≤ l.length) (h : Strong l) (i : Nat) (hi : i < l.length) : 0 < cr (at_ l i) (at_ l ((i + 1) % l.length)) (at_ l ((i + 1 + 1) % l.length)) := by
 have hm := mod_two hn hi
 have hk : (i + 1 + 1) % l.length < l.length := Nat.mod_lt _ (by omega)
 have := h.2.2 i _ hi hk
 rcases Int.lt_trichotomy 0 (cr (at_ l i) (at_ l ((i + 1) % l.length)) (at_ l ((i + 1 + 1) % l.length))) with h1 | h1 | h1
 ·exact h1
 ·rcases this.2 h1.symm with e | e
  ·exact absurd e hm.1
  ·exact absurd e hm.2.1
 ·omega
theorem strong_simple {l : List Pt} (hn : 3 ≤ l.length) (h : Strong l) : Simple l := by
 refine ⟨h.1, ?_⟩
 intro i hi
 have ht := strong_turn hn h i hi
 have hr := cr_rot (at_ l i) (at_ l ((i + 1) % l.length)) (at_ l ((i + 1 + 1) % l.length))
 refine ⟨fun o => by have := o.1; omega, fun o => by have := o.1; omega, ?_⟩
 intro k hk1 hk2 hk3 hm
 have hi1 : (i + 1) % l.length < l.length := Nat.mod_lt _ (by omega)
 have hk4 : (k + 1) % l.length < l.length := Nat.mod_lt _ (by omega)
 have ei : (i + 1) % l.length = i + 1 := Nat.mod_eq_of_lt (by omega)
 have c1 := h.2.2 i k hi hk2
 have c2 := h.2.2 i _ hi hk4
 have c3 := h.2.2 k i hk2 hi
 have c4 := h.2.2 k _ hk2 hi1
 rcases hm with hm | hm | hm | hm | hm
 ·have := c1.2 hm.1; omega
 ·have := c2.2 hm.1
  rcases this with e | e
  ·exact hk3 e
  ·rw [ei] at e
   by_cases h5 : k + 1 < l.length
   ·rw [Nat.mod_eq_of_lt h5] at e; omega
   ·rw [show k + 1 = l.length by omega, Nat.mod_self] at e; omega
 ·have := c3.2 hm.1; omega
 ·rcases c4.2 hm.1 with e | e
  ·omega
  ·rw [ei] at e
   by_cases h5 : k + 1 < l.length
   ·rw [Nat.mod_eq_of_lt h5] at e; omega
   ·rw [show k + 1 = l.length by omega, Nat.mod_self] at e; omega
 ·omega
theorem strong_convex {l : List Pt} (hn : 3 ≤ l.length) (h : Strong l) (h0 : ∀ i, i < l.length → 0 < i → first (at_ l 0) (at_ l i)) : Convex l :=
 ⟨strong_simple hn h, fun i hi => ⟨strong_turn hn h i hi, h0 i hi⟩⟩
/-- all on one line -/
def Flat (S : List Pt) : Prop := ∀ a ∈ S, ∀ b ∈ S, ∀ c ∈ S, cr a b c = 0
theorem flat_of_edge {S : List Pt} {a b : Pt} (hab : a ≠ b) (h : ∀ c ∈ S, cr a b c = 0) : Flat S := by
 intro x hx y hy z hz
 have e1 := h x hx
 have e2 := h y hy
 have e3 := h z hz
 have k0 : (b.f0 - a.f0) * cr x y z = 0 := by unfold cr at *; grind
 have k1 : (b.f1 - a.f1) * cr x y z = 0 := by unfold cr at *; grind
 rcases Int.mul_eq_zero.mp k0 with k | k
 ·rcases Int.mul_eq_zero.mp k1 with k' | k'
  ·exact absurd (pt_ext (by omega) (by omega)) hab
  ·exact k'
 ·exact k
theorem ring_three {S h : List Pt} (r : Ring S h) (hf : ¬ Flat S) : 3 ≤ h.length := by
 have hr := ring_at r
 have h0 : 0 < h.length := by obtain ⟨a, t, rfl, _⟩ := r; simp
 rcases Nat.lt_or_ge h.length 3 with h3 | h3
 ·exfalso
  have a1 := hr 0 h0
  by_cases e : h.length = 1
  ·rw [e] at a1; exact a1.1 rfl
  ·have e2 : h.length = 2 := by omega
   have a2 := hr 1 (by omega)
   rw [e2] at a1 a2
   simp only [Nat.zero_add, Nat.mod_self, Nat.one_mod] at a1 a2
   apply hf
   apply flat_of_edge a1.1
   intro c hc
   have b1 := (a1.2.2.2 c hc).1
   have b2 := (a2.2.2.2 c hc).1
   have : cr (at_ h (1 % 2)) (at_ h 0) c = - cr (at_ h 0) (at_ h (1 % 2)) c := by unfold cr; grind
   simp only [Nat.one_mod] at *
   omega
 ·exact h3
/-- the first of the corners is the first of all points -/
theorem ring_first {S h : List Pt} (r : Ring S h) (hf : ¬ Flat S) (i : Nat) (hi : i < h.length) (hmin : ∀ k, k < h.length → k = i ∨ first (at_ h i) (at_ h k)) : ∀ p ∈ S, p = at_ h i ∨ first (at_ h i) p := by
 have hn := ring_three r hf
 have hs := ring_strong r
 have hr := ring_at r
 intro x hx
 obtain ⟨B, hB⟩ := bounded (fun t => max ((at_ h i).f0 - t.f0) (t.f0 - (at_ h i).f0)) (x :: h)
 -- the neighbours
 obtain ⟨j, hj, ej⟩ : ∃ j, j < h.length ∧ (j + 1) % h.length = i := by
  rcases Nat.eq_zero_or_pos i with rfl | h0
  ·exact ⟨h.length - 1, by omega, by rw [show h.length - 1 + 1 = h.length by omega, Nat.mod_self]⟩
  ·exact ⟨i - 1, by omega, by rw [show i - 1 + 1 = i by omega, Nat.mod_eq_of_lt hi]⟩
 have h1 := (hr j hj).2.2.2 x hx
 have h2 := (hr i hi).2.2.2 x hx
 have ht := strong_turn hn hs j hj
 have hm := mod_two hn hj
 have hm2 := mod_two hn hi
 have ej2 : (j + 1 + 1) % h.length = (i + 1) % h.length := by rw [← ej, Nat.mod_add_mod]
 rw [ej2, ej] at ht
 rw [ej] at h1 hm
 have hk : (i + 1) % h.length < h.length := Nat.mod_lt _ (by omega)
 have f1 : first (at_ h i) (at_ h j) := (hmin j hj).resolve_left (fun e => hm.2.2 e.symm)
 have f2 : first (at_ h i) (at_ h ((i + 1) % h.length)) := (hmin _ hk).resolve_left hm2.2.2
 generalize at_ h i = o at *
 generalize hu : at_ h j = u at *
 generalize hw : at_ h ((i + 1) % h.length) = w at *
 have bx := hB x (by simp)
 have bu := hB u (by rw [← hu]; simp [at_mem hj])
 have bw := hB w (by rw [← hw]; simp [at_mem hk])
 have F : ∀ t : Pt, max (o.f0 - t.f0) (t.f0 - o.f0) < B → (first o t ↔ 0 < fn 1 B o t) := by
  intro t hb
  unfold first fn
  constructor
  ·rintro (h | ⟨h, h'⟩)
   ·have := Int.mul_le_mul_of_nonneg_left (show 1 ≤ t.f1 - o.f1 by omega) (show 0 ≤ B by omega); omega
   ·rw [show t.f1 - o.f1 = 0 by omega]; omega
  ·intro h
   rcases Int.lt_trichotomy o.f1 t.f1 with h3 | h3 | h3
   ·exact .inl h3
   ·rw [show t.f1 - o.f1 = 0 by omega] at h; exact .inr ⟨h3, by omega⟩
   ·have := Int.mul_le_mul_of_nonneg_left (show 1 ≤ o.f1 - t.f1 by omega) (show 0 ≤ B by omega)
    have e : B * (t.f1 - o.f1) = - (B * (o.f1 - t.f1)) := by grind
    omega
 have g1 := (F u bu).1 f1
 have g2 := (F w bw).1 f2
 by_cases e : x = o
 ·exact .inl e
 ·right
  rw [F x bx]
  have id : fn 1 B o x * cr u o w = fn 1 B o w * cr u o x + fn 1 B o u * cr o w x := by unfold fn cr; grind
  have m1 := Int.mul_nonneg (Int.le_of_lt g2) h1.1
  have m2 := Int.mul_nonneg (Int.le_of_lt g1) h2.1
  rcases Int.lt_trichotomy 0 (fn 1 B o x) with h3 | h3 | h3
  ·exact h3
  ·exfalso
   rw [← h3] at id
   have z1 : fn 1 B o w * cr u o x = 0 := by omega
   have z2 : fn 1 B o u * cr o w x = 0 := by omega
   have z3 := (Int.mul_eq_zero.mp z1).resolve_left (by omega)
   have z4 := (Int.mul_eq_zero.mp z2).resolve_left (by omega)
   -- x lies on both lines: it is o
   have y0 : cr u o w * (x.f0 - o.f0) = 0 := by unfold cr at *; grind
   have y1 : cr u o w * (x.f1 - o.f1) = 0 := by unfold cr at *; grind
   have := (Int.mul_eq_zero.mp y0).resolve_left (by omega)
   have := (Int.mul_eq_zero.mp y1).resolve_left (by omega)
   exact e (pt_ext (by omega) (by omega))
  ·have := Int.mul_neg_of_neg_of_pos h3 ht; omega
theorem ring_rot {S h1 h2 : List Pt} (r : Ring S (h1 ++ h2)) (h : h2 ≠ []) : Ring S (h2 ++ h1) := by
 cases h1 with
 | nil => simpa using r
 | cons a t1 =>
  cases h2 with
  | nil => exact absurd rfl h
  | cons b t2 =>
   have hi := ring_inj r
   obtain ⟨a', t, e, ha, hp⟩ := r
   simp only [List.cons_append, List.cons.injEq] at e
   obtain ⟨rfl, rfl⟩ := e
   have e1 : a :: (t1 ++ b :: t2 ++ [a]) = (a :: t1) ++ (b :: (t2 ++ [a])) := by simp
   rw [e1] at hp
   have q1 : Pairs (HE S) ((a :: t1) ++ [b]) := by
    apply Pairs.left ((a :: t1) ++ [b]) (t2 ++ [a]); simpa using hp
   have q2 := Pairs.right _ _ hp
   refine ⟨b, t2 ++ a :: t1, by simp, ?_, ?_⟩
   ·intro hb
    -- b stands at one place alone
    obtain ⟨n, hn, en⟩ := List.mem_iff_getElem.mp hb
    simp only [List.length_append, List.length_cons] at hn
    have p0 : at_ (a :: t1 ++ b :: t2) (t1.length + 1) = b := by
     unfold at_; rw [List.getD_eq_getElem?_getD, List.getElem?_append_right (by simp)]; simp
    by_cases hlt : n < t2.length
    ·have p1 : at_ (a :: t1 ++ b :: t2) (t1.length + 1 + (n + 1)) = b := by
      unfold at_
      rw [List.getD_eq_getElem?_getD, List.getElem?_append_right (by simp)]
      rw [List.getElem_append_left hlt] at en
      simp only [List.length_cons, Nat.add_sub_cancel_left, List.getElem?_cons_succ]
      rw [List.getElem?_eq_getElem hlt]; exact en
     have := hi (t1.length + 1) (t1.length + 1 + (n + 1)) (by simp) (by simp; omega) (p0.trans p1.symm)
     omega
    ·have p1 : at_ (a :: t1 ++ b :: t2) (n - t2.length) = b := by
      unfold at_
      rw [List.getD_eq_getElem?_getD, List.getElem?_append_left (by simp; omega)]
      rw [List.getElem_append_right (by omega)] at en
      rw [List.getElem?_eq_getElem (by simp; omega)]; exact en
     have := hi (t1.length + 1) (n - t2.length) (by simp) (by simp; omega) (p0.trans p1.symm)
     omega
   ·have := Pairs.append (b :: t2) (t1 ++ [b]) (by simpa using q2) (by simpa using q1)
    simpa using this
theorem ring_congr {S S' h : List Pt} (e : ∀ a, a ∈ S ↔ a ∈ S') (r : Ring S h) : Ring S' h := by
 obtain ⟨a, t, e1, h1, h2⟩ := r
 exact ⟨a, t, e1, h1, Pairs.mono (fun _ _ h => he_congr e h) _ h2⟩
theorem first_tri (a b : Pt) : a = b ∨ first a b ∨ first b a := by
 unfold first
 rcases Int.lt_trichotomy a.f1 b.f1 with h | h | h
 ·exact .inr (.inl (.inl h))
 ·rcases Int.lt_trichotomy a.f0 b.f0 with h' | h' | h'
  ·exact .inr (.inl (.inr ⟨h, h'⟩))
  ·exact .inl (pt_ext h' h)
  ·exact .inr (.inr (.inr ⟨h.symm, h'⟩))
 ·exact .inr (.inr (.inl h))
theorem first_trans {a b c : Pt} (h : first a b) (h' : first b c) : first a c := by unfold first at *; omega
theorem first_irrefl (a : Pt) : ¬ first a a := by unfold first; omega
/-- the ring from the first point on: there is one alone -/
theorem rings_one {S h h' : List Pt} (hf : ¬ Flat S) (r : Ring S h) (r' : Ring S h') (m : ∀ k, k < h.length → k = 0 ∨ first (at_ h 0) (at_ h k)) (m' : ∀ p ∈ S, p = at_ h' 0 ∨ first (at_ h' 0) p) : h = h' := by
 have l := ring_three r hf
 have l' := ring_three r' hf
 have h1 := ring_first r hf 0 (by omega) m
 have a1 := (ring_corner r 0 (by omega)).2
 have a2 := (ring_corner r' 0 (by omega)).2
 have e : at_ h 0 = at_ h' 0 := by
  rcases h1 _ a2 with e | e
  ·exact e.symm
  ·rcases m' _ a1 with e' | e'
   ·exact e'
   ·exact absurd (first_trans e e') (first_irrefl _)
 apply ring_eq r r'
 obtain ⟨x, t, rfl, _⟩ := r
 obtain ⟨x', t', rfl, _⟩ := r'
 exact congrArg some e
theorem flat_ring {S h : List Pt} (r : Ring S h) (hf : Flat S) : h.length < 3 := by
 rcases Nat.lt_or_ge h.length 3 with h3 | h3
 ·exact h3
 ·have hs := (ring_strong r).2.2 0 2 (by omega) (by omega)
  have c0 := (ring_corner r 0 (by omega)).2
  have c1 := (ring_corner r ((0 + 1) % h.length) (Nat.mod_lt _ (by omega))).2
  have c2 := (ring_corner r 2 (by omega)).2
  have := hs.2 (hf _ c0 _ c1 _ c2)
  rw [Nat.mod_eq_of_lt (by omega)] at this
  omega
/-- flat, seen from one point -/
theorem flat_of_first {S : List Pt} {o : Pt} (h : ∀ a ∈ S, ∀ b ∈ S, cr o a b = 0) : Flat S := by
 by_cases e : ∃ a ∈ S, a ≠ o
 ·obtain ⟨a, ha, hne⟩ := e
  exact flat_of_edge (fun e => hne e.symm) (h a ha)
 ·have : ∀ a ∈ S, a = o := fun a ha => Classical.byContradiction fun hn => e ⟨a, ha, hn⟩
  intro a ha b hb c hc
  rw [this a ha, this b hb, this c hc, cr_self1]
theorem two_of_not_flat {S : List Pt} (hf : ¬ Flat S) : ∃ a b, a ∈ S ∧ b ∈ S ∧ a ≠ b := by
 apply Classical.byContradiction
 intro hn
 apply hf
 intro a ha b hb c hc
 have e : ∀ x ∈ S, x = a := fun x hx => Classical.byContradiction fun hne => hn ⟨x, a, hx, ha, hne⟩
 rw [e b hb, e c hc, cr_self1]
end Go.Proofs.Ytoffmpkgickfhaa.M
end
section
namespace Go.Proofs.Ytoffmpkgickfhaa.M
open Go.RowKit Go.Proofs.Ytoffmpkgickfhaa.PG Go.Proofs.YtoffmpkgickfhaaW.PrintMore Go.Proofs.YtoffmpkgickfhaaW.PrintWords
/-- a function of fuel returns v from some fuel on -/
def Rt {α : Type} (g : Nat → Option α) (v : α) : Prop := ∃ K, ∀ k, K ≤ k → g k = some v
theorem wz (n : Int) (h0 : -9223372036854775808 ≤ n) (h1 : n ≤ 9223372036854775807) : wrap64 n = n := by unfold wrap64; omega
def Bd (p : Pt) : Prop := -1000000 ≤ p.f0 ∧ p.f0 ≤ 1000000 ∧ -1000000 ≤ p.f1 ∧ p.f1 ≤ 1000000
theorem mulb {a b : Int} (h0 : -2000000 ≤ a) (h1 : a ≤ 2000000) (h2 : -2000000 ≤ b) (h3 : b ≤ 2000000) : -4000000000000 ≤ a * b ∧ a * b ≤ 4000000000000 := by
 have h : (a * b).natAbs = a.natAbs * b.natAbs := Int.natAbs_mul a b
 have h' : a.natAbs * b.natAbs ≤ 2000000 * 2000000 := Nat.mul_le_mul (by omega) (by omega)
 omega
theorem cr_eq (a b c : Pt) : cr a b c = (b.f0 - a.f0) * (c.f1 - a.f1) - (c.f0 - a.f0) * (b.f1 - a.f1) := rfl
theorem cr_bd {a b c : Pt} (ha : Bd a) (hb : Bd b) (hc : Bd c) : -8000000000000 ≤ cr a b c ∧ cr a b c ≤ 8000000000000 := by
 obtain ⟨a0, a1, a2, a3⟩ := ha; obtain ⟨b0, b1, b2, b3⟩ := hb; obtain ⟨c0, c1, c2, c3⟩ := hc
 have h1 := @mulb (b.f0 - a.f0) (c.f1 - a.f1) (by omega) (by omega) (by omega) (by omega)
 have h2 := @mulb (c.f0 - a.f0) (b.f1 - a.f1) (by omega) (by omega) (by omega) (by omega)
 rw [cr_eq]; omega
theorem Cross_f {a b c : Pt} (ha : Bd a) (hb : Bd b) (hc : Bd c) : cracknelref04_Cross.f a.f0 a.f1 b.f0 b.f1 c.f0 c.f1 = some (cr a b c) := by
 obtain ⟨a0, a1, a2, a3⟩ := ha; obtain ⟨b0, b1, b2, b3⟩ := hb; obtain ⟨c0, c1, c2, c3⟩ := hc
 have h1 := @mulb (b.f0 - a.f0) (c.f1 - a.f1) (by omega) (by omega) (by omega) (by omega)
 have h2 := @mulb (c.f0 - a.f0) (b.f1 - a.f1) (by omega) (by omega) (by omega) (by omega)
 unfold cracknelref04_Cross.f
 rw [wz (b.f0 - a.f0) (by omega) (by omega), wz (c.f1 - a.f1) (by omega) (by omega), wz (c.f0 - a.f0) (by omega) (by omega), wz (b.f1 - a.f1) (by omega) (by omega), wz ((b.f0 - a.f0) * (c.f1 - a.f1)) (by omega) (by omega), wz ((c.f0 - a.f0) * (b.f1 - a.f1)) (by omega) (by omega), wz _ (by omega) (by omega), cr_eq]
theorem side_f {a b c : Pt} (ha : Bd a) (hb : Bd b) (hc : Bd c) : shape_side.f a.f0 a.f1 b.f0 b.f1 c.f0 c.f1 = some (cr a b c) := by
 obtain ⟨a0, a1, a2, a3⟩ := ha; obtain ⟨b0, b1, b2, b3⟩ := hb; obtain ⟨c0, c1, c2, c3⟩ := hc
 have h1 := @mulb (b.f0 - a.f0) (c.f1 - a.f1) (by omega) (by omega) (by omega) (by omega)
 have h2 := @mulb (b.f1 - a.f1) (c.f0 - a.f0) (by omega) (by omega) (by omega) (by omega)
 unfold shape_side.f shape_sub.f shape_cross.f
 simp only [Option.bind_some]
 rw [wz (b.f0 - a.f0) (by omega) (by omega), wz (c.f1 - a.f1) (by omega) (by omega), wz (c.f0 - a.f0) (by omega) (by omega), wz (b.f1 - a.f1) (by omega) (by omega), wz ((b.f0 - a.f0) * (c.f1 - a.f1)) (by omega) (by omega), wz ((b.f1 - a.f1) * (c.f0 - a.f0)) (by omega) (by omega), wz _ (by omega) (by omega), cr_eq]
 congr 1; grind
theorem in_f (v a b : Int) : cracknelref04_in.f v a b = some (decide (a ≤ v ∧ v ≤ b)) := by
 unfold cracknelref04_in.f
 by_cases h : v ≥ a
 ·rw [if_pos h]; simp; omega
 ·rw [if_neg h]; simp; omega
theorem mn_eq (a b : Int) : mn a b = min a b := by unfold mn; split <;> omega
theorem mx_eq (a b : Int) : mx a b = max a b := by unfold mx; split <;> omega
theorem On_f {a b c : Pt} (ha : Bd a) (hb : Bd b) (hc : Bd c) : cracknelref04_On.f a.f0 a.f1 b.f0 b.f1 c.f0 c.f1 = some (decide (On a b c)) := by
 unfold cracknelref04_On.f
 rw [Cross_f ha hb hc]
 simp only [Option.bind_some, in_f, mn_eq, mx_eq]
 by_cases h : cr a b c = 0
 ·rw [if_pos h]
  by_cases h2 : min a.f0 b.f0 ≤ c.f0 ∧ c.f0 ≤ max a.f0 b.f0
  ·simp only [h2, and_self, decide_true, if_true]; simp only [On, btw, h, h2, true_and]
  ·rw [if_neg (by simpa using h2)]; simp only [On, btw, h, true_and]; rw [decide_eq_false]; intro h3; exact h2 ⟨h3.1, h3.2.1⟩
 ·rw [if_neg h]; simp only [On, h, false_and, decide_false]
theorem sq_nn (x : Int) : 0 ≤ x * x := by
 rcases Int.le_total 0 x with h | h
 ·exact Int.mul_nonneg h h
 ·exact Int.mul_nonneg_of_nonpos_of_nonpos h h
/-- for points on one line: the inner product tells which are between -/
theorem dot_on {a b p : Pt} (h : cr a b p = 0) : (a.f0 - p.f0) * (b.f0 - p.f0) + (a.f1 - p.f1) * (b.f1 - p.f1) ≤ 0 ↔ btw a b p := by
 have hx : (a.f0 - p.f0) * (b.f1 - p.f1) = (a.f1 - p.f1) * (b.f0 - p.f0) := by rw [cr_eq] at h; grind
 generalize hu : a.f0 - p.f0 = u at *
 generalize hv : b.f0 - p.f0 = v at *
 generalize hs : a.f1 - p.f1 = s at *
 generalize ht : b.f1 - p.f1 = t at *
 have key : u * v + s * t ≤ 0 ↔ (u * v ≤ 0 ∧ s * t ≤ 0) := by
  constructor
  ·intro h0
   have e : (u * v) * (s * t) = (u * t) * (u * t) := by grind
   have sq : 0 ≤ (u * v) * (s * t) := by rw [e]; exact sq_nn _
   constructor
   ·rcases Int.lt_or_le 0 (u * v) with h1 | h1
    ·have h2 : s * t < 0 := by omega
     have := Int.mul_neg_of_pos_of_neg h1 h2; omega
    ·exact h1
   ·rcases Int.lt_or_le 0 (s * t) with h1 | h1
    ·have h2 : u * v < 0 := by omega
     have := Int.mul_neg_of_neg_of_pos h2 h1; omega
    ·exact h1
  ·omega
 have sgn : ∀ x y : Int, x * y ≤ 0 ↔ ((x ≤ 0 ∧ 0 ≤ y) ∨ (0 ≤ x ∧ y ≤ 0)) := by
  intro x y
  constructor
  ·intro h
   rcases Int.lt_trichotomy x 0 with h1 | h1 | h1
   ·rcases Int.lt_or_le y 0 with h2 | h2
    ·have := Int.mul_pos_of_neg_of_neg h1 h2; omega
    ·omega
   ·omega
   ·rcases Int.lt_or_le 0 y with h2 | h2
    ·have := Int.mul_pos h1 h2; omega
    ·omega
  ·rintro (⟨h1, h2⟩ | ⟨h1, h2⟩)
   ·exact Int.mul_nonpos_of_nonpos_of_nonneg h1 h2
   ·exact Int.mul_nonpos_of_nonneg_of_nonpos h1 h2
 rw [key, sgn, sgn]; unfold btw; omega
theorem dot_f {a b p : Pt} (ha : Bd a) (hb : Bd b) (hp : Bd p) : shape_dot.f (a.f0 - p.f0) (a.f1 - p.f1) (b.f0 - p.f0) (b.f1 - p.f1) = some ((a.f0 - p.f0) * (b.f0 - p.f0) + (a.f1 - p.f1) * (b.f1 - p.f1)) := by
 obtain ⟨a0, a1, a2, a3⟩ := ha; obtain ⟨b0, b1, b2, b3⟩ := hb; obtain ⟨c0, c1, c2, c3⟩ := hp
 have h1 := @mulb (a.f0 - p.f0) (b.f0 - p.f0) (by omega) (by omega) (by omega) (by omega)
 have h2 := @mulb (a.f1 - p.f1) (b.f1 - p.f1) (by omega) (by omega) (by omega) (by omega)
 unfold shape_dot.f
 rw [wz ((a.f0 - p.f0) * (b.f0 - p.f0)) (by omega) (by omega), wz ((a.f1 - p.f1) * (b.f1 - p.f1)) (by omega) (by omega), wz _ (by omega) (by omega)]
theorem sub_f {a b : Pt} (ha : Bd a) (hb : Bd b) : shape_sub.f a.f0 a.f1 b.f0 b.f1 = some (a.f0 - b.f0, a.f1 - b.f1) := by
 obtain ⟨a0, a1, a2, a3⟩ := ha; obtain ⟨b0, b1, b2, b3⟩ := hb
 unfold shape_sub.f
 rw [wz _ (by omega) (by omega), wz _ (by omega) (by omega)]
theorem on_f {a b c : Pt} (ha : Bd a) (hb : Bd b) (hc : Bd c) : shape_on.f a.f0 a.f1 b.f0 b.f1 c.f0 c.f1 = some (decide (On a b c)) := by
 unfold shape_on.f
 rw [side_f ha hb hc, sub_f ha hc, sub_f hb hc]
 simp only [Option.bind_some]
 rw [dot_f ha hb hc]
 simp only [Option.bind_some]
 by_cases h : cr a b c = 0
 ·rw [if_pos h]; have e := dot_on h; simp only [e, On, h, true_and]
 ·rw [if_neg h]; simp only [On, h, false_and, decide_false]
def sg (n : Int) : Int := if n > 0 then 1 else if n < 0 then -1 else 0
theorem compare_f (a b : Int) : cmp_Compare_int.f a b = some (sg (a - b)) := by
 unfold cmp_Compare_int.f cmp_isNaN_int.f sg
 simp
 split <;> (try split) <;> (try split) <;> (try split) <;> first | rfl | omega | (simp; done) | skip
theorem sign_f (n : Int) : shape_sign.f n = some (sg n) := by
 unfold shape_sign.f; rw [compare_f]; simp
theorem sg_neg (x y : Int) : wrap64 (sg x * sg y) < 0 ↔ ((0 < x ∧ y < 0) ∨ (x < 0 ∧ 0 < y)) := by
 unfold sg
 split <;> (try split) <;> (try split) <;> (try split) <;> simp only [wrap64] <;> omega
theorem meet_f {a b c d : Pt} (ha : Bd a) (hb : Bd b) (hc : Bd c) (hd : Bd d) (k : Nat) : shape_meet.f (k + 1) a.f0 a.f1 b.f0 b.f1 c.f0 c.f1 d.f0 d.f1 = some (decide (Meet a b c d)) := by
 unfold shape_meet.f
 simp only [shape_meet.j0, on_f ha hb hc, on_f ha hb hd, on_f hc hd ha, on_f hc hd hb, side_f ha hb hc, side_f ha hb hd, side_f hc hd ha, side_f hc hd hb, sign_f, Option.bind_some, sg_neg, decide_eq_true_eq]
 unfold Meet
 split
 ·simp_all
 ·split
  ·simp_all
  ·split
   ·simp_all
   ·split
    ·simp_all
    ·split <;> simp_all <;> omega
theorem rd_at (l : List Pt) (i : Nat) : rd_T29 l (i : Int) = at_ l i := rfl
theorem tmod_nat (i n : Nat) (h : (i : Int) ≤ 9223372036854775806) : Int.tmod (wrap64 ((i : Int) + 1)) (n : Int) = (((i + 1) % n : Nat) : Int) := by
 rw [wz _ (by omega) (by omega)]
 rw [show ((i : Int) + 1) = ((i + 1 : Nat) : Int) by omega, ← Int.ofNat_tmod]
theorem first_f (a b : Pt) : cracknelref04_first.f a.f0 a.f1 b.f0 b.f1 = some (decide (first a b)) := by
 unfold cracknelref04_first.f first
 split
 ·simp_all
 ·split
  ·simp_all
  ·simp_all
theorem pt_beq (a b : Pt) : (a.f0 == b.f0 && a.f1 == b.f1) = decide (a = b) := by
 by_cases h : a = b
 ·subst h; simp
 ·simp only [h, decide_false, Bool.and_eq_false_imp, beq_iff_eq]
  intro h0
  simp only [beq_eq_false_iff_ne, ne_eq]
  intro h1; exact h (pt_ext h0 h1)
theorem from_split {n i : Nat} (hi : i < n) (P : Nat → Prop) : (∀ i', i ≤ i' → i' < n → P i') ↔ (P i ∧ ∀ i', i + 1 ≤ i' → i' < n → P i') := by
 constructor
 ·intro h; exact ⟨h i (Nat.le_refl _) hi, fun j' h1 h2 => h j' (by omega) h2⟩
 ·rintro ⟨h0, h⟩ j' h1 h2
  rcases Nat.eq_or_lt_of_le h1 with rfl | h3
  ·exact h0
  ·exact h j' h3 h2
theorem fuel1 {k K : Nat} (h : K + 1 ≤ k) : ∃ m, k = m + 1 := ⟨k - 1, by omega⟩
theorem fuel2 {k K : Nat} (h : K + 2 ≤ k) : ∃ m, k = m + 1 + 1 := ⟨k - 2, by omega⟩
theorem rt_step {α : Type} {g h : Nat → Option α} {v : α} (e : ∀ k, g (k + 1) = h k) (r : Rt h v) : Rt g v := by
 obtain ⟨K, hK⟩ := r
 refine ⟨K + 1, fun k hk => ?_⟩
 obtain ⟨k, rfl⟩ := fuel1 hk
 rw [e]; exact hK k (by omega)
theorem rt_ret {α : Type} {g : Nat → Option α} {v : α} (e : ∀ k, g (k + 1) = some v) : Rt g v := by
 refine ⟨0 + 1, fun k hk => ?_⟩
 obtain ⟨k, rfl⟩ := fuel1 hk
 exact e k
theorem wrap_succ (i : Nat) (h : i ≤ 1000000) : wrap64 ((i : Int) + 1) = ((i + 1 : Nat) : Int) := by rw [wz _ (by omega) (by omega)]; omega
theorem wrap_succ2 (i : Nat) (h : i ≤ 1000000) : wrap64 ((i : Int) + 2) = ((i + 2 : Nat) : Int) := by rw [wz _ (by omega) (by omega)]; omega
theorem tmod_nat' (i n : Nat) (_h : i ≤ 1000000) : Int.tmod (((i + 1 : Nat)) : Int) (n : Int) = (((i + 1) % n : Nat) : Int) := by
 rw [← Int.ofNat_tmod]
theorem at_bd {l : List Pt} (hb : ∀ p ∈ l, Bd p) {i : Nat} (hi : i < l.length) : Bd (at_ l i) := hb _ (at_mem hi)
theorem tmod_in (i n : Nat) (hn : 0 < n) : (0 : Int) ≤ (((i % n : Nat)) : Int) ∧ (((i % n : Nat)) : Int) < (n : Int) := by
 have := Nat.mod_lt i hn; omega
end Go.Proofs.Ytoffmpkgickfhaa.M
end
section
namespace Go.Proofs.Ytoffmpkgickfhaa.M
open Go.RowKit Go.Proofs.Ytoffmpkgickfhaa.PG Go.Proofs.YtoffmpkgickfhaaW.PrintMore Go.Proofs.YtoffmpkgickfhaaW.PrintWords
theorem on_line {a b c : Pt} (h : cr a b c = 0) : btw a c b ∨ btw a b c ∨ btw b c a := by
 have h2 : cr a c b = 0 := by rw [cr_swap]; omega
 have h3 : cr b c a = 0 := by rw [cr_rot]; exact h
 rw [← dot_on h, ← dot_on h2, ← dot_on h3]
 rcases Int.lt_or_le 0 ((a.f0 - b.f0) * (c.f0 - b.f0) + (a.f1 - b.f1) * (c.f1 - b.f1)) with q1 | q1
 ·rcases Int.lt_or_le 0 ((a.f0 - c.f0) * (b.f0 - c.f0) + (a.f1 - c.f1) * (b.f1 - c.f1)) with q2 | q2
  ·rcases Int.lt_or_le 0 ((b.f0 - a.f0) * (c.f0 - a.f0) + (b.f1 - a.f1) * (c.f1 - a.f1)) with q3 | q3
   ·exfalso
    rw [cr_eq] at h
    have e2 : (a.f0 - c.f0) * (b.f0 - c.f0) + (a.f1 - c.f1) * (b.f1 - c.f1) = ((c.f0 - b.f0) * (c.f0 - b.f0) + (c.f1 - b.f1) * (c.f1 - b.f1)) - ((a.f0 - b.f0) * (c.f0 - b.f0) + (a.f1 - b.f1) * (c.f1 - b.f1)) := by grind
    have e3 : (b.f0 - a.f0) * (c.f0 - a.f0) + (b.f1 - a.f1) * (c.f1 - a.f1) = ((a.f0 - b.f0) * (a.f0 - b.f0) + (a.f1 - b.f1) * (a.f1 - b.f1)) - ((a.f0 - b.f0) * (c.f0 - b.f0) + (a.f1 - b.f1) * (c.f1 - b.f1)) := by grind
    have e4 : ((a.f0 - b.f0) * (c.f0 - b.f0) + (a.f1 - b.f1) * (c.f1 - b.f1)) * ((a.f0 - b.f0) * (c.f0 - b.f0) + (a.f1 - b.f1) * (c.f1 - b.f1)) = ((a.f0 - b.f0) * (a.f0 - b.f0) + (a.f1 - b.f1) * (a.f1 - b.f1)) * ((c.f0 - b.f0) * (c.f0 - b.f0) + (c.f1 - b.f1) * (c.f1 - b.f1)) := by grind
    rw [e2] at q2; rw [e3] at q3
    generalize (a.f0 - b.f0) * (c.f0 - b.f0) + (a.f1 - b.f1) * (c.f1 - b.f1) = P at *
    generalize (a.f0 - b.f0) * (a.f0 - b.f0) + (a.f1 - b.f1) * (a.f1 - b.f1) = Q at *
    generalize (c.f0 - b.f0) * (c.f0 - b.f0) + (c.f1 - b.f1) * (c.f1 - b.f1) = R at *
    have : P * P < Q * R := Int.lt_of_lt_of_le (Int.mul_lt_mul_of_pos_left (show P < R by omega) q1) (Int.mul_le_mul_of_nonneg_right (by omega) (by omega))
    omega
   ·right; right; have : (b.f0 - a.f0) * (c.f0 - a.f0) + (b.f1 - a.f1) * (c.f1 - a.f1) ≤ 0 := q3; exact this
  ·right; left; exact q2
 ·left; exact q1
/-- a spike: of two edges in a row that lie on one line, one lies on the other one -/
theorem spike {a b c : Pt} (hab : a ≠ b) (hbc : b ≠ c) : (cr b a c = 0 ∧ 0 < (a.f0 - b.f0) * (c.f0 - b.f0) + (a.f1 - b.f1) * (c.f1 - b.f1)) ↔ (On a b c ∨ On b c a) := by
 have e1 : cr b a c = - cr a b c := by rw [cr_eq, cr_eq]; grind
 have e2 : cr a c b = - cr a b c := cr_swap a b c
 have e3 : cr b c a = cr a b c := cr_rot a b c
 by_cases h : cr a b c = 0
 ·have d := dot_on (show cr a c b = 0 by omega)
  have t := on_line h
  have x1 : btw a c b → btw a b c → False := fun p q => hbc (btw_eq q p)
  have x2 : btw a c b → btw b c a → False := fun p q => hab (btw_eq' p q)
  unfold On
  rw [e1, e3, h]
  constructor
  ·rintro ⟨_, h1⟩
   have : ¬ btw a c b := by rw [← d]; omega
   rcases t with t | t | t
   ·exact absurd t this
   ·exact Or.inl ⟨rfl, t⟩
   ·exact Or.inr ⟨rfl, t⟩
  ·intro h1
   refine ⟨by omega, ?_⟩
   have : ¬ btw a c b := by
    intro hb
    rcases h1 with ⟨_, h1⟩ | ⟨_, h1⟩
    ·exact x1 hb h1
    ·exact x2 hb h1
   rw [← d] at this; omega
 ·unfold On; rw [e1, e3]
  constructor
  ·rintro ⟨h1, _⟩; omega
  ·rintro (⟨h1, _⟩ | ⟨h1, _⟩) <;> omega
theorem Meet_comm (a b c d : Pt) : Meet a b c d ↔ Meet c d a b := by
 unfold Meet
 constructor
 ·rintro (h | h | h | h | h)
  ·exact Or.inr (Or.inr (Or.inl h))
  ·exact Or.inr (Or.inr (Or.inr (Or.inl h)))
  ·exact Or.inl h
  ·exact Or.inr (Or.inl h)
  ·exact Or.inr (Or.inr (Or.inr (Or.inr h.symm)))
 ·rintro (h | h | h | h | h)
  ·exact Or.inr (Or.inr (Or.inl h))
  ·exact Or.inr (Or.inr (Or.inr (Or.inl h)))
  ·exact Or.inl h
  ·exact Or.inr (Or.inl h)
  ·exact Or.inr (Or.inr (Or.inr (Or.inr h.symm)))
/-- simple, as the code has it -/
def CSimple (l : List Pt) : Prop := ∀ i, i < l.length →
 at_ l i ≠ at_ l ((i + 1) % l.length) ∧
 ¬ (cr (at_ l i) (at_ l ((i + l.length - 1) % l.length)) (at_ l ((i + 1) % l.length)) = 0 ∧ 0 < ((at_ l ((i + l.length - 1) % l.length)).f0 - (at_ l i).f0) * ((at_ l ((i + 1) % l.length)).f0 - (at_ l i).f0) + ((at_ l ((i + l.length - 1) % l.length)).f1 - (at_ l i).f1) * ((at_ l ((i + 1) % l.length)).f1 - (at_ l i).f1)) ∧
 ∀ j, j < i → j + 1 ≠ i → (j ≠ 0 ∨ i + 1 ≠ l.length) → ¬ Meet (at_ l i) (at_ l ((i + 1) % l.length)) (at_ l j) (at_ l (j + 1))
theorem csimple_iff (l : List Pt) (hn : 3 ≤ l.length) : CSimple l ↔ Simple l := by
 unfold CSimple Simple
 generalize hl : l.length = n at *
 have prev : ∀ i, i < n → (((i + n - 1) % n) + 1) % n = i ∧ (i + n - 1) % n < n := by
  intro i hi
  refine ⟨?_, Nat.mod_lt _ (by omega)⟩
  by_cases h0 : i = 0
  ·subst h0; rw [show 0 + n - 1 = n - 1 by omega, Nat.mod_eq_of_lt (show n - 1 < n by omega), show n - 1 + 1 = n by omega, Nat.mod_self]
  ·rw [show i + n - 1 = (i - 1) + n by omega, Nat.add_mod_right, Nat.mod_eq_of_lt (show i - 1 < n by omega), show i - 1 + 1 = i by omega, Nat.mod_eq_of_lt hi]
 have nxt : ∀ i, i < n → ((i + 1) % n + n - 1) % n = i ∧ (i + 1) % n < n := by
  intro i hi
  refine ⟨?_, Nat.mod_lt _ (by omega)⟩
  by_cases h0 : i + 1 = n
  ·rw [h0, Nat.mod_self, show 0 + n - 1 = n - 1 by omega, Nat.mod_eq_of_lt (by omega)]; omega
  ·rw [Nat.mod_eq_of_lt (show i + 1 < n by omega), show i + 1 + n - 1 = i + n by omega, Nat.add_mod_right, Nat.mod_eq_of_lt hi]
 have two : ∀ i, ((i + 1) % n + 1) % n = (i + 1 + 1) % n := fun i => by rw [Nat.mod_add_mod]
 constructor
 ·intro h
  refine ⟨fun i hi => (h i hi).1, fun i hi => ?_⟩
  obtain ⟨p1, p2⟩ := nxt i hi
  have q := (h _ p2).2.1
  rw [p1, two i] at q
  have e1 := (h i hi).1
  have e2 := (h _ p2).1
  rw [two i] at e2
  rw [spike e1 e2] at q
  refine ⟨fun h1 => q (Or.inl h1), fun h1 => q (Or.inr h1), fun k hk hkn hki hm => ?_⟩
  have hw : i ≠ 0 ∨ k + 1 ≠ n := by
   rcases Nat.lt_or_ge (k + 1) n with h1 | h1
   ·right; omega
   ·left; intro h0; apply hki; rw [show k + 1 = n by omega, Nat.mod_self, h0]
  have := (h k hkn).2.2 i (by omega) (by omega) hw
  apply this
  rw [Meet_comm]
  rwa [Nat.mod_eq_of_lt (show i + 1 < n by omega)] at hm
 ·rintro ⟨h0, h⟩ i hi
  obtain ⟨p1, p2⟩ := prev i hi
  refine ⟨h0 i hi, ?_, fun j hj hji hw hm => ?_⟩
  ·have e1 := h0 _ p2
   rw [p1] at e1
   rw [spike e1 (h0 i hi)]
   have q := h _ p2
   rw [← two ((i + n - 1) % n), p1] at q
   rintro (h1 | h1)
   ·exact q.1 h1
   ·exact q.2.1 h1
  ·have q := (h j (by omega)).2.2 i (by omega) hi (by
    rcases Nat.lt_or_ge (i + 1) n with h1 | h1
    ·rw [Nat.mod_eq_of_lt h1]; omega
    ·rw [show i + 1 = n by omega, Nat.mod_self]; omega)
   apply q
   rw [Nat.mod_eq_of_lt (show j + 1 < n by omega), Meet_comm]
   exact hm
theorem simple_l1 {l : List Pt} (hb : ∀ p ∈ l, Bd p) (hn : 3 ≤ l.length) (hN : l.length ≤ 1000000) {i : Nat} (hi : i < l.length) {b' : Bool} (hnext : Rt (fun k => shape_simple.l0 k l (l.length : Int) (l.length : Int) ((i + 1 : Nat) : Int)) b') :
  ∀ d j, i = j + d → ∃ b, Rt (fun k => shape_simple.l1 k l (l.length : Int) (i : Int) (l.length : Int) (i : Int) (i : Int) (j : Int) (at_ l ((i + 1) % l.length)).f0 (at_ l ((i + 1) % l.length)).f1) b ∧ (b = true ↔ (∀ j', j ≤ j' → j' < i → j' + 1 ≠ i → (j' ≠ 0 ∨ i + 1 ≠ l.length) → ¬ Meet (at_ l i) (at_ l ((i + 1) % l.length)) (at_ l j') (at_ l (j' + 1))) ∧ b' = true) := by
 intro d
 induction d with
 | zero =>
  intro j hj
  obtain ⟨K, hK⟩ := hnext
  refine ⟨b', ⟨K + 1, fun k hk => ?_⟩, ⟨fun h => ⟨fun j' h1 h2 => by omega, h⟩, fun h => h.2⟩⟩
  obtain ⟨k, rfl⟩ : ∃ m, k = m + 1 := ⟨k - 1, by omega⟩
  dsimp only; rw [shape_simple.l1, if_neg (by omega), wz _ (by omega) (by omega)]
  exact hK k (by omega)
 | succ d ih =>
  intro j hj
  obtain ⟨b1, ⟨K, hK⟩, hb1⟩ := ih (j + 1) (by omega)
  have skip : ∀ k, K + 1 ≤ k → shape_simple.j3 k l (l.length : Int) (i : Int) (l.length : Int) (i : Int) (i : Int) (j : Int) false (at_ l ((i + 1) % l.length)).f0 (at_ l ((i + 1) % l.length)).f1 = some b1 := by
   intro k hk
   obtain ⟨k, rfl⟩ : ∃ m, k = m + 1 := ⟨k - 1, by omega⟩
   rw [shape_simple.j3, if_neg (by simp), wz _ (by omega) (by omega)]
   exact hK k (by omega)
  have split_ : ∀ (P : Nat → Prop), (∀ j', j ≤ j' → j' < i → P j') ↔ (P j ∧ ∀ j', j + 1 ≤ j' → j' < i → P j') := by
   intro P
   constructor
   ·intro h; exact ⟨h j (Nat.le_refl _) (by omega), fun j' h1 h2 => h j' (by omega) h2⟩
   ·rintro ⟨h0, h⟩ j' h1 h2
    rcases Nat.eq_or_lt_of_le h1 with rfl | h3
    ·exact h0
    ·exact h j' h3 h2
  rw [show (∃ b, Rt (fun k => shape_simple.l1 k l (l.length : Int) (i : Int) (l.length : Int) (i : Int) (i : Int) (j : Int) (at_ l ((i + 1) % l.length)).f0 (at_ l ((i + 1) % l.length)).f1) b ∧ (b = true ↔ (∀ j', j ≤ j' → j' < i → j' + 1 ≠ i → (j' ≠ 0 ∨ i + 1 ≠ l.length) → ¬ Meet (at_ l i) (at_ l ((i + 1) % l.length)) (at_ l j') (at_ l (j' + 1))) ∧ b' = true)) ↔ (∃ b, Rt (fun k => shape_simple.l1 k l (l.length : Int) (i : Int) (l.length : Int) (i : Int) (i : Int) (j : Int) (at_ l ((i + 1) % l.length)).f0 (at_ l ((i + 1) % l.length)).f1) b ∧ (b = true ↔ ((j + 1 ≠ i → (j ≠ 0 ∨ i + 1 ≠ l.length) → ¬ Meet (at_ l i) (at_ l ((i + 1) % l.length)) (at_ l j) (at_ l (j + 1))) ∧ b1 = true))) from by
   rw [split_]; simp only [hb1, and_assoc]]
  by_cases h1 : j + 1 = i
  ·refine ⟨b1, ⟨K + 2, fun k hk => ?_⟩, ⟨fun h => ⟨fun h2 => absurd h1 h2, h⟩, fun h => h.2⟩⟩
   obtain ⟨k, rfl⟩ : ∃ m, k = m + 1 := ⟨k - 1, by omega⟩
   dsimp only; rw [shape_simple.l1, if_pos (by omega), wz _ (by omega) (by omega), if_pos (by omega)]
   exact skip k (by omega)
  ·have hBi := at_bd hb hi
   have hBn := at_bd hb (show (i + 1) % l.length < l.length from Nat.mod_lt _ (by omega))
   have hBj := at_bd hb (show j < l.length by omega)
   have hBk := at_bd hb (show j + 1 < l.length by omega)
   have go : (j ≠ 0 ∨ i + 1 ≠ l.length) → ∀ k, K + 2 ≤ k → ((shape_meet.f k (rd_T29 l i).f0 (rd_T29 l i).f1 (at_ l ((i + 1) % l.length)).f0 (at_ l ((i + 1) % l.length)).f1 (rd_T29 l j).f0 (rd_T29 l j).f1 (rd_T29 l (((j + 1 : Nat)) : Int)).f0 (rd_T29 l ((j + 1 : Nat) : Int)).f1).bind fun t => shape_simple.j3 k l (l.length : Int) (i : Int) (l.length : Int) (i : Int) (i : Int) (j : Int) t (at_ l ((i + 1) % l.length)).f0 (at_ l ((i + 1) % l.length)).f1) = some (!decide (Meet (at_ l i) (at_ l ((i + 1) % l.length)) (at_ l j) (at_ l (j + 1))) && b1) := by
    intro hw k hk
    obtain ⟨k, rfl⟩ : ∃ m, k = m + 1 := ⟨k - 1, by omega⟩
    rw [rd_at, rd_at, rd_at, meet_f hBi hBn hBj hBk, Option.bind_some]
    by_cases hm : Meet (at_ l i) (at_ l ((i + 1) % l.length)) (at_ l j) (at_ l (j + 1))
    ·simp only [hm, decide_true, Bool.not_true, Bool.false_and]
     rw [shape_simple.j3, if_pos rfl]
    ·simp only [hm, decide_false, Bool.not_false, Bool.true_and]
     exact skip (k + 1) (by omega)
   by_cases h2 : j = 0
   ·by_cases h3 : i + 1 = l.length
    ·refine ⟨b1, ⟨K + 2, fun k hk => ?_⟩, ⟨fun h => ⟨fun _ h2 => by omega, h⟩, fun h => h.2⟩⟩
     obtain ⟨k, rfl⟩ : ∃ m, k = m + 1 := ⟨k - 1, by omega⟩
     dsimp only; rw [shape_simple.l1, if_pos (by omega), wz ((j : Int) + 1) (by omega) (by omega), if_neg (by omega), if_pos (by omega), wz _ (by omega) (by omega), if_pos (by omega)]
     exact skip k (by omega)
    ·refine ⟨(!decide (Meet (at_ l i) (at_ l ((i + 1) % l.length)) (at_ l j) (at_ l (j + 1))) && b1), ⟨K + 3, fun k hk => ?_⟩, ?_⟩
     ·obtain ⟨k, rfl⟩ : ∃ m, k = m + 1 := ⟨k - 1, by omega⟩
      dsimp only; rw [shape_simple.l1, if_pos (by omega), wz ((j : Int) + 1) (by omega) (by omega), if_neg (by omega), if_pos (by omega), wz _ (by omega) (by omega), if_neg (by omega), if_pos (by omega), if_pos (by omega), if_pos (by omega), if_pos (by omega), if_pos (by omega), if_pos (by omega)]
      exact go (by omega) k (by omega)
     ·simp only [Bool.and_eq_true, Bool.not_eq_true', decide_eq_false_iff_not]
      exact ⟨fun h => ⟨fun _ _ => h.1, h.2⟩, fun h => ⟨h.1 h1 (Or.inr h3), h.2⟩⟩
   ·refine ⟨(!decide (Meet (at_ l i) (at_ l ((i + 1) % l.length)) (at_ l j) (at_ l (j + 1))) && b1), ⟨K + 3, fun k hk => ?_⟩, ?_⟩
    ·obtain ⟨k, rfl⟩ : ∃ m, k = m + 1 := ⟨k - 1, by omega⟩
     dsimp only; rw [shape_simple.l1, if_pos (by omega), wz ((j : Int) + 1) (by omega) (by omega), if_neg (by omega), if_neg (by omega), if_pos (by omega), if_pos (by omega), if_pos (by omega), if_pos (by omega), if_pos (by omega), if_pos (by omega)]
     exact go (by omega) k (by omega)
    ·simp only [Bool.and_eq_true, Bool.not_eq_true', decide_eq_false_iff_not]
     exact ⟨fun h => ⟨fun _ _ => h.1, h.2⟩, fun h => ⟨h.1 h1 (Or.inl h2), h.2⟩⟩
theorem tmod_last (i n : Nat) (hi : i < n) (hN : n ≤ 1000000) : Int.tmod (wrap64 (wrap64 ((i : Int) + (n : Int)) - 1)) (n : Int) = (((i + n - 1) % n : Nat) : Int) := by
 rw [wz ((i : Int) + (n : Int)) (by omega) (by omega), wz _ (by omega) (by omega), show ((i : Int) + (n : Int)) - 1 = ((i + n - 1 : Nat) : Int) by omega, ← Int.ofNat_tmod]
theorem simple_l0 {l : List Pt} (hb : ∀ p ∈ l, Bd p) (hn : 3 ≤ l.length) (hN : l.length ≤ 1000000) :
  ∀ d i, l.length = i + d → ∃ b, Rt (fun k => shape_simple.l0 k l (l.length : Int) (l.length : Int) (i : Int)) b ∧ (b = true ↔ ∀ i', i ≤ i' → i' < l.length →
   at_ l i' ≠ at_ l ((i' + 1) % l.length) ∧
   ¬ (cr (at_ l i') (at_ l ((i' + l.length - 1) % l.length)) (at_ l ((i' + 1) % l.length)) = 0 ∧ 0 < ((at_ l ((i' + l.length - 1) % l.length)).f0 - (at_ l i').f0) * ((at_ l ((i' + 1) % l.length)).f0 - (at_ l i').f0) + ((at_ l ((i' + l.length - 1) % l.length)).f1 - (at_ l i').f1) * ((at_ l ((i' + 1) % l.length)).f1 - (at_ l i').f1)) ∧
   ∀ j, j < i' → j + 1 ≠ i' → (j ≠ 0 ∨ i' + 1 ≠ l.length) → ¬ Meet (at_ l i') (at_ l ((i' + 1) % l.length)) (at_ l j) (at_ l (j + 1))) := by
 intro d
 induction d with
 | zero =>
  intro i hi
  refine ⟨true, ⟨1, fun k hk => ?_⟩, ⟨fun _ i' h1 h2 => by omega, fun _ => rfl⟩⟩
  obtain ⟨k, rfl⟩ : ∃ m, k = m + 1 := ⟨k - 1, by omega⟩
  dsimp only; rw [shape_simple.l0, if_neg (by omega)]
 | succ d ih =>
  intro i hi
  obtain ⟨b1, hR1, hb1⟩ := ih (i + 1) (by omega)
  obtain ⟨b2, ⟨K, hK⟩, hb2⟩ := simple_l1 hb hn hN (show i < l.length by omega) hR1 i 0 (by omega)
  have hlt : i < l.length := by omega
  have hBi := at_bd hb hlt
  have hBn := at_bd hb (show (i + 1) % l.length < l.length from Nat.mod_lt _ (by omega))
  have hBl := at_bd hb (show (i + l.length - 1) % l.length < l.length from Nat.mod_lt _ (by omega))
  have t1 := tmod_in (i + 1) l.length (by omega)
  have t2 := tmod_in (i + l.length - 1) l.length (by omega)
  have hcross : shape_cross.f ((at_ l ((i + l.length - 1) % l.length)).f0 - (at_ l i).f0) ((at_ l ((i + l.length - 1) % l.length)).f1 - (at_ l i).f1) ((at_ l ((i + 1) % l.length)).f0 - (at_ l i).f0) ((at_ l ((i + 1) % l.length)).f1 - (at_ l i).f1) = some (cr (at_ l i) (at_ l ((i + l.length - 1) % l.length)) (at_ l ((i + 1) % l.length))) := by
   have := side_f hBi hBl hBn
   unfold shape_side.f at this
   rw [sub_f hBl hBi, sub_f hBn hBi] at this
   simpa using this
  have split_ : ∀ (P : Nat → Prop), (∀ i', i ≤ i' → i' < l.length → P i') ↔ (P i ∧ ∀ i', i + 1 ≤ i' → i' < l.length → P i') := by
   intro P
   constructor
   ·intro h; exact ⟨h i (Nat.le_refl _) hlt, fun j' h1 h2 => h j' (by omega) h2⟩
   ·rintro ⟨h0, h⟩ j' h1 h2
    rcases Nat.eq_or_lt_of_le h1 with rfl | h3
    ·exact h0
    ·exact h j' h3 h2
  by_cases e1 : at_ l i = at_ l ((i + 1) % l.length)
  ·refine ⟨false, ⟨1, fun k hk => ?_⟩, ⟨fun h => by simp at h, fun h => absurd e1 (h i (Nat.le_refl _) hlt).1⟩⟩
   obtain ⟨k, rfl⟩ : ∃ m, k = m + 1 := ⟨k - 1, by omega⟩
   dsimp only
   rw [shape_simple.l0, if_pos (by omega), if_neg (by omega), tmod_last i l.length hlt hN, tmod_nat i l.length (by omega), if_pos (by omega), if_pos (by omega), if_pos (by omega), if_pos (by omega), if_pos (by omega), if_pos (by omega), rd_at, rd_at, rd_at, pt_beq, if_pos (by simpa using e1)]
  ·by_cases e2 : (cr (at_ l i) (at_ l ((i + l.length - 1) % l.length)) (at_ l ((i + 1) % l.length)) = 0 ∧ 0 < ((at_ l ((i + l.length - 1) % l.length)).f0 - (at_ l i).f0) * ((at_ l ((i + 1) % l.length)).f0 - (at_ l i).f0) + ((at_ l ((i + l.length - 1) % l.length)).f1 - (at_ l i).f1) * ((at_ l ((i + 1) % l.length)).f1 - (at_ l i).f1))
   ·refine ⟨false, ⟨2, fun k hk => ?_⟩, ⟨fun h => by simp at h, fun h => absurd e2 (h i (Nat.le_refl _) hlt).2.1⟩⟩
    obtain ⟨k, rfl⟩ : ∃ m, k = m + 1 + 1 := ⟨k - 2, by omega⟩
    dsimp only
    rw [shape_simple.l0, if_pos (by omega), if_neg (by omega), tmod_last i l.length hlt hN, tmod_nat i l.length (by omega), if_pos (by omega), if_pos (by omega), if_pos (by omega), if_pos (by omega), if_pos (by omega), if_pos (by omega), rd_at, rd_at, rd_at, pt_beq, if_neg (by simpa using e1), sub_f hBl hBi, Option.bind_some, sub_f hBn hBi, Option.bind_some, hcross, Option.bind_some, if_pos e2.1, dot_f hBl hBn hBi, Option.bind_some, shape_simple.j1, if_pos (by simpa using e2.2)]
   ·refine ⟨b2, ⟨K + 2, fun k hk => ?_⟩, ?_⟩
    ·obtain ⟨k, rfl⟩ : ∃ m, k = m + 1 + 1 := ⟨k - 2, by omega⟩
     dsimp only
     rw [shape_simple.l0, if_pos (by omega), if_neg (by omega), tmod_last i l.length hlt hN, tmod_nat i l.length (by omega), if_pos (by omega), if_pos (by omega), if_pos (by omega), if_pos (by omega), if_pos (by omega), if_pos (by omega), rd_at, rd_at, rd_at, pt_beq, if_neg (by simpa using e1), sub_f hBl hBi, Option.bind_some, sub_f hBn hBi, Option.bind_some, hcross, Option.bind_some]
     have := hK k (by omega)
     by_cases h3 : cr (at_ l i) (at_ l ((i + l.length - 1) % l.length)) (at_ l ((i + 1) % l.length)) = 0
     ·rw [if_pos h3, dot_f hBl hBn hBi, Option.bind_some, shape_simple.j1, if_neg (by simpa using fun h4 => e2 ⟨h3, h4⟩)]
      exact this
     ·rw [if_neg h3, shape_simple.j1, if_neg (by simp)]
      exact this
    ·rw [split_, hb2, hb1]
     constructor
     ·rintro ⟨h1, h2⟩
      exact ⟨⟨e1, e2, fun j hj h3 h4 => h1 j (Nat.zero_le _) hj h3 h4⟩, h2⟩
     ·rintro ⟨⟨_, _, h1⟩, h2⟩
      exact ⟨fun j _ hj h3 h4 => h1 j hj h3 h4, h2⟩
theorem simple_run {l : List Pt} (hb : ∀ p ∈ l, Bd p) (hn : 3 ≤ l.length) (hN : l.length ≤ 1000000) : ∃ b, Rt (fun k => shape_simple.f k l) b ∧ (b = true ↔ Simple l) := by
 obtain ⟨b, hR, h⟩ := simple_l0 hb hn hN l.length 0 (by omega)
 refine ⟨b, hR, ?_⟩
 rw [← csimple_iff l hn, h]
 exact ⟨fun h i hi => h i (Nat.zero_le _) hi, fun h i _ hi => h i hi⟩
end Go.Proofs.Ytoffmpkgickfhaa.M
end
section
namespace Go.Proofs.Ytoffmpkgickfhaa.M
open Go.RowKit Go.Proofs.Ytoffmpkgickfhaa.PG Go.Proofs.YtoffmpkgickfhaaW.PrintMore Go.Proofs.YtoffmpkgickfhaaW.PrintWords
theorem or_f (a b : Int) (k : Nat) (hk : 3 ≤ k) : cmp_Or_int.f k [a, b] = some (if a = 0 then b else a) := by
 obtain ⟨k, rfl⟩ : ∃ m, k = m + 3 := ⟨k - 3, by omega⟩
 unfold cmp_Or_int.f
 rw [cmp_Or_int.l0]
 simp only [List.length_cons, List.length_nil]
 rw [if_pos (by omega), if_pos (by omega), if_pos (by omega)]
 by_cases h : a = 0
 ·rw [if_pos (show rd [a, b] 0 = 0 from h), cmp_Or_int.l0]
  rw [show wrap64 (0 + 1) = 1 from by unfold wrap64; omega]
  simp only [List.length_cons, List.length_nil]
  rw [if_pos (by omega), if_pos (by omega), if_pos (by omega), if_pos h]
  by_cases h2 : b = 0
  ·rw [if_pos (show rd [a, b] 1 = 0 from h2), cmp_Or_int.l0]
   rw [show wrap64 (1 + 1) = 2 from by unfold wrap64; omega]
   simp only [List.length_cons, List.length_nil]
   rw [if_neg (by omega), h2]
  ·rw [if_neg (show ¬ rd [a, b] 1 = 0 from h2)]; rfl
 ·rw [if_neg (show ¬ rd [a, b] 0 = 0 from h), if_neg h]; rfl
theorem lower_f (a b : Pt) (k : Nat) (hk : 3 ≤ k) : ∃ c, shape_lower.f k a.f0 a.f1 b.f0 b.f1 = some c ∧ (c < 0 ↔ first a b) := by
 refine ⟨_, by unfold shape_lower.f; rw [compare_f, Option.bind_some, compare_f, Option.bind_some, or_f _ _ _ hk, Option.bind_some], ?_⟩
 unfold sg first
 split <;> (try split) <;> (try split) <;> (try split) <;> (try split) <;> omega
/-- the least of the first n points, from m on -/
theorem min_l0 {l : List Pt} (hN : l.length ≤ 1000000) : ∀ d i (m : Pt), l.length = i + d → ∃ r : Pt, Rt (fun k => slices_MinFunc_lower.l0 k l (i : Int) m.f0 m.f1) (r.f0, r.f1) ∧ (r = m ∨ ∃ j, i ≤ j ∧ j < l.length ∧ r = at_ l j) ∧ ¬ first m r ∧ ∀ j, i ≤ j → j < l.length → ¬ first (at_ l j) r := by
 intro d
 induction d with
 | zero =>
  intro i m hi
  refine ⟨m, ⟨0 + 1, fun k hk => ?_⟩, Or.inl rfl, first_irrefl m, fun j h1 h2 => by omega⟩
  obtain ⟨k, rfl⟩ := fuel1 hk
  dsimp only; rw [slices_MinFunc_lower.l0, if_neg (by omega)]
 | succ d ih =>
  intro i m hi
  have hlt : i < l.length := by omega
  by_cases h : first (at_ l i) m
  ·obtain ⟨r, ⟨K, hK⟩, h1, h2, h3⟩ := ih (i + 1) (at_ l i) (by omega)
   refine ⟨r, ⟨K + 4, fun k hk => ?_⟩, ?_, ?_, ?_⟩
   ·obtain ⟨k, rfl⟩ : ∃ m, k = m + 1 := ⟨k - 1, by omega⟩
    obtain ⟨c, hc, hc'⟩ := lower_f (at_ l i) m k (by omega)
    dsimp only; rw [slices_MinFunc_lower.l0, if_pos (by omega), if_pos (by omega), rd_at, hc, Option.bind_some, if_pos (hc'.mpr h), wrap_succ i (by omega)]
    exact hK k (by omega)
   ·right
    rcases h1 with h1 | ⟨j, h4, h5, h6⟩
    ·exact ⟨i, Nat.le_refl _, hlt, h1⟩
    ·exact ⟨j, by omega, h5, h6⟩
   ·intro h4
    exact h2 (first_trans h h4)
   ·intro j h4 h5
    rcases Nat.eq_or_lt_of_le h4 with rfl | h6
    ·exact h2
    ·exact h3 j h6 h5
  ·obtain ⟨r, ⟨K, hK⟩, h1, h2, h3⟩ := ih (i + 1) m (by omega)
   refine ⟨r, ⟨K + 4, fun k hk => ?_⟩, ?_, h2, ?_⟩
   ·obtain ⟨k, rfl⟩ : ∃ m, k = m + 1 := ⟨k - 1, by omega⟩
    obtain ⟨c, hc, hc'⟩ := lower_f (at_ l i) m k (by omega)
    dsimp only; rw [slices_MinFunc_lower.l0, if_pos (by omega), if_pos (by omega), rd_at, hc, Option.bind_some, if_neg (fun h4 => h (hc'.mp h4)), wrap_succ i (by omega)]
    exact hK k (by omega)
   ·rcases h1 with h1 | ⟨j, h4, h5, h6⟩
    ·exact Or.inl h1
    ·exact Or.inr ⟨j, by omega, h5, h6⟩
   ·intro j h4 h5
    rcases Nat.eq_or_lt_of_le h4 with rfl | h6
    ·intro h7
     rcases first_tri m r with e | e | e
     ·rw [e] at h; exact h h7
     ·exact h2 e
     ·exact h (first_trans h7 e)
    ·exact h3 j h6 h5
theorem min_run {l : List Pt} (h0 : 0 < l.length) (hN : l.length ≤ 1000000) : ∃ r : Pt, Rt (fun k => slices_MinFunc_lower.f k l) (r.f0, r.f1) ∧ r ∈ l ∧ ∀ p ∈ l, ¬ first p r := by
 obtain ⟨r, ⟨K, hK⟩, h1, h2, h3⟩ := min_l0 hN (l.length - 1) 1 (at_ l 0) (by omega)
 refine ⟨r, ⟨K, fun k hk => ?_⟩, ?_, ?_⟩
 ·unfold slices_MinFunc_lower.f
  dsimp only; rw [if_neg (by omega), if_pos (by omega)]
  exact hK k hk
 ·rcases h1 with rfl | ⟨j, _, h5, rfl⟩
  ·exact at_mem h0
  ·exact at_mem h5
 ·intro p hp
  obtain ⟨j, hj, rfl⟩ := List.mem_iff_getElem.mp hp
  rw [← at_eq hj]
  by_cases h4 : j = 0
  ·subst h4; exact h2
  ·exact h3 j (by omega) hj
theorem tmod_two (i n : Nat) (h : i ≤ 1000000) : Int.tmod (wrap64 ((i : Int) + 2)) (n : Int) = (((i + 1 + 1) % n : Nat) : Int) := by
 rw [wrap_succ2 i h, ← Int.ofNat_tmod]
theorem normal_l0 {l : List Pt} (hb : ∀ p ∈ l, Bd p) (hn : 3 ≤ l.length) (hN : l.length ≤ 1000000) {r : Pt} (hmin : Rt (fun k => slices_MinFunc_lower.f k l) (r.f0, r.f1)) {b' : Bool} (hs : Rt (fun k => shape_simple.f k l) b') :
  ∀ d i, l.length = i + d → ∃ b, Rt (fun k => shape_normal.l0 k l (l.length : Int) (i : Int)) b ∧ (b = true ↔ (∀ i', i ≤ i' → i' < l.length → 0 < cr (at_ l i') (at_ l ((i' + 1) % l.length)) (at_ l ((i' + 1 + 1) % l.length))) ∧ at_ l 0 = r ∧ b' = true) := by
 intro d
 induction d with
 | zero =>
  intro i hi
  obtain ⟨K1, hK1⟩ := hmin
  obtain ⟨K2, hK2⟩ := hs
  refine ⟨decide (at_ l 0 = r) && b', ⟨K1 + K2 + 1, fun k hk => ?_⟩, ?_⟩
  ·obtain ⟨k, rfl⟩ := fuel1 hk
   have e1 := hK1 k (by omega)
   have e2 := hK2 k (by omega)
   dsimp only at e1 e2 ⊢
   rw [shape_normal.l0, if_neg (by omega), if_pos (by omega), e1, Option.bind_some]
   dsimp only
   rw [show rd_T29 l 0 = at_ l 0 from rfl, pt_beq]
   by_cases h : at_ l 0 = r
   ·rw [if_pos (by simpa using h), e2, Option.bind_some]; simp [h]
   ·rw [if_neg (by simpa using h)]; simp [h]
  ·simp only [Bool.and_eq_true, decide_eq_true_eq]
   exact ⟨fun h => ⟨fun i' h1 h2 => by omega, h⟩, fun h => h.2⟩
 | succ d ih =>
  intro i hi
  have hlt : i < l.length := by omega
  obtain ⟨b1, ⟨K, hK⟩, hb1⟩ := ih (i + 1) (by omega)
  have hBi := at_bd hb hlt
  have hBn := at_bd hb (show (i + 1) % l.length < l.length from Nat.mod_lt _ (by omega))
  have hBm := at_bd hb (show (i + 1 + 1) % l.length < l.length from Nat.mod_lt _ (by omega))
  have t1 := tmod_in (i + 1) l.length (by omega)
  have t2 := tmod_in (i + 1 + 1) l.length (by omega)
  rw [from_split hlt]
  by_cases h1 : cr (at_ l i) (at_ l ((i + 1) % l.length)) (at_ l ((i + 1 + 1) % l.length)) ≤ 0
  ·refine ⟨false, ⟨0 + 1, fun k hk => ?_⟩, ⟨fun h => by simp at h, fun h => absurd h.1.1 (by omega)⟩⟩
   obtain ⟨k, rfl⟩ := fuel1 hk
   dsimp only
   rw [shape_normal.l0, if_pos (by omega), if_pos (by omega), if_pos (by omega), if_neg (by omega), tmod_nat i _ (by omega), tmod_two i _ (by omega), if_pos (by omega), if_pos (by omega), if_pos (by omega), if_pos (by omega), rd_at, rd_at, rd_at, side_f hBi hBn hBm, Option.bind_some, if_pos h1]
  ·refine ⟨b1, ⟨K + 1, fun k hk => ?_⟩, ?_⟩
   ·obtain ⟨k, rfl⟩ := fuel1 hk
    dsimp only
    rw [shape_normal.l0, if_pos (by omega), if_pos (by omega), if_pos (by omega), if_neg (by omega), tmod_nat i _ (by omega), tmod_two i _ (by omega), if_pos (by omega), if_pos (by omega), if_pos (by omega), if_pos (by omega), rd_at, rd_at, rd_at, side_f hBi hBn hBm, Option.bind_some, if_neg h1, wrap_succ i (by omega)]
    exact hK k (by omega)
   ·rw [hb1]; exact ⟨fun h => ⟨⟨by omega, h.1⟩, h.2⟩, fun h => ⟨h.1.2, h.2⟩⟩
/-- a simple polygon comes to its first corner but once -/
theorem simple_once {l : List Pt} (hn : 3 ≤ l.length) (h : Simple l) {i : Nat} (hi : i < l.length) (h0 : 0 < i) : at_ l 0 ≠ at_ l i := by
 intro e
 by_cases h1 : i = 1
 ·subst h1
  have := h.1 0 (by omega)
  rw [Nat.mod_eq_of_lt (by omega)] at this; exact this e
 ·by_cases h2 : i + 1 = l.length
  ·have := h.1 i hi
   rw [h2, Nat.mod_self] at this; exact this e.symm
  ·have := (h.2 0 (by omega)).2.2 i (by omega) hi (by rw [Nat.mod_eq_of_lt (by omega)]; omega)
   apply this
   left
   rw [← e]
   exact ⟨cr_self1 _ _, btw_start _ _⟩
theorem normal_run {l : List Pt} (hb : ∀ p ∈ l, Bd p) (hn : 3 ≤ l.length) (hN : l.length ≤ 1000000) : ∃ b, Rt (fun k => shape_normal.f k l) b ∧ (b = true ↔ Convex l) := by
 obtain ⟨r, hR, hr1, hr2⟩ := min_run (show 0 < l.length by omega) hN
 obtain ⟨b1, hS, hb1⟩ := simple_run hb hn hN
 obtain ⟨b, hB, hb2⟩ := normal_l0 hb hn hN hR hS l.length 0 (by omega)
 refine ⟨b, hB, ?_⟩
 rw [hb2, hb1]
 constructor
 ·rintro ⟨h1, h2, h3⟩
  refine ⟨h3, fun i hi => ⟨h1 i (Nat.zero_le _) hi, fun h0 => ?_⟩⟩
  rcases first_tri (at_ l 0) (at_ l i) with e | e | e
  ·exact absurd e (simple_once hn h3 hi h0)
  ·exact e
  ·rw [h2] at e; exact absurd e (hr2 _ (at_mem hi))
 ·rintro ⟨h3, h4⟩
  refine ⟨fun i _ hi => (h4 i hi).1, ?_, h3⟩
  obtain ⟨j, hj, rfl⟩ := List.mem_iff_getElem.mp hr1
  rw [← at_eq hj] at hr2 ⊢
  by_cases h5 : j = 0
  ·rw [h5]
  ·exact absurd ((h4 j hj).2 (by omega)) (hr2 _ (at_mem (by omega)))
end Go.Proofs.Ytoffmpkgickfhaa.M
end
section
namespace Go.Proofs.Ytoffmpkgickfhaa.M
open Go.RowKit Go.Proofs.Ytoffmpkgickfhaa.PG Go.Proofs.YtoffmpkgickfhaaW.PrintMore Go.Proofs.YtoffmpkgickfhaaW.PrintWords
/-- coordinates up to a limit -/
def In (m : Int) (p : Pt) : Prop := -m ≤ p.f0 ∧ p.f0 ≤ m ∧ -m ≤ p.f1 ∧ p.f1 ≤ m
instance (m : Int) (p : Pt) : Decidable (In m p) := by unfold In; infer_instance
def Poly (l : List Pt) : Prop := 3 ≤ l.length ∧ l.length ≤ 32 ∧ ∀ p ∈ l, In 10000 p
instance (l : List Pt) : Decidable (Poly l) := by unfold Poly; infer_instance
theorem beyond_f (m : Int) (h0 : 0 ≤ m) (h1 : m ≤ 1000000) (p : Pt) : beyond m p = !decide (In m p) := by
 unfold beyond
 rw [wz _ (by omega) (by omega), Bool.eq_iff_iff]
 simp only [Bool.or_eq_true, decide_eq_true_eq, Bool.not_eq_true']
 rw [decide_eq_false_iff_not]
 unfold In
 omega
theorem within_f (l : List Pt) (m : Int) (h0 : 0 ≤ m) (h1 : m ≤ 1000000) : shape_within.f l m = some (decide (∀ p ∈ l, In m p)) := by
 unfold shape_within.f
 congr 1
 rw [Bool.eq_iff_iff]
 simp only [Bool.not_eq_true', List.any_eq_false, beyond_f m h0 h1, decide_eq_true_eq, Bool.not_eq_true', decide_eq_false_iff_not, Decidable.not_not]
theorem polygon_f (l : List Pt) : shape_polygon.f l = some (decide (Poly l)) := by
 unfold shape_polygon.f
 by_cases h : (l.length : Int) ≥ 3
 ·rw [if_pos h]
  by_cases h2 : (l.length : Int) ≤ 32
  ·rw [if_pos h2, within_f _ _ (by omega) (by omega), Option.bind_some]
   congr 1; rw [decide_eq_decide]
   exact ⟨fun h3 => ⟨by omega, by omega, h3⟩, fun h3 => h3.2.2⟩
  ·rw [if_neg h2]
   congr 1; symm; rw [decide_eq_false_iff_not]
   intro h3; have := h3.2.1; omega
 ·rw [if_neg h]
  congr 1; symm; rw [decide_eq_false_iff_not]
  intro h3; have := h3.1; omega
theorem in_bd {p : Pt} (h : In 10000 p) : Bd p := by unfold In at h; unfold Bd; omega
/-- what edge i adds to twice the area -/
def term (l : List Pt) (i : Nat) : Int := (at_ l i).f0 * (at_ l ((i + 1) % l.length)).f1 - (at_ l i).f1 * (at_ l ((i + 1) % l.length)).f0
def areaTo (l : List Pt) : Nat → Int
 | 0 => 0
 | i + 1 => areaTo l i + term l i
/-- twice the signed area -/
def area (l : List Pt) : Int := areaTo l l.length
theorem prod_bd {a b : Pt} (ha : Bd a) (hb : Bd b) : (-4000000000000 ≤ a.f0 * b.f1 ∧ a.f0 * b.f1 ≤ 4000000000000) ∧ (-4000000000000 ≤ a.f1 * b.f0 ∧ a.f1 * b.f0 ≤ 4000000000000) := by
 obtain ⟨a0, a1, a2, a3⟩ := ha; obtain ⟨b0, b1, b2, b3⟩ := hb
 exact ⟨mulb (by omega) (by omega) (by omega) (by omega), mulb (by omega) (by omega) (by omega) (by omega)⟩
theorem areaTo_bd {l : List Pt} (hb : ∀ p ∈ l, Bd p) : ∀ i, i ≤ l.length → -8000000000000 * (i : Int) ≤ areaTo l i ∧ areaTo l i ≤ 8000000000000 * (i : Int) := by
 intro i
 induction i with
 | zero => intro _; unfold areaTo; omega
 | succ i ih =>
  intro hi
  have h := ih (by omega)
  have h2 := prod_bd (at_bd hb (show i < l.length by omega)) (at_bd hb (show (i + 1) % l.length < l.length from Nat.mod_lt _ (by omega)))
  unfold areaTo term; omega
theorem area_l0 {l : List Pt} (hb : ∀ p ∈ l, Bd p) (hN : l.length ≤ 1000000) : ∀ d i, l.length = i + d → Rt (fun k => shape_area2.l0 k l (areaTo l i) (l.length : Int) (i : Int)) (area l) := by
 intro d
 induction d with
 | zero =>
  intro i hi
  refine ⟨0 + 1, fun k hk => ?_⟩
  obtain ⟨k, rfl⟩ := fuel1 hk
  dsimp only; rw [shape_area2.l0, if_neg (by omega)]
  rw [show i = l.length by omega]; rfl
 | succ d ih =>
  intro i hi
  have hlt : i < l.length := by omega
  obtain ⟨K, hK⟩ := ih (i + 1) (by omega)
  refine ⟨K + 1, fun k hk => ?_⟩
  obtain ⟨k, rfl⟩ := fuel1 hk
  have t1 := tmod_in (i + 1) l.length (by omega)
  have h2 := prod_bd (at_bd hb hlt) (at_bd hb (show (i + 1) % l.length < l.length from Nat.mod_lt _ (by omega)))
  have h3 := areaTo_bd hb (i + 1) (by omega)
  have h4 := areaTo_bd hb i (by omega)
  have e : areaTo l (i + 1) = areaTo l i + term l i := rfl
  unfold term at e
  dsimp only
  rw [shape_area2.l0, if_pos (by omega), if_pos (by omega), if_pos (by omega), if_neg (by omega), tmod_nat i _ (by omega), if_pos (by omega), if_pos (by omega), rd_at, rd_at]
  unfold shape_cross.f
  rw [Option.bind_some, wz ((at_ l i).f0 * _) (by omega) (by omega), wz ((at_ l i).f1 * _) (by omega) (by omega), wz (_ - _) (by omega) (by omega), wz (areaTo l i + _) (by omega) (by omega), ← e, wrap_succ i (by omega)]
  exact hK k (by omega)
theorem area_run {l : List Pt} (hb : ∀ p ∈ l, Bd p) (hN : l.length ≤ 1000000) : Rt (fun k => shape_area2.f k l) (area l) := by
 obtain ⟨K, hK⟩ := area_l0 hb hN l.length 0 (by omega)
 exact ⟨K, fun k hk => hK k hk⟩
end Go.Proofs.Ytoffmpkgickfhaa.M
end
section
namespace Go.Proofs.Ytoffmpkgickfhaa.M
open Go.RowKit Go.Proofs.Ytoffmpkgickfhaa.PG Go.Proofs.YtoffmpkgickfhaaW.PrintMore Go.Proofs.YtoffmpkgickfhaaW.PrintWords
/-- the ray to the right from p crosses the edge from a to b -/
def Hit (a b p : Pt) : Prop := (a.f1 ≤ p.f1 ∧ p.f1 < b.f1 ∧ 0 < cr a b p) ∨ (b.f1 ≤ p.f1 ∧ p.f1 < a.f1 ∧ 0 < cr b a p)
instance (a b p : Pt) : Decidable (Hit a b p) := by unfold Hit; infer_instance
/-- the edges from i on, d of them -/
def wh (l : List Pt) (p : Pt) : Nat → Nat → Bool → Int
 | 0, _, s => if s = true then 1 else -1
 | d + 1, i, s => if On (at_ l i) (at_ l ((i + 1) % l.length)) p then 0 else wh l p d (i + 1) (s != decide (Hit (at_ l i) (at_ l ((i + 1) % l.length)) p))
def whereOf (l : List Pt) (p : Pt) : Int := wh l p l.length 0 false
theorem where_j1 {l : List Pt} {p a b : Pt} (hp : Bd p) (ha : Bd a) (hb : Bd b) (hab : a.f1 ≤ b.f1) (s : Bool) (i : Nat) {v : Int} {c : Bool} (hc : c = decide (Hit a b p)) (hi : i < l.length) (hN : l.length ≤ 1000000) (K : Nat)
  (hK : ∀ k, K ≤ k → shape_where.l0 k l (if (s != c) = true then 1 else -1) (l.length : Int) ((i + 1 : Nat) : Int) p.f0 p.f1 = some v) (k : Nat) (hk : K + 2 ≤ k) :
  shape_where.j1 k l (if s = true then 1 else -1) (l.length : Int) (i : Int) p.f0 p.f1 a.f0 a.f1 b.f0 b.f1 = some v := by
 obtain ⟨k, rfl⟩ := fuel2 hk
 have fin : shape_where.j2 (k + 1) l (if s = true then 1 else -1) (l.length : Int) (i : Int) c p.f0 p.f1 = some v := by
  rw [shape_where.j2, wrap_succ i (by omega)]
  have := hK k (by omega)
  cases c <;> cases s <;> simp_all [wrap64]
 have h2 : Hit a b p ↔ (a.f1 ≤ p.f1 ∧ p.f1 < b.f1 ∧ 0 < cr a b p) := by
  unfold Hit
  constructor
  ·rintro (h | h)
   ·exact h
   ·omega
  ·exact Or.inl
 rw [shape_where.j1]
 by_cases h3 : a.f1 ≤ p.f1
 ·rw [if_pos h3]
  by_cases h4 : p.f1 < b.f1
  ·rw [if_pos h4, side_f ha hb hp, Option.bind_some]
   rw [show decide (cr a b p > 0) = c by rw [hc, decide_eq_decide, h2]; exact ⟨fun h => ⟨h3, h4, h⟩, fun h => h.2.2⟩]
   exact fin
  ·rw [if_neg h4]
   rw [show (false : Bool) = c by rw [hc]; symm; rw [decide_eq_false_iff_not, h2]; intro h; exact h4 h.2.1]
   exact fin
 ·rw [if_neg h3]
  rw [show (false : Bool) = c by rw [hc]; symm; rw [decide_eq_false_iff_not, h2]; intro h; exact h3 h.1]
  exact fin
theorem hit_comm (a b p : Pt) : Hit a b p ↔ Hit b a p := by unfold Hit; exact or_comm
theorem where_l0 {l : List Pt} {p : Pt} (hb : ∀ p ∈ l, Bd p) (hp : Bd p) (hN : l.length ≤ 1000000) : ∀ d i s, l.length = i + d → Rt (fun k => shape_where.l0 k l (if s = true then 1 else -1) (l.length : Int) (i : Int) p.f0 p.f1) (wh l p d i s) := by
 intro d
 induction d with
 | zero =>
  intro i s hi
  refine ⟨0 + 1, fun k hk => ?_⟩
  obtain ⟨k, rfl⟩ := fuel1 hk
  dsimp only; rw [shape_where.l0, if_neg (by omega)]; rfl
 | succ d ih =>
  intro i s hi
  have hlt : i < l.length := by omega
  have hBi := at_bd hb hlt
  have hBn := at_bd hb (show (i + 1) % l.length < l.length from Nat.mod_lt _ (by omega))
  have t1 := tmod_in (i + 1) l.length (by omega)
  obtain ⟨K, hK⟩ := ih (i + 1) (s != decide (Hit (at_ l i) (at_ l ((i + 1) % l.length)) p)) (by omega)
  refine ⟨K + 3, fun k hk => ?_⟩
  obtain ⟨k, rfl⟩ : ∃ m, k = m + 1 := ⟨k - 1, by omega⟩
  dsimp only
  rw [shape_where.l0, if_pos (by omega), if_pos (by omega), if_pos (by omega), if_neg (by omega), tmod_nat i _ (by omega), if_pos (by omega), if_pos (by omega), rd_at, rd_at, on_f hBi hBn hp, Option.bind_some]
  unfold wh
  by_cases h1 : On (at_ l i) (at_ l ((i + 1) % l.length)) p
  ·rw [if_pos (by simpa using h1), if_pos h1]
  ·rw [if_neg (by simpa using h1), if_neg h1]
   by_cases h2 : (at_ l i).f1 > (at_ l ((i + 1) % l.length)).f1
   ·rw [if_pos h2]
    exact where_j1 hp hBn hBi (by omega) s i (by rw [decide_eq_decide]; exact hit_comm _ _ _) hlt hN K hK k (by omega)
   ·rw [if_neg h2]
    exact where_j1 hp hBi hBn (by omega) s i rfl hlt hN K hK k (by omega)
theorem where_run {l : List Pt} {p : Pt} (hb : ∀ p ∈ l, Bd p) (hp : Bd p) (hN : l.length ≤ 1000000) : Rt (fun k => shape_where.f k l p.f0 p.f1) (whereOf l p) := by
 obtain ⟨K, hK⟩ := where_l0 hb hp hN l.length 0 false (by omega)
 exact ⟨K, fun k hk => hK k hk⟩
end Go.Proofs.Ytoffmpkgickfhaa.M
end
section
namespace Go.Proofs.Ytoffmpkgickfhaa.M
open Go.RowKit Go.Proofs.Ytoffmpkgickfhaa.PG Go.Proofs.YtoffmpkgickfhaaW.PrintMore Go.Proofs.YtoffmpkgickfhaaW.PrintWords
theorem href_l1 {l : List Pt} (hb : ∀ p ∈ l, Bd p) (hN : l.length ≤ 1000000) {i : Nat} (hi : i < l.length) (m : Pt) :
  ∀ d j b, l.length = j + d → ∃ c, (c = true ↔ b = true ∧ ∀ j', j ≤ j' → j' < l.length → cr (at_ l 0) (at_ l i) (at_ l j') = 0) ∧ ∀ v, Rt (fun k => cracknelref04_Hull.l0 k l c ((i + 1 : Nat) : Int) m.f0 m.f1) v → Rt (fun k => cracknelref04_Hull.l1 k l b (i : Int) (j : Int) m.f0 m.f1) v := by
 intro d
 induction d with
 | zero =>
  intro j b hj
  refine ⟨b, ⟨fun h => ⟨h, fun j' h1 h2 => by omega⟩, fun h => h.1⟩, fun v hv => rt_step (fun k => ?_) hv⟩
  rw [cracknelref04_Hull.l1, if_neg (by omega), wrap_succ i (by omega)]
 | succ d ih =>
  intro j b hj
  have hlt : j < l.length := by omega
  cases b with
  | false =>
   refine ⟨false, by simp, fun v hv => rt_step (fun k => ?_) hv⟩
   rw [cracknelref04_Hull.l1, if_pos (by omega), if_neg (by simp), wrap_succ i (by omega)]
  | true =>
   obtain ⟨c, hc, hr⟩ := ih (j + 1) (decide (cr (at_ l 0) (at_ l i) (at_ l j) = 0)) (by omega)
   refine ⟨c, ?_, fun v hv => rt_step (fun k => ?_) (hr v hv)⟩
   ·rw [hc, from_split hlt, decide_eq_true_eq]; exact ⟨fun h => ⟨rfl, h⟩, fun h => h.2⟩
   ·rw [cracknelref04_Hull.l1, if_pos (by omega), if_pos rfl, if_pos (by omega), if_pos (by omega), if_pos (by omega), if_pos (by omega), show rd_T29 l 0 = at_ l 0 from rfl, rd_at, rd_at, Cross_f (at_bd hb (by omega)) (at_bd hb hi) (at_bd hb hlt), Option.bind_some, wrap_succ j (by omega)]
    rfl
theorem href_l0 {l : List Pt} (hb : ∀ p ∈ l, Bd p) (hN : l.length ≤ 1000000) :
  ∀ d i (m : Pt) b, l.length = i + d → ∃ r c, (c = true ↔ b = true ∧ ∀ i', i ≤ i' → i' < l.length → ∀ j, j < l.length → cr (at_ l 0) (at_ l i') (at_ l j) = 0) ∧ (r = m ∨ ∃ j, i ≤ j ∧ j < l.length ∧ r = at_ l j) ∧ ¬ first m r ∧ (∀ j, i ≤ j → j < l.length → ¬ first (at_ l j) r) ∧
   ∀ v, Rt (fun k => cracknelref04_Hull.l0 k l c (l.length : Int) r.f0 r.f1) v → Rt (fun k => cracknelref04_Hull.l0 k l b (i : Int) m.f0 m.f1) v := by
 intro d
 induction d with
 | zero =>
  intro i m b hi
  refine ⟨m, b, ⟨fun h => ⟨h, fun i' h1 h2 => by omega⟩, fun h => h.1⟩, Or.inl rfl, first_irrefl m, fun j h1 h2 => by omega, fun v hv => ?_⟩
  rw [show i = l.length by omega]; exact hv
 | succ d ih =>
  intro i m b hi
  have hlt : i < l.length := by omega
  by_cases h : first (at_ l i) m
  ·obtain ⟨c1, hc1, hr1⟩ := href_l1 hb hN hlt (at_ l i) l.length 0 b (by omega)
   obtain ⟨r, c, hc, h1, h2, h3, hr⟩ := ih (i + 1) (at_ l i) c1 (by omega)
   refine ⟨r, c, ?_, ?_, ?_, ?_, fun v hv => rt_step (h := fun k => cracknelref04_Hull.j1 k l b (i : Int) (at_ l i).f0 (at_ l i).f1) (fun k => ?_) (rt_step (fun k => ?_) (hr1 v (hr v hv)))⟩
   rotate_left 4
   ·rw [cracknelref04_Hull.l0, if_pos (by omega), if_pos (by omega), rd_at, first_f, Option.bind_some, if_pos (by simpa using h)]
   ·rw [cracknelref04_Hull.j1]; rfl
   ·rw [hc, hc1, from_split hlt, and_assoc]
    exact ⟨fun h => ⟨h.1, fun j hj => h.2.1 j (Nat.zero_le _) hj, h.2.2⟩, fun h => ⟨h.1, fun j _ hj => h.2.1 j hj, h.2.2⟩⟩
   ·right
    rcases h1 with h1 | ⟨j, h4, h5, h6⟩
    ·exact ⟨i, Nat.le_refl _, hlt, h1⟩
    ·exact ⟨j, by omega, h5, h6⟩
   ·exact fun h4 => h2 (first_trans h h4)
   ·intro j h4 h5
    rcases Nat.eq_or_lt_of_le h4 with rfl | h6
    ·exact h2
    ·exact h3 j h6 h5
  ·obtain ⟨c1, hc1, hr1⟩ := href_l1 hb hN hlt m l.length 0 b (by omega)
   obtain ⟨r, c, hc, h1, h2, h3, hr⟩ := ih (i + 1) m c1 (by omega)
   refine ⟨r, c, ?_, ?_, h2, ?_, fun v hv => rt_step (h := fun k => cracknelref04_Hull.j1 k l b (i : Int) m.f0 m.f1) (fun k => ?_) (rt_step (fun k => ?_) (hr1 v (hr v hv)))⟩
   rotate_left 3
   ·rw [cracknelref04_Hull.l0, if_pos (by omega), if_pos (by omega), rd_at, first_f, Option.bind_some, if_neg (by simpa using h)]
   ·rw [cracknelref04_Hull.j1]; rfl
   ·rw [hc, hc1, from_split hlt, and_assoc]
    exact ⟨fun h => ⟨h.1, fun j hj => h.2.1 j (Nat.zero_le _) hj, h.2.2⟩, fun h => ⟨h.1, fun j _ hj => h.2.1 j hj, h.2.2⟩⟩
   ·rcases h1 with h1 | ⟨j, h4, h5, h6⟩
    ·exact Or.inl h1
    ·exact Or.inr ⟨j, by omega, h5, h6⟩
   ·intro j h4 h5
    rcases Nat.eq_or_lt_of_le h4 with rfl | h6
    ·intro h7
     rcases first_tri m r with e | e | e
     ·rw [e] at h; exact h h7
     ·exact h2 e
     ·exact h (first_trans h7 e)
    ·exact h3 j h6 h5
theorem drop_at {l : List Pt} {i : Nat} (h : i < l.length) : l.drop i = at_ l i :: l.drop (i + 1) := by
 rw [at_eq h]; exact List.drop_eq_getElem_cons h
theorem wrapStep_bd {o t p : Pt} (ht : Bd t) (hp : Bd p) : Bd (wrapStep o t p) := by
 unfold wrapStep; split
 ·exact ht
 ·split
  ·exact hp
  ·exact ht
theorem href_l3 {l : List Pt} (hb : ∀ p ∈ l, Bd p) (hN : l.length ≤ 1000000) (x : List Pt) (low o : Pt) (ho : Bd o) :
  ∀ d i t, l.length = i + d → Bd t → ∀ v, Rt (fun k => cracknelref04_Hull.l3 k l x (l.length : Int) low.f0 low.f1 o.f0 o.f1 ((l.drop i).foldl (wrapStep o) t).f0 ((l.drop i).foldl (wrapStep o) t).f1) v →
   Rt (fun k => cracknelref04_Hull.l3 k l x (i : Int) low.f0 low.f1 o.f0 o.f1 t.f0 t.f1) v := by
 intro d
 induction d with
 | zero =>
  intro i t hi _ v hv
  rw [List.drop_of_length_le (by omega), List.foldl_nil] at hv
  rw [show i = l.length by omega]; exact hv
 | succ d ih =>
  intro i t hi ht v hv
  have hlt : i < l.length := by omega
  have hp := at_bd hb hlt
  rw [drop_at hlt, List.foldl_cons] at hv
  have h := ih (i + 1) (wrapStep o t (at_ l i)) (by omega) (wrapStep_bd ht hp) v hv
  have e : wrapStep o t (at_ l i) = if at_ l i = o then t else if t = o ∨ cr o t (at_ l i) < 0 ∨ (cr o t (at_ l i) = 0 ∧ cr o (at_ l i) t = 0 ∧ btw o (at_ l i) t) then at_ l i else t := rfl
  by_cases h1 : at_ l i = o
  ·rw [if_pos h1] at e; rw [e] at h
   refine rt_step (fun k => ?_) h
   rw [cracknelref04_Hull.l3, if_pos (by omega), if_pos (by omega), rd_at, pt_beq, if_pos (by simpa using h1), wrap_succ i (by omega)]
  ·rw [if_neg h1] at e
   have s0 : ∀ k, cracknelref04_Hull.l3 (k + 1) l x (i : Int) low.f0 low.f1 o.f0 o.f1 t.f0 t.f1 = cracknelref04_Hull.j5 k l x (i : Int) (decide (t = o ∨ cr o t (at_ l i) < 0 ∨ (cr o t (at_ l i) = 0 ∧ cr o (at_ l i) t = 0 ∧ btw o (at_ l i) t))) low.f0 low.f1 o.f0 o.f1 t.f0 t.f1 (at_ l i).f0 (at_ l i).f1 := by
    intro k
    rw [cracknelref04_Hull.l3, if_pos (by omega), if_pos (by omega), rd_at, pt_beq, if_neg (by simpa using h1), Cross_f ho ht hp, Option.bind_some, pt_beq]
    by_cases h2 : t = o
    ·rw [if_pos (by simpa using h2)]; simp only [h2, true_or, decide_true]
    ·rw [if_neg (by simpa using h2)]
     by_cases h3 : cr o t (at_ l i) < 0
     ·rw [if_pos h3]; simp only [h3, true_or, or_true, decide_true]
     ·rw [if_neg h3]
      by_cases h4 : cr o t (at_ l i) = 0
      ·rw [if_pos h4, On_f ho hp ht, Option.bind_some]
       rw [show decide (On o (at_ l i) t) = decide (t = o ∨ cr o t (at_ l i) < 0 ∨ (cr o t (at_ l i) = 0 ∧ cr o (at_ l i) t = 0 ∧ btw o (at_ l i) t)) from by
        rw [decide_eq_decide]; unfold On
        exact ⟨fun h => Or.inr (Or.inr ⟨h4, h⟩), fun h => by
         rcases h with h | h | h
         ·exact absurd h h2
         ·exact absurd h h3
         ·exact h.2⟩]
      ·rw [if_neg h4]
       rw [show decide (t = o ∨ cr o t (at_ l i) < 0 ∨ (cr o t (at_ l i) = 0 ∧ cr o (at_ l i) t = 0 ∧ btw o (at_ l i) t)) = false from by
        rw [decide_eq_false_iff_not]
        rintro (h | h | h)
        ·exact h2 h
        ·exact h3 h
        ·exact h4 h.1]
   by_cases h5 : (t = o ∨ cr o t (at_ l i) < 0 ∨ (cr o t (at_ l i) = 0 ∧ cr o (at_ l i) t = 0 ∧ btw o (at_ l i) t))
   ·rw [if_pos h5] at e; rw [e] at h
    refine rt_step s0 (rt_step (fun k => ?_) h)
    rw [cracknelref04_Hull.j5, if_pos (by simpa using h5), wrap_succ i (by omega)]
   ·rw [if_neg h5] at e; rw [e] at h
    refine rt_step s0 (rt_step (fun k => ?_) h)
    rw [cracknelref04_Hull.j5, if_neg (by simpa using h5), wrap_succ i (by omega)]
theorem around_last (S : List Pt) : ∀ n o x, (around S n o).getLast? = some x → around S (n + 1) o = around S n o ++ [wrap S x] := by
 intro n
 induction n with
 | zero => intro o x h; simp [around] at h ⊢; rw [h]
 | succ n ih =>
  intro o x h
  have e : around S (n + 1) o = o :: around S n (wrap S o) := rfl
  have ne : around S n (wrap S o) ≠ [] := by cases n <;> simp [around]
  rw [e, List.getLast?_cons_of_ne_nil ne] at h
  have := ih (wrap S o) x h
  show o :: around S (n + 1) (wrap S o) = _
  rw [this]; rfl
theorem around_len (S : List Pt) : ∀ n o, (around S n o).length = n + 1 := by
 intro n
 induction n with
 | zero => intro o; rfl
 | succ n ih => intro o; show (around S n (wrap S o)).length + 1 = _; rw [ih]
theorem foldl_bd {S : List Pt} {o : Pt} : ∀ (l : List Pt) (t : Pt), (∀ p ∈ l, p ∈ S) → t ∈ S → l.foldl (wrapStep o) t ∈ S := by
 intro l
 induction l with
 | nil => intro t _ h; exact h
 | cons a l ih =>
  intro t h ht
  rw [List.foldl_cons]
  refine ih _ (fun p hp => h p (List.mem_cons_of_mem _ hp)) ?_
  unfold wrapStep; split
  ·exact ht
  ·split
   ·exact h a (List.mem_cons_self)
   ·exact ht
theorem wrap_mem {S : List Pt} {o : Pt} (h : o ∈ S) : wrap S o ∈ S := foldl_bd S o (fun _ h => h) h
theorem around_mem {S : List Pt} : ∀ n o, o ∈ S → ∀ p ∈ around S n o, p ∈ S := by
 intro n
 induction n with
 | zero => intro o h p hp; simp [around] at hp; rw [hp]; exact h
 | succ n ih =>
  intro o h p hp
  have hp : p = o ∨ p ∈ around S n (wrap S o) := by simpa [around] using hp
  rcases hp with rfl | hp
  ·exact h
  ·exact ih _ (wrap_mem h) p hp
theorem last_at {x : List Pt} {y : Pt} (h : x.getLast? = some y) : 0 < x.length ∧ at_ x (x.length - 1) = y := by
 cases x with
 | nil => simp at h
 | cons a t =>
  refine ⟨by simp, ?_⟩
  rw [List.getLast?_eq_getElem?] at h
  rw [at_eq (by simp)]
  have := List.getElem?_eq_some_iff.mp h
  exact this.2
theorem href_l2 {l : List Pt} (hb : ∀ p ∈ l, Bd p) (hN : l.length ≤ 1000000) {low : Pt} (hlow : low ∈ l) {n : Nat} (hn : n < l.length) (hend : ∃ x, (around l n low).getLast? = some x ∧ wrap l x = low) (hmid : ∀ m, m < n → ∃ x, (around l m low).getLast? = some x ∧ wrap l x ≠ low) :
  ∀ d m, n = m + d → Rt (fun k => cracknelref04_Hull.l2 k l (around l m low) low.f0 low.f1) (around l n low, true) := by
 intro d
 have step : ∀ m, m ≤ n → ∀ x, (around l m low).getLast? = some x → ∀ v, Rt (fun k => cracknelref04_Hull.l3 k l (around l m low) (l.length : Int) low.f0 low.f1 x.f0 x.f1 (wrap l x).f0 (wrap l x).f1) v → Rt (fun k => cracknelref04_Hull.l2 k l (around l m low) low.f0 low.f1) v := by
  intro m hm x hx v hv
  obtain ⟨h0, h1⟩ := last_at hx
  have hlen := around_len l m low
  have hxl : x ∈ l := around_mem m low hlow x (List.mem_of_getLast? hx)
  have := href_l3 hb hN (around l m low) low x (hb x hxl) l.length 0 x (by omega) (hb x hxl) v hv
  refine rt_step (fun k => ?_) this
  rw [cracknelref04_Hull.l2, wz _ (by omega) (by omega), show (((around l m low).length : Int) - 1) = (((around l m low).length - 1 : Nat) : Int) by omega, if_pos (by omega), if_pos (by omega), rd_at, h1]
  rfl
 induction d with
 | zero =>
  intro m hm
  obtain ⟨x, hx, hw⟩ := hend
  obtain rfl : n = m := by omega
  refine step n (Nat.le_refl _) x hx _ (rt_ret fun k => ?_)
  rw [cracknelref04_Hull.l3, if_neg (by omega), hw, pt_beq, if_pos (by simp)]
 | succ d ih =>
  intro m hm
  obtain ⟨x, hx, hw⟩ := hmid m (by omega)
  have hlen := around_len l m low
  refine step m (by omega) x hx _ (rt_step (fun k => ?_) (ih (m + 1) (by omega)))
  rw [cracknelref04_Hull.l3, if_neg (by omega), pt_beq, if_neg (by simpa using hw), if_pos (by omega), around_last l m low x hx]
/-- what the reference's hull is of points that lie not on one line .. -/
theorem refHull_run {l : List Pt} (hb : ∀ p ∈ l, Bd p) (hN : l.length ≤ 1000000) (h0 : 0 < l.length) :
  (Flat l → Rt (fun k => cracknelref04_Hull.f k l) ([], false)) ∧ (¬ Flat l → ∃ h, Rt (fun k => cracknelref04_Hull.f k l) (h, true) ∧ Ring l h ∧ ∀ p ∈ l, p = at_ h 0 ∨ first (at_ h 0) p) := by
 obtain ⟨r, c, hc, h1, h2, h3, hr⟩ := href_l0 hb hN l.length 0 (at_ l 0) true (by omega)
 have hfl : c = true ↔ Flat l := by
  rw [hc]
  constructor
  ·rintro ⟨_, h⟩
   refine flat_of_first (o := at_ l 0) fun a ha b hb' => ?_
   obtain ⟨i, hi, rfl⟩ := List.mem_iff_getElem.mp ha
   obtain ⟨j, hj, rfl⟩ := List.mem_iff_getElem.mp hb'
   rw [← at_eq hi, ← at_eq hj]
   exact h i (Nat.zero_le _) hi j hj
  ·intro h
   exact ⟨rfl, fun i _ hi j hj => h _ (at_mem h0) _ (at_mem hi) _ (at_mem hj)⟩
 have hrm : r ∈ l := by
  rcases h1 with rfl | ⟨j, _, hj, rfl⟩
  ·exact at_mem h0
  ·exact at_mem hj
 have hmin : ∀ p ∈ l, p = r ∨ first r p := by
  intro p hp
  obtain ⟨j, hj, rfl⟩ := List.mem_iff_getElem.mp hp
  have := h3 j (Nat.zero_le _) hj
  rw [at_eq hj] at this
  rcases first_tri l[j] r with e | e | e
  ·exact Or.inl e
  ·exact absurd e this
  ·exact Or.inr e
 have start : ∀ v, Rt (fun k => cracknelref04_Hull.l0 k l true 0 (at_ l 0).f0 (at_ l 0).f1) v → Rt (fun k => cracknelref04_Hull.f k l) v := by
  rintro v ⟨K, hK⟩
  refine ⟨K, fun k hk => ?_⟩
  have := hK k hk
  unfold cracknelref04_Hull.f
  dsimp only at this ⊢
  rw [if_pos (by omega)]; exact this
 refine ⟨fun hf => start _ (hr _ (rt_ret fun k => ?_)), fun hf => ?_⟩
 ·rw [cracknelref04_Hull.l0, if_neg (by omega), if_pos (hfl.mpr hf)]
 ·obtain ⟨n, hn, ring, hend, hmid⟩ := ring_around hrm hmin (two_of_not_flat hf)
  refine ⟨around l n r, start _ (hr _ (rt_step (fun k => ?_) (href_l2 hb hN hrm hn hend hmid n 0 (by omega)))), ring, ?_⟩
  ·rw [cracknelref04_Hull.l0, if_neg (by omega), if_neg (fun h => hf (hfl.mp h))]; rfl
  ·have : at_ (around l n r) 0 = r := by cases n <;> rfl
   rw [this]; exact hmin
theorem ring_sub {S h : List Pt} (r : Ring S h) : ∀ p ∈ h, p ∈ S := by
 intro p hp
 obtain ⟨j, hj, rfl⟩ := List.mem_iff_getElem.mp hp
 rw [← at_eq hj]; exact (ring_corner r j hj).2
theorem ring_nodup {S h : List Pt} (r : Ring S h) : h.Nodup := by
 unfold List.Nodup
 rw [List.pairwise_iff_getElem]
 intro i j hi hj hij e
 rw [← at_eq hi, ← at_eq hj] at e
 have := ring_inj r i j hi hj e
 omega
end Go.Proofs.Ytoffmpkgickfhaa.M
end
section
namespace Go.Proofs.Ytoffmpkgickfhaa.M
open Go.RowKit Go.Proofs.Ytoffmpkgickfhaa.PG Go.Proofs.YtoffmpkgickfhaaW.PrintMore Go.Proofs.YtoffmpkgickfhaaW.PrintWords
/-- the place on the ring behind i -/
def nx (h : List Pt) (i : Nat) : Nat := (i + 1) % h.length
theorem nx_lt {h : List Pt} {i : Nat} (hi : i < h.length) : nx h i < h.length := Nat.mod_lt _ (by omega)
theorem prev_of {h : List Pt} {i : Nat} (hi : i < h.length) : ∃ j, j < h.length ∧ nx h j = i := by
 unfold nx
 by_cases h0 : i = 0
 ·exact ⟨h.length - 1, by omega, by rw [show h.length - 1 + 1 = h.length by omega, Nat.mod_self, h0]⟩
 ·exact ⟨i - 1, by omega, by rw [show i - 1 + 1 = i by omega, Nat.mod_eq_of_lt hi]⟩
/-- two edges that rise through one height are one edge -/
theorem one_up {S h : List Pt} (r : Ring S h) {i j : Nat} (hi : i < h.length) (hj : j < h.length) {y : Int}
  (ai : (at_ h i).f1 ≤ y) (bi : y < (at_ h (nx h i)).f1) (aj : (at_ h j).f1 ≤ y) (bj : y < (at_ h (nx h j)).f1) : i = j := by
 have ei : HE S (at_ h i) (at_ h (nx h i)) := ring_at r i hi
 have ej : HE S (at_ h j) (at_ h (nx h j)) := ring_at r j hj
 have ci := ring_corner r i hi
 have cj := ring_corner r j hj
 have cj' := ring_corner r _ (nx_lt hj)
 apply ring_inj r i j hi hj
 generalize ha : at_ h i = a at *
 generalize hb : at_ h (nx h i) = b at *
 generalize hc : at_ h j = c at *
 generalize hd : at_ h (nx h j) = d at *
 obtain ⟨nab, Sa, Sb, Lab⟩ := ei
 obtain ⟨ncd, Sc, Sd, Lcd⟩ := ej
 have p1 := (Lab c Sc).1
 have p2 := (Lab d Sd).1
 have p3 := (Lcd a Sa).1
 have p4 := (Lcd b Sb).1
 have id : (d.f1 - y) * cr a b c + (y - c.f1) * cr a b d = -((b.f1 - y) * cr c d a + (y - a.f1) * cr c d b) := by
  rw [cr_eq, cr_eq, cr_eq, cr_eq]; grind
 have m1 : 0 ≤ (d.f1 - y) * cr a b c := Int.mul_nonneg (by omega) p1
 have m2 : 0 ≤ (y - c.f1) * cr a b d := Int.mul_nonneg (by omega) p2
 have m3 : 0 ≤ (b.f1 - y) * cr c d a := Int.mul_nonneg (by omega) p3
 have m4 : 0 ≤ (y - a.f1) * cr c d b := Int.mul_nonneg (by omega) p4
 have z1 : (d.f1 - y) * cr a b c = 0 := by omega
 have z2 : (y - c.f1) * cr a b d = 0 := by omega
 have cz : cr a b c = 0 := by
  rcases Int.mul_eq_zero.mp z1 with h | h
  ·omega
  ·exact h
 have bc := (Lab c Sc).2 cz
 rcases corner_not_between cj.1 Sa Sb nab cz bc with e | e
 ·exact e.symm
 ·exfalso
  rw [e] at aj; omega
/-- a point of the set that no edge passes: some corner lies higher -/
theorem some_higher {S h : List Pt} (r : Ring S h) (h3 : 3 ≤ h.length) {p : Pt} (hp : ∀ i, i < h.length → 0 < cr (at_ h i) (at_ h (nx h i)) p) : ∃ j, j < h.length ∧ p.f1 < (at_ h j).f1 := by
 apply Classical.byContradiction
 intro hn
 have hle : ∀ j, j < h.length → (at_ h j).f1 ≤ p.f1 := fun j hj => by
  apply Classical.byContradiction
  intro h1; exact hn ⟨j, hj, by omega⟩
 have hmax : ∀ n, 0 < n → n ≤ h.length → ∃ i, i < n ∧ ∀ j, j < n → (at_ h j).f1 ≤ (at_ h i).f1 := by
  intro n
  induction n with
  | zero => intro h; omega
  | succ n ih =>
   intro _ hn
   by_cases h0 : n = 0
   ·subst h0; exact ⟨0, by omega, fun j hj => by rw [show j = 0 by omega]; exact Int.le_refl _⟩
   ·obtain ⟨i, hi, hm⟩ := ih (by omega) (by omega)
    by_cases hc : (at_ h i).f1 ≤ (at_ h n).f1
    ·exact ⟨n, by omega, fun j hj => by
      rcases Nat.lt_or_ge j n with h1 | h1
      ·exact Int.le_trans (hm j h1) hc
      ·rw [show j = n by omega]; exact Int.le_refl _⟩
    ·exact ⟨i, by omega, fun j hj => by
      rcases Nat.lt_or_ge j n with h1 | h1
      ·exact hm j h1
      ·rw [show j = n by omega]; omega⟩
 obtain ⟨i, hi, hm⟩ := hmax h.length (by omega) (Nat.le_refl _)
 obtain ⟨j, hj, hji⟩ := prev_of hi
 have t := strong_turn h3 (ring_strong r) j hj
 have e1 : (j + 1) % h.length = i := hji
 have e2 : (j + 1 + 1) % h.length = nx h i := by unfold nx; rw [← e1, Nat.mod_add_mod]
 rw [e1, e2] at t
 have q1 := hp j hj
 rw [hji] at q1
 have q2 := hp i hi
 have u1 := hm j hj
 have u2 := hm _ (nx_lt hi)
 have u3 := hle i hi
 generalize at_ h i = v at *
 generalize at_ h j = u at *
 generalize at_ h (nx h i) = w at *
 have id : cr u v w * (p.f1 - v.f1) = cr v w p * (u.f1 - v.f1) + cr u v p * (w.f1 - v.f1) := by
  rw [cr_eq, cr_eq, cr_eq]; grind
 have m0 : 0 ≤ cr u v w * (p.f1 - v.f1) := Int.mul_nonneg (by omega) (by omega)
 have m1 : cr v w p * (u.f1 - v.f1) ≤ 0 := Int.mul_nonpos_of_nonneg_of_nonpos (by omega) (by omega)
 have m2 : cr u v p * (w.f1 - v.f1) ≤ 0 := Int.mul_nonpos_of_nonneg_of_nonpos (by omega) (by omega)
 have z1 : cr v w p * (u.f1 - v.f1) = 0 := by omega
 have z2 : cr u v p * (w.f1 - v.f1) = 0 := by omega
 have y1 : u.f1 = v.f1 := by
  rcases Int.mul_eq_zero.mp z1 with h | h <;> omega
 have y2 : w.f1 = v.f1 := by
  rcases Int.mul_eq_zero.mp z2 with h | h <;> omega
 rw [cr_eq, y1, y2] at t
 simp at t
/-- .. and so just one edge rises through its height -/
theorem just_one {S h : List Pt} (r : Ring S h) (h3 : 3 ≤ h.length) {p : Pt} (hp : ∀ i, i < h.length → 0 < cr (at_ h i) (at_ h (nx h i)) p) (h0 : (at_ h 0).f1 ≤ p.f1) :
  ∃ i, i < h.length ∧ ∀ j, j < h.length → (Hit (at_ h j) (at_ h (nx h j)) p ↔ j = i) := by
 obtain ⟨j, hj, hy⟩ := some_higher r h3 hp
 have step : ∀ n, n < h.length → p.f1 < (at_ h n).f1 → ∃ i, i + 1 < h.length ∧ (at_ h i).f1 ≤ p.f1 ∧ p.f1 < (at_ h (i + 1)).f1 := by
  intro n
  induction n with
  | zero => intro _ h1; omega
  | succ n ih =>
   intro h1 h2
   rcases Int.lt_or_le p.f1 (at_ h n).f1 with h4 | h4
   ·exact ih (by omega) h4
   ·exact ⟨n, h1, h4, h2⟩
 obtain ⟨i, hi, a1, a2⟩ := step j hj hy
 have e : nx h i = i + 1 := by unfold nx; exact Nat.mod_eq_of_lt hi
 refine ⟨i, by omega, fun k hk => ⟨fun hh => ?_, fun hh => ?_⟩⟩
 ·rcases hh with ⟨b1, b2, _⟩ | ⟨b1, b2, b3⟩
  ·exact one_up r hk (by omega) b1 b2 a1 (by rw [e]; exact a2)
  ·exfalso
   have := hp k hk
   have : cr (at_ h (nx h k)) (at_ h k) p = - cr (at_ h k) (at_ h (nx h k)) p := by rw [cr_eq, cr_eq]; grind
   omega
 ·subst hh
  exact Or.inl ⟨a1, by rw [e]; exact a2, hp k hk⟩
theorem wh_on {l : List Pt} {p : Pt} : ∀ d i s, (∃ j, i ≤ j ∧ j < i + d ∧ On (at_ l j) (at_ l ((j + 1) % l.length)) p) → wh l p d i s = 0 := by
 intro d
 induction d with
 | zero => intro i s ⟨j, h1, h2, _⟩; omega
 | succ d ih =>
  intro i s ⟨j, h1, h2, h3⟩
  unfold wh
  by_cases h : On (at_ l i) (at_ l ((i + 1) % l.length)) p
  ·rw [if_pos h]
  ·rw [if_neg h]
   refine ih (i + 1) _ ⟨j, ?_, by omega, h3⟩
   rcases Nat.eq_or_lt_of_le h1 with rfl | h4
   ·exact absurd h3 h
   ·exact h4
theorem wh_one {l : List Pt} {p : Pt} {i0 : Nat} : ∀ d i s, (∀ j, i ≤ j → j < i + d → ¬ On (at_ l j) (at_ l ((j + 1) % l.length)) p) → (∀ j, i ≤ j → j < i + d → (Hit (at_ l j) (at_ l ((j + 1) % l.length)) p ↔ j = i0)) →
  wh l p d i s = if (s != decide (i ≤ i0 ∧ i0 < i + d)) = true then 1 else -1 := by
 intro d
 induction d with
 | zero =>
  intro i s _ _
  unfold wh
  rw [decide_eq_false (by omega)]; simp
 | succ d ih =>
  intro i s hon hhit
  unfold wh
  rw [if_neg (hon i (Nat.le_refl _) (by omega)), ih (i + 1) _ (fun j h1 h2 => hon j (by omega) (by omega)) (fun j h1 h2 => hhit j (by omega) (by omega))]
  have := hhit i (Nat.le_refl _) (by omega)
  by_cases h : i = i0
  ·rw [decide_eq_true (this.mpr h), decide_eq_false (p := i + 1 ≤ i0 ∧ i0 < i + 1 + d) (by omega), decide_eq_true (p := i ≤ i0 ∧ i0 < i + (d + 1)) (by omega)]; simp
  ·rw [decide_eq_false (fun h2 => h (this.mp h2))]
   rw [show decide (i + 1 ≤ i0 ∧ i0 < i + 1 + d) = decide (i ≤ i0 ∧ i0 < i + (d + 1)) by rw [decide_eq_decide]; omega]; simp
/-- no point of the set is outside the ring -/
theorem ring_where {S h : List Pt} (r : Ring S h) (h3 : 3 ≤ h.length) (hfirst : ∀ p ∈ S, p = at_ h 0 ∨ first (at_ h 0) p) {p : Pt} (hp : p ∈ S) : 0 ≤ whereOf h p := by
 unfold whereOf
 by_cases hon : ∃ j, j < h.length ∧ On (at_ h j) (at_ h ((j + 1) % h.length)) p
 ·obtain ⟨j, h1, h2⟩ := hon
  rw [wh_on h.length 0 false ⟨j, Nat.zero_le _, by omega, h2⟩]; omega
 ·have hoff : ∀ j, j < h.length → ¬ On (at_ h j) (at_ h ((j + 1) % h.length)) p := fun j hj h => hon ⟨j, hj, h⟩
  have hpos : ∀ i, i < h.length → 0 < cr (at_ h i) (at_ h (nx h i)) p := by
   intro i hi
   have e : HE S (at_ h i) (at_ h (nx h i)) := ring_at r i hi
   obtain ⟨e1, e2⟩ := e.2.2.2 p hp
   rcases Int.lt_or_le 0 (cr (at_ h i) (at_ h (nx h i)) p) with h1 | h1
   ·exact h1
   ·have h2 : cr (at_ h i) (at_ h (nx h i)) p = 0 := by omega
    exact absurd ⟨h2, e2 h2⟩ (hoff i hi)
  have h0 : (at_ h 0).f1 ≤ p.f1 := by
   rcases hfirst p hp with e | e
   ·rw [e]; exact Int.le_refl _
   ·unfold first at e; omega
  obtain ⟨i0, hi0, hh⟩ := just_one r h3 hpos h0
  rw [wh_one (i0 := i0) h.length 0 false (fun j _ hj => hoff j (by omega)) (fun j _ hj => hh j (by omega)), decide_eq_true (by omega)]
  simp
end Go.Proofs.Ytoffmpkgickfhaa.M
end
section
namespace Go.Proofs.Ytoffmpkgickfhaa.M
open Go.RowKit Go.Proofs.Ytoffmpkgickfhaa.PG Go.Proofs.YtoffmpkgickfhaaW.PrintMore Go.Proofs.YtoffmpkgickfhaaW.PrintWords
theorem pairs_sub {S h : List Pt} (hS : ∀ p ∈ h, p ∈ S) : ∀ l : List Pt, (∀ p ∈ l, p ∈ h) → Pairs (HE S) l → Pairs (HE h) l
 | [], _, _ => trivial
 | [_], _, _ => trivial
 | a :: b :: l, hm, hp => by
  refine ⟨?_, pairs_sub hS (b :: l) (fun p h => hm p (List.mem_cons_of_mem _ h)) hp.2⟩
  obtain ⟨n, _, _, L⟩ := hp.1
  exact ⟨n, hm a (by simp), hm b (by simp), fun p h => L p (hS p h)⟩
theorem ring_self {S h : List Pt} (r : Ring S h) : Ring h h := by
 have hs := ring_sub r
 obtain ⟨a, t, e, n, p⟩ := r
 refine ⟨a, t, e, n, pairs_sub hs _ (fun x hx => ?_) p⟩
 rw [e]
 have : x = a ∨ x ∈ t ∨ x = a := by simpa using hx
 rcases this with h1 | h1 | h1
 ·rw [h1]; simp
 ·exact List.mem_cons_of_mem _ h1
 ·rw [h1]; simp
theorem first_at {S h : List Pt} (r : Ring S h) (h0 : 0 < h.length) (hf : ∀ p ∈ S, p = at_ h 0 ∨ first (at_ h 0) p) : ∀ k, k < h.length → k = 0 ∨ first (at_ h 0) (at_ h k) := by
 intro k hk
 rcases hf _ (ring_sub r _ (at_mem hk)) with e | e
 ·exact Or.inl (ring_inj r k 0 hk h0 e)
 ·exact Or.inr e
theorem ring_len {S h : List Pt} (r : Ring S h) : h.length ≤ S.length := length_le_of_nodup (ring_nodup r) (ring_sub r)
theorem ring_not_flat {S h : List Pt} (r : Ring S h) (hf : ¬ Flat S) : ¬ Flat h := by
 intro h1
 have := flat_ring (ring_self r) h1
 have := ring_three r hf
 omega
theorem ring_convex {S h : List Pt} (r : Ring S h) (hf : ¬ Flat S) (hm : ∀ p ∈ S, p = at_ h 0 ∨ first (at_ h 0) p) : Convex h := by
 have h3 := ring_three r hf
 exact strong_convex h3 (ring_strong r) (fun i hi h0 => (first_at r (by omega) hm i hi).resolve_left (by omega))
/-- nothing stands against a simple polygon .. -/
theorem refused_simple {r : List Pt} (hl : r.length ≤ 1000000) (hp : Poly r) (hs : Simple r) : Rt (fun k => shape_refused_simple.f k r) 0 := by
 obtain ⟨b, ⟨K, h⟩, i⟩ := simple_run (fun p h => in_bd (hp.2.2 p h)) hp.1 hl
 refine ⟨K, fun k hk => ?_⟩
 have a := h k hk
 dsimp only at a ⊢
 unfold shape_refused_simple.f
 rw [polygon_f, Option.bind_some, if_pos (by simpa using hp), a, Option.bind_some, if_pos (i.mpr hs)]
/-- .. nor against a convex one -/
theorem refused_normal {r : List Pt} (hl : r.length ≤ 1000000) (hp : Poly r) (hs : Convex r) : Rt (fun k => shape_refused_normal.f k r) 0 := by
 obtain ⟨b, ⟨K, h⟩, i⟩ := normal_run (fun p h => in_bd (hp.2.2 p h)) hp.1 hl
 refine ⟨K, fun k hk => ?_⟩
 have a := h k hk
 dsimp only at a ⊢
 unfold shape_refused_normal.f
 rw [polygon_f, Option.bind_some, if_pos (by simpa using hp), a, Option.bind_some, if_pos (i.mpr hs)]
/-- three points that are not on one line -/
theorem not_flat3 (r : List Pt) : ¬ Flat (r ++ [(⟨0, 0⟩ : S29), (⟨1, 0⟩ : S29), (⟨0, 1⟩ : S29)]) := by
 intro h
 have := h ⟨0, 0⟩ (by simp) ⟨1, 0⟩ (by simp) ⟨0, 1⟩ (by simp)
 rw [cr_eq] at this
 simp at this
end Go.Proofs.Ytoffmpkgickfhaa.M
end
section
namespace Go.Proofs.Ytoffmpkgickfhaa.M
open Go.Proofs.Ytoffmpkgickfhaa.PG
def vec (a b : Pt) : Pt := ⟨b.f0 - a.f0, b.f1 - a.f1⟩
def cx (u v : Pt) : Int := u.f0 * v.f1 - u.f1 * v.f0
def ph (p q : Int) (u : Pt) : Int := p * u.f0 + q * u.f1
def plus (u v : Pt) : Pt := ⟨u.f0 + v.f0, u.f1 + v.f1⟩
theorem id3 (p q : Int) (u v w : Pt) : ph p q u * cx v w = ph p q v * cx u w - ph p q w * cx u v := by unfold ph cx; grind
theorem cx_swap (u v : Pt) : cx v u = - cx u v := by unfold cx; grind
theorem cr_cx (a b c : Pt) : cr a b c = cx (vec a b) (vec a c) := by unfold cr cx vec; dsimp only; grind
/-- the corner at i, round and round -/
def P (l : List Pt) (i : Nat) : Pt := at_ l (i % l.length)
def ed (l : List Pt) (i : Nat) : Pt := vec (P l i) (P l (i + 1))
/-- a convex polygon, and a direction in which its first corner is the first one alone -/
structure Cvx (p q : Int) (l : List Pt) : Prop where
 three : 3 ≤ l.length
 strong : Strong l
 low : ∀ k, k < l.length → k = 0 ∨ 0 < fn p q (at_ l 0) (at_ l k)
 some_ : ∀ i, ph p q (ed l i) ≠ 0
section
variable {p q : Int} {l : List Pt}
theorem P_mod (l : List Pt) (i : Nat) : P l (i % l.length) = P l i := by unfold P; rw [Nat.mod_mod]
theorem P_lt {i : Nat} (h : i < l.length) : P l i = at_ l i := by unfold P; rw [Nat.mod_eq_of_lt h]
theorem P_len (l : List Pt) : P l l.length = P l 0 := by unfold P; rw [Nat.mod_self, Nat.zero_mod]
theorem P_add (l : List Pt) (i : Nat) : P l (i + l.length) = P l i := by unfold P; rw [Nat.add_mod_right]
theorem ed_add (l : List Pt) (i : Nat) : ed l (i + l.length) = ed l i := by unfold ed; rw [P_add, show i + l.length + 1 = (i + 1) + l.length by omega, P_add]
theorem ed_len (l : List Pt) : ed l l.length = ed l 0 := by have := ed_add l 0; rwa [Nat.zero_add] at this
theorem Cvx.left (h : Cvx p q l) (i k : Nat) : 0 ≤ cx (ed l i) (vec (P l i) (P l k)) ∧ (cx (ed l i) (vec (P l i) (P l k)) = 0 → P l k = P l i ∨ P l k = P l (i + 1)) := by
 have n0 : 0 < l.length := by have := h.three; omega
 have hi := Nat.mod_lt i n0
 have hk := Nat.mod_lt k n0
 obtain ⟨s1, s2⟩ := h.strong.2.2 _ _ hi hk
 have e : at_ l ((i % l.length + 1) % l.length) = P l (i + 1) := by unfold P; rw [Nat.mod_add_mod]
 rw [e] at s1 s2
 have e2 : cr (at_ l (i % l.length)) (P l (i + 1)) (at_ l (k % l.length)) = cx (ed l i) (vec (P l i) (P l k)) := cr_cx _ _ _
 rw [e2] at s1 s2
 refine ⟨s1, fun h0 => ?_⟩
 rcases s2 h0 with h1 | h1
 ·left; unfold P; rw [h1]
 ·right; rw [← e]; unfold P; rw [h1]
theorem Cvx.turn (h : Cvx p q l) (i : Nat) : 0 < cx (ed l i) (ed l (i + 1)) := by
 have n0 : 0 < l.length := by have := h.three; omega
 have hi := Nat.mod_lt i n0
 have t := strong_turn h.three h.strong _ hi
 have e1 : at_ l ((i % l.length + 1) % l.length) = P l (i + 1) := by unfold P; rw [Nat.mod_add_mod]
 have e2 : at_ l ((i % l.length + 1 + 1) % l.length) = P l (i + 2) := by
  unfold P; rw [show i % l.length + 1 + 1 = i % l.length + 2 by omega, Nat.mod_add_mod]
 rw [e1, e2, cr_cx] at t
 have : cx (vec (P l i) (P l (i + 1))) (vec (P l i) (P l (i + 2))) = cx (ed l i) (ed l (i + 1)) := by unfold ed cx vec; dsimp only; grind
 rw [← this]; exact t
theorem Cvx.up0 (h : Cvx p q l) : 0 < ph p q (ed l 0) := by
 have h3 := h.three
 have := (h.low 1 (by omega)).resolve_left (by omega)
 unfold ed; rw [P_lt (by omega), P_lt (by omega)]; exact this
theorem Cvx.down (h : Cvx p q l) : ph p q (ed l (l.length - 1)) < 0 := by
 have h3 := h.three
 have := (h.low (l.length - 1) (by omega)).resolve_left (by omega)
 unfold ed; rw [P_lt (by omega), show l.length - 1 + 1 = l.length by omega, P_len, P_lt (by omega)]
 unfold fn at this; unfold ph vec; dsimp only
 rw [Int.mul_sub, Int.mul_sub] at *; omega
/-- a corner that is locally the first in the direction e is so among all -/
theorem Cvx.extreme (h : Cvx p q l) (j : Nat) (e : Pt) (h1 : 0 ≤ cx e (ed l (j + 1))) (h2 : 0 < cx (ed l j) e) (k : Nat) :
  0 ≤ cx e (vec (P l (j + 1)) (P l k)) ∧ (cx e (vec (P l (j + 1)) (P l k)) = 0 → P l k = P l (j + 1) ∨ (cx e (ed l (j + 1)) = 0 ∧ P l k = P l (j + 2))) := by
 have T := h.turn j
 obtain ⟨a1, a2⟩ := h.left (j + 1) k
 obtain ⟨b1, _⟩ := h.left j k
 have b1' : 0 ≤ cx (ed l j) (vec (P l (j + 1)) (P l k)) := by
  have : cx (ed l j) (vec (P l (j + 1)) (P l k)) = cx (ed l j) (vec (P l j) (P l k)) := by unfold ed cx vec; dsimp only; grind
  rw [this]; exact b1
 generalize hw : vec (P l (j + 1)) (P l k) = w at *
 have id : cx (ed l j) (ed l (j + 1)) * cx e w = cx (ed l j) w * cx e (ed l (j + 1)) + cx (ed l (j + 1)) w * cx (ed l j) e := by unfold cx; grind
 have m1 : 0 ≤ cx (ed l j) w * cx e (ed l (j + 1)) := Int.mul_nonneg b1' h1
 have m2 : 0 ≤ cx (ed l (j + 1)) w * cx (ed l j) e := Int.mul_nonneg a1 (by omega)
 refine ⟨nonneg_of_mul T (by omega), fun h0 => ?_⟩
 rw [h0, Int.mul_zero] at id
 have z2 : cx (ed l (j + 1)) w * cx (ed l j) e = 0 := by omega
 have z1 : cx (ed l j) w * cx e (ed l (j + 1)) = 0 := by omega
 have z3 : cx (ed l (j + 1)) w = 0 := by
  rcases Int.mul_eq_zero.mp z2 with h | h
  ·exact h
  ·omega
 rcases a2 z3 with h4 | h4
 ·exact Or.inl h4
 ·right
  have e3 : w = ed l (j + 1) := by rw [← hw]; unfold ed; rw [h4]
  rw [e3] at z1
  rcases Int.mul_eq_zero.mp z1 with h | h
  ·omega
  ·exact ⟨h, h4⟩
/-- the directions of the edges: first the rising ones, then the falling ones -/
theorem Cvx.phases (h : Cvx p q l) (i : Nat) (hi : i + 1 < l.length) : ¬ (ph p q (ed l i) < 0 ∧ 0 < ph p q (ed l (i + 1))) := by
 rintro ⟨h1, h2⟩
 have T := h.turn i
 obtain ⟨a1, _⟩ := h.left (i + 1) 0
 obtain ⟨b1, _⟩ := h.left i 0
 have b1' : 0 ≤ cx (ed l i) (vec (P l (i + 1)) (P l 0)) := by
  have : cx (ed l i) (vec (P l (i + 1)) (P l 0)) = cx (ed l i) (vec (P l i) (P l 0)) := by unfold ed cx vec; dsimp only; grind
  rw [this]; exact b1
 have hlow := (h.low (i + 1) hi).resolve_left (by omega)
 have hw : ph p q (vec (P l (i + 1)) (P l 0)) < 0 := by
  rw [P_lt hi, P_lt (by omega)]; unfold fn at hlow; unfold ph vec; dsimp only
  rw [Int.mul_sub, Int.mul_sub] at *; omega
 generalize vec (P l (i + 1)) (P l 0) = w at *
 have id := id3 p q w (ed l i) (ed l (i + 1))
 have s1 : cx w (ed l (i + 1)) = - cx (ed l (i + 1)) w := cx_swap _ _
 have s2 : cx w (ed l i) = - cx (ed l i) w := cx_swap _ _
 rw [s1, s2] at id
 have m1 : ph p q w * cx (ed l i) (ed l (i + 1)) < 0 := Int.mul_neg_of_neg_of_pos hw T
 have m2 : 0 ≤ ph p q (ed l i) * - cx (ed l (i + 1)) w := Int.mul_nonneg_of_nonpos_of_nonpos (by omega) (by omega)
 have m3 : ph p q (ed l (i + 1)) * - cx (ed l i) w ≤ 0 := Int.mul_nonpos_of_nonneg_of_nonpos (by omega) (by omega)
 omega
/-- one direction comes before another one -/
def Bf (p q : Int) (u v : Pt) : Prop := (0 < ph p q u ∧ ph p q v < 0) ∨ (0 < ph p q u ∧ 0 < ph p q v ∧ 0 < cx u v) ∨ (ph p q u < 0 ∧ ph p q v < 0 ∧ 0 < cx u v)
theorem Bf.trans {u v w : Pt} (h1 : Bf p q u v) (h2 : Bf p q v w) : Bf p q u w := by
 have id := id3 p q v u w
 have s : cx v u = - cx u v := cx_swap u v
 rw [s] at id
 rcases h1 with ⟨a, b⟩ | ⟨a, b, c⟩ | ⟨a, b, c⟩ <;> rcases h2 with ⟨d, e⟩ | ⟨d, e, f⟩ | ⟨d, e, f⟩
 ·omega
 ·omega
 ·exact Or.inl ⟨a, e⟩
 ·exact Or.inl ⟨a, e⟩
 ·refine Or.inr (Or.inl ⟨a, e, ?_⟩)
  have m1 : 0 < ph p q u * cx v w := Int.mul_pos a f
  have m2 : ph p q w * - cx u v < 0 := Int.mul_neg_of_pos_of_neg e (by omega)
  exact pos_of_mul d (by omega)
 ·omega
 ·omega
 ·omega
 ·refine Or.inr (Or.inr ⟨a, e, ?_⟩)
  have m1 : ph p q u * cx v w < 0 := Int.mul_neg_of_neg_of_pos a f
  have m2 : 0 < ph p q w * - cx u v := Int.mul_pos_of_neg_of_neg e (by omega)
  rcases Int.lt_or_le 0 (cx u w) with h | h
  ·exact h
  ·have : 0 ≤ ph p q v * cx u w := Int.mul_nonneg_of_nonpos_of_nonpos (by omega) h
   omega
theorem Cvx.sorted (h : Cvx p q l) (i : Nat) (hi : i + 1 < l.length) : Bf p q (ed l i) (ed l (i + 1)) := by
 have T := h.turn i
 have hp := h.phases i hi
 have n1 := h.some_ i
 have n2 := h.some_ (i + 1)
 unfold Bf
 omega
end
end Go.Proofs.Ytoffmpkgickfhaa.M
end
section
namespace Go.Proofs.Ytoffmpkgickfhaa.M
open Go.Proofs.Ytoffmpkgickfhaa.PG
section
variable {p q : Int} {a b : List Pt} {S : List Pt}
/-- all sums of a corner of each -/
def Sums (a b S : List Pt) : Prop := ∀ s, s ∈ S ↔ ∃ k l, k < a.length ∧ l < b.length ∧ s = plus (at_ a k) (at_ b l)
def V (a b : List Pt) (i j : Nat) : Pt := plus (P a i) (P b j)
theorem Sums.swap (h : Sums a b S) : Sums b a S := by
 intro s
 rw [h s]
 constructor
 ·rintro ⟨k, l, h1, h2, h3⟩; exact ⟨l, k, h2, h1, by rw [h3]; unfold plus; rw [Int.add_comm, Int.add_comm (at_ a k).f1]⟩
 ·rintro ⟨k, l, h1, h2, h3⟩; exact ⟨l, k, h2, h1, by rw [h3]; unfold plus; rw [Int.add_comm, Int.add_comm (at_ b k).f1]⟩
theorem V_swap (a b : List Pt) (i j : Nat) : V a b i j = V b a j i := by unfold V plus; rw [Int.add_comm, Int.add_comm (P a i).f1]
theorem Sums.mem (h : Sums a b S) (ha : 0 < a.length) (hb : 0 < b.length) (i j : Nat) : V a b i j ∈ S := by
 rw [h]; exact ⟨i % a.length, j % b.length, Nat.mod_lt _ ha, Nat.mod_lt _ hb, rfl⟩
theorem Sums.get (h : Sums a b S) {s : Pt} (hs : s ∈ S) : ∃ k l, s = V a b k l := by
 obtain ⟨k, l, h1, h2, h3⟩ := (h s).mp hs
 exact ⟨k, l, by unfold V; rw [P_lt h1, P_lt h2]; exact h3⟩
theorem ed_ne (h : Cvx p q a) (i : Nat) : P a i ≠ P a (i + 1) := by
 intro e
 have := h.some_ i
 apply this
 unfold ed vec ph; rw [e]; dsimp only; simp
/-- a step along an edge of the first polygon -/
theorem step_a (ca : Cvx p q a) (cb : Cvx p q b) (hS : Sums a b S) (i j : Nat) (h1 : 0 < cx (ed a i) (ed b (j + 1))) (h2 : 0 < cx (ed b j) (ed a i)) : HE S (V a b i (j + 1)) (V a b (i + 1) (j + 1)) := by
 have la := ca.three
 have lb := cb.three
 refine ⟨fun e => ed_ne ca i ?_, hS.mem (by omega) (by omega) _ _, hS.mem (by omega) (by omega) _ _, fun s hs => ?_⟩
 ·unfold V plus at e
  have e0 := congrArg S29.f0 e
  have e1 := congrArg S29.f1 e
  dsimp only at e0 e1
  exact pt_ext (by omega) (by omega)
 ·obtain ⟨k, l, rfl⟩ := hS.get hs
  obtain ⟨a1, a2⟩ := ca.left i k
  obtain ⟨b1, b2⟩ := cb.extreme j (ed a i) (by omega) h2 l
  have e : cr (V a b i (j + 1)) (V a b (i + 1) (j + 1)) (V a b k l) = cx (ed a i) (vec (P a i) (P a k)) + cx (ed a i) (vec (P b (j + 1)) (P b l)) := by
   unfold cr V plus cx ed vec; dsimp only; grind
  rw [e]
  refine ⟨by omega, fun h0 => ?_⟩
  have c1 := a2 (by omega)
  have c2 := (b2 (by omega)).resolve_right (by omega)
  rcases c1 with c1 | c1
  ·have : V a b k l = V a b i (j + 1) := by unfold V; rw [c1, c2]
   rw [this]; exact btw_start _ _
  ·have : V a b k l = V a b (i + 1) (j + 1) := by unfold V; rw [c1, c2]
   rw [this]; exact btw_end _ _
/-- a step along an edge of each: both go in one direction -/
theorem step_ab (ca : Cvx p q a) (cb : Cvx p q b) (hS : Sums a b S) (i j : Nat) (h0 : cx (ed a (i + 1)) (ed b (j + 1)) = 0) (hs : 0 < ph p q (ed a (i + 1)) * ph p q (ed b (j + 1))) (_h1 : 0 < cx (ed a i) (ed b (j + 1))) (h2 : 0 < cx (ed b j) (ed a (i + 1))) :
  HE S (V a b (i + 1) (j + 1)) (V a b (i + 2) (j + 2)) := by
 have la := ca.three
 have lb := cb.three
 have par : ∀ w, ph p q (ed a (i + 1)) * cx (ed b (j + 1)) w = ph p q (ed b (j + 1)) * cx (ed a (i + 1)) w := by
  intro w
  have := id3 p q (ed a (i + 1)) (ed b (j + 1)) w
  rw [h0, Int.mul_zero, Int.sub_zero] at this; exact this
 have sgn : ∀ u v : Int, ph p q (ed a (i + 1)) * v = ph p q (ed b (j + 1)) * u → 0 ≤ u → 0 ≤ v ∧ (v = 0 ↔ u = 0) := by
  intro u v e hu
  generalize ph p q (ed a (i + 1)) = A at *
  generalize ph p q (ed b (j + 1)) = B at *
  have e2 : (A * B) * v = (B * B) * u := by
   have : B * (A * v) = B * (B * u) := by rw [e]
   grind
  have hB : B ≠ 0 := by intro h; rw [h, Int.mul_zero] at hs; omega
  have hBB : 0 < B * B := by
   rcases Int.lt_trichotomy B 0 with h | h | h
   ·exact Int.mul_pos_of_neg_of_neg h h
   ·exact absurd h hB
   ·exact Int.mul_pos h h
  have m : 0 ≤ (B * B) * u := Int.mul_nonneg (by omega) hu
  refine ⟨nonneg_of_mul hs (by omega), fun hv => ?_, fun hu => ?_⟩
  ·rw [hv, Int.mul_zero] at e2
   rcases Int.mul_eq_zero.mp e2.symm with h | h
   ·omega
   ·exact h
  ·rw [hu, Int.mul_zero] at e2
   rcases Int.mul_eq_zero.mp e2 with h | h
   ·omega
   ·exact h
 have sgn2 : ∀ u v : Int, ph p q (ed a (i + 1)) * v = ph p q (ed b (j + 1)) * u → (0 ≤ u ∧ 0 ≤ v) ∨ (u ≤ 0 ∧ v ≤ 0) := by
  intro u v e
  rcases Int.le_total 0 u with hu | hu
  ·exact Or.inl ⟨hu, (sgn u v e hu).1⟩
  ·right
   have := sgn (-u) (-v) (by rw [Int.mul_neg, Int.mul_neg, e]) (by omega)
   omega
 have ne : P a (i + 1) ≠ P a (i + 2) := ed_ne ca (i + 1)
 have f0 : ph p q (ed a (i + 1)) * (ed b (j + 1)).f0 = ph p q (ed b (j + 1)) * (ed a (i + 1)).f0 := by
  have := h0; unfold cx at this; unfold ph; grind
 have f1 : ph p q (ed a (i + 1)) * (ed b (j + 1)).f1 = ph p q (ed b (j + 1)) * (ed a (i + 1)).f1 := by
  have := h0; unfold cx at this; unfold ph; grind
 have g0 := sgn2 _ _ f0
 have g1 := sgn2 _ _ f1
 have ea0 : (ed a (i + 1)).f0 = (P a (i + 2)).f0 - (P a (i + 1)).f0 := rfl
 have ea1 : (ed a (i + 1)).f1 = (P a (i + 2)).f1 - (P a (i + 1)).f1 := rfl
 have eb0 : (ed b (j + 1)).f0 = (P b (j + 2)).f0 - (P b (j + 1)).f0 := rfl
 have eb1 : (ed b (j + 1)).f1 = (P b (j + 2)).f1 - (P b (j + 1)).f1 := rfl
 refine ⟨fun e => ne ?_, hS.mem (by omega) (by omega) _ _, hS.mem (by omega) (by omega) _ _, fun s hs' => ?_⟩
 ·unfold V plus at e
  have e0 := congrArg S29.f0 e
  have e1 := congrArg S29.f1 e
  dsimp only at e0 e1
  exact pt_ext (by omega) (by omega)
 ·obtain ⟨k, l, rfl⟩ := hS.get hs'
  obtain ⟨a1, a2⟩ := ca.left (i + 1) k
  obtain ⟨b1, b2⟩ := cb.left (j + 1) l
  have x1 := sgn _ _ (par (vec (P a (i + 1)) (P a k))) a1
  have hab : 0 ≤ cx (ed a (i + 1)) (vec (P b (j + 1)) (P b l)) := (cb.extreme j (ed a (i + 1)) (by omega) h2 l).1
  have e : cr (V a b (i + 1) (j + 1)) (V a b (i + 2) (j + 2)) (V a b k l) = cx (ed a (i + 1)) (vec (P a (i + 1)) (P a k)) + cx (ed b (j + 1)) (vec (P a (i + 1)) (P a k)) + cx (ed a (i + 1)) (vec (P b (j + 1)) (P b l)) + cx (ed b (j + 1)) (vec (P b (j + 1)) (P b l)) := by
   unfold cr V plus cx ed vec; dsimp only; grind
  rw [e]
  refine ⟨by omega, fun hz => ?_⟩
  have c1 := a2 (by omega)
  have c2 := b2 (by omega)
  rcases c1 with c1 | c1 <;> rcases c2 with c2 | c2
  ·have : V a b k l = V a b (i + 1) (j + 1) := by unfold V; rw [c1, c2]
   rw [this]; exact btw_start _ _
  ·have : V a b k l = V a b (i + 1) (j + 2) := by unfold V; rw [c1, c2]
   rw [this]; unfold btw V plus; dsimp only; omega
  ·have : V a b k l = V a b (i + 2) (j + 1) := by unfold V; rw [c1, c2]
   rw [this]; unfold btw V plus; dsimp only; omega
  ·have : V a b k l = V a b (i + 2) (j + 2) := by unfold V; rw [c1, c2]
   rw [this]; exact btw_end _ _
/-- what has been taken comes before what has not -/
def Inv (p q : Int) (a b : List Pt) (i j : Nat) : Prop := i ≤ a.length ∧ j ≤ b.length ∧ (i < a.length → 0 < j → Bf p q (ed b (j - 1)) (ed a i)) ∧ (j < b.length → 0 < i → Bf p q (ed a (i - 1)) (ed b j))
theorem Inv.swap {i j : Nat} (h : Inv p q a b i j) : Inv p q b a j i := ⟨h.2.1, h.1, h.2.2.2, h.2.2.1⟩
/-- where the next edge of the first rises and the second's falls, the first's comes first -/
theorem cmp_ud (_ca : Cvx p q a) (cb : Cvx p q b) {i j : Nat} (h : Inv p q a b i j) (hi : i < a.length) (hj : j < b.length) (h1 : 0 < ph p q (ed a i)) (h2 : ph p q (ed b j) < 0) : 0 < cx (ed a i) (ed b j) := by
 have j0 : 0 < j := by
  rcases Nat.eq_zero_or_pos j with e | e
  ·subst e; have := cb.up0; omega
  ·exact e
 have hB := h.2.2.1 hi j0
 have T := cb.turn (j - 1)
 rw [show j - 1 + 1 = j by omega] at T
 have id := id3 p q (ed b (j - 1)) (ed a i) (ed b j)
 rcases hB with ⟨x, y⟩ | ⟨x, y, z⟩ | ⟨x, y, z⟩
 ·omega
 ·have m1 : 0 < ph p q (ed a i) * cx (ed b (j - 1)) (ed b j) := Int.mul_pos h1 T
  have m2 : ph p q (ed b j) * cx (ed b (j - 1)) (ed a i) < 0 := Int.mul_neg_of_neg_of_pos h2 z
  exact pos_of_mul x (by omega)
 ·omega
theorem cmp3 (ca : Cvx p q a) (cb : Cvx p q b) {i j : Nat} (h : Inv p q a b i j) (hi : i < a.length) (hj : j < b.length) :
  (0 < cx (ed a i) (ed b j) → Bf p q (ed a i) (ed b j)) ∧ (cx (ed a i) (ed b j) < 0 → Bf p q (ed b j) (ed a i)) ∧ (cx (ed a i) (ed b j) = 0 → 0 < ph p q (ed a i) * ph p q (ed b j)) := by
 have n1 := ca.some_ i
 have n2 := cb.some_ j
 have s : cx (ed b j) (ed a i) = - cx (ed a i) (ed b j) := cx_swap _ _
 have ud : 0 < ph p q (ed a i) → ph p q (ed b j) < 0 → 0 < cx (ed a i) (ed b j) := cmp_ud ca cb h hi hj
 have du : 0 < ph p q (ed b j) → ph p q (ed a i) < 0 → 0 < cx (ed b j) (ed a i) := cmp_ud cb ca h.swap hj hi
 unfold Bf
 rcases Int.lt_trichotomy (ph p q (ed a i)) 0 with x | x | x <;> rcases Int.lt_trichotomy (ph p q (ed b j)) 0 with y | y | y
 ·exact ⟨fun h => Or.inr (Or.inr ⟨x, y, h⟩), fun h => Or.inr (Or.inr ⟨y, x, by omega⟩), fun _ => Int.mul_pos_of_neg_of_neg x y⟩
 ·exact absurd y n2
 ·have := du y x
  exact ⟨fun h => by omega, fun _ => Or.inl ⟨y, x⟩, fun h => by omega⟩
 ·exact absurd x n1
 ·exact absurd x n1
 ·exact absurd x n1
 ·have := ud x y
  exact ⟨fun _ => Or.inl ⟨x, y⟩, fun h => by omega, fun h => by omega⟩
 ·exact absurd y n2
 ·exact ⟨fun h => Or.inr (Or.inl ⟨x, y, h⟩), fun h => Or.inr (Or.inl ⟨y, x, by omega⟩), fun _ => Int.mul_pos x y⟩
/-- the edge ahead of j, round and round -/
theorem prev_ed (cb : Cvx p q b) (j : Nat) (_hj : j ≤ b.length) : ∃ j', ed b (j' + 1) = ed b j ∧ P b (j' + 1) = P b j ∧ P b (j' + 2) = P b (j + 1) ∧ ((0 < j → ed b j' = ed b (j - 1)) ∧ (j = 0 → ed b j' = ed b (b.length - 1))) := by
 have := cb.three
 by_cases h : j = 0
 ·refine ⟨b.length - 1, ?_, ?_, ?_, ?_, fun _ => rfl⟩
  ·rw [show b.length - 1 + 1 = b.length by omega, ed_len, h]
  ·rw [show b.length - 1 + 1 = b.length by omega, P_len, h]
  ·rw [show b.length - 1 + 2 = 1 + b.length by omega, P_add, h]
  ·intro h1; omega
 ·exact ⟨j - 1, by rw [show j - 1 + 1 = j by omega], by rw [show j - 1 + 1 = j by omega], by rw [show j - 1 + 2 = j + 1 by omega], fun _ => rfl, fun h1 => absurd h1 h⟩
/-- the edge of b ahead of the corner comes before the edge of a that is taken -/
theorem before_a (ca : Cvx p q a) (cb : Cvx p q b) {i j : Nat} (h : Inv p q a b i j) (hi : i < a.length) (hc : j < b.length → 0 ≤ cx (ed a i) (ed b j) ∧ (Bf p q (ed a i) (ed b j) ∨ 0 < ph p q (ed a i) * ph p q (ed b j))) {j' : Nat} (hj' : (0 < j → ed b j' = ed b (j - 1)) ∧ (j = 0 → ed b j' = ed b (b.length - 1))) (ht : 0 < cx (ed b j') (ed b j)) : 0 < cx (ed b j') (ed a i) := by
 have lb := cb.three
 have n1 := ca.some_ i
 by_cases j0 : j = 0
 ·subst j0
  obtain ⟨c1, c2⟩ := hc (by omega)
  have u := cb.up0
  have d := cb.down
  rw [hj'.2 rfl] at ht ⊢
  have ua : 0 < ph p q (ed a i) := by
   rcases c2 with c2 | c2
   ·unfold Bf at c2; omega
   ·exact pos_of_mul u (by rw [Int.mul_comm]; exact c2)
  have id := id3 p q (ed b 0) (ed b (b.length - 1)) (ed a i)
  have s : cx (ed b 0) (ed a i) = - cx (ed a i) (ed b 0) := cx_swap _ _
  have s2 : cx (ed b 0) (ed b (b.length - 1)) = - cx (ed b (b.length - 1)) (ed b 0) := cx_swap _ _
  rw [s, s2] at id
  have m1 : 0 ≤ ph p q (ed b (b.length - 1)) * - cx (ed a i) (ed b 0) := Int.mul_nonneg_of_nonpos_of_nonpos (by omega) (by omega)
  have m2 : ph p q (ed a i) * - cx (ed b (b.length - 1)) (ed b 0) < 0 := Int.mul_neg_of_pos_of_neg ua (by omega)
  exact pos_of_mul u (by omega)
 ·rw [hj'.1 (by omega)] at ht ⊢
  rcases h.2.2.1 hi (by omega) with ⟨x, y⟩ | ⟨x, y, z⟩ | ⟨x, y, z⟩
  ·have jl : j < b.length := by
    rcases Nat.lt_or_ge j b.length with h1 | h1
    ·exact h1
    ·have := h.2.1
     have e : j = b.length := by omega
     subst e
     have := cb.down; omega
   obtain ⟨c1, c2⟩ := hc jl
   have db : ph p q (ed b j) < 0 := by
    rcases c2 with c2 | c2
    ·unfold Bf at c2; omega
    ·rcases Int.lt_or_le (ph p q (ed b j)) 0 with h1 | h1
     ·exact h1
     ·have := Int.mul_nonpos_of_nonpos_of_nonneg (show ph p q (ed a i) ≤ 0 by omega) h1; omega
   have id := id3 p q (ed b j) (ed b (j - 1)) (ed a i)
   have s : cx (ed b j) (ed a i) = - cx (ed a i) (ed b j) := cx_swap _ _
   have s2 : cx (ed b j) (ed b (j - 1)) = - cx (ed b (j - 1)) (ed b j) := cx_swap _ _
   rw [s, s2] at id
   have m1 : ph p q (ed b (j - 1)) * - cx (ed a i) (ed b j) ≤ 0 := Int.mul_nonpos_of_nonneg_of_nonpos (by omega) (by omega)
   have m2 : 0 < ph p q (ed a i) * - cx (ed b (j - 1)) (ed b j) := Int.mul_pos_of_neg_of_neg y (by omega)
   rcases Int.lt_or_le 0 (cx (ed b (j - 1)) (ed a i)) with h1 | h1
   ·exact h1
   ·have := Int.mul_nonneg_of_nonpos_of_nonpos (show ph p q (ed b j) ≤ 0 by omega) h1; omega
  ·exact z
  ·exact z
/-- when b is done, what is left of a still turns less than b's first edge -/
theorem after_b (_ca : Cvx p q a) (cb : Cvx p q b) {i : Nat} (h : Inv p q a b i b.length) (hi : i < a.length) : 0 < cx (ed a i) (ed b b.length) := by
 have lb := cb.three
 have u := cb.up0
 have d := cb.down
 have T := cb.turn (b.length - 1)
 rw [show b.length - 1 + 1 = b.length by omega] at T
 rw [ed_len] at T ⊢
 rcases h.2.2.1 hi (by omega) with ⟨x, y⟩ | ⟨x, y, z⟩ | ⟨x, y, z⟩
 ·omega
 ·omega
 ·have id := id3 p q (ed b (b.length - 1)) (ed a i) (ed b 0)
  have m1 : ph p q (ed a i) * cx (ed b (b.length - 1)) (ed b 0) < 0 := Int.mul_neg_of_neg_of_pos y T
  have m2 : 0 < ph p q (ed b 0) * cx (ed b (b.length - 1)) (ed a i) := Int.mul_pos u z
  rcases Int.lt_or_le 0 (cx (ed a i) (ed b 0)) with h1 | h1
  ·exact h1
  ·have := Int.mul_nonneg_of_nonpos_of_nonpos (show ph p q (ed b (b.length - 1)) ≤ 0 by omega) h1; omega
/-- taking an edge of a alone -/
theorem take_a (ca : Cvx p q a) (cb : Cvx p q b) (hS : Sums a b S) {i j : Nat} (h : Inv p q a b i j) (hi : i < a.length) (hc : j < b.length → 0 < cx (ed a i) (ed b j)) : HE S (V a b i j) (V a b (i + 1) j) ∧ Inv p q a b (i + 1) j := by
 obtain ⟨j', e1, e2, _, e3⟩ := prev_ed cb j h.2.1
 have hB : j < b.length → Bf p q (ed a i) (ed b j) := fun hj => (cmp3 ca cb h hi hj).1 (hc hj)
 have T := cb.turn j'
 rw [e1] at T
 have x1 := before_a ca cb h hi (fun hj => ⟨by have := hc hj; omega, Or.inl (hB hj)⟩) e3 T
 have x2 : 0 < cx (ed a i) (ed b j) := by
  rcases Nat.lt_or_ge j b.length with h1 | h1
  ·exact hc h1
  ·have e : j = b.length := by have := h.2.1; omega
   subst e; exact after_b ca cb h hi
 constructor
 ·have := step_a ca cb hS i j' (by rw [e1]; exact x2) x1
  unfold V at this ⊢; rw [e2] at this; exact this
 ·refine ⟨by omega, h.2.1, fun h1 h2 => ?_, fun h1 _ => by rw [Nat.add_sub_cancel]; exact hB h1⟩
  exact Bf.trans (h.2.2.1 hi h2) (ca.sorted i h1)
theorem take_b (ca : Cvx p q a) (cb : Cvx p q b) (hS : Sums a b S) {i j : Nat} (h : Inv p q a b i j) (hj : j < b.length) (hc : i < a.length → cx (ed a i) (ed b j) < 0) : HE S (V a b i j) (V a b i (j + 1)) ∧ Inv p q a b i (j + 1) := by
 obtain ⟨h1, h2⟩ := take_a cb ca hS.swap h.swap hj (fun hi => by have := hc hi; rw [cx_swap]; omega)
 exact ⟨by rw [V_swap a b, V_swap a b]; exact h1, h2.swap⟩
theorem take_ab (ca : Cvx p q a) (cb : Cvx p q b) (hS : Sums a b S) {i j : Nat} (h : Inv p q a b i j) (hi : i < a.length) (hj : j < b.length) (hc : cx (ed a i) (ed b j) = 0) : HE S (V a b i j) (V a b (i + 1) (j + 1)) ∧ Inv p q a b (i + 1) (j + 1) := by
 obtain ⟨j', e1, e2, e2', e3⟩ := prev_ed cb j h.2.1
 obtain ⟨i', d1, d2, d2', d3⟩ := prev_ed ca i h.1
 have hs := (cmp3 ca cb h hi hj).2.2 hc
 have Tb := cb.turn j'
 have Ta := ca.turn i'
 rw [e1] at Tb
 rw [d1] at Ta
 have hc' : cx (ed b j) (ed a i) = 0 := by rw [cx_swap]; omega
 have x1 := before_a ca cb h hi (fun _ => ⟨by omega, Or.inr hs⟩) e3 Tb
 have x2 := before_a cb ca h.swap hj (fun _ => ⟨by omega, Or.inr (by rw [Int.mul_comm]; exact hs)⟩) d3 Ta
 constructor
 ·have := step_ab ca cb hS i' j' (by rw [d1, e1]; exact hc) (by rw [d1, e1]; exact hs) (by rw [e1]; exact x2) (by rw [d1]; exact x1)
  unfold V at this ⊢; rw [d2, e2, d2', e2'] at this; exact this
 ·have par : ∀ {u v w : Pt}, cx u v = 0 → 0 < ph p q u * ph p q v → Bf p q v w → Bf p q u w := by
   intro u v w h0 hs hB
   have id := id3 p q v u w
   have s : cx v u = - cx u v := cx_swap u v
   rw [s, h0, Int.neg_zero, Int.mul_zero, Int.sub_zero] at id
   have sg : (0 < ph p q u ∧ 0 < ph p q v) ∨ (ph p q u < 0 ∧ ph p q v < 0) := by
    rcases Int.lt_trichotomy (ph p q u) 0 with h | h | h
    ·right; refine ⟨h, ?_⟩
     rcases Int.lt_or_le (ph p q v) 0 with h1 | h1
     ·exact h1
     ·have := Int.mul_nonpos_of_nonpos_of_nonneg (show ph p q u ≤ 0 by omega) h1; omega
    ·rw [h, Int.zero_mul] at hs; omega
    ·left; exact ⟨h, pos_of_mul h hs⟩
   rcases hB with ⟨x, y⟩ | ⟨x, y, z⟩ | ⟨x, y, z⟩
   ·exact Or.inl ⟨by omega, y⟩
   ·refine Or.inr (Or.inl ⟨by omega, y, ?_⟩)
    have m : 0 < ph p q u * cx v w := Int.mul_pos (by omega) z
    exact pos_of_mul x (by omega)
   ·refine Or.inr (Or.inr ⟨by omega, y, ?_⟩)
    have m : ph p q u * cx v w < 0 := Int.mul_neg_of_neg_of_pos (by omega) z
    rcases Int.lt_or_le 0 (cx u w) with h1 | h1
    ·exact h1
    ·have := Int.mul_nonneg_of_nonpos_of_nonpos (show ph p q v ≤ 0 by omega) h1; omega
  refine ⟨by omega, by omega, fun h1 _ => ?_, fun h1 _ => ?_⟩
  ·rw [Nat.add_sub_cancel]
   exact par hc' (by rw [Int.mul_comm]; exact hs) (ca.sorted i h1)
  ·rw [Nat.add_sub_cancel]
   exact par hc hs (cb.sorted j h1)
end
end Go.Proofs.Ytoffmpkgickfhaa.M
end
section
namespace Go.Proofs.Ytoffmpkgickfhaa.M
open Go.Proofs.Ytoffmpkgickfhaa.PG
/-- the corners from (i, j) on, without that one, up to the start again -/
def path (a b : List Pt) : Nat → Nat → Nat → List Pt
 | 0, _, _ => []
 | d + 1, i, j =>
  if i < a.length ∧ (j < b.length → 0 < cx (ed a i) (ed b j)) then V a b (i + 1) j :: path a b d (i + 1) j
  else if j < b.length ∧ (i < a.length → cx (ed a i) (ed b j) < 0) then V a b i (j + 1) :: path a b d i (j + 1)
  else if i < a.length ∧ j < b.length then V a b (i + 1) (j + 1) :: path a b d (i + 1) (j + 1)
  else []
section
variable {p q : Int} {a b S : List Pt}
theorem path_pairs (ca : Cvx p q a) (cb : Cvx p q b) (hS : Sums a b S) : ∀ d i j, Inv p q a b i j → Pairs (HE S) (V a b i j :: path a b d i j) := by
 intro d
 induction d with
 | zero => intro i j _; trivial
 | succ d ih =>
  intro i j h
  unfold path
  by_cases h1 : i < a.length ∧ (j < b.length → 0 < cx (ed a i) (ed b j))
  ·rw [if_pos h1]
   obtain ⟨s1, s2⟩ := take_a ca cb hS h h1.1 h1.2
   exact ⟨s1, ih _ _ s2⟩
  ·rw [if_neg h1]
   by_cases h2 : j < b.length ∧ (i < a.length → cx (ed a i) (ed b j) < 0)
   ·rw [if_pos h2]
    obtain ⟨s1, s2⟩ := take_b ca cb hS h h2.1 h2.2
    exact ⟨s1, ih _ _ s2⟩
   ·rw [if_neg h2]
    by_cases h3 : i < a.length ∧ j < b.length
    ·rw [if_pos h3]
     have hc : cx (ed a i) (ed b j) = 0 := by
      rcases Int.lt_trichotomy (cx (ed a i) (ed b j)) 0 with x | x | x
      ·exact absurd ⟨h3.2, fun _ => x⟩ h2
      ·exact x
      ·exact absurd ⟨h3.1, fun _ => x⟩ h1
     obtain ⟨s1, s2⟩ := take_ab ca cb hS h h3.1 h3.2 hc
     exact ⟨s1, ih _ _ s2⟩
    ·rw [if_neg h3]; trivial
/-- only at the end the start comes again -/
theorem start_once (ca : Cvx p q a) (cb : Cvx p q b) {i j : Nat} (h : Inv p q a b i j) (h0 : 0 < i + j) (h1 : i < a.length ∨ j < b.length) : V a b i j ≠ V a b 0 0 := by
 have la := ca.three
 have lb := cb.three
 intro e
 have lin : fn p q (V a b 0 0) (V a b i j) = fn p q (P a 0) (P a i) + fn p q (P b 0) (P b j) := by unfold V plus fn; dsimp only; grind
 have z : fn p q (V a b 0 0) (V a b i j) = 0 := by rw [e]; unfold fn; simp
 have lo : ∀ {c : List Pt}, Cvx p q c → ∀ i, i ≤ c.length → (i = 0 ∨ i = c.length) ∨ 0 < fn p q (P c 0) (P c i) := by
  intro c cc i hi
  have := cc.three
  rcases Nat.lt_or_ge i c.length with h | h
  ·rcases cc.low i h with h2 | h2
   ·exact Or.inl (Or.inl h2)
   ·right; rw [P_lt (by omega), P_lt h]; exact h2
  ·exact Or.inl (Or.inr (by omega))
 have nn : ∀ {c : List Pt}, Cvx p q c → ∀ i, i ≤ c.length → 0 ≤ fn p q (P c 0) (P c i) := by
  intro c cc i hi
  rcases lo cc i hi with (h | h) | h
  ·rw [h]; unfold fn; simp
  ·rw [h, P_len]; unfold fn; simp
  ·omega
 have na := nn ca i h.1
 have nb := nn cb j h.2.1
 have xa := (lo ca i h.1).resolve_right (by omega)
 have xb := (lo cb j h.2.1).resolve_right (by omega)
 have u := ca.up0
 have u' := cb.up0
 have d := ca.down
 have d' := cb.down
 rcases xa with xa | xa <;> rcases xb with xb | xb
 ·omega
 ·subst xa; subst xb
  have := h.2.2.1 (by omega) (by omega)
  unfold Bf at this; omega
 ·subst xa; subst xb
  have := h.2.2.2 (by omega) (by omega)
  unfold Bf at this; omega
 ·omega
theorem path_ends (ca : Cvx p q a) (cb : Cvx p q b) (hS : Sums a b S) : ∀ d i j, Inv p q a b i j → (a.length - i) + (b.length - j) ≤ d → (i < a.length ∨ j < b.length) → ∃ t, path a b d i j = t ++ [V a b a.length b.length] ∧ t.length < (a.length - i) + (b.length - j) ∧ V a b 0 0 ∉ t := by
 intro d
 induction d with
 | zero => intro i j _ h1 h2; omega
 | succ d ih =>
  intro i j h hd hij
  have next : ∀ i' j', Inv p q a b i' j' → (a.length - i') + (b.length - j') < (a.length - i) + (b.length - j) → 0 < i' + j' → ∃ t, V a b i' j' :: path a b d i' j' = t ++ [V a b a.length b.length] ∧ t.length < (a.length - i) + (b.length - j) ∧ V a b 0 0 ∉ t := by
   intro i' j' h' hlt h0
   by_cases he : i' < a.length ∨ j' < b.length
   ·obtain ⟨t, e, hl, hn⟩ := ih i' j' h' (by omega) he
    refine ⟨V a b i' j' :: t, by rw [e]; rfl, by simp only [List.length_cons]; omega, ?_⟩
    intro hm
    rcases List.mem_cons.mp hm with h1 | h1
    ·exact start_once ca cb h' h0 he h1.symm
    ·exact hn h1
   ·have e1 : i' = a.length := by have := h'.1; omega
    have e2 : j' = b.length := by have := h'.2.1; omega
    subst e1; subst e2
    have ep : path a b d a.length b.length = [] := by
     cases d with
     | zero => rfl
     | succ d => unfold path; rw [if_neg (by omega), if_neg (by omega), if_neg (by omega)]
    exact ⟨[], by rw [ep]; rfl, by simp only [List.length_nil]; omega, by simp⟩
  unfold path
  by_cases h1 : i < a.length ∧ (j < b.length → 0 < cx (ed a i) (ed b j))
  ·rw [if_pos h1]
   exact next _ _ (take_a ca cb hS h h1.1 h1.2).2 (by omega) (by omega)
  ·rw [if_neg h1]
   by_cases h2 : j < b.length ∧ (i < a.length → cx (ed a i) (ed b j) < 0)
   ·rw [if_pos h2]
    exact next _ _ (take_b ca cb hS h h2.1 h2.2).2 (by omega) (by omega)
   ·rw [if_neg h2]
    have h3 : i < a.length ∧ j < b.length := by
     rcases hij with x | x
     ·refine ⟨x, ?_⟩
      apply Classical.byContradiction
      intro hn; exact h1 ⟨x, fun hy => absurd hy hn⟩
     ·refine ⟨?_, x⟩
      apply Classical.byContradiction
      intro hn; exact h2 ⟨x, fun hy => absurd hy hn⟩
    rw [if_pos h3]
    have hc : cx (ed a i) (ed b j) = 0 := by
     rcases Int.lt_trichotomy (cx (ed a i) (ed b j)) 0 with x | x | x
     ·exact absurd ⟨h3.2, fun _ => x⟩ h2
     ·exact x
     ·exact absurd ⟨h3.1, fun _ => x⟩ h1
    exact next _ _ (take_ab ca cb hS h h3.1 h3.2 hc).2 (by omega) (by omega)
/-- what the code returns: the start and the way, without the start at its end -/
theorem sum_ring (ca : Cvx p q a) (cb : Cvx p q b) (hS : Sums a b S) : ∃ t, path a b (a.length + b.length) 0 0 = t ++ [V a b 0 0] ∧ Ring S (V a b 0 0 :: t) ∧ t.length < a.length + b.length := by
 have la := ca.three
 have h : Inv p q a b 0 0 := ⟨Nat.zero_le _, Nat.zero_le _, fun _ h => absurd h (by omega), fun _ h => absurd h (by omega)⟩
 obtain ⟨t, e, hl, hn⟩ := path_ends ca cb hS (a.length + b.length) 0 0 h (by omega) (by omega)
 have hp := path_pairs ca cb hS (a.length + b.length) 0 0 h
 have ev : V a b a.length b.length = V a b 0 0 := by unfold V; rw [P_len, P_len]
 rw [ev] at e
 rw [e] at hp
 exact ⟨t, e, ⟨V a b 0 0, t, rfl, hn, hp⟩, by omega⟩
/-- the first corner of the sum is first -/
theorem sum_low (ca : Cvx p q a) (cb : Cvx p q b) (hS : Sums a b S) : ∀ s ∈ S, s = V a b 0 0 ∨ 0 < fn p q (V a b 0 0) s := by
 have la := ca.three
 have lb := cb.three
 intro s hs
 obtain ⟨k, l, hk, hl, rfl⟩ := (hS s).mp hs
 have e0 : V a b 0 0 = plus (at_ a 0) (at_ b 0) := by unfold V; rw [P_lt (by omega), P_lt (by omega)]
 have lin : fn p q (plus (at_ a 0) (at_ b 0)) (plus (at_ a k) (at_ b l)) = fn p q (at_ a 0) (at_ a k) + fn p q (at_ b 0) (at_ b l) := by unfold plus fn; dsimp only; grind
 rw [e0, lin]
 have z : ∀ c : Pt, fn p q c c = 0 := by intro c; unfold fn; simp
 rcases ca.low k hk with h1 | h1 <;> rcases cb.low l hl with h2 | h2
 ·subst h1; subst h2; exact Or.inl rfl
 ·right; subst h1; rw [z]; omega
 ·right; subst h2; rw [z]; omega
 ·right; omega
end
end Go.Proofs.Ytoffmpkgickfhaa.M
end
section
namespace Go.Proofs.Ytoffmpkgickfhaa.M
open Go.RowKit Go.Proofs.Ytoffmpkgickfhaa.PG Go.Proofs.YtoffmpkgickfhaaW.PrintMore Go.Proofs.YtoffmpkgickfhaaW.PrintWords
theorem P_bd {l : List Pt} (hb : ∀ p ∈ l, Bd p) (h0 : 0 < l.length) (i : Nat) : Bd (P l i) := hb _ (at_mem (Nat.mod_lt _ h0))
theorem edge_f {l : List Pt} (hb : ∀ p ∈ l, Bd p) (hN : l.length ≤ 1000000) {i : Nat} (hi : i < l.length) : shape_Sum_1.f l (i : Int) = some ((ed l i).f0, (ed l i).f1) := by
 have t1 := tmod_in (i + 1) l.length (by omega)
 have h1 := P_bd hb (by omega) i
 have h2 := P_bd hb (by omega) (i + 1)
 unfold shape_Sum_1.f
 rw [if_neg (by omega), tmod_nat i _ (by omega), if_pos (by omega), if_pos (by omega), if_pos (by omega), if_pos (by omega), rd_at, rd_at]
 rw [show at_ l ((i + 1) % l.length) = P l (i + 1) from rfl, ← P_lt hi, sub_f h2 h1, Option.bind_some]; rfl
theorem ed_bd {l : List Pt} (hb : ∀ p ∈ l, Bd p) (h0 : 0 < l.length) (i : Nat) : -2000000 ≤ (ed l i).f0 ∧ (ed l i).f0 ≤ 2000000 ∧ -2000000 ≤ (ed l i).f1 ∧ (ed l i).f1 ≤ 2000000 := by
 obtain ⟨a0, a1, a2, a3⟩ := P_bd hb h0 i
 obtain ⟨b0, b1, b2, b3⟩ := P_bd hb h0 (i + 1)
 unfold ed vec; dsimp only; omega
theorem cross_f {u v : Pt} (hu : -2000000 ≤ u.f0 ∧ u.f0 ≤ 2000000 ∧ -2000000 ≤ u.f1 ∧ u.f1 ≤ 2000000) (hv : -2000000 ≤ v.f0 ∧ v.f0 ≤ 2000000 ∧ -2000000 ≤ v.f1 ∧ v.f1 ≤ 2000000) : shape_cross.f u.f0 u.f1 v.f0 v.f1 = some (cx u v) := by
 have h1 := @mulb u.f0 v.f1 (by omega) (by omega) (by omega) (by omega)
 have h2 := @mulb u.f1 v.f0 (by omega) (by omega) (by omega) (by omega)
 unfold shape_cross.f
 rw [wz (u.f0 * v.f1) (by omega) (by omega), wz (u.f1 * v.f0) (by omega) (by omega), wz _ (by omega) (by omega)]; rfl
theorem snoc_last (x : List Pt) (v : Pt) : at_ (x ++ [v]) x.length = v := by
 rw [at_eq (by simp)]; simp
section
variable {a b : List Pt}
theorem sum_l1 (ha : ∀ p ∈ a, Bd p) (hb : ∀ p ∈ b, Bd p) (hn : 0 < a.length) (hm : 0 < b.length) (hN : a.length ≤ 100000) (hM : b.length ≤ 100000) :
  ∀ d i j (x : List Pt), i ≤ a.length → j ≤ b.length → (a.length - i) + (b.length - j) ≤ d → x.length ≤ i + j → Rt (fun k => shape_Sum.l1 k a b (x ++ [V a b i j]) (i : Int) (j : Int)) ((x ++ V a b i j :: path a b d i j).dropLast, 0) := by
 intro d
 have done : ∀ d (x : List Pt), x.length ≤ a.length + b.length → Rt (fun k => shape_Sum.l1 k a b (x ++ [V a b a.length b.length]) (a.length : Int) (b.length : Int)) ((x ++ V a b a.length b.length :: path a b d a.length b.length).dropLast, 0) := by
  intro d x hx
  have ep : path a b d a.length b.length = [] := by
   cases d with
   | zero => rfl
   | succ d => unfold path; rw [if_neg (by omega), if_neg (by omega), if_neg (by omega)]
  refine rt_step (h := fun k => shape_Sum.j2 k a b (x ++ [V a b a.length b.length]) (a.length : Int) (b.length : Int) false) (fun k => ?_) (rt_ret fun k => ?_)
  ·rw [shape_Sum.l1, if_neg (by omega), decide_eq_false (by omega)]
  ·have l1 : (((x ++ [V a b a.length b.length]).length : Nat) : Int) = (x.length : Int) + 1 := by simp
   rw [shape_Sum.j2, if_neg (by simp), l1, wz _ (by omega) (by omega), if_pos (by omega), if_pos (by omega), ep, List.dropLast_concat, show (x.length : Int) + 1 - 1 = (x.length : Int) by omega, Int.toNat_natCast]
   simp
 induction d with
 | zero =>
  intro i j x hi hj hd hx
  have e1 : i = a.length := by omega
  have e2 : j = b.length := by omega
  subst e1; subst e2
  exact done 0 x hx
 | succ d ih =>
  intro i j x hi hj hd hx
  by_cases hend : i = a.length ∧ j = b.length
  ·obtain ⟨e1, e2⟩ := hend
   subst e1; subst e2
   exact done (d + 1) x hx
  ·have hx1 : (((x ++ [V a b i j]).length : Nat) : Int) = (x.length : Int) + 1 := by simp
   obtain ⟨pa0, pa1, pa2, pa3⟩ := P_bd ha hn i
   obtain ⟨pa4, pa5, pa6, pa7⟩ := P_bd ha hn (i + 1)
   obtain ⟨pb0, pb1, pb2, pb3⟩ := P_bd hb hm j
   obtain ⟨pb4, pb5, pb6, pb7⟩ := P_bd hb hm (j + 1)
   -- what is added to the last corner
   have lastf : rd_T29 (x ++ [V a b i j]) (((x.length : Nat)) : Int) = V a b i j := by rw [rd_at, snoc_last]
   have addf : ∀ (u w : Pt), plus (V a b i j) u = w → -4000000 ≤ u.f0 → u.f0 ≤ 4000000 → -4000000 ≤ u.f1 → u.f1 ≤ 4000000 → shape_add.f (V a b i j).f0 (V a b i j).f1 u.f0 u.f1 = some (w.f0, w.f1) := by
    intro u w e h0 h1 h2 h3
    unfold shape_add.f
    have v0 : (V a b i j).f0 = (P a i).f0 + (P b j).f0 := rfl
    have v1 : (V a b i j).f1 = (P a i).f1 + (P b j).f1 := rfl
    rw [wz _ (by omega) (by omega), wz _ (by omega) (by omega), ← e]; rfl
   have eda0 : (ed a i).f0 = (P a (i + 1)).f0 - (P a i).f0 := rfl
   have eda1 : (ed a i).f1 = (P a (i + 1)).f1 - (P a i).f1 := rfl
   have edb0 : (ed b j).f0 = (P b (j + 1)).f0 - (P b j).f0 := rfl
   have edb1 : (ed b j).f1 = (P b (j + 1)).f1 - (P b j).f1 := rfl
   -- the comparison
   have fin : ∀ (c : Int), (0 ≤ c → i < a.length) → (c ≤ 0 → j < b.length) →
     (c > 0 → path a b (d + 1) i j = V a b (i + 1) j :: path a b d (i + 1) j) → (c < 0 → path a b (d + 1) i j = V a b i (j + 1) :: path a b d i (j + 1)) → (c = 0 → path a b (d + 1) i j = V a b (i + 1) (j + 1) :: path a b d (i + 1) (j + 1)) →
     Rt (fun k => shape_Sum.j3 k a b (x ++ [V a b i j]) (i : Int) (j : Int) c) ((x ++ V a b i j :: path a b (d + 1) i j).dropLast, 0) := by
    intro c hca hcb hp hm' hz
    have glue : ∀ (w : Pt) (t : List Pt), x ++ V a b i j :: w :: t = (x ++ [V a b i j]) ++ w :: t := by intro w t; simp
    rcases Int.lt_trichotomy c 0 with h0 | h0 | h0
    ·-- an edge of b
     have hj' := hcb (by omega)
     rw [hm' h0, glue]
     refine rt_step (h := fun k => shape_Sum.j4 k a b (x ++ [V a b i j]) (i : Int) (j : Int) c 0 0) (fun k => ?_) (rt_step (fun k => ?_) (ih i (j + 1) (x ++ [V a b i j]) hi (by omega) (by omega) (by simp only [List.length_append, List.length_singleton]; omega)))
     ·rw [shape_Sum.j3, if_neg (by omega)]
     ·rw [shape_Sum.j4, if_pos (by omega), edge_f hb (by omega) hj', Option.bind_some]
      rw [show shape_add.f 0 0 (ed b j).f0 (ed b j).f1 = some ((ed b j).f0, (ed b j).f1) by unfold shape_add.f; rw [wz _ (by omega) (by omega), wz _ (by omega) (by omega), Int.zero_add, Int.zero_add], Option.bind_some, hx1, wz _ (by omega) (by omega), if_pos (by omega), if_pos (by omega), show (x.length : Int) + 1 - 1 = ((x.length : Nat) : Int) by omega, lastf, addf (ed b j) (V a b i (j + 1)) (by unfold plus V; apply pt_ext <;> dsimp only [plus] <;> omega) (by omega) (by omega) (by omega) (by omega), Option.bind_some, if_pos (by simp only [List.length_append, List.length_singleton]; omega), wrap_succ j (by omega)]
    ·-- an edge of each
     have hi' := hca (by omega)
     have hj' := hcb (by omega)
     rw [hz h0, glue]
     refine rt_step (h := fun k => shape_Sum.j4 k a b (x ++ [V a b i j]) ((i + 1 : Nat) : Int) (j : Int) c (ed a i).f0 (ed a i).f1) (fun k => ?_) (rt_step (fun k => ?_) (ih (i + 1) (j + 1) (x ++ [V a b i j]) (by omega) (by omega) (by omega) (by simp only [List.length_append, List.length_singleton]; omega)))
     ·rw [shape_Sum.j3, if_pos (by omega), edge_f ha (by omega) hi', Option.bind_some, wrap_succ i (by omega)]
     ·rw [shape_Sum.j4, if_pos (by omega), edge_f hb (by omega) hj', Option.bind_some]
      rw [show shape_add.f (ed a i).f0 (ed a i).f1 (ed b j).f0 (ed b j).f1 = some ((plus (ed a i) (ed b j)).f0, (plus (ed a i) (ed b j)).f1) by unfold shape_add.f plus; rw [wz _ (by omega) (by omega), wz _ (by omega) (by omega)], Option.bind_some, hx1, wz _ (by omega) (by omega), if_pos (by omega), if_pos (by omega), show (x.length : Int) + 1 - 1 = ((x.length : Nat) : Int) by omega, lastf, addf (plus (ed a i) (ed b j)) (V a b (i + 1) (j + 1)) (by unfold plus V; apply pt_ext <;> dsimp only [plus] <;> omega) (by unfold plus; dsimp only; omega) (by unfold plus; dsimp only; omega) (by unfold plus; dsimp only; omega) (by unfold plus; dsimp only; omega), Option.bind_some, if_pos (by simp only [List.length_append, List.length_singleton]; omega), wrap_succ j (by omega)]
    ·-- an edge of a
     have hi' := hca (by omega)
     rw [hp h0, glue]
     refine rt_step (h := fun k => shape_Sum.j4 k a b (x ++ [V a b i j]) ((i + 1 : Nat) : Int) (j : Int) c (ed a i).f0 (ed a i).f1) (fun k => ?_) (rt_step (fun k => ?_) (ih (i + 1) j (x ++ [V a b i j]) (by omega) hj (by omega) (by simp only [List.length_append, List.length_singleton]; omega)))
     ·rw [shape_Sum.j3, if_pos (by omega), edge_f ha (by omega) hi', Option.bind_some, wrap_succ i (by omega)]
     ·rw [shape_Sum.j4, if_neg (by omega), hx1, wz _ (by omega) (by omega), if_pos (by omega), if_pos (by omega), show (x.length : Int) + 1 - 1 = ((x.length : Nat) : Int) by omega, lastf, addf (ed a i) (V a b (i + 1) j) (by unfold plus V; apply pt_ext <;> dsimp only [plus] <;> omega) (by omega) (by omega) (by omega) (by omega), Option.bind_some, if_pos (by simp only [List.length_append, List.length_singleton]; omega)]
   have s1 : ∀ k, shape_Sum.l1 (k + 1) a b (x ++ [V a b i j]) (i : Int) (j : Int) = shape_Sum.j2 k a b (x ++ [V a b i j]) (i : Int) (j : Int) true := by
    intro k
    rw [shape_Sum.l1]
    by_cases h : (i : Int) < (a.length : Int)
    ·rw [if_pos h]
    ·rw [if_neg h, decide_eq_true (by omega)]
   by_cases hjm : j = b.length
   ·refine rt_step s1 (rt_step (fun k => ?_) (fin 1 (fun _ => by omega) (fun h => by omega) (fun _ => ?_) (fun h => by omega) (fun h => by omega)))
    ·rw [shape_Sum.j2, if_pos rfl, if_pos (by omega)]
    ·show (if _ then _ else _) = _
     rw [if_pos ⟨by omega, fun h => absurd h (by omega)⟩]
   ·by_cases hin : i = a.length
    ·refine rt_step s1 (rt_step (fun k => ?_) (fin (-1) (fun h => by omega) (fun _ => by omega) (fun h => by omega) (fun _ => ?_) (fun h => by omega)))
     ·rw [shape_Sum.j2, if_pos rfl, if_neg (by omega), if_pos (by omega)]
     ·show (if _ then _ else _) = _
      rw [if_neg (by omega), if_pos ⟨by omega, fun h => absurd h (by omega)⟩]
    ·have hi' : i < a.length := by omega
     have hj' : j < b.length := by omega
     refine rt_step s1 (rt_step (fun k => ?_) (fin (cx (ed a i) (ed b j)) (fun _ => hi') (fun _ => hj') (fun h => ?_) (fun h => ?_) (fun h => ?_)))
     ·rw [shape_Sum.j2, if_pos rfl, if_neg (by omega), if_neg (by omega), edge_f ha (by omega) hi', Option.bind_some, edge_f hb (by omega) hj', Option.bind_some]
      dsimp only
      rw [cross_f (ed_bd ha hn i) (ed_bd hb hm j), Option.bind_some]
     ·show (if _ then _ else _) = _
      rw [if_pos ⟨hi', fun _ => h⟩]
     ·show (if _ then _ else _) = _
      rw [if_neg (fun h2 => by have := h2.2 hj'; omega), if_pos ⟨hj', fun _ => h⟩]
     ·show (if _ then _ else _) = _
      rw [if_neg (fun h2 => by have := h2.2 hj'; omega), if_neg (fun h2 => by have := h2.2 hi'; omega), if_pos ⟨hi', hj'⟩]
/-- Sum, of two polygons that are convex in normal form -/
theorem Sum_run {p q : Int} {S : List Pt} (ca : Cvx p q a) (cb : Cvx p q b) (hS : Sums a b S) (ha : ∀ p ∈ a, Bd p) (hb : ∀ p ∈ b, Bd p) (hN : a.length ≤ 100000) (hM : b.length ≤ 100000)
  (h1 : Rt (fun k => shape_refused_normal.f k a) 0) (h2 : Rt (fun k => shape_refused_normal.f k b) 0) : ∃ h, Rt (fun k => shape_Sum.f k a b) (h, 0) ∧ Ring S h ∧ (∀ s ∈ S, s = at_ h 0 ∨ 0 < fn p q (at_ h 0) s) ∧ h.length ≤ a.length + b.length := by
 have la := ca.three
 have lb := cb.three
 obtain ⟨t, e, ring, hl⟩ := sum_ring ca cb hS
 obtain ⟨K1, g1⟩ := h1
 obtain ⟨K2, g2⟩ := h2
 obtain ⟨K3, g3⟩ := sum_l1 ha hb (by omega) (by omega) hN hM (a.length + b.length) 0 0 [] (by omega) (by omega) (by omega) (by simp)
 refine ⟨V a b 0 0 :: t, ⟨K1 + K2 + K3 + 3, fun k hk => ?_⟩, ring, sum_low ca cb hS, by simp only [List.length_cons]; omega⟩
 obtain ⟨k, rfl⟩ : ∃ m, k = m + 1 + 1 + 1 := ⟨k - 3, by omega⟩
 have a1 := g1 (k + 1 + 1) (by omega)
 have a2 := g2 (k + 1) (by omega)
 have a3 := g3 k (by omega)
 dsimp only at a1 a2 a3 ⊢
 have r0 : rd_L2 [a, b] 0 = a := rfl
 have r1 : rd_L2 [a, b] 1 = b := rfl
 have w1 : wrap64 (0 + 1) = 1 := by unfold wrap64; omega
 have w2 : wrap64 (1 + 1) = 2 := by unfold wrap64; omega
 have ln : (([a, b] : List (List S29)).length : Int) = 2 := rfl
 obtain ⟨pa0, pa1, pa2, pa3⟩ := P_bd ha (by omega) 0
 obtain ⟨pb0, pb1, pb2, pb3⟩ := P_bd hb (by omega) 0
 have z0 : rd_T29 a 0 = P a 0 := by rw [P_lt (by omega)]; rfl
 have z1 : rd_T29 b 0 = P b 0 := by rw [P_lt (by omega)]; rfl
 unfold shape_Sum.f
 rw [Option.bind_some, ln, shape_Sum.l0, ln, if_pos (by omega), if_pos (by omega), if_pos (by omega), r0, a1, Option.bind_some, if_pos rfl, w1, shape_Sum.l0, ln, if_pos (by omega), if_pos (by omega), if_pos (by omega), r1, a2, Option.bind_some, if_pos rfl, w2, shape_Sum.l0, if_neg (by omega), if_pos (by omega), if_pos (by omega), z0, z1]
 unfold shape_add.f
 rw [Option.bind_some, wz ((P a 0).f0 + _) (by omega) (by omega), wz ((P a 0).f1 + _) (by omega) (by omega)]
 have : ([] ++ V a b 0 0 :: path a b (a.length + b.length) 0 0).dropLast = V a b 0 0 :: t := by
  rw [e, List.nil_append, show V a b 0 0 :: (t ++ [V a b 0 0]) = (V a b 0 0 :: t) ++ [V a b 0 0] from rfl, List.dropLast_concat]
 rw [this] at a3
 exact a3
end
end Go.Proofs.Ytoffmpkgickfhaa.M
end
section
namespace Go.Proofs.Ytoffmpkgickfhaa.PG
open Go.RowKit Go.Proofs.YtoffmpkgickfhaaW.PrintWords Go.Proofs.YtoffmpkgickfhaaW.PrintLast Go.Proofs.YtoffmpkgickfhaaW.PrintMore
attribute [local go_sem] max2_int min2_int max_two min_two max_three min_three max_four min_four
set_option linter.unusedVariables false
set_option linter.unusedSimpArgs false
/-! ### cracknellaw04_fold: function 39 -/
def cracknellaw04_fold.f (a0 : Int) (a1 : Int) : Option (Int) := if a1 = 0 then (none) else (some (Int.tmod (wrap64 ((Int.tmod a0 a1) + a1)) a1))
set_option maxHeartbeats 8000000 in
set_option maxRecDepth 100000 in
theorem cracknellaw04_fold.calls (a0 : Int) (a1 : Int) (r : Int) (w : World) (h : cracknellaw04_fold.f a0 a1 = some r) :
  Calls Try.prog 39 #[.int .i64 a0, .int .i64 a1] w fun e w' => e = .returned (.int .i64 r) ∧ Drawn0 w w' := by
 have H : (if a1 = 0 then (none) else (some (Int.tmod (wrap64 ((Int.tmod a0 a1) + a1)) a1))) = some r := h
 clear h
 by_cases c3 : a1 = 0
 ·rw [if_pos c3] at H
  exact absurd H (by simp)
 ·rw [if_neg c3] at H
  have c3b0 : (a1 == 0) = false := beq_eq_false_iff_ne.mpr c3
  have c3b1 : (a1 != 0) = true := bne_iff_ne.mpr c3
  obtain rfl := Option.some.inj H
  go_enter Try.func39, Try.ntmps39
  go_wp2
  go_ret
  exact ⟨by first | rfl | (simp; done) | (simp [*]; done), by repeat (first | exact Drawn0.refl _ | apply Drawn0.step)⟩
end Go.Proofs.Ytoffmpkgickfhaa.PG
end
section
namespace Go.Proofs.Ytoffmpkgickfhaa.M
open Go.RowKit Go.Proofs.Ytoffmpkgickfhaa.PG Go.Proofs.YtoffmpkgickfhaaW.PrintMore Go.Proofs.YtoffmpkgickfhaaW.PrintWords
theorem tmod_bd (a b : Int) (hb : 0 < b) : -b < Int.tmod a b ∧ Int.tmod a b < b := by
 have h : (Int.tmod a b).natAbs = a.natAbs % b.natAbs := Int.natAbs_tmod a b
 have h2 : a.natAbs % b.natAbs < b.natAbs := Nat.mod_lt _ (by omega)
 omega
theorem points_run (l : List Pt) (m : Int) (q : Nat) (h0 : 0 ≤ m) (h1 : m ≤ 1000000) (hq : q ≤ 1000000) : ∃ r, Rt (fun k => cracknellaw04_points.f k l m (q : Int)) r ∧ r.length ≤ q ∧ ∀ p ∈ r, In m p := by
 have H : ∀ d i (x : List Pt), i + d = min l.length q → x.length = i → (∀ p ∈ x, In m p) → ∃ r, Rt (fun k => cracknellaw04_points.l0 k l m (q : Int) x (i : Int)) r ∧ r.length ≤ q ∧ ∀ p ∈ r, In m p := by
  intro d
  induction d with
  | zero =>
   intro i x hi hx hin
   refine ⟨x, rt_ret fun k => ?_, by omega, hin⟩
   rw [cracknellaw04_points.l0]
   by_cases h : (i : Int) < (l.length : Int)
   ·rw [if_pos h, if_neg (by omega)]
   ·rw [if_neg h]
  | succ d ih =>
   intro i x hi hx hin
   have b0 := tmod_bd (at_ l i).f0 (m + 1) (by omega)
   have b1 := tmod_bd (at_ l i).f1 (m + 1) (by omega)
   obtain ⟨r, hr, hr1, hr2⟩ := ih (i + 1) (x ++ [⟨Int.tmod (at_ l i).f0 (m + 1), Int.tmod (at_ l i).f1 (m + 1)⟩]) (by omega) (by simp [hx]) (fun p hp => by
    rcases List.mem_append.mp hp with h | h
    ·exact hin p h
    ·rw [List.mem_singleton] at h; subst h; unfold In; dsimp only; omega)
   refine ⟨r, rt_step (fun k => ?_) hr, hr1, hr2⟩
   rw [cracknellaw04_points.l0, if_pos (by omega), if_pos (by omega), if_pos (by omega), wz (m + 1) (by omega) (by omega), if_neg (by omega), if_pos (by omega), rd_at, wrap_succ i (by omega)]
 obtain ⟨r, ⟨K, hK⟩, h⟩ := H (min l.length q) 0 [] (by omega) rfl (by simp)
 exact ⟨r, ⟨K, fun k hk => hK k hk⟩, h⟩
theorem fold_f (a : Int) (n : Nat) (h0 : 0 < n) (h1 : n ≤ 1000000) : ∃ t : Nat, t < n ∧ cracknellaw04_fold.f a (n : Int) = some (t : Int) := by
 have b := tmod_bd a (n : Int) (by omega)
 refine ⟨((Int.tmod a n + n).toNat) % n, Nat.mod_lt _ h0, ?_⟩
 unfold cracknellaw04_fold.f
 rw [if_neg (by omega), wz _ (by omega) (by omega)]
 congr 1
 have e : Int.tmod a n + n = ((Int.tmod a n + n).toNat : Int) := by omega
 rw [e, ← Int.ofNat_tmod]; simp
end Go.Proofs.Ytoffmpkgickfhaa.M
end
section
namespace Go.Proofs.Ytoffmpkgickfhaa.M
open Go.RowKit Go.Proofs.Ytoffmpkgickfhaa.PG Go.Proofs.YtoffmpkgickfhaaW.PrintMore Go.Proofs.YtoffmpkgickfhaaW.PrintWords
/-- a convex polygon in normal form, its coordinates up to m -/
structure Nf (m : Int) (h : List Pt) : Prop where
 ring : Ring h h
 flat : ¬ Flat h
 fst : ∀ p ∈ h, p = at_ h 0 ∨ first (at_ h 0) p
 inb : ∀ p ∈ h, In m p
theorem Nf.of_ring {m : Int} {S h : List Pt} (r : Ring S h) (hf : ¬ Flat S) (hm : ∀ p ∈ S, p = at_ h 0 ∨ first (at_ h 0) p) (hin : ∀ p ∈ S, In m p) : Nf m h :=
 ⟨ring_self r, ring_not_flat r hf, fun p hp => hm p (ring_sub r p hp), fun p hp => hin p (ring_sub r p hp)⟩
section
variable {m : Int} {h : List Pt}
theorem Nf.three (n : Nf m h) : 3 ≤ h.length := ring_three n.ring n.flat
theorem Nf.convex (n : Nf m h) : Convex h := ring_convex n.ring n.flat n.fst
theorem Nf.bd (n : Nf m h) (hm : m ≤ 10000) : ∀ p ∈ h, Bd p := fun p hp => by have := n.inb p hp; unfold In at this; unfold Bd; omega
theorem Nf.poly (n : Nf m h) (hm : m ≤ 10000) (hl : h.length ≤ 32) : Poly h := ⟨n.three, hl, fun p hp => by have := n.inb p hp; unfold In at *; omega⟩
theorem Nf.normal (n : Nf m h) (hm : m ≤ 10000) (hl : h.length ≤ 32) : Rt (fun k => shape_refused_normal.f k h) 0 := refused_normal (by omega) (n.poly hm hl) n.convex
theorem Nf.first_k (n : Nf m h) : ∀ k, k < h.length → k = 0 ∨ first (at_ h 0) (at_ h k) := first_at n.ring (by have := n.three; omega) n.fst
theorem fn_first {a b : Pt} (ha : Bd a) (hb : Bd b) : first a b ↔ 0 < fn 1 10000000 a b := by
 unfold Bd at ha hb; unfold first fn; omega
theorem Nf.cvx (n : Nf m h) (hm : m ≤ 10000) : Cvx 1 10000000 h := by
 have h3 := n.three
 have hb := n.bd hm
 refine ⟨h3, ring_strong n.ring, fun k hk => ?_, fun i => ?_⟩
 ·rcases n.first_k k hk with e | e
  ·exact Or.inl e
  ·exact Or.inr ((fn_first (at_bd hb (by omega)) (at_bd hb hk)).mp e)
 ·have hi : i % h.length < h.length := Nat.mod_lt _ (by omega)
  have hj : (i + 1) % h.length < h.length := Nat.mod_lt _ (by omega)
  obtain ⟨b0, b1, b2, b3⟩ := at_bd hb hi
  obtain ⟨c0, c1, c2, c3⟩ := at_bd hb hj
  have ne := (ring_strong n.ring).1 _ hi
  rw [Nat.mod_add_mod] at ne
  intro e
  apply ne
  unfold ed vec ph P at e
  dsimp only at e
  apply pt_ext <;> omega
end
/-- the sums of all corners -/
def sums (a b : List Pt) : List Pt := a.flatMap fun x => b.map (plus x)
theorem sums_ok (a b : List Pt) : Sums a b (sums a b) := by
 intro s
 unfold sums
 rw [List.mem_flatMap]
 constructor
 ·rintro ⟨x, hx, hs⟩
  obtain ⟨y, hy, rfl⟩ := List.mem_map.mp hs
  obtain ⟨k, hk, rfl⟩ := List.mem_iff_getElem.mp hx
  obtain ⟨l, hl, rfl⟩ := List.mem_iff_getElem.mp hy
  exact ⟨k, l, hk, hl, by rw [at_eq hk, at_eq hl]⟩
 ·rintro ⟨k, l, hk, hl, rfl⟩
  exact ⟨at_ a k, at_mem hk, List.mem_map.mpr ⟨at_ b l, at_mem hl, rfl⟩⟩
theorem sums_mem {a b : List Pt} {s : Pt} : s ∈ sums a b ↔ ∃ x ∈ a, ∃ y ∈ b, s = plus x y := by
 unfold sums
 rw [List.mem_flatMap]
 constructor
 ·rintro ⟨x, hx, hs⟩
  obtain ⟨y, hy, rfl⟩ := List.mem_map.mp hs
  exact ⟨x, hx, y, hy, rfl⟩
 ·rintro ⟨x, hx, y, hy, rfl⟩
  exact ⟨x, hx, List.mem_map.mpr ⟨y, hy, rfl⟩⟩
theorem sums_flat {a b : List Pt} (hb : 0 < b.length) (h : Flat (sums a b)) : Flat a := by
 intro x hx y hy z hz
 have m := at_mem hb
 have := h _ (sums_mem.mpr ⟨x, hx, _, m, rfl⟩) _ (sums_mem.mpr ⟨y, hy, _, m, rfl⟩) _ (sums_mem.mpr ⟨z, hz, _, m, rfl⟩)
 rw [cr_eq] at this ⊢
 unfold plus at this
 dsimp only at this
 rw [← this]; grind
/-- the code's sum of two polygons in normal form is one, the hull of all sums -/
theorem sum_nf {m1 m2 : Int} {a b : List Pt} (na : Nf m1 a) (nb : Nf m2 b) (h1 : 0 ≤ m1) (h2 : 0 ≤ m2) (hm : m1 + m2 ≤ 10000) (la : a.length ≤ 32) (lb : b.length ≤ 32) :
  ∃ h, Rt (fun k => shape_Sum.f k a b) (h, 0) ∧ Ring (sums a b) h ∧ Nf (m1 + m2) h ∧ h.length ≤ a.length + b.length := by
 obtain ⟨h, r, ring, lo, hl⟩ := Sum_run (na.cvx (by omega)) (nb.cvx (by omega)) (sums_ok a b) (na.bd (by omega)) (nb.bd (by omega)) (by omega) (by omega) (na.normal (by omega) la) (nb.normal (by omega) lb)
 have inS : ∀ s ∈ sums a b, In (m1 + m2) s := by
  intro s hs
  obtain ⟨x, hx, y, hy, rfl⟩ := sums_mem.mp hs
  have i1 := na.inb x hx
  have i2 := nb.inb y hy
  unfold In plus at *; dsimp only; omega
 have bS : ∀ s ∈ sums a b, Bd s := fun s hs => by have := inS s hs; unfold In at this; unfold Bd; omega
 have hf : ¬ Flat (sums a b) := fun h => na.flat (sums_flat (by have := nb.three; omega) h)
 have h3 := ring_three ring hf
 have m0 := ring_sub ring _ (at_mem (show 0 < h.length by omega))
 exact ⟨h, r, ring, Nf.of_ring ring hf (fun p hp => (lo p hp).imp id (fun e => (fn_first (bS _ m0) (bS p hp)).mpr e)) inS, hl⟩
/-- the law's own hull -/
theorem law_hull_run (l : List Pt) (m : Int) (h0 : 1 ≤ m) (h1 : m ≤ 10000) : ∃ h, Rt (fun k => cracknellaw04_hull.f k l m) h ∧ Nf m h ∧ h.length ≤ 12 := by
 obtain ⟨r, ⟨K1, h2⟩, hl, hin⟩ := points_run l m 9 (by omega) (by omega) (by omega)
 have hinb : ∀ p ∈ r ++ [(⟨0, 0⟩ : S29), (⟨1, 0⟩ : S29), (⟨0, 1⟩ : S29)], In m p := by
  intro p hp
  rcases List.mem_append.mp hp with h | h
  ·exact hin p h
  ·have : p = ⟨0, 0⟩ ∨ p = ⟨1, 0⟩ ∨ p = ⟨0, 1⟩ := by simpa using h
   rcases this with rfl | rfl | rfl <;> (unfold In; dsimp only; omega)
 have hlen : (r ++ [(⟨0, 0⟩ : S29), (⟨1, 0⟩ : S29), (⟨0, 1⟩ : S29)]).length = r.length + 3 := by simp
 obtain ⟨h, ⟨K2, c⟩, ring, hm⟩ := (refHull_run (l := r ++ [(⟨0, 0⟩ : S29), (⟨1, 0⟩ : S29), (⟨0, 1⟩ : S29)]) (fun p hp => by have := hinb p hp; unfold In at this; unfold Bd; omega) (by omega) (by omega)).2 (not_flat3 r)
 refine ⟨h, ⟨K1 + K2, fun k hk => ?_⟩, Nf.of_ring ring (not_flat3 r) hm hinb, by have := ring_len ring; omega⟩
 have a1 := h2 k (by omega)
 have a2 := c k (by omega)
 dsimp only at a1 a2 ⊢
 unfold cracknellaw04_hull.f
 rw [show (9 : Int) = ((9 : Nat) : Int) from rfl, a1, Option.bind_some, Option.bind_some, if_pos (by simp only [List.length_cons, List.length_nil]; omega), a2, Option.bind_some]
end Go.Proofs.Ytoffmpkgickfhaa.M
end
section
namespace Go.Proofs.Ytoffmpkgickfhaa.M
open Go.RowKit Go.Proofs.Ytoffmpkgickfhaa.PG Go.Proofs.YtoffmpkgickfhaaW.PrintMore Go.Proofs.YtoffmpkgickfhaaW.PrintWords
theorem ring_ext {S T h : List Pt} (r : Ring S h) (hs : ∀ p ∈ S, p ∈ T) (ht : ∀ u v, HE S u v → ∀ t ∈ T, 0 ≤ cr u v t ∧ (cr u v t = 0 → btw u v t)) : Ring T h := by
 obtain ⟨a, t, e, n, p⟩ := r
 exact ⟨a, t, e, n, Pairs.mono (fun u v he => ⟨he.1, hs u he.2.1, hs v he.2.2.1, ht u v he⟩) _ p⟩
theorem has_min (f : Nat → Int) : ∀ n, 0 < n → ∃ i, i < n ∧ ∀ j, j < n → f i ≤ f j := by
 intro n
 induction n with
 | zero => intro h; omega
 | succ n ih =>
  intro _
  by_cases h0 : n = 0
  ·subst h0; exact ⟨0, by omega, fun j hj => by rw [show j = 0 by omega]; exact Int.le_refl _⟩
  ·obtain ⟨i, hi, hm⟩ := ih (by omega)
   by_cases hc : f i ≤ f n
   ·exact ⟨i, by omega, fun j hj => by
     rcases Nat.lt_or_ge j n with h1 | h1
     ·exact hm j h1
     ·rw [show j = n by omega]; exact hc⟩
   ·exact ⟨n, by omega, fun j hj => by
     rcases Nat.lt_or_ge j n with h1 | h1
     ·have := hm j h1; omega
     ·rw [show j = n by omega]; exact Int.le_refl _⟩
/-- in each direction the ring goes as far as the whole set -/
theorem dom {X x : List Pt} (r : Ring X x) (h3 : 3 ≤ x.length) {e : Pt} (he : ¬ (e.f0 = 0 ∧ e.f1 = 0)) {s : Pt} (hs : s ∈ X) :
  ∃ u v, u ∈ x ∧ v ∈ x ∧ 0 ≤ cx e (vec u s) ∧ (cx e (vec u s) = 0 → cx e (vec u v) = 0 ∧ btw u v s) := by
 obtain ⟨i, hi, hmin⟩ := has_min (fun k => cx e (at_ x k)) x.length (by omega)
 have hpos : ∀ k, k < x.length → 0 ≤ cx e (vec (at_ x i) (at_ x k)) := by
  intro k hk
  have := hmin k hk
  have e1 : cx e (vec (at_ x i) (at_ x k)) = cx e (at_ x k) - cx e (at_ x i) := by unfold cx vec; dsimp only; grind
  omega
 obtain ⟨j, hj, hji⟩ : ∃ j, j < x.length ∧ (j + 1) % x.length = i := by
  by_cases h0 : i = 0
  ·exact ⟨x.length - 1, by omega, by rw [show x.length - 1 + 1 = x.length by omega, Nat.mod_self, h0]⟩
  ·exact ⟨i - 1, by omega, by rw [show i - 1 + 1 = i by omega, Nat.mod_eq_of_lt hi]⟩
 have T := strong_turn h3 (ring_strong r) j hj
 have e2 : (j + 1 + 1) % x.length = (i + 1) % x.length := by rw [← Nat.mod_add_mod, hji]
 rw [hji, e2] at T
 have hn : (i + 1) % x.length < x.length := Nat.mod_lt _ (by omega)
 have E1 := ring_at r j hj
 have E2 := ring_at r i hi
 rw [hji] at E1
 obtain ⟨l1, b1⟩ := E1.2.2.2 s hs
 obtain ⟨l2, b2⟩ := E2.2.2.2 s hs
 have p1 := hpos j hj
 have p2 := hpos _ hn
 have mu := at_mem hj
 have mv := at_mem hi
 have mw := at_mem hn
 generalize at_ x j = u at *
 generalize at_ x i = v at *
 generalize at_ x ((i + 1) % x.length) = w at *
 have id : cr u v w * cx e (vec v s) = cr u v s * cx e (vec v w) + cr v w s * cx e (vec v u) := by unfold cr cx vec; dsimp only; grind
 have m1 : 0 ≤ cr u v s * cx e (vec v w) := Int.mul_nonneg l1 p2
 have m2 : 0 ≤ cr v w s * cx e (vec v u) := Int.mul_nonneg l2 p1
 have nn := nonneg_of_mul T (show 0 ≤ cr u v w * cx e (vec v s) by omega)
 by_cases z : cx e (vec v w) = 0
 ·refine ⟨v, w, mv, mw, nn, fun h0 => ⟨z, ?_⟩⟩
  rw [h0, Int.mul_zero] at id
  have z2 : cr v w s * cx e (vec v u) = 0 := by omega
  rcases Int.mul_eq_zero.mp z2 with h | h
  ·exact b2 h
  ·exfalso
   apply he
   have k0 : cr u v w * e.f0 = 0 := by
    have : cr u v w * e.f0 = cx e (vec v w) * (v.f0 - u.f0) + cx e (vec v u) * (w.f0 - v.f0) := by unfold cr cx vec; dsimp only; grind
    rw [this, z, h]; simp
   have k1 : cr u v w * e.f1 = 0 := by
    have : cr u v w * e.f1 = cx e (vec v w) * (v.f1 - u.f1) + cx e (vec v u) * (w.f1 - v.f1) := by unfold cr cx vec; dsimp only; grind
    rw [this, z, h]; simp
   constructor
   ·rcases Int.mul_eq_zero.mp k0 with h | h
    ·omega
    ·exact h
   ·rcases Int.mul_eq_zero.mp k1 with h | h
    ·omega
    ·exact h
 ·have cz : cx e (vec v s) = 0 → cr u v s = 0 := by
   intro h0
   rw [h0, Int.mul_zero] at id
   rcases Int.mul_eq_zero.mp (show cr u v s * cx e (vec v w) = 0 by omega) with h | h
   ·exact h
   ·exact absurd h z
  by_cases y : cx e (vec v u) = 0
  ·refine ⟨v, u, mv, mu, nn, fun h0 => ⟨y, ?_⟩⟩
   have bb := b1 (cz h0)
   unfold btw at *; omega
  ·refine ⟨v, v, mv, mv, nn, fun h0 => ?_⟩
   have c1 := cz h0
   rw [h0, Int.mul_zero] at id
   have h : cr v w s = 0 := by
    rcases Int.mul_eq_zero.mp (show cr v w s * cx e (vec v u) = 0 by omega) with h | h
    ·exact h
    ·exact absurd h y
   have k0 : cr u v w * (s.f0 - v.f0) = 0 := by
    have : cr u v w * (s.f0 - v.f0) = cr u v s * (w.f0 - v.f0) - cr v w s * (v.f0 - u.f0) := by unfold cr; grind
    rw [this, c1, h]; simp
   have k1 : cr u v w * (s.f1 - v.f1) = 0 := by
    have : cr u v w * (s.f1 - v.f1) = cr u v s * (w.f1 - v.f1) - cr v w s * (v.f1 - u.f1) := by unfold cr; grind
    rw [this, c1, h]; simp
   have s0 : s.f0 = v.f0 := by
    rcases Int.mul_eq_zero.mp k0 with h | h <;> omega
   have s1 : s.f1 = v.f1 := by
    rcases Int.mul_eq_zero.mp k1 with h | h <;> omega
   have es : s = v := pt_ext s0 s1
   rw [es]
   exact ⟨by unfold cx vec; dsimp only; simp, btw_start _ _⟩
/-- a hull added to something is as good as the set itself -/
theorem sum_ext {X x c L : List Pt} (r : Ring X x) (h3 : 3 ≤ x.length) (rl : Ring (sums x c) L) : Ring (sums X c) L := by
 refine ring_ext rl (fun p hp => ?_) (fun u v he t ht => ?_)
 ·obtain ⟨a, ha, b, hb, rfl⟩ := sums_mem.mp hp
  exact sums_mem.mpr ⟨a, ring_sub r a ha, b, hb, rfl⟩
 ·obtain ⟨s0, hs0, c0, hc0, rfl⟩ := sums_mem.mp ht
  have hne : ¬ ((vec u v).f0 = 0 ∧ (vec u v).f1 = 0) := by
   rintro ⟨h0, h1⟩
   apply he.1
   unfold vec at h0 h1; dsimp only at h0 h1
   exact pt_ext (by omega) (by omega)
  obtain ⟨y, z, hy, hz, d1, d2⟩ := dom r h3 hne hs0
  obtain ⟨g1, g2⟩ := he.2.2.2 _ (sums_mem.mpr ⟨y, hy, c0, hc0, rfl⟩)
  obtain ⟨k1, k2⟩ := he.2.2.2 _ (sums_mem.mpr ⟨z, hz, c0, hc0, rfl⟩)
  have e1 : cr u v (plus s0 c0) = cr u v (plus y c0) + cx (vec u v) (vec y s0) := by unfold cr cx vec plus; dsimp only; grind
  have e2 : cr u v (plus z c0) = cr u v (plus y c0) + cx (vec u v) (vec y z) := by unfold cr cx vec plus; dsimp only; grind
  refine ⟨by omega, fun h0 => ?_⟩
  obtain ⟨f1, f2⟩ := d2 (by omega)
  have b1 := g2 (by omega)
  have b2 := k2 (by omega)
  unfold btw plus at *; dsimp only at *; omega
theorem sums_comm {a b : List Pt} (s : Pt) : s ∈ sums a b ↔ s ∈ sums b a := by
 rw [sums_mem, sums_mem]
 constructor
 ·rintro ⟨x, hx, y, hy, rfl⟩; exact ⟨y, hy, x, hx, by unfold plus; rw [Int.add_comm, Int.add_comm x.f1]⟩
 ·rintro ⟨x, hx, y, hy, rfl⟩; exact ⟨y, hy, x, hx, by unfold plus; rw [Int.add_comm, Int.add_comm x.f1]⟩
theorem sums_assoc {a b c : List Pt} (s : Pt) : s ∈ sums (sums a b) c ↔ s ∈ sums (sums b c) a := by
 rw [sums_mem, sums_mem]
 constructor
 ·rintro ⟨x, hx, y, hy, rfl⟩
  obtain ⟨u, hu, v, hv, rfl⟩ := sums_mem.mp hx
  exact ⟨plus v y, sums_mem.mpr ⟨v, hv, y, hy, rfl⟩, u, hu, by unfold plus; apply pt_ext <;> dsimp only <;> omega⟩
 ·rintro ⟨x, hx, y, hy, rfl⟩
  obtain ⟨u, hu, v, hv, rfl⟩ := sums_mem.mp hx
  exact ⟨plus y u, sums_mem.mpr ⟨y, hy, u, hu, rfl⟩, v, hv, by unfold plus; apply pt_ext <;> dsimp only <;> omega⟩
/-- two rings of one set that begin with their first corners are one -/
theorem nf_one {m m' : Int} {S h h' : List Pt} (hf : ¬ Flat S) (r : Ring S h) (r' : Ring S h') (n : Nf m h) (n' : Nf m' h') : h = h' := by
 have h3 := n'.three
 refine rings_one hf r r' n.first_k ?_
 exact ring_first r' hf 0 (by omega) n'.first_k
/-! ### twice the polygon -/
def dbl (l : List Pt) : List Pt := l.map fun p => plus p p
theorem dbl_at (l : List Pt) (i : Nat) : at_ (dbl l) i = plus (at_ l i) (at_ l i) := by
 unfold at_ dbl
 rw [List.getD_eq_getElem?_getD, List.getD_eq_getElem?_getD, List.getElem?_map]
 cases l[i]? <;> rfl
theorem dbl_ring {a : List Pt} (r : Ring a a) : Ring (sums a a) (dbl a) := by
 have H : ∀ u v, HE a u v → HE (sums a a) (plus u u) (plus v v) := by
  rintro u v ⟨ne, hu, hv, L⟩
  refine ⟨fun e => ne ?_, sums_mem.mpr ⟨u, hu, u, hu, rfl⟩, sums_mem.mpr ⟨v, hv, v, hv, rfl⟩, fun s hs => ?_⟩
  ·unfold plus at e
   have e0 := congrArg S29.f0 e
   have e1 := congrArg S29.f1 e
   dsimp only at e0 e1
   exact pt_ext (by omega) (by omega)
  ·obtain ⟨x, hx, y, hy, rfl⟩ := sums_mem.mp hs
   obtain ⟨x1, x2⟩ := L x hx
   obtain ⟨y1, y2⟩ := L y hy
   have e : cr (plus u u) (plus v v) (plus x y) = 2 * cr u v x + 2 * cr u v y := by unfold cr plus; dsimp only; grind
   rw [e]
   refine ⟨by omega, fun h0 => ?_⟩
   have b1 := x2 (by omega)
   have b2 := y2 (by omega)
   unfold btw plus at *; dsimp only at *; omega
 have PM : ∀ l : List Pt, Pairs (HE a) l → Pairs (HE (sums a a)) (l.map fun p => plus p p) := by
  intro l
  induction l with
  | nil => intro _; trivial
  | cons x l ih =>
   cases l with
   | nil => intro _; trivial
   | cons y l => intro hp; exact ⟨H x y hp.1, ih hp.2⟩
 obtain ⟨o, t, e, n, p⟩ := r
 refine ⟨plus o o, t.map fun p => plus p p, by unfold dbl; rw [e]; rfl, fun hm => n ?_, ?_⟩
 ·obtain ⟨x, hx, hxe⟩ := List.mem_map.mp hm
  have e0 := congrArg S29.f0 hxe
  have e1 := congrArg S29.f1 hxe
  unfold plus at e0 e1; dsimp only at e0 e1
  have : x = o := pt_ext (by omega) (by omega)
  rw [← this]; exact hx
 ·have := PM _ p
  rw [List.map_cons, List.map_append] at this; exact this
theorem dbl_area (l : List Pt) : area (dbl l) = 4 * area l := by
 have hl : (dbl l).length = l.length := by unfold dbl; rw [List.length_map]
 have H : ∀ i, areaTo (dbl l) i = 4 * areaTo l i := by
  intro i
  induction i with
  | zero => rfl
  | succ i ih =>
   unfold areaTo
   rw [ih]
   unfold term
   rw [dbl_at, dbl_at, hl]
   unfold plus; dsimp only; grind
 unfold area
 rw [hl, H]
end Go.Proofs.Ytoffmpkgickfhaa.M
end
section
namespace Go.Proofs.Ytoffmpkgickfhaa.M
open Go.RowKit Go.Proofs.Ytoffmpkgickfhaa.PG Go.Proofs.YtoffmpkgickfhaaW.PrintMore Go.Proofs.YtoffmpkgickfhaaW.PrintWords
/-- strictly to the left of all edges -/
def Inside (h : List Pt) (p : Pt) : Prop := ∀ i, i < h.length → 0 < cr (at_ h i) (at_ h (nx h i)) p
theorem e_zero {u v w e : Pt} (T : 0 < cr u v w) (h1 : cx e (vec v w) = 0) (h2 : cx e (vec v u) = 0) : e.f0 = 0 ∧ e.f1 = 0 := by
 have k0 : cr u v w * e.f0 = 0 := by
  have : cr u v w * e.f0 = cx e (vec v w) * (v.f0 - u.f0) + cx e (vec v u) * (w.f0 - v.f0) := by unfold cr cx vec; dsimp only; grind
  rw [this, h1, h2]; simp
 have k1 : cr u v w * e.f1 = 0 := by
  have : cr u v w * e.f1 = cx e (vec v w) * (v.f1 - u.f1) + cx e (vec v u) * (w.f1 - v.f1) := by unfold cr cx vec; dsimp only; grind
  rw [this, h1, h2]; simp
 constructor
 ·rcases Int.mul_eq_zero.mp k0 with h | h
  ·omega
  ·exact h
 ·rcases Int.mul_eq_zero.mp k1 with h | h
  ·omega
  ·exact h
/-- the corner that is least in a direction, and its neighbours -/
theorem least {x : List Pt} (h3 : 3 ≤ x.length) (st : Strong x) (e : Pt) : ∃ i j, i < x.length ∧ j < x.length ∧ nx x j = i ∧ (∀ k, k < x.length → 0 ≤ cx e (vec (at_ x i) (at_ x k))) ∧ 0 < cr (at_ x j) (at_ x i) (at_ x (nx x i)) := by
 obtain ⟨i, hi, hmin⟩ := has_min (fun k => cx e (at_ x k)) x.length (by omega)
 obtain ⟨j, hj, hji⟩ := prev_of hi
 have T := strong_turn h3 st j hj
 have e1 : (j + 1) % x.length = i := hji
 have e2 : (j + 1 + 1) % x.length = nx x i := by unfold nx; rw [← e1, Nat.mod_add_mod]
 rw [e1, e2] at T
 refine ⟨i, j, hi, hj, hji, fun k hk => ?_, T⟩
 have := hmin k hk
 have e1 : cx e (vec (at_ x i) (at_ x k)) = cx e (at_ x k) - cx e (at_ x i) := by unfold cx vec; dsimp only; grind
 omega
/-- a point inside is further than some corner, in each direction -/
theorem inside_far {x : List Pt} (h3 : 3 ≤ x.length) (st : Strong x) {p e : Pt} (hp : Inside x p) (he : ¬ (e.f0 = 0 ∧ e.f1 = 0)) : ∃ i, i < x.length ∧ 0 < cx e (vec (at_ x i) p) := by
 obtain ⟨i, j, hi, hj, hji, hmin, T⟩ := least h3 st e
 have p1 := hmin j hj
 have p2 := hmin _ (nx_lt hi)
 have q1 := hp j hj
 rw [hji] at q1
 have q2 := hp i hi
 refine ⟨i, hi, ?_⟩
 generalize at_ x j = u at *
 generalize at_ x i = v at *
 generalize at_ x (nx x i) = w at *
 have id : cr u v w * cx e (vec v p) = cr u v p * cx e (vec v w) + cr v w p * cx e (vec v u) := by unfold cr cx vec; dsimp only; grind
 have m1 : 0 ≤ cr u v p * cx e (vec v w) := Int.mul_nonneg (by omega) p2
 have m2 : 0 ≤ cr v w p * cx e (vec v u) := Int.mul_nonneg (by omega) p1
 refine pos_of_mul T ?_
 rcases Int.lt_or_le 0 (cr u v w * cx e (vec v p)) with h | h
 ·exact h
 ·exfalso
  apply he
  refine e_zero T ?_ ?_
  ·rcases Int.mul_eq_zero.mp (show cr u v p * cx e (vec v w) = 0 by omega) with h | h
   ·omega
   ·exact h
  ·rcases Int.mul_eq_zero.mp (show cr v w p * cx e (vec v u) = 0 by omega) with h | h
   ·omega
   ·exact h
/-- two corners that are least in one direction: an edge goes that way -/
theorem par_edge {x : List Pt} (h3 : 3 ≤ x.length) (st : Strong x) {e y z : Pt} (he : ¬ (e.f0 = 0 ∧ e.f1 = 0)) (hy : y ∈ x) (hz : z ∈ x) (hyz : y ≠ z) (hl : ∀ k, k < x.length → 0 ≤ cx e (vec y (at_ x k))) (hz0 : cx e (vec y z) = 0) :
  ∃ i, i < x.length ∧ cx e (vec (at_ x i) y) = 0 ∧ ∀ v, cx e v ≤ 0 → cx (vec (at_ x i) (at_ x (nx x i))) v ≤ 0 := by
 obtain ⟨i, j, hi, hj, hji, hmin, T⟩ := least h3 st e
 obtain ⟨ky, hky, ey⟩ := List.mem_iff_getElem.mp hy
 obtain ⟨kz, hkz, ez⟩ := List.mem_iff_getElem.mp hz
 rw [← at_eq hky] at ey
 rw [← at_eq hkz] at ez
 have y0 : cx e (vec (at_ x i) y) = 0 := by
  have a1 := hmin ky hky
  rw [ey] at a1
  have a2 := hl i hi
  have : cx e (vec y (at_ x i)) = - cx e (vec (at_ x i) y) := by unfold cx vec; dsimp only; grind
  omega
 have z0 : cx e (vec (at_ x i) z) = 0 := by
  have : cx e (vec (at_ x i) z) = cx e (vec (at_ x i) y) + cx e (vec y z) := by unfold cx vec; dsimp only; grind
  omega
 have p1 := hmin j hj
 have p2 := hmin _ (nx_lt hi)
 -- one of the two edges at i goes along e
 have key : cx e (vec (at_ x i) (at_ x (nx x i))) = 0 ∨ cx e (vec (at_ x i) (at_ x j)) = 0 := by
  apply Classical.byContradiction
  intro hn
  have n1 : cx e (vec (at_ x i) (at_ x (nx x i))) ≠ 0 := fun h => hn (Or.inl h)
  have n2 : cx e (vec (at_ x i) (at_ x j)) ≠ 0 := fun h => hn (Or.inr h)
  have only : ∀ k, k < x.length → cx e (vec (at_ x i) (at_ x k)) = 0 → at_ x k = at_ x i := by
   intro k hk h0
   obtain ⟨s1, _⟩ := st.2.2 j k hj hk
   obtain ⟨s2, _⟩ := st.2.2 i k hi hk
   rw [show (j + 1) % x.length = i from hji] at s1
   rw [show (i + 1) % x.length = nx x i from rfl] at s2
   generalize at_ x k = s at *
   generalize at_ x j = u at *
   generalize at_ x i = v at *
   generalize at_ x (nx x i) = w at *
   have id : cr u v w * cx e (vec v s) = cr u v s * cx e (vec v w) + cr v w s * cx e (vec v u) := by unfold cr cx vec; dsimp only; grind
   rw [h0, Int.mul_zero] at id
   have m1 : 0 ≤ cr u v s * cx e (vec v w) := Int.mul_nonneg s1 p2
   have m2 : 0 ≤ cr v w s * cx e (vec v u) := Int.mul_nonneg s2 p1
   have c1 : cr u v s = 0 := by
    rcases Int.mul_eq_zero.mp (show cr u v s * cx e (vec v w) = 0 by omega) with h | h
    ·exact h
    ·exact absurd h n1
   have c2 : cr v w s = 0 := by
    rcases Int.mul_eq_zero.mp (show cr v w s * cx e (vec v u) = 0 by omega) with h | h
    ·exact h
    ·exact absurd h n2
   have k0 : cr u v w * (s.f0 - v.f0) = 0 := by
    have : cr u v w * (s.f0 - v.f0) = cr u v s * (w.f0 - v.f0) - cr v w s * (v.f0 - u.f0) := by unfold cr; grind
    rw [this, c1, c2]; simp
   have k1 : cr u v w * (s.f1 - v.f1) = 0 := by
    have : cr u v w * (s.f1 - v.f1) = cr u v s * (w.f1 - v.f1) - cr v w s * (v.f1 - u.f1) := by unfold cr; grind
    rw [this, c1, c2]; simp
   refine pt_ext ?_ ?_
   ·rcases Int.mul_eq_zero.mp k0 with h | h <;> omega
   ·rcases Int.mul_eq_zero.mp k1 with h | h <;> omega
  apply hyz
  have q1 := only ky hky (by rw [ey]; exact y0)
  have q2 := only kz hkz (by rw [ez]; exact z0)
  rw [ey] at q1; rw [ez] at q2
  rw [q1, q2]
 rcases key with c | c
 ·refine ⟨i, hi, y0, fun v hv => ?_⟩
  have p1' : 0 < cx e (vec (at_ x i) (at_ x j)) := by
   rcases Int.lt_or_le 0 (cx e (vec (at_ x i) (at_ x j))) with h | h
   ·exact h
   ·exact absurd (e_zero T c (by omega)) he
  generalize at_ x j = a at *
  generalize at_ x i = b at *
  generalize at_ x (nx x i) = d at *
  have id : cx e (vec b a) * cx (vec b d) v = cr a b d * cx e v + cx e (vec b d) * cx (vec b a) v := by unfold cr cx vec; dsimp only; grind
  rw [c, Int.zero_mul, Int.add_zero] at id
  have m : cr a b d * cx e v ≤ 0 := Int.mul_nonpos_of_nonneg_of_nonpos (by omega) hv
  rcases Int.lt_or_le 0 (cx (vec b d) v) with h | h
  ·have := Int.mul_pos p1' h; omega
  ·exact h
 ·refine ⟨j, hj, ?_, fun v hv => ?_⟩
  ·have : cx e (vec (at_ x j) y) = cx e (vec (at_ x i) y) - cx e (vec (at_ x i) (at_ x j)) := by unfold cx vec; dsimp only; grind
   omega
  ·have p2' : 0 < cx e (vec (at_ x i) (at_ x (nx x i))) := by
    rcases Int.lt_or_le 0 (cx e (vec (at_ x i) (at_ x (nx x i)))) with h | h
    ·exact h
    ·exact absurd (e_zero T (by omega) c) he
   rw [hji]
   generalize at_ x j = a at *
   generalize at_ x i = b at *
   generalize at_ x (nx x i) = d at *
   have id : cx e (vec b d) * cx (vec a b) v = cr a b d * cx e v - cx e (vec b a) * cx (vec b d) v := by unfold cr cx vec; dsimp only; grind
   rw [c, Int.zero_mul, Int.sub_zero] at id
   have m : cr a b d * cx e v ≤ 0 := Int.mul_nonpos_of_nonneg_of_nonpos (by omega) hv
   rcases Int.lt_or_le 0 (cx (vec a b) v) with h | h
   ·have := Int.mul_pos p2' h; omega
   ·exact h
end Go.Proofs.Ytoffmpkgickfhaa.M
end
section
namespace Go.Proofs.Ytoffmpkgickfhaa.M
open Go.RowKit Go.Proofs.Ytoffmpkgickfhaa.PG Go.Proofs.YtoffmpkgickfhaaW.PrintMore Go.Proofs.YtoffmpkgickfhaaW.PrintWords
/-- the first corner is the lowest -/
theorem Nf.lowest {m : Int} {h : List Pt} (n : Nf m h) : ∀ k, k < h.length → (at_ h 0).f1 ≤ (at_ h k).f1 := by
 intro k hk
 rcases n.first_k k hk with e | e
 ·rw [e]; exact Int.le_refl _
 ·unfold first at e; omega
theorem where_inside {m : Int} {h : List Pt} (n : Nf m h) {p : Pt} (hp : Inside h p) : whereOf h p = 1 := by
 have h3 := n.three
 have st := ring_strong n.ring
 obtain ⟨k, hk, hlow⟩ := inside_far h3 st (p := p) (e := ⟨1, 0⟩) hp (by simp)
 have hl : (at_ h 0).f1 ≤ p.f1 := by
  have := n.lowest k hk
  unfold cx vec at hlow; dsimp only at hlow; omega
 obtain ⟨i0, hi0, hh⟩ := just_one n.ring h3 hp hl
 have hoff : ∀ j, j < h.length → ¬ On (at_ h j) (at_ h ((j + 1) % h.length)) p := by
  intro j hj hon
  have : 0 < cr (at_ h j) (at_ h ((j + 1) % h.length)) p := hp j hj
  have := hon.1
  omega
 unfold whereOf
 rw [wh_one (i0 := i0) h.length 0 false (fun j _ hj => hoff j (by omega)) (fun j _ hj => hh j (by omega)), decide_eq_true (by omega)]
 simp
/-- whether an odd number of the edges from i on is hit -/
def odd (l : List Pt) (p : Pt) : Nat → Nat → Bool
 | 0, _ => false
 | d + 1, i => decide (Hit (at_ l i) (at_ l ((i + 1) % l.length)) p) != odd l p d (i + 1)
theorem wh_odd {l : List Pt} {p : Pt} : ∀ d i s, (∀ j, i ≤ j → j < i + d → ¬ On (at_ l j) (at_ l ((j + 1) % l.length)) p) → wh l p d i s = if (s != odd l p d i) = true then 1 else -1 := by
 intro d
 induction d with
 | zero => intro i s _; unfold wh odd; cases s <;> rfl
 | succ d ih =>
  intro i s hon
  unfold wh odd
  rw [if_neg (hon i (Nat.le_refl _) (by omega)), ih (i + 1) _ (fun j h1 h2 => hon j (by omega) (by omega))]
  cases s <;> cases decide (Hit (at_ l i) (at_ l ((i + 1) % l.length)) p) <;> cases odd l p d (i + 1) <;> rfl
/-- no edge hit, or just two -/
theorem odd_none {l : List Pt} {p : Pt} : ∀ d i, (∀ j, i ≤ j → j < i + d → ¬ Hit (at_ l j) (at_ l ((j + 1) % l.length)) p) → odd l p d i = false := by
 intro d
 induction d with
 | zero => intro i _; rfl
 | succ d ih =>
  intro i h
  unfold odd
  rw [decide_eq_false (h i (Nat.le_refl _) (by omega)), ih (i + 1) (fun j h1 h2 => h j (by omega) (by omega))]; rfl
theorem odd_one {l : List Pt} {p : Pt} {a : Nat} : ∀ d i, i ≤ a → a < i + d → (∀ j, i ≤ j → j < i + d → (Hit (at_ l j) (at_ l ((j + 1) % l.length)) p ↔ j = a)) → odd l p d i = true := by
 intro d
 induction d with
 | zero => intro i h1 h2 _; omega
 | succ d ih =>
  intro i h1 h2 h
  unfold odd
  have hi := h i (Nat.le_refl _) (by omega)
  by_cases e : i = a
  ·rw [decide_eq_true (hi.mpr e), odd_none d (i + 1) (fun j h3 h4 hj => by have := (h j (by omega) (by omega)).mp hj; omega)]; rfl
  ·rw [decide_eq_false (fun hj => e (hi.mp hj)), ih (i + 1) (by omega) (by omega) (fun j h3 h4 => h j (by omega) (by omega))]; rfl
theorem odd_two {l : List Pt} {p : Pt} {a b : Nat} (hab : a < b) : ∀ d i, i ≤ a → b < i + d → (∀ j, i ≤ j → j < i + d → (Hit (at_ l j) (at_ l ((j + 1) % l.length)) p ↔ j = a ∨ j = b)) → odd l p d i = false := by
 intro d
 induction d with
 | zero => intro i h1 h2 _; omega
 | succ d ih =>
  intro i h1 h2 h
  unfold odd
  have hi := h i (Nat.le_refl _) (by omega)
  by_cases e : i = a
  ·rw [decide_eq_true (hi.mpr (Or.inl e)), odd_one (a := b) d (i + 1) (by omega) (by omega) (fun j h3 h4 => by
    rw [h j (by omega) (by omega)]; omega)]; rfl
  ·rw [decide_eq_false (fun hj => by have := hi.mp hj; omega), ih (i + 1) (by omega) (by omega) (fun j h3 h4 => h j (by omega) (by omega))]; rfl
end Go.Proofs.Ytoffmpkgickfhaa.M
end
section
namespace Go.Proofs.Ytoffmpkgickfhaa.M
open Go.RowKit Go.Proofs.Ytoffmpkgickfhaa.PG Go.Proofs.YtoffmpkgickfhaaW.PrintMore Go.Proofs.YtoffmpkgickfhaaW.PrintWords
theorem concat_run (a b : List Pt) (hN : a.length + b.length ≤ 1000000) : Rt (fun k => api_Point_57.f k [a, b]) (a ++ b) := by
 refine ⟨6, fun k hk => ?_⟩
 obtain ⟨k, rfl⟩ : ∃ m, k = m + 6 := ⟨k - 6, by omega⟩
 unfold api_Point_57.f
 have r0 : rd_L2 [a, b] 0 = a := rfl
 have r1 : rd_L2 [a, b] 1 = b := rfl
 have w1 : wrap64 (0 + 1) = 1 := by unfold wrap64; omega
 have w2 : wrap64 (1 + 1) = 2 := by unfold wrap64; omega
 have ln : (([a, b] : List (List S29)).length : Int) = 2 := rfl
 dsimp only
 rw [api_Point_57.l0, ln, if_pos (by omega), if_pos (by omega), if_pos (by omega), r0, wz (0 + (a.length : Int)) (by omega) (by omega), if_neg (by omega), w1, api_Point_57.l0, ln, if_pos (by omega), if_pos (by omega), if_pos (by omega), r1, wz _ (by omega) (by omega), if_neg (by omega), w2, api_Point_57.l0, if_neg (by omega)]
 rw [show slices_Grow_nil.f (0 + (a.length : Int) + (b.length : Int)) = some [] by unfold slices_Grow_nil.f; rw [if_pos (by omega)], Option.bind_some]
 rw [api_Point_57.l1, ln, if_pos (by omega), if_pos (by omega), if_pos (by omega), r0, if_pos (by simp; omega), w1, api_Point_57.l1, ln, if_pos (by omega), if_pos (by omega), if_pos (by omega), r1, if_pos (by simp; omega), w2, api_Point_57.l1, if_neg (by omega)]
 rfl
theorem index_run {l : List Pt} {p : Pt} (hp : p ∈ l) (hN : l.length ≤ 1000000) : ∃ i, i < l.length ∧ at_ l i = p ∧ Rt (fun k => api_Point_93.f k l p.f0 p.f1) (i : Int) := by
 have H : ∀ d i, l.length = i + d → (∃ j, i ≤ j ∧ j < l.length ∧ at_ l j = p) → ∃ j, j < l.length ∧ at_ l j = p ∧ Rt (fun k => api_Point_93.l0 k l (l.length : Int) (i : Int) p.f0 p.f1) (j : Int) := by
  intro d
  induction d with
  | zero => intro i hi ⟨j, h1, h2, _⟩; omega
  | succ d ih =>
   intro i hi ⟨j, h1, h2, h3⟩
   have hlt : i < l.length := by omega
   by_cases h : p = at_ l i
   ·refine ⟨i, hlt, h.symm, rt_ret fun k => ?_⟩
    rw [api_Point_93.l0, if_pos (by omega), if_pos (by omega), if_pos (by omega), rd_at, pt_beq, if_pos (by simpa using h)]
   ·obtain ⟨j', h4, h5, h6⟩ := ih (i + 1) (by omega) ⟨j, by
     rcases Nat.eq_or_lt_of_le h1 with rfl | h7
     ·exact absurd h3.symm h
     ·exact h7, h2, h3⟩
    refine ⟨j', h4, h5, rt_step (fun k => ?_) h6⟩
    rw [api_Point_93.l0, if_pos (by omega), if_pos (by omega), if_pos (by omega), rd_at, pt_beq, if_neg (by simpa using h), wrap_succ i (by omega)]
 obtain ⟨j, hj, rfl⟩ := List.mem_iff_getElem.mp hp
 obtain ⟨i, h1, h2, h3⟩ := H l.length 0 (by omega) ⟨j, Nat.zero_le _, hj, at_eq hj⟩
 exact ⟨i, h1, h2, h3⟩
theorem begun_run {l : List Pt} (h0 : 0 < l.length) (hN : l.length ≤ 1000000) : ∃ i, i < l.length ∧ (∀ p ∈ l, ¬ first p (at_ l i)) ∧ Rt (fun k => shape_begun.f k l) (l.drop i ++ l.take i) := by
 obtain ⟨r, ⟨K1, h1⟩, hr, hmin⟩ := min_run h0 hN
 obtain ⟨i, hi, hir, ⟨K2, h2⟩⟩ := index_run hr hN
 obtain ⟨K3, h3⟩ := concat_run (l.drop i) (l.take i) (by simp only [List.length_drop, List.length_take]; omega)
 refine ⟨i, hi, hir ▸ hmin, ⟨K1 + K2 + K3, fun k hk => ?_⟩⟩
 have a1 := h1 k (by omega)
 have a2 := h2 k (by omega)
 have a3 := h3 k (by omega)
 dsimp only at a1 a2 a3 ⊢
 unfold shape_begun.f
 rw [a1, Option.bind_some]
 dsimp only
 rw [a2, Option.bind_some, if_pos (by omega), if_pos (by omega), Int.toNat_natCast, a3, Option.bind_some]
theorem same_run (a b : List Pt) (hN : a.length ≤ 1000000) : ∃ c, Rt (fun k => cracknelref04_Same.f k a b) c ∧ (c = true ↔ a = b) := by
 by_cases hl : a.length = b.length
 ·have H : ∀ d i, a.length = i + d → ∃ c, Rt (fun k => cracknelref04_Same.l0 k a b (i : Int)) c ∧ (c = true ↔ ∀ j, i ≤ j → j < a.length → at_ a j = at_ b j) := by
   intro d
   induction d with
   | zero =>
    intro i hi
    refine ⟨true, rt_ret fun k => ?_, ⟨fun _ j h1 h2 => by omega, fun _ => rfl⟩⟩
    rw [cracknelref04_Same.l0, if_neg (by omega)]
   | succ d ih =>
    intro i hi
    have hlt : i < a.length := by omega
    obtain ⟨c, hc, hb⟩ := ih (i + 1) (by omega)
    rw [from_split hlt]
    by_cases h : at_ a i = at_ b i
    ·refine ⟨c, rt_step (fun k => ?_) hc, ?_⟩
     ·rw [cracknelref04_Same.l0, if_pos (by omega), if_pos (by omega), if_pos (by omega), rd_at, rd_at, if_neg (by simp [h]), wrap_succ i (by omega)]
     ·rw [hb]; exact ⟨fun h1 => ⟨h, h1⟩, fun h1 => h1.2⟩
    ·refine ⟨false, rt_ret fun k => ?_, ⟨fun h1 => by simp at h1, fun h1 => absurd h1.1 h⟩⟩
     have h5 : (!((at_ a i).f0 == (at_ b i).f0) || !((at_ a i).f1 == (at_ b i).f1)) = true := by
      have := pt_beq (at_ a i) (at_ b i)
      rw [decide_eq_false h] at this
      rw [← Bool.not_and, this]; rfl
     rw [cracknelref04_Same.l0, if_pos (by omega), if_pos (by omega), if_pos (by omega), rd_at, rd_at, if_pos h5]
  obtain ⟨c, ⟨K, hK⟩, hb⟩ := H a.length 0 (by omega)
  refine ⟨c, ⟨K, fun k hk => ?_⟩, ?_⟩
  ·unfold cracknelref04_Same.f; dsimp only; rw [if_pos (by omega)]; exact hK k hk
  ·rw [hb]
   constructor
   ·intro h
    apply List.ext_getElem hl
    intro j h1 h2
    rw [← at_eq h1, ← at_eq h2]; exact h j (Nat.zero_le _) h1
   ·rintro rfl j _ _; rfl
 ·refine ⟨false, ⟨0, fun k _ => ?_⟩, ⟨fun h => by simp at h, fun h => absurd (by rw [h]) hl⟩⟩
  unfold cracknelref04_Same.f; dsimp only; rw [if_neg (by omega)]
end Go.Proofs.Ytoffmpkgickfhaa.M
end
section
namespace Go.Proofs.Ytoffmpkgickfhaa.M
open Go.RowKit Go.Proofs.Ytoffmpkgickfhaa.PG Go.Proofs.YtoffmpkgickfhaaW.PrintMore Go.Proofs.YtoffmpkgickfhaaW.PrintWords
def neg (p : Pt) : Pt := ⟨-p.f0, -p.f1⟩
def negs (l : List Pt) : List Pt := l.map neg
theorem neg_neg (p : Pt) : neg (neg p) = p := by unfold neg; apply pt_ext <;> dsimp only <;> omega
theorem negs_mem {l : List Pt} {p : Pt} : p ∈ negs l ↔ neg p ∈ l := by
 unfold negs
 rw [List.mem_map]
 exact ⟨fun ⟨x, hx, e⟩ => by rw [← e, neg_neg]; exact hx, fun h => ⟨neg p, h, neg_neg p⟩⟩
theorem cr_neg (a b c : Pt) : cr (neg a) (neg b) (neg c) = cr a b c := by unfold cr neg; dsimp only; grind
theorem neg_ring {S h : List Pt} (r : Ring S h) : Ring (negs S) (negs h) := by
 have H : ∀ u v, HE S u v → HE (negs S) (neg u) (neg v) := by
  rintro u v ⟨ne, hu, hv, L⟩
  refine ⟨fun e => ne ?_, negs_mem.mpr (by rw [neg_neg]; exact hu), negs_mem.mpr (by rw [neg_neg]; exact hv), fun s hs => ?_⟩
  ·have := congrArg neg e; rwa [neg_neg, neg_neg] at this
  ·obtain ⟨x1, x2⟩ := L (neg s) (negs_mem.mp hs)
   rw [← cr_neg, neg_neg] at x1 x2
   refine ⟨x1, fun h0 => ?_⟩
   have b := x2 h0
   unfold btw neg at *; dsimp only at *; omega
 have PM : ∀ l : List Pt, Pairs (HE S) l → Pairs (HE (negs S)) (l.map neg) := by
  intro l
  induction l with
  | nil => intro _; trivial
  | cons x l ih =>
   cases l with
   | nil => intro _; trivial
   | cons y l => intro hp; exact ⟨H x y hp.1, ih hp.2⟩
 obtain ⟨o, t, e, n, p⟩ := r
 refine ⟨neg o, t.map neg, by unfold negs; rw [e]; rfl, fun hm => n ?_, ?_⟩
 ·obtain ⟨x, hx, hxe⟩ := List.mem_map.mp hm
  have := congrArg neg hxe
  rw [neg_neg, neg_neg] at this
  rw [← this]; exact hx
 ·have := PM _ p
  rw [List.map_cons, List.map_append] at this; exact this
theorem neg_flat {S : List Pt} (h : Flat (negs S)) : Flat S := by
 intro a ha b hb c hc
 have := h (neg a) (negs_mem.mpr (by rw [neg_neg]; exact ha)) (neg b) (negs_mem.mpr (by rw [neg_neg]; exact hb)) (neg c) (negs_mem.mpr (by rw [neg_neg]; exact hc))
 rwa [cr_neg] at this
theorem negative_run {l : List Pt} (hb : ∀ p ∈ l, Bd p) (h0 : 0 < l.length) (hN : l.length ≤ 1000000) : ∃ i, i < l.length ∧ (∀ p ∈ negs l, ¬ first p (at_ (negs l) i)) ∧ Rt (fun k => shape_negative.f k l) ((negs l).drop i ++ (negs l).take i) := by
 have hl : (negs l).length = l.length := by unfold negs; rw [List.length_map]
 obtain ⟨i, hi, hmin, hB⟩ := begun_run (l := negs l) (by omega) (by omega)
 refine ⟨i, by omega, hmin, ?_⟩
 have H : ∀ d j, l.length = j + d → Rt (fun k => shape_negative.l0 k (negs (l.take j)) l (l.length : Int) (j : Int)) ((negs l).drop i ++ (negs l).take i) := by
  intro d
  induction d with
  | zero =>
   intro j hj
   refine rt_step (h := fun k => (shape_begun.f k (negs l)).bind fun t => some t) (fun k => ?_) ?_
   ·rw [shape_negative.l0, if_neg (by omega), List.take_of_length_le (by omega)]
   ·obtain ⟨K, hK⟩ := hB
    refine ⟨K, fun k hk => ?_⟩
    have := hK k hk
    dsimp only at this ⊢
    rw [this, Option.bind_some]
  | succ d ih =>
   intro j hj
   have hlt : j < l.length := by omega
   obtain ⟨b0, b1, b2, b3⟩ := at_bd hb hlt
   have e : negs (l.take (j + 1)) = negs (l.take j) ++ [neg (at_ l j)] := by
    rw [at_eq hlt, ← List.take_append_getElem hlt]; unfold negs; rw [List.map_append]; rfl
   refine rt_step (fun k => ?_) (ih (j + 1) (by omega))
   rw [e, shape_negative.l0, if_pos (by omega), if_pos (by omega), if_pos (by omega), rd_at]
   unfold shape_sub.f
   rw [Option.bind_some, wz (0 - (at_ l j).f0) (by omega) (by omega), wz (0 - (at_ l j).f1) (by omega) (by omega), if_pos (by unfold negs; rw [List.length_map, List.length_take]; omega), wrap_succ j (by omega)]
   unfold neg
   rw [Int.zero_sub, Int.zero_sub]
 obtain ⟨K, hK⟩ := H l.length 0 (by omega)
 exact ⟨K, fun k hk => hK k hk⟩
theorem Negative_run {m : Int} {a : List Pt} (n : Nf m a) (hm : m ≤ 10000) (hl : a.length ≤ 32) : ∃ h, Rt (fun k => shape_Negative.f k a) (h, 0) ∧ Ring (negs a) h ∧ Nf m h ∧ h.length = a.length := by
 have h3 := n.three
 have hla : (negs a).length = a.length := by unfold negs; rw [List.length_map]
 obtain ⟨i, hi, hmin, ⟨K2, h2⟩⟩ := negative_run (n.bd hm) (by omega) (by omega)
 obtain ⟨K1, h1⟩ := n.normal hm hl
 have ring : Ring (negs a) ((negs a).drop i ++ (negs a).take i) := by
  refine ring_rot ?_ (by intro h; have := congrArg List.length h; simp only [List.length_drop, List.length_nil] at this; omega)
  rw [List.take_append_drop]; exact neg_ring n.ring
 have hf : ¬ Flat (negs a) := fun h => n.flat (neg_flat h)
 have e0 : at_ ((negs a).drop i ++ (negs a).take i) 0 = at_ (negs a) i := by rw [drop_at (by omega)]; rfl
 refine ⟨_, ⟨K1 + K2, fun k hk => ?_⟩, ring, Nf.of_ring ring hf (fun p hp => ?_) (fun p hp => ?_), ?_⟩
 ·have a1 := h1 k (by omega)
  have a2 := h2 k (by omega)
  dsimp only at a1 a2 ⊢
  unfold shape_Negative.f
  rw [a1, Option.bind_some, if_pos rfl, a2, Option.bind_some]
 ·rw [e0]
  rcases first_tri p (at_ (negs a) i) with e | e | e
  ·exact Or.inl e
  ·exact absurd e (hmin p hp)
  ·exact Or.inr e
 ·have := n.inb _ (negs_mem.mp hp)
  unfold In neg at *; dsimp only at *; omega
 ·simp only [List.length_append, List.length_drop, List.length_take, hla]; omega
/-- twice the other way round is the polygon itself -/
theorem Negative_twice {m : Int} {a : List Pt} (n : Nf m a) (hm : m ≤ 10000) (hl : a.length ≤ 32) : ∃ h, Rt (fun k => shape_Negative.f k a) (h, 0) ∧ Rt (fun k => shape_Negative.f k h) (a, 0) := by
 obtain ⟨h, r1, ring1, n1, l1⟩ := Negative_run n hm hl
 obtain ⟨g, r2, ring2, n2, l2⟩ := Negative_run n1 hm (by omega)
 have hm2 : ∀ p, p ∈ h ↔ p ∈ negs a := by
  intro p
  refine ⟨ring_sub ring1 p, fun hp => ?_⟩
  -- the ring has as many corners as the set
  apply Classical.byContradiction
  intro hn
  have hnd : (p :: h).Nodup := List.nodup_cons.mpr ⟨hn, ring_nodup ring1⟩
  have := length_le_of_nodup (S := negs a) hnd (fun x hx => by
   rcases List.mem_cons.mp hx with e | e
   ·rw [e]; exact hp
   ·exact ring_sub ring1 x e)
  have hla : (negs a).length = a.length := by unfold negs; rw [List.length_map]
  simp only [List.length_cons] at this; omega
 have ring3 : Ring a g := by
  refine ring_congr (fun p => ?_) ring2
  rw [negs_mem, hm2, negs_mem, neg_neg]
 have e : g = a := nf_one n.flat ring3 n.ring n2 n
 rw [e] at r2
 exact ⟨h, r1, r2⟩
end Go.Proofs.Ytoffmpkgickfhaa.M
end
section
namespace Go.Proofs.Ytoffmpkgickfhaa.M
open Go.RowKit Go.Proofs.Ytoffmpkgickfhaa.PG Go.Proofs.YtoffmpkgickfhaaW.PrintMore Go.Proofs.YtoffmpkgickfhaaW.PrintWords
theorem negs_at (h : List Pt) (i : Nat) : at_ (negs h) i = neg (at_ h i) := by
 unfold at_ negs
 rw [List.getD_eq_getElem?_getD, List.getD_eq_getElem?_getD, List.getElem?_map]
 cases h[i]? <;> rfl
theorem one_down {S h : List Pt} (r : Ring S h) {i j : Nat} (hi : i < h.length) (hj : j < h.length) {y : Int}
  (ai : y < (at_ h i).f1) (bi : (at_ h (nx h i)).f1 ≤ y) (aj : y < (at_ h j).f1) (bj : (at_ h (nx h j)).f1 ≤ y) : i = j := by
 have hl : (negs h).length = h.length := by unfold negs; rw [List.length_map]
 have hn : ∀ k, nx (negs h) k = nx h k := by intro k; unfold nx; rw [hl]
 have f : ∀ q : Pt, (neg q).f1 = - q.f1 := fun q => rfl
 refine one_up (neg_ring r) (y := -y - 1) (by omega) (by omega) ?_ ?_ ?_ ?_
 ·rw [negs_at, f]; omega
 ·rw [hn, negs_at, f]; omega
 ·rw [negs_at, f]; omega
 ·rw [hn, negs_at, f]; omega
theorem on_rise {a b p : Pt} (h1 : a.f1 ≤ p.f1) (h2 : p.f1 < b.f1) (h : cr a b p = 0) : On a b p :=
 ⟨h, btw_of_fn (p := 0) (q := 1) (by unfold fn; omega) (by unfold fn; omega) (by unfold fn; omega) h⟩
theorem on_fall {a b p : Pt} (h1 : b.f1 ≤ p.f1) (h2 : p.f1 < a.f1) (h : cr a b p = 0) : On a b p :=
 ⟨h, btw_of_fn (p := 0) (q := -1) (by unfold fn; omega) (by unfold fn; omega) (by unfold fn; omega) h⟩
theorem same_sign {T x d c : Int} (hT : 0 < T) (hc : 0 ≤ c) (h : x * T = d * c) : (0 ≤ d → 0 ≤ x) ∧ (d ≤ 0 → x ≤ 0) := by
 constructor
 ·intro hd
  have := Int.mul_nonneg hd hc
  exact nonneg_of_mul hT (by rw [Int.mul_comm]; omega)
 ·intro hd
  have := Int.mul_nonpos_of_nonpos_of_nonneg hd hc
  rcases Int.lt_or_le 0 x with h1 | h1
  ·have := Int.mul_pos h1 hT; omega
  ·exact h1
/-- on the line of an edge, and not to the right of its neighbours: on the edge -/
theorem on_edge {u v w z p : Pt} (T0 : 0 < cr u v w) (T1 : 0 < cr v w z) (h : cr v w p = 0) (h0 : 0 ≤ cr u v p) (h1 : 0 ≤ cr w z p) : On v w p := by
 refine ⟨h, ?_⟩
 have a0 : (p.f0 - v.f0) * cr u v w = (w.f0 - v.f0) * cr u v p := by unfold cr at *; grind
 have a1 : (p.f1 - v.f1) * cr u v w = (w.f1 - v.f1) * cr u v p := by unfold cr at *; grind
 have b0 : (w.f0 - p.f0) * cr v w z = (w.f0 - v.f0) * cr w z p := by unfold cr at *; grind
 have b1 : (w.f1 - p.f1) * cr v w z = (w.f1 - v.f1) * cr w z p := by unfold cr at *; grind
 have s0 := same_sign T0 h0 a0
 have s1 := same_sign T0 h0 a1
 have t0 := same_sign T1 h1 b0
 have t1 := same_sign T1 h1 b1
 unfold btw
 omega
theorem where_outside {m : Int} {h : List Pt} (n : Nf m h) {p : Pt} (hw : 0 < whereOf h p) : Inside h p := by
 have h3 := n.three
 have st := ring_strong n.ring
 have hoff : ∀ j, j < h.length → ¬ On (at_ h j) (at_ h ((j + 1) % h.length)) p := by
  intro j hj hon
  have := wh_on (l := h) (p := p) h.length 0 false ⟨j, Nat.zero_le _, by omega, hon⟩
  unfold whereOf at hw; omega
 have hodd : odd h p h.length 0 = true := by
  unfold whereOf at hw
  rw [wh_odd h.length 0 false (fun j _ hj => hoff j (by omega))] at hw
  cases ho : odd h p h.length 0
  ·rw [ho] at hw; simp at hw
  ·rfl
 -- some corner is higher, the first one is not
 have hex : ∃ k, k < h.length ∧ p.f1 < (at_ h k).f1 := by
  apply Classical.byContradiction
  intro hn
  have := odd_none (l := h) (p := p) h.length 0 (fun j _ hj hh => by
   rcases hh with ⟨_, b, _⟩ | ⟨_, b, _⟩
   ·exact hn ⟨_, nx_lt (show j < h.length by omega), b⟩
   ·exact hn ⟨j, by omega, b⟩)
  rw [hodd] at this; simp at this
 have hlow : (at_ h 0).f1 ≤ p.f1 := by
  apply Classical.byContradiction
  intro hn
  have hall : ∀ k, k < h.length → p.f1 < (at_ h k).f1 := fun k hk => by have := n.lowest k hk; omega
  have := odd_none (l := h) (p := p) h.length 0 (fun j _ hj hh => by
   have x1 := hall j (by omega)
   have x2 : p.f1 < (at_ h ((j + 1) % h.length)).f1 := hall _ (nx_lt (show j < h.length by omega))
   rcases hh with ⟨b, _, _⟩ | ⟨b, _, _⟩ <;> omega)
  rw [hodd] at this; simp at this
 obtain ⟨kh, hkh, hky⟩ := hex
 -- the rising edge and the falling one
 have stepU : ∀ k, k < h.length → p.f1 < (at_ h k).f1 → ∃ i, i < h.length ∧ (at_ h i).f1 ≤ p.f1 ∧ p.f1 < (at_ h (nx h i)).f1 := by
  intro k
  induction k with
  | zero => intro _ h1; omega
  | succ k ih =>
   intro h1 h2
   rcases Int.lt_or_le p.f1 (at_ h k).f1 with h4 | h4
   ·exact ih (by omega) h4
   ·exact ⟨k, by omega, h4, by unfold nx; rw [Nat.mod_eq_of_lt h1]; exact h2⟩
 have stepD : ∀ d k, h.length = k + d + 1 → p.f1 < (at_ h k).f1 → ∃ i, i < h.length ∧ p.f1 < (at_ h i).f1 ∧ (at_ h (nx h i)).f1 ≤ p.f1 := by
  intro d
  induction d with
  | zero => intro k hk h1; exact ⟨k, by omega, h1, by unfold nx; rw [show k + 1 = h.length by omega, Nat.mod_self]; exact hlow⟩
  | succ d ih =>
   intro k hk h1
   rcases Int.lt_or_le p.f1 (at_ h (k + 1)).f1 with h4 | h4
   ·exact ih (k + 1) (by omega) h4
   ·exact ⟨k, by omega, h1, by unfold nx; rw [Nat.mod_eq_of_lt (show k + 1 < h.length by omega)]; exact h4⟩
 obtain ⟨i, hi, i1, i2⟩ := stepU kh hkh hky
 obtain ⟨j, hj, j1, j2⟩ := stepD (h.length - kh - 1) kh (by omega) hky
 have hij : i ≠ j := by intro e; subst e; omega
 have offi := hoff i hi
 have offj := hoff j hj
 have U0 : cr (at_ h i) (at_ h (nx h i)) p ≠ 0 := fun e => offi (on_rise i1 i2 e)
 have D0 : cr (at_ h j) (at_ h (nx h j)) p ≠ 0 := fun e => offj (on_fall j2 j1 e)
 have sw : ∀ a b : Pt, cr b a p = - cr a b p := by intro a b; unfold cr; grind
 have hits : ∀ k, k < h.length → (Hit (at_ h k) (at_ h ((k + 1) % h.length)) p ↔ (k = i ∧ 0 < cr (at_ h i) (at_ h (nx h i)) p) ∨ (k = j ∧ cr (at_ h j) (at_ h (nx h j)) p < 0)) := by
  intro k hk
  constructor
  ·rintro (⟨b1, b2, b3⟩ | ⟨b1, b2, b3⟩)
   ·have e := one_up n.ring hk hi b1 b2 i1 i2
    subst e; exact Or.inl ⟨rfl, b3⟩
   ·have e := one_down n.ring hk hj b2 b1 j1 j2
    subst e
    have := sw (at_ h k) (at_ h ((k + 1) % h.length))
    exact Or.inr ⟨rfl, by show cr (at_ h k) (at_ h ((k + 1) % h.length)) p < 0; omega⟩
  ·rintro (⟨e, b⟩ | ⟨e, b⟩)
   ·subst e; exact Or.inl ⟨i1, i2, b⟩
   ·subst e
    have := sw (at_ h k) (at_ h ((k + 1) % h.length))
    refine Or.inr ⟨j2, j1, ?_⟩
    have b' : cr (at_ h k) (at_ h ((k + 1) % h.length)) p < 0 := b
    omega
 have Ei := ring_at n.ring i hi
 have Ej := ring_at n.ring j hj
 have hc := (Ei.2.2.2 _ (at_mem hj)).1
 have hd := (Ei.2.2.2 _ (at_mem (nx_lt hj))).1
 have W := show ((at_ h j).f1 - (at_ h (nx h j)).f1) * cr (at_ h i) (at_ h (nx h i)) p + ((at_ h (nx h i)).f1 - (at_ h i).f1) * cr (at_ h j) (at_ h (nx h j)) p = ((at_ h j).f1 - p.f1) * cr (at_ h i) (at_ h (nx h i)) (at_ h (nx h j)) + (p.f1 - (at_ h (nx h j)).f1) * cr (at_ h i) (at_ h (nx h i)) (at_ h j) by unfold cr; grind
 have m1 : 0 ≤ ((at_ h j).f1 - p.f1) * cr (at_ h i) (at_ h (nx h i)) (at_ h (nx h j)) := Int.mul_nonneg (by omega) hd
 have m2 : 0 ≤ (p.f1 - (at_ h (nx h j)).f1) * cr (at_ h i) (at_ h (nx h i)) (at_ h j) := Int.mul_nonneg (by omega) hc
 have both : 0 < cr (at_ h i) (at_ h (nx h i)) p ∧ 0 < cr (at_ h j) (at_ h (nx h j)) p := by
  rcases Int.lt_trichotomy (cr (at_ h i) (at_ h (nx h i)) p) 0 with u | u | u
  ·rcases Int.lt_trichotomy (cr (at_ h j) (at_ h (nx h j)) p) 0 with d | d | d
   ·exfalso
    have n1 := Int.mul_neg_of_pos_of_neg (show 0 < (at_ h j).f1 - (at_ h (nx h j)).f1 by omega) u
    have n2 := Int.mul_neg_of_pos_of_neg (show 0 < (at_ h (nx h i)).f1 - (at_ h i).f1 by omega) d
    omega
   ·exact absurd d D0
   ·exfalso
    have := odd_none (l := h) (p := p) h.length 0 (fun k _ hk hh => by
     rcases (hits k (by omega)).mp hh with ⟨_, x⟩ | ⟨_, x⟩ <;> omega)
    rw [hodd] at this; simp at this
  ·exact absurd u U0
  ·rcases Int.lt_trichotomy (cr (at_ h j) (at_ h (nx h j)) p) 0 with d | d | d
   ·exfalso
    have hk : ∀ k, 0 ≤ k → k < 0 + h.length → (Hit (at_ h k) (at_ h ((k + 1) % h.length)) p ↔ k = i ∨ k = j) := by
     intro k _ hk
     rw [hits k (by omega)]
     exact ⟨fun x => x.imp (fun x => x.1) (fun x => x.1), fun x => x.imp (fun x => ⟨x, u⟩) (fun x => ⟨x, d⟩)⟩
    rcases Nat.lt_or_ge i j with l | l
    ·have := odd_two (l := h) (p := p) l h.length 0 (Nat.zero_le _) (by omega) hk
     rw [hodd] at this; simp at this
    ·have := odd_two (l := h) (p := p) (show j < i by omega) h.length 0 (Nat.zero_le _) (by omega) (fun k x y => (hk k x y).trans or_comm)
     rw [hodd] at this; simp at this
   ·exact absurd d D0
   ·exact ⟨u, d⟩
 obtain ⟨u, d⟩ := both
 have nonneg : ∀ k, k < h.length → 0 ≤ cr (at_ h k) (at_ h (nx h k)) p := by
  intro k hk
  have Ek := ring_at n.ring k hk
  have ka : 0 ≤ cr (at_ h k) (at_ h (nx h k)) (at_ h i) := (Ek.2.2.2 _ (at_mem hi)).1
  have kb : 0 ≤ cr (at_ h k) (at_ h (nx h k)) (at_ h (nx h i)) := (Ek.2.2.2 _ (at_mem (nx_lt hi))).1
  have kc : 0 ≤ cr (at_ h k) (at_ h (nx h k)) (at_ h j) := (Ek.2.2.2 _ (at_mem hj)).1
  have kd : 0 ≤ cr (at_ h k) (at_ h (nx h k)) (at_ h (nx h j)) := (Ek.2.2.2 _ (at_mem (nx_lt hj))).1
  clear W hits m1 m2 hodd hoff
  generalize at_ h k = s at *
  generalize at_ h (nx h k) = t at *
  generalize at_ h i = a at *
  generalize at_ h (nx h i) = b at *
  generalize at_ h j = c at *
  generalize at_ h (nx h j) = e at *
  have id : ((c.f1 - e.f1) * cr a b p + (b.f1 - a.f1) * cr c e p) * cr s t p = cr c e p * ((b.f1 - p.f1) * cr s t a + (p.f1 - a.f1) * cr s t b) + cr a b p * ((c.f1 - p.f1) * cr s t e + (p.f1 - e.f1) * cr s t c) := by unfold cr; grind
  have x1 := Int.mul_nonneg (show 0 ≤ b.f1 - p.f1 by omega) ka
  have x2 := Int.mul_nonneg (show 0 ≤ p.f1 - a.f1 by omega) kb
  have x3 := Int.mul_nonneg (show 0 ≤ c.f1 - p.f1 by omega) kd
  have x4 := Int.mul_nonneg (show 0 ≤ p.f1 - e.f1 by omega) kc
  have y1 := Int.mul_nonneg (show 0 ≤ cr c e p by omega) (show 0 ≤ (b.f1 - p.f1) * cr s t a + (p.f1 - a.f1) * cr s t b by omega)
  have y2 := Int.mul_nonneg (show 0 ≤ cr a b p by omega) (show 0 ≤ (c.f1 - p.f1) * cr s t e + (p.f1 - e.f1) * cr s t c by omega)
  have z1 := Int.mul_pos (show 0 < c.f1 - e.f1 by omega) u
  have z2 := Int.mul_pos (show 0 < b.f1 - a.f1 by omega) d
  exact nonneg_of_mul (show 0 < (c.f1 - e.f1) * cr a b p + (b.f1 - a.f1) * cr c e p by omega) (by omega)
 intro k hk
 rcases Int.lt_or_le 0 (cr (at_ h k) (at_ h (nx h k)) p) with x | x
 ·exact x
 ·exfalso
  have z : cr (at_ h k) (at_ h (nx h k)) p = 0 := by have := nonneg k hk; omega
  obtain ⟨q, hq, hqk⟩ := prev_of hk
  have T0 := strong_turn h3 st q hq
  have e1 : (q + 1) % h.length = k := hqk
  have e2 : (q + 1 + 1) % h.length = nx h k := by unfold nx; rw [← e1, Nat.mod_add_mod]
  rw [e1, e2] at T0
  have T1 := strong_turn h3 st k hk
  have e3 : (k + 1 + 1) % h.length = nx h (nx h k) := by unfold nx; rw [Nat.mod_add_mod]
  rw [e3] at T1
  have g0 := nonneg q hq
  rw [hqk] at g0
  have g1 := nonneg _ (nx_lt hk)
  exact hoff k hk (on_edge T0 T1 z g0 g1)
/-- the ray tells 1 just of what is inside -/
theorem where_iff {m : Int} {h : List Pt} (n : Nf m h) (p : Pt) : whereOf h p ≤ 0 ↔ ¬ Inside h p := by
 constructor
 ·intro h1 h2; have := where_inside n h2; omega
 ·intro h1
  rcases Int.lt_or_le 0 (whereOf h p) with h2 | h2
  ·exact absurd (where_outside n h2) h1
  ·exact h2
end Go.Proofs.Ytoffmpkgickfhaa.M
end
section
namespace Go.Proofs.Ytoffmpkgickfhaa.M
open Go.RowKit Go.Proofs.Ytoffmpkgickfhaa.PG Go.Proofs.YtoffmpkgickfhaaW.PrintMore Go.Proofs.YtoffmpkgickfhaaW.PrintWords
def shift (v p : Pt) : Pt := ⟨p.f0 + v.f0, p.f1 + v.f1⟩
def shifted (v : Pt) (l : List Pt) : List Pt := l.map (shift v)
theorem take_snoc {l : List Pt} {i : Nat} (h : i < l.length) : l.take (i + 1) = l.take i ++ [at_ l i] := by
 rw [at_eq h, List.take_append_getElem]
theorem moved_run {l : List Pt} {v : Pt} (hb : ∀ p ∈ l, Bd p) (hv : Bd v) (hN : l.length ≤ 1000000) : Rt (fun k => shape_moved.f k l v.f0 v.f1) (shifted v l) := by
 have H : ∀ d i, l.length = i + d → Rt (fun k => shape_moved.l0 k (shifted v (l.take i)) l (l.length : Int) (i : Int) v.f0 v.f1) (shifted v l) := by
  intro d
  induction d with
  | zero =>
   intro i hi
   refine rt_ret fun k => ?_
   rw [shape_moved.l0, if_neg (by omega), List.take_of_length_le (by omega)]
  | succ d ih =>
   intro i hi
   have hlt : i < l.length := by omega
   obtain ⟨b0, b1, b2, b3⟩ := at_bd hb hlt
   obtain ⟨v0, v1, v2, v3⟩ := hv
   have e : shifted v (l.take (i + 1)) = shifted v (l.take i) ++ [shift v (at_ l i)] := by rw [take_snoc hlt]; unfold shifted; rw [List.map_append]; rfl
   refine rt_step (fun k => ?_) (ih (i + 1) (by omega))
   rw [e, shape_moved.l0, if_pos (by omega), if_pos (by omega), if_pos (by omega), rd_at]
   unfold shape_add.f
   rw [Option.bind_some, wz ((at_ l i).f0 + _) (by omega) (by omega), wz ((at_ l i).f1 + _) (by omega) (by omega), if_pos (by unfold shifted; rw [List.length_map, List.length_take]; omega), wrap_succ i (by omega)]
   rfl
 obtain ⟨K, hK⟩ := H l.length 0 (by omega)
 exact ⟨K, fun k hk => hK k hk⟩
/-- an edge of a has all of b on its right side, or on it -/
def SepAt (a b : List Pt) (i : Nat) : Prop := ∀ q ∈ b, cr (at_ a i) (at_ a ((i + 1) % a.length)) q ≤ 0
def Sep (a b : List Pt) : Prop := ∃ i, i < a.length ∧ SepAt a b i
theorem ex_split {n i : Nat} (hi : i < n) (P : Nat → Prop) : (∃ i', i ≤ i' ∧ i' < n ∧ P i') ↔ (P i ∨ ∃ i', i + 1 ≤ i' ∧ i' < n ∧ P i') := by
 constructor
 ·rintro ⟨j, h1, h2, h3⟩
  rcases Nat.eq_or_lt_of_le h1 with rfl | h4
  ·exact Or.inl h3
  ·exact Or.inr ⟨j, h4, h2, h3⟩
 ·rintro (h | ⟨j, h1, h2, h3⟩)
  ·exact ⟨i, Nat.le_refl _, hi, h⟩
  ·exact ⟨j, by omega, h2, h3⟩
theorem left_f {a b : Pt} {l : List Pt} (ha : Bd a) (hb : Bd b) (hl : ∀ q ∈ l, Bd q) : ∃ c, left_any.f l a.f0 a.f1 b.f0 b.f1 = some c ∧ (c = true ↔ ¬ ∀ q ∈ l, cr a b q ≤ 0) := by
 refine ⟨_, rfl, ?_⟩
 rw [List.any_eq_true]
 constructor
 ·rintro ⟨q, hq, h⟩ hn
  unfold PG.leftOf at h
  rw [side_f ha hb (hl q hq), decide_eq_true_eq, Option.getD_some] at h
  have := hn q hq; omega
 ·intro hn
  apply Classical.byContradiction
  intro h
  apply hn
  intro q hq
  apply Classical.byContradiction
  intro h2
  apply h
  refine ⟨q, hq, ?_⟩
  unfold PG.leftOf
  rw [side_f ha hb (hl q hq), decide_eq_true_eq, Option.getD_some]; omega
theorem parted_run {a b : List Pt} (ha : ∀ p ∈ a, Bd p) (hb : ∀ p ∈ b, Bd p) (hN : a.length ≤ 1000000) : ∃ c, Rt (fun k => shape_parted.f k a b) c ∧ (c = true ↔ Sep a b) := by
 have H : ∀ d i, a.length = i + d → ∃ c, Rt (fun k => shape_parted.l0 k a b (a.length : Int) (i : Int)) c ∧ (c = true ↔ ∃ i', i ≤ i' ∧ i' < a.length ∧ SepAt a b i') := by
  intro d
  induction d with
  | zero =>
   intro i hi
   refine ⟨false, rt_ret fun k => ?_, ⟨fun h => by simp at h, fun ⟨j, h1, h2, _⟩ => by omega⟩⟩
   rw [shape_parted.l0, if_neg (by omega)]
  | succ d ih =>
   intro i hi
   have hlt : i < a.length := by omega
   have t1 := tmod_in (i + 1) a.length (by omega)
   obtain ⟨c1, hc1, hc2⟩ := ih (i + 1) (by omega)
   obtain ⟨e, he1, he2⟩ := left_f (at_bd ha hlt) (at_bd ha (show (i + 1) % a.length < a.length from Nat.mod_lt _ (by omega))) hb
   rw [ex_split hlt]
   have st : ∀ k, shape_parted.l0 (k + 1) a b (a.length : Int) (i : Int) = if e = true then shape_parted.l0 k a b (a.length : Int) ((i + 1 : Nat) : Int) else some true := by
    intro k
    rw [shape_parted.l0, if_pos (by omega), if_pos (by omega), if_pos (by omega), if_neg (by omega), tmod_nat i _ (by omega), if_pos (by omega), if_pos (by omega), rd_at, rd_at, he1, Option.bind_some, wrap_succ i (by omega)]
   cases e with
   | true =>
    refine ⟨c1, rt_step (fun k => by rw [st, if_pos rfl]) hc1, ?_⟩
    rw [hc2]
    exact ⟨Or.inr, fun h => h.resolve_left (he2.mp rfl)⟩
   | false =>
    refine ⟨true, rt_ret (fun k => by rw [st, if_neg (by simp)]), ⟨fun _ => Or.inl ?_, fun _ => rfl⟩⟩
    apply Classical.byContradiction
    intro h
    have := he2.mpr h
    simp at this
 obtain ⟨c, ⟨K, hK⟩, h⟩ := H a.length 0 (by omega)
 refine ⟨c, ⟨K, fun k hk => hK k hk⟩, ?_⟩
 rw [h]
 exact ⟨fun ⟨i, _, h1, h2⟩ => ⟨i, h1, h2⟩, fun ⟨i, h1, h2⟩ => ⟨i, Nat.zero_le _, h1, h2⟩⟩
/-- Apart of two convex polygons, or its error -/
theorem Apart_run {a b : List Pt} {v : Pt} {c1 c2 : Int} (h1 : Rt (fun k => shape_refused_normal.f k a) c1) (h2 : Rt (fun k => shape_refused_normal.f k b) c2) :
  (c1 ≠ 0 → Rt (fun k => shape_Apart.f k a b v.f0 v.f1) (false, c1)) ∧ (c1 = 0 → c2 ≠ 0 → Rt (fun k => shape_Apart.f k a b v.f0 v.f1) (false, c2)) ∧ (c1 = 0 → c2 = 0 → ¬ In 20000 v → Rt (fun k => shape_Apart.f k a b v.f0 v.f1) (false, 1)) ∧
  (c1 = 0 → c2 = 0 → In 20000 v → ∀ m c, Rt (fun k => shape_moved.f k b v.f0 v.f1) m → Rt (fun k => shape_apart.f k a m) c → Rt (fun k => shape_Apart.f k a b v.f0 v.f1) (c, 0)) := by
 obtain ⟨K1, g1⟩ := h1
 obtain ⟨K2, g2⟩ := h2
 have r0 : rd_L2 [a, b] 0 = a := rfl
 have r1 : rd_L2 [a, b] 1 = b := rfl
 have w1 : wrap64 (0 + 1) = 1 := by unfold wrap64; omega
 have w2 : wrap64 (1 + 1) = 2 := by unfold wrap64; omega
 have ln : (([a, b] : List (List S29)).length : Int) = 2 := rfl
 have st : ∀ k, shape_Apart.f k a b v.f0 v.f1 = shape_Apart.l0 k a b [a, b] 2 0 v.f0 v.f1 := by
  intro k; unfold shape_Apart.f; rw [Option.bind_some, ln]
 have s0 : ∀ k, K1 ≤ k → shape_Apart.l0 (k + 1) a b [a, b] 2 0 v.f0 v.f1 = if c1 = 0 then shape_Apart.l0 k a b [a, b] 2 1 v.f0 v.f1 else some (false, c1) := by
  intro k hk
  have := g1 k hk
  dsimp only at this
  rw [shape_Apart.l0, ln, if_pos (by omega), if_pos (by omega), if_pos (by omega), r0, this, Option.bind_some, w1]
 have s1 : ∀ k, K2 ≤ k → shape_Apart.l0 (k + 1) a b [a, b] 2 1 v.f0 v.f1 = if c2 = 0 then shape_Apart.l0 k a b [a, b] 2 2 v.f0 v.f1 else some (false, c2) := by
  intro k hk
  have := g2 k hk
  dsimp only at this
  rw [shape_Apart.l0, ln, if_pos (by omega), if_pos (by omega), if_pos (by omega), r1, this, Option.bind_some, w2]
 have hin : (∀ q ∈ [v], In 20000 q) ↔ In 20000 v := by simp
 refine ⟨fun e => ⟨K1 + 1, fun k hk => ?_⟩, fun e1 e2 => ⟨K1 + K2 + 2, fun k hk => ?_⟩, fun e1 e2 hv => ⟨K1 + K2 + 3, fun k hk => ?_⟩, fun e1 e2 hv m c ⟨K3, g3⟩ ⟨K4, g4⟩ => ⟨K1 + K2 + K3 + K4 + 3, fun k hk => ?_⟩⟩
 ·obtain ⟨k, rfl⟩ := fuel1 hk
  dsimp only; rw [st, s0 k (by omega), if_neg e]
 ·obtain ⟨k, rfl⟩ := fuel2 hk
  dsimp only; rw [st, s0 _ (by omega), if_pos e1, s1 k (by omega), if_neg e2]
 ·obtain ⟨k, rfl⟩ : ∃ m, k = m + 1 + 1 + 1 := ⟨k - 3, by omega⟩
  dsimp only; rw [st, s0 _ (by omega), if_pos e1, s1 _ (by omega), if_pos e2, shape_Apart.l0, if_neg (by omega), within_f _ _ (by omega) (by omega), Option.bind_some, if_neg (by rw [decide_eq_true_eq, hin]; exact hv)]
 ·obtain ⟨k, rfl⟩ : ∃ m, k = m + 1 + 1 + 1 := ⟨k - 3, by omega⟩
  have a3 := g3 k (by omega)
  have a4 := g4 k (by omega)
  dsimp only at a3 a4 ⊢
  rw [st, s0 _ (by omega), if_pos e1, s1 _ (by omega), if_pos e2, shape_Apart.l0, if_neg (by omega), within_f _ _ (by omega) (by omega), Option.bind_some, if_pos (by rw [decide_eq_true_eq, hin]; exact hv), a3, Option.bind_some, a4, Option.bind_some]
end Go.Proofs.Ytoffmpkgickfhaa.M
end
section
namespace Go.Proofs.Ytoffmpkgickfhaa.M
open Go.RowKit Go.Proofs.Ytoffmpkgickfhaa.PG Go.Proofs.YtoffmpkgickfhaaW.PrintMore Go.Proofs.YtoffmpkgickfhaaW.PrintWords
theorem sort5 : slices_SortFunc_xy.f [(⟨0, 0⟩ : S29), (⟨1, 0⟩ : S29), (⟨2, 0⟩ : S29), (⟨0, 2⟩ : S29), (⟨1, 1⟩ : S29)] = some [(⟨0, 0⟩ : S29), (⟨0, 2⟩ : S29), (⟨1, 0⟩ : S29), (⟨1, 1⟩ : S29), (⟨2, 0⟩ : S29)] := by
 simp [slices_SortFunc_xy.f, List.mergeSort, List.MergeSort.Internal.splitInTwo, xyLt]
theorem area_ok (k : Nat) : shape_Area2.f (k + 60) [(⟨0, 0⟩ : S29), (⟨2, 0⟩ : S29), (⟨2, 2⟩ : S29), (⟨0, 2⟩ : S29)] = some (8, 0) := by kernel_rfl
theorem simple_ok (k : Nat) : shape_simple.f (k + 60) [(⟨0, 0⟩ : S29), (⟨2, 0⟩ : S29), (⟨2, 2⟩ : S29), (⟨0, 2⟩ : S29)] = some true := by kernel_rfl
theorem lattice_l0 (k : Nat) : shape_Lattice.l0 (k + 60) [(⟨0, 0⟩ : S29), (⟨2, 0⟩ : S29), (⟨2, 2⟩ : S29), (⟨0, 2⟩ : S29)] 0 4 0 = some (1, 8, 0) := by kernel_rfl
theorem lattice_ok (k : Nat) : shape_Lattice.f (k + 60) [(⟨0, 0⟩ : S29), (⟨2, 0⟩ : S29), (⟨2, 2⟩ : S29), (⟨0, 2⟩ : S29)] = some (1, 8, 0) := by
 unfold shape_Lattice.f shape_refused_simple.f
 rw [simple_ok, show shape_polygon.f [(⟨0, 0⟩ : S29), (⟨2, 0⟩ : S29), (⟨2, 2⟩ : S29), (⟨0, 2⟩ : S29)] = some true by decide +kernel, Option.bind_some, if_pos rfl, Option.bind_some, if_pos rfl, Option.bind_some, if_pos rfl]
 exact lattice_l0 k
theorem same_ok (k : Nat) : cracknelref04_Same.f (k + 60) [(⟨0, 0⟩ : S29), (⟨2, 0⟩ : S29), (⟨0, 2⟩ : S29)] [(⟨0, 0⟩ : S29), (⟨2, 0⟩ : S29), (⟨0, 2⟩ : S29)] = some true := by kernel_rfl
theorem hull_rest (k : Nat) : shape_Hull.j0 (k + 60) [(⟨0, 0⟩ : S29), (⟨1, 0⟩ : S29), (⟨2, 0⟩ : S29), (⟨0, 2⟩ : S29), (⟨1, 1⟩ : S29)] false = some ([(⟨0, 0⟩ : S29), (⟨2, 0⟩ : S29), (⟨0, 2⟩ : S29)], 0) := by
 rw [show k + 60 = (k + 59) + 1 from rfl, shape_Hull.j0, if_neg (by simp), show slices_Clone.f [(⟨0, 0⟩ : S29), (⟨1, 0⟩ : S29), (⟨2, 0⟩ : S29), (⟨0, 2⟩ : S29), (⟨1, 1⟩ : S29)] = some [(⟨0, 0⟩ : S29), (⟨1, 0⟩ : S29), (⟨2, 0⟩ : S29), (⟨0, 2⟩ : S29), (⟨1, 1⟩ : S29)] by decide +kernel, Option.bind_some, sort5, Option.bind_some]
 kernel_rfl
theorem hull_pre (k : Nat) : shape_Hull.f k [(⟨0, 0⟩ : S29), (⟨1, 0⟩ : S29), (⟨2, 0⟩ : S29), (⟨0, 2⟩ : S29), (⟨1, 1⟩ : S29)] = shape_Hull.j0 k [(⟨0, 0⟩ : S29), (⟨1, 0⟩ : S29), (⟨2, 0⟩ : S29), (⟨0, 2⟩ : S29), (⟨1, 1⟩ : S29)] false := by
 unfold shape_Hull.f
 rw [show shape_within.f [(⟨0, 0⟩ : S29), (⟨1, 0⟩ : S29), (⟨2, 0⟩ : S29), (⟨0, 2⟩ : S29), (⟨1, 1⟩ : S29)] 10000 = some true by decide +kernel, Option.bind_some]
 simp only [List.length_cons, List.length_nil]
 rw [if_neg (by omega), if_neg (by omega)]
 rfl
theorem lives_ok (k : Nat) (hk : 60 ≤ k) : cracknellaw04_lives.f k = some true := by
 obtain ⟨d, rfl⟩ : ∃ d, k = d + 60 := ⟨k - 60, by omega⟩
 unfold cracknellaw04_lives.f
 rw [hull_pre, hull_rest, Option.bind_some, area_ok, lattice_ok]
 simp only [Option.bind_some, if_true, same_ok]
end Go.Proofs.Ytoffmpkgickfhaa.M
end
section
namespace Go.Proofs.Ytoffmpkgickfhaa.M
open Go.RowKit Go.Proofs.Ytoffmpkgickfhaa.PG Go.Proofs.YtoffmpkgickfhaaW.PrintMore Go.Proofs.YtoffmpkgickfhaaW.PrintWords
theorem shifted_at {v : Pt} {b : List Pt} {k : Nat} (hk : k < b.length) : at_ (shifted v b) k = shift v (at_ b k) := by
 have hl : (shifted v b).length = b.length := by unfold shifted; rw [List.length_map]
 rw [at_eq (by omega), at_eq hk]; unfold shifted; rw [List.getElem_map]
theorem shifted_len (v : Pt) (b : List Pt) : (shifted v b).length = b.length := by unfold shifted; rw [List.length_map]
theorem shifted_mem {v : Pt} {b : List Pt} {s : Pt} : s ∈ shifted v b ↔ ∃ q ∈ b, s = shift v q := by
 unfold shifted; rw [List.mem_map]
 exact ⟨fun ⟨q, h, e⟩ => ⟨q, h, e.symm⟩, fun ⟨q, h, e⟩ => ⟨q, h, e.symm⟩⟩
section
variable {m : Int} {a b s n : List Pt} {v : Pt}
/-- the first polygon's own edges separate: the edge tells it of the moved corners -/
theorem sep_ab : Sep a (shifted v b) ↔ ∃ i, i < a.length ∧ ∀ q ∈ b, cr (at_ a i) (at_ a (nx a i)) (shift v q) ≤ 0 := by
 unfold Sep SepAt
 constructor
 ·rintro ⟨i, hi, h⟩; exact ⟨i, hi, fun q hq => h _ (shifted_mem.mpr ⟨q, hq, rfl⟩)⟩
 ·rintro ⟨i, hi, h⟩
  refine ⟨i, hi, fun s hs => ?_⟩
  obtain ⟨q, hq, rfl⟩ := shifted_mem.mp hs
  exact h q hq
theorem sep_ba : Sep (shifted v b) a ↔ ∃ j, j < b.length ∧ ∀ x ∈ a, cr (shift v (at_ b j)) (shift v (at_ b (nx b j))) x ≤ 0 := by
 unfold Sep SepAt
 have hn : ∀ j, j < b.length → at_ (shifted v b) ((j + 1) % (shifted v b).length) = shift v (at_ b (nx b j)) := by
  intro j hj
  rw [shifted_len]; exact shifted_at (nx_lt hj)
 constructor
 ·rintro ⟨j, hj, h⟩
  rw [shifted_len] at hj
  refine ⟨j, hj, fun x hx => ?_⟩
  have := h x hx
  rw [hn j hj, shifted_at hj] at this; exact this
 ·rintro ⟨j, hj, h⟩
  refine ⟨j, by rw [shifted_len]; exact hj, fun x hx => ?_⟩
  rw [hn j hj, shifted_at hj]; exact h x hx
/-- the vector is not inside the sum with the negative just if an edge separates -/
theorem nofit_sep (na : Nf m a) (nb : Nf m b) (hn : ∀ p, p ∈ n ↔ neg p ∈ b) {m' : Int} (ns : Nf m' s) (hs : Ring (sums a n) s) : ¬ Inside s v ↔ (Sep a (shifted v b) ∨ Sep (shifted v b) a) := by
 have ha3 := na.three
 have hb3 := nb.three
 have hs3 := ns.three
 rw [sep_ab, sep_ba]
 constructor
 ·intro hI
  obtain ⟨k, hk, hle⟩ : ∃ k, k < s.length ∧ cr (at_ s k) (at_ s (nx s k)) v ≤ 0 := by
   apply Classical.byContradiction
   intro hno
   apply hI
   intro i hi
   rcases Int.lt_or_le 0 (cr (at_ s i) (at_ s (nx s i)) v) with h | h
   ·exact h
   ·exact absurd ⟨i, hi, h⟩ hno
  have E := ring_at hs k hk
  obtain ⟨ne, hu, hv, L⟩ := E
  have hle' : cr (at_ s k) (at_ s ((k + 1) % s.length)) v ≤ 0 := hle
  generalize at_ s k = u at *
  generalize at_ s ((k + 1) % s.length) = w at *
  clear hle
  obtain ⟨x0, hx0, y0, hy0, rfl⟩ := sums_mem.mp hu
  obtain ⟨x1, hx1, y1, hy1, rfl⟩ := sums_mem.mp hv
  have he : ¬ ((vec (plus x0 y0) (plus x1 y1)).f0 = 0 ∧ (vec (plus x0 y0) (plus x1 y1)).f1 = 0) := by
   rintro ⟨h0, h1⟩
   apply ne
   unfold vec at h0 h1; dsimp only at h0 h1
   exact pt_ext (by omega) (by omega)
  have ax : ∀ x ∈ a, 0 ≤ cx (vec (plus x0 y0) (plus x1 y1)) (vec x0 x) := by
   intro x hx
   have := (L _ (sums_mem.mpr ⟨x, hx, y0, hy0, rfl⟩)).1
   rw [cr_cx] at this
   have e : vec (plus x0 y0) (plus x y0) = vec x0 x := by unfold vec plus; apply pt_ext <;> dsimp only <;> omega
   rw [e] at this; exact this
  have ay : ∀ y ∈ n, 0 ≤ cx (vec (plus x0 y0) (plus x1 y1)) (vec y0 y) := by
   intro y hy
   have := (L _ (sums_mem.mpr ⟨x0, hx0, y, hy, rfl⟩)).1
   rw [cr_cx] at this
   have e : vec (plus x0 y0) (plus x0 y) = vec y0 y := by unfold vec plus; apply pt_ext <;> dsimp only <;> omega
   rw [e] at this; exact this
  have sum0 : cx (vec (plus x0 y0) (plus x1 y1)) (vec x0 x1) + cx (vec (plus x0 y0) (plus x1 y1)) (vec y0 y1) = 0 := by unfold cx vec plus; dsimp only; grind
  have z1 := ax x1 hx1
  have z2 := ay y1 hy1
  have hv0 : cx (vec (plus x0 y0) (plus x1 y1)) (vec (plus x0 y0) v) ≤ 0 := by rw [← cr_cx]; exact hle'
  generalize hE : vec (plus x0 y0) (plus x1 y1) = e at *
  by_cases hx : x0 = x1
  ·right
   have hy : y0 ≠ y1 := by
    intro h
    apply ne; rw [hx, h]
   have hq : neg y0 ≠ neg y1 := fun h => hy (by have := congrArg neg h; rwa [neg_neg, neg_neg] at this)
   have cn : ∀ z, cx (neg e) z = - cx e z := by intro z; unfold cx neg; dsimp only; grind
   obtain ⟨j, hj, j0, jv⟩ := par_edge (e := neg e) hb3 (ring_strong nb.ring) (by unfold neg; dsimp only; intro ⟨h0, h1⟩; exact he ⟨by omega, by omega⟩) ((hn y0).mp hy0) ((hn y1).mp hy1) hq (fun k hk => by
    have := ay (neg (at_ b k)) ((hn _).mpr (by rw [neg_neg]; exact at_mem hk))
    have e1 : cx (neg e) (vec (neg y0) (at_ b k)) = cx e (vec y0 (neg (at_ b k))) := by unfold cx neg vec; dsimp only; grind
    rw [e1]; exact this) (by
    have e1 : cx (neg e) (vec (neg y0) (neg y1)) = cx e (vec y0 y1) := by unfold cx neg vec; dsimp only; grind
    rw [e1]; omega)
   refine ⟨j, hj, fun x hx' => ?_⟩
   have c1 := ax x hx'
   have e2 : cr (shift v (at_ b j)) (shift v (at_ b (nx b j))) x = cx (vec (at_ b j) (at_ b (nx b j))) (vec (shift v (at_ b j)) x) := by unfold cr cx vec shift; dsimp only; grind
   rw [e2]
   apply jv
   have e3 : cx (neg e) (vec (shift v (at_ b j)) x) = cx (neg e) (vec (at_ b j) (neg y0)) - cx e (vec x0 x) + cx e (vec (plus x0 y0) v) := by unfold cx neg vec shift plus; dsimp only; grind
   rw [e3]; omega
  ·left
   obtain ⟨i, hi, i0, iv⟩ := par_edge (e := e) ha3 (ring_strong na.ring) he hx0 hx1 hx (fun k hk => ax _ (at_mem hk)) (by omega)
   refine ⟨i, hi, fun q hq => ?_⟩
   have c1 := ay (neg q) ((hn _).mpr (by rw [neg_neg]; exact hq))
   rw [cr_cx]
   apply iv
   have e3 : cx e (vec (at_ a i) (shift v q)) = cx e (vec (at_ a i) x0) + cx e (vec (plus x0 y0) v) - cx e (vec y0 (neg q)) := by unfold cx neg vec shift plus; dsimp only; grind
   rw [e3]; omega
 ·intro hSep hI
  have st := ring_strong ns.ring
  have edge_ne : ∀ {c : List Pt} {m : Int}, Nf m c → ∀ i, i < c.length → ¬ ((vec (at_ c i) (at_ c (nx c i))).f0 = 0 ∧ (vec (at_ c i) (at_ c (nx c i))).f1 = 0) := by
   intro c m nc i hi
   rintro ⟨h0, h1⟩
   apply (ring_strong nc.ring).1 i hi
   unfold vec at h0 h1; dsimp only at h0 h1
   exact pt_ext (by show _ = (at_ c (nx c i)).f0; omega) (by show _ = (at_ c (nx c i)).f1; omega)
  rcases hSep with ⟨i, hi, h⟩ | ⟨j, hj, h⟩
  ·obtain ⟨k, hk, hpos⟩ := inside_far ns.three st hI (edge_ne na i hi)
   obtain ⟨x, hx, y, hy, e⟩ := sums_mem.mp (ring_sub hs _ (at_mem hk))
   have c1 := h _ ((hn y).mp hy)
   have c2 : 0 ≤ cr (at_ a i) (at_ a (nx a i)) x := ((ring_at na.ring i hi).2.2.2 x hx).1
   rw [e] at hpos
   have e1 : cx (vec (at_ a i) (at_ a (nx a i))) (vec (plus x y) v) = cr (at_ a i) (at_ a (nx a i)) (shift v (neg y)) - cr (at_ a i) (at_ a (nx a i)) x := by unfold cr cx neg vec shift plus; dsimp only; grind
   omega
  ·obtain ⟨k, hk, hpos⟩ := inside_far (e := neg (vec (at_ b j) (at_ b (nx b j)))) ns.three st hI (by
    have := edge_ne nb j hj
    unfold neg; dsimp only; intro ⟨h0, h1⟩; exact this ⟨by omega, by omega⟩)
   obtain ⟨x, hx, y, hy, e⟩ := sums_mem.mp (ring_sub hs _ (at_mem hk))
   have c1 := h x hx
   have c2 : 0 ≤ cr (at_ b j) (at_ b (nx b j)) (neg y) := ((ring_at nb.ring j hj).2.2.2 _ ((hn y).mp hy)).1
   rw [e] at hpos
   have e1 : cx (neg (vec (at_ b j) (at_ b (nx b j)))) (vec (plus x y) v) = cr (shift v (at_ b j)) (shift v (at_ b (nx b j))) x - cr (at_ b j) (at_ b (nx b j)) (neg y) := by unfold cr cx neg vec shift plus; dsimp only; grind
   omega
/-- the same, told from the other polygon -/
theorem sep_back : (Sep b (shifted (neg v) a) ∨ Sep (shifted (neg v) a) b) ↔ (Sep a (shifted v b) ∨ Sep (shifted v b) a) := by
 rw [sep_ab, sep_ba, sep_ab, sep_ba]
 have e1 : ∀ p q r : Pt, cr p q (shift (neg v) r) = cr (shift v p) (shift v q) r := by intro p q r; unfold cr neg shift; dsimp only; grind
 have e2 : ∀ p q r : Pt, cr (shift (neg v) p) (shift (neg v) q) r = cr p q (shift v r) := by intro p q r; unfold cr neg shift; dsimp only; grind
 simp only [e1, e2]
 exact or_comm
end
theorem apart_code {a b : List Pt} (ha : ∀ p ∈ a, Bd p) (hb : ∀ p ∈ b, Bd p) (hN : a.length ≤ 1000000) (hM : b.length ≤ 1000000) : ∃ c, Rt (fun k => shape_apart.f k a b) c ∧ (c = true ↔ Sep a b ∨ Sep b a) := by
 obtain ⟨c1, ⟨K1, h1⟩, i1⟩ := parted_run ha hb hN
 obtain ⟨c2, ⟨K2, h2⟩, i2⟩ := parted_run hb ha hM
 refine ⟨c1 || c2, ⟨K1 + K2, fun k hk => ?_⟩, ?_⟩
 ·have a1 := h1 k (by omega)
  have a2 := h2 k (by omega)
  dsimp only at a1 a2 ⊢
  unfold shape_apart.f
  rw [a1, Option.bind_some]
  cases c1
  ·rw [if_neg (by simp), a2, Option.bind_some]; rfl
  ·rw [if_pos rfl]; rfl
 ·rw [Bool.or_eq_true, i1, i2]
theorem Apart_nf {m : Int} {a b : List Pt} {v : Pt} (na : Nf m a) (nb : Nf m b) (hm : m ≤ 10000) (la : a.length ≤ 32) (lb : b.length ≤ 32) (hv : In 20000 v) : ∃ c, Rt (fun k => shape_Apart.f k a b v.f0 v.f1) (c, 0) ∧ (c = true ↔ Sep a (shifted v b) ∨ Sep (shifted v b) a) := by
 have hbm : ∀ p ∈ shifted v b, Bd p := by
  intro p hp
  obtain ⟨q, hq, rfl⟩ := shifted_mem.mp hp
  have := nb.inb q hq
  unfold In at this hv; unfold Bd shift; dsimp only; omega
 have hbv : Bd v := by unfold In at hv; unfold Bd; omega
 have m1 := moved_run (nb.bd hm) hbv (show b.length ≤ 1000000 by omega)
 obtain ⟨c, p1, i⟩ := apart_code (na.bd hm) hbm (by omega) (by rw [shifted_len]; omega)
 exact ⟨c, (Apart_run (v := v) (na.normal hm la) (nb.normal hm lb)).2.2.2 rfl rfl hv _ c m1 p1, i⟩
theorem Where_nf {m : Int} {h : List Pt} {p : Pt} (n : Nf m h) (hm : m ≤ 10000) (hl : h.length ≤ 32) (hp : In 10000 p) : Rt (fun k => shape_Where.f k h p.f0 p.f1) (whereOf h p, 0) := by
 obtain ⟨K1, h1⟩ := refused_simple (show h.length ≤ 1000000 by omega) (n.poly hm hl) n.convex.1
 obtain ⟨K2, h2⟩ := where_run (n.bd hm) (in_bd hp) (show h.length ≤ 1000000 by omega)
 refine ⟨K1 + K2, fun k hk => ?_⟩
 have a1 := h1 k (by omega)
 have a2 := h2 k (by omega)
 have hin1 : ∀ q ∈ [p], In 10000 q := by intro q hq; rw [List.mem_singleton] at hq; subst hq; exact hp
 dsimp only at a1 a2 ⊢
 unfold shape_Where.f
 rw [a1, Option.bind_some, if_pos rfl, within_f _ _ (by omega) (by omega), Option.bind_some, if_pos (by simpa using hin1), a2, Option.bind_some]
theorem nofit_plain (x y : List S29) (by_ : S29) (_ : (Lit.int .i64 by_.f0).wf = true) (_ : (Lit.int .i64 by_.f1).wf = true) : ∃ k, cracknellaw04_ShapeNoFit.f k x y by_.f0 by_.f1 = some true := by
 obtain ⟨a, ⟨K1, h1⟩, na, la⟩ := law_hull_run x 4000 (by omega) (by omega)
 obtain ⟨b, ⟨K2, h2⟩, nb, lb⟩ := law_hull_run y 4000 (by omega) (by omega)
 obtain ⟨n, ⟨K3, h3⟩, rn, nn, ln⟩ := Negative_run nb (by omega) (by omega)
 obtain ⟨s, ⟨K4, h4⟩, rs, ns, ls⟩ := sum_nf na nn (by omega) (by omega) (by omega) (by omega) (by omega)
 have t0 := tmod_bd by_.f0 9001 (by omega)
 have t1 := tmod_bd by_.f1 9001 (by omega)
 obtain ⟨v, hv0, hv1⟩ : ∃ v : Pt, v.f0 = Int.tmod by_.f0 9001 ∧ v.f1 = Int.tmod by_.f1 9001 := ⟨⟨_, _⟩, rfl, rfl⟩
 have iv : In 9000 v := by unfold In; omega
 obtain ⟨c, ⟨K5, h5⟩, ic⟩ := Apart_nf (v := v) na nb (by omega) (by omega) (by omega) (by unfold In at *; omega)
 obtain ⟨K6, h6⟩ := Where_nf (p := v) ns (by omega) (by omega) (by unfold In at *; omega)
 obtain ⟨c', ⟨K7, h7⟩, ic'⟩ := Apart_nf (v := neg v) nb na (by omega) (by omega) (by omega) (by unfold In neg at *; dsimp only; omega)
 have hmem : ∀ p, p ∈ n ↔ neg p ∈ b := by
  intro p
  rw [← negs_mem]
  refine ⟨ring_sub rn p, fun hp => ?_⟩
  apply Classical.byContradiction
  intro hno
  have hnd : (p :: n).Nodup := List.nodup_cons.mpr ⟨hno, ring_nodup rn⟩
  have := length_le_of_nodup (S := negs b) hnd (fun x hx => by
   rcases List.mem_cons.mp hx with e | e
   ·rw [e]; exact hp
   ·exact ring_sub rn x e)
  have hla : (negs b).length = b.length := by unfold negs; rw [List.length_map]
  simp only [List.length_cons] at this; omega
 have key : c = decide (whereOf s v ≤ 0) := by
  rw [Bool.eq_iff_iff, ic, decide_eq_true_eq, where_iff ns, nofit_sep na nb hmem ns rs]
 have key2 : c = c' := by rw [Bool.eq_iff_iff, ic, ic', sep_back]
 refine ⟨K1 + K2 + K3 + K4 + K5 + K6 + K7 + 60, ?_⟩
 generalize hk : K1 + K2 + K3 + K4 + K5 + K6 + K7 + 60 = k
 have a1 := h1 k (by omega)
 have a2 := h2 k (by omega)
 have a3 := h3 k (by omega)
 have a4 := h4 k (by omega)
 have a5 := h5 k (by omega)
 have a6 := h6 k (by omega)
 have a7 := h7 k (by omega)
 have a8 := lives_ok k (by omega)
 have w0 : wrap64 (-v.f0) = (neg v).f0 := by rw [wz _ (by omega) (by omega)]; rfl
 have w1 : wrap64 (-v.f1) = (neg v).f1 := by rw [wz _ (by omega) (by omega)]; rfl
 dsimp only at a1 a2 a3 a4 a5 a6 a7
 unfold cracknellaw04_ShapeNoFit.f
 rw [a1, Option.bind_some, a2, Option.bind_some, a3, Option.bind_some]
 dsimp only
 rw [a4, Option.bind_some, ← hv0, ← hv1, a5, Option.bind_some]
 dsimp only
 rw [a6, Option.bind_some, w0, w1, a7, Option.bind_some]
 dsimp only
 rw [if_pos rfl, if_pos rfl, if_pos rfl, if_pos rfl, if_pos rfl, if_pos (by rw [key]; simp), if_pos (by rw [key2]; simp), a8, Option.bind_some]
end Go.Proofs.Ytoffmpkgickfhaa.M
end
