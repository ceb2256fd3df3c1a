/- Parts of the proof: printed walks, their words, and plain laws. -/
import Derived.Test.YtoffmpkgickfhaaQB1
import Derived.Test.YtoffmpkgickfhaaQB5
import Derived.Test.YtoffmpkgickfhaaQB4
import Derived.Test.YtoffmpkgickfhaaQB2
section
namespace Go.Proofs.Ytoffmpkgickfhaa.PG
open Go.RowKit Go.Proofs.YtoffmpkgickfhaaW.PrintWords Go.Proofs.YtoffmpkgickfhaaW.PrintLast Go.Proofs.YtoffmpkgickfhaaW.PrintMore
attribute [local go_sem] max2_int min2_int max_two min_two max_three min_three max_four min_four
set_option linter.unusedVariables false
set_option linter.unusedSimpArgs false
/-! ### cracknelref04_Moved: function 26 -/
def cracknelref04_Moved.l0 : Nat → List (S29) → List (S29) → Int → Int → Int → Option ((List (S29)))
 | 0, _, _, _, _, _ => none
 | k + 1, x0, x5, x6, x102000, x102001 => if x6 < (x0.length : Int) then (if 0 ≤ x6 then (if x5.length < 8796093022208 then (cracknelref04_Moved.l0 k x0 (x5 ++ [(⟨wrap64 (((rd_T29 x0 x6).f0) + x102000), wrap64 (((rd_T29 x0 x6).f1) + x102001)⟩ : S29)]) (wrap64 (x6 + 1)) x102000 x102001) else (none)) else (none)) else (some x5)
def cracknelref04_Moved.f (k : Nat) (l0 : List (S29)) (a1_0 : Int) (a1_1 : Int) : Option ((List (S29))) := cracknelref04_Moved.l0 k l0 (([] : List (S29))) 0 a1_0 a1_1
theorem cracknelref04_Moved.mono_l : ∀ k, (∀ y0 y1 y2 y3 y4, LeO (cracknelref04_Moved.l0 k y0 y1 y2 y3 y4) (cracknelref04_Moved.l0 (k + 1) y0 y1 y2 y3 y4))
 | 0 => fun _ _ _ _ _ r h => by simp [cracknelref04_Moved.l0] at h
 | k + 1 => by
  have ih0 := cracknelref04_Moved.mono_l k
  ·intro y0 y1 y2 y3 y4
   unfold cracknelref04_Moved.l0
   repeat' first
   | (with_reducible exact ih0 _ _ _ _ _)
   | (with_reducible exact LeO.refl _)
   | (with_reducible exact LeO.none _)
   | (with_reducible refine LeO.ite ?_ ?_)
   | (with_reducible refine LeO.bind ?_ (fun _ => ?_))
   | exact ih0 _ _ _ _ _
   | exact LeO.none _
   | refine LeO.ite ?_ ?_
   | refine LeO.bind ?_ (fun _ => ?_)
theorem cracknelref04_Moved.mono : ∀ a0 a1 a2 k, LeO (cracknelref04_Moved.f k a0 a1 a2) (cracknelref04_Moved.f (k + 1) a0 a1 a2) := by
 intro a0 a1 a2 k
 have ih0 := cracknelref04_Moved.mono_l k
 unfold cracknelref04_Moved.f
 repeat' first
  | (with_reducible exact ih0 _ _ _ _ _)
  | (with_reducible exact LeO.refl _)
  | (with_reducible exact LeO.none _)
  | (with_reducible refine LeO.ite ?_ ?_)
  | (with_reducible refine LeO.bind ?_ (fun _ => ?_))
  | exact ih0 _ _ _ _ _
  | exact LeO.none _
  | refine LeO.ite ?_ ?_
  | refine LeO.bind ?_ (fun _ => ?_)
def cracknelref04_Moved.T5 : Bool × List (List Nat × List Nat) := (true, [([], []), ([], []), ([], []), ([1, 2], [1, 2]), ([3], [3]), ([4], [4]), ([], []), ([6], [6]), ([5, 7], [5, 7]), ([], []), ([], []), ([9, 10], [9, 10]), ([11], [11]), ([12], [12]), ([], []), ([14], [14]), ([13, 15], [13, 15]), ([8, 16], [8, 16]), ([17], [17]), ([0, 18], [0, 18]), ([19, 19, 0, 1, 2, 3, 4, 5, 6, 7, 8, 9, 10, 11, 12, 13, 14, 15, 16, 17, 18, 19], [0, 19])])
def cracknelref04_Moved.B5 : List Nat := [0, 0, 0, 6, 14, 30, 0, 64, 254, 0, 0, 1536, 3584, 7680, 0, 16384, 65024, 131070, 262142, 524287, 1048575]
theorem cracknelref04_Moved.tab5 : rtab .any (opsOf Try.f26 5) = cracknelref04_Moved.T5 := by kernel_rfl
theorem cracknelref04_Moved.bits5 : waitsOk cracknelref04_Moved.T5.2 cracknelref04_Moved.B5 = true := by kernel_rfl
set_option maxHeartbeats 8000000 in
set_option maxRecDepth 100000 in
theorem cracknelref04_Moved.calls (k : Nat) (A0 : Option Addr) (c0 : Nat) (l0 : List (S29)) (a1_0 : Int) (a1_1 : Int) (r : List (S29)) (w : World) (hr0 : Kd.C k29 w A0 l0.length l0) (hc0 : l0.length ≤ c0) (h : cracknelref04_Moved.f k l0 a1_0 a1_1 = some r) :
  Calls Try.prog 26 #[.slice A0 l0.length c0, .agg #[.int .i64 a1_0, .int .i64 a1_1]] w fun e w' => ∃ v0_ : Value, e = .returned (v0_) ∧ Kd.R k29 29 w' w.heap.size (fun _ => True) v0_ r ∧ Below w.heap.size w w' := by
 have hu29 := Try.underlying29
 have HR0 := Aside0.mk hr0
 have HC0 := Aside0.mk hc0
 clear hr0 hc0
 have HB := Aside0.mk (Below.refl w.heap.size w)
 have H : (cracknelref04_Moved.l0 k l0 (([] : List (S29))) 0 a1_0 a1_1) = some r := h
 clear h
 obtain ⟨y102, hy102⟩ : ∃ y_ : List (S29), y_ = (([] : List (S29))) := ⟨_, rfl⟩
 replace H : (cracknelref04_Moved.l0 k l0 y102 0 a1_0 a1_1) = some r := by first | (rw [hy102]; with_reducible exact H) | (have H2_ := (Option.bind_some _ _).symm.trans H; rw [hy102]; with_reducible exact H2_) | (have H2_ := (Option.bind_some _ _).symm.trans H; with_reducible exact H2_) | with_reducible exact H | (rw [hy102]; exact H) | exact H
 have Ny102 := Aside0.mk hy102
 clear hy102
 have H' := Aside0.mk H
 clear H
 go_enter Try.func26, Try.ntmps26
 go_wp2_with (first | ((with_reducible refine gate_dst (N := 3) rfl ?_); refine bxe 3 #[.int .i64 a1_0, .int .i64 a1_1] 29 ?_; intro gb101 hg w3 hbox hb; have n0_ := Aside0.mk (below_step bh hb); have n1_ := Aside0.mk (hbox); have n2_ := Aside0.mk (gs hg : w.heap.size ≤ gb101); have n3_ := Aside0.mk (gs hg : w.heap.size ≤ gb101); clear HB; have HB := n0_; have BK101 := n1_; have GW101 := n2_; have GE101 := n3_; clear n0_ n1_ n2_ n3_; clear hb hbox hg) | ((with_reducible refine gate_dst (N := 7) rfl ?_); refine Kd.R_lit k29 _ 29 ?hg (N := 7) ?hd (xs := ([] : List (S29))) (inner := []) (ok := fun _ => True) (okp := fun _ => True) ?hr ?hp (fun _ hk => hk) trivial (Below.refl _ _) (Nat.le_refl _) (by simp) ?_; (case hd => rfl); (case hg => rfl); (case hr => first | (go_simp; done) | (go_simp; rfl)); (case hp => exact (Reps.none _ _)); intro v103 w4 ho5 hb hg_ hnew_; clear hg_ hnew_; (first | rw [← Ny102.out] at ho5 | (simp only [Int.reduceToNat] at ho5; rw [← Ny102.out] at ho5)); have n0_ := Aside0.mk (Kd.R_lower (Kd.R_newB ho5 (g := gb101) (o := .cells #[.int .i64 a1_0, .int .i64 a1_1] 29 (0, 0)) (bk BK101)) (below_size bh)); have n1_ := kb BK101 hb; have n2_ := Aside0.mk (below_step bh hb); clear BK101; clear HB; have HO104 := n0_; have BK101 := n1_; have HB := n2_; clear n0_ n1_ n2_; clear hb ho5))
 go_loopg [5, 6] k (fun kq v5 v6 w' => ∃ (x5_1 : List (S29)) (x6_1 : Int), v6 = .int .i64 x6_1 ∧ Aside0 (cracknelref04_Moved.l0 kq l0 x5_1 x6_1 a1_0 a1_1 = some r) ∧ Aside0 (kq ≤ k) ∧ Aside0 (Kd.R k29 29 w' w.heap.size (fun k_ => k_ ≠ gb101) v5 x5_1) ∧ Aside0 (w'.heap[gb101]? = some (.cells #[.int .i64 a1_0, .int .i64 a1_1] 29 (0, 0))) ∧ Aside0 (Below w.heap.size w w'))
 case atStart => exact ⟨(y102), (0), sd, H', ⟨Nat.le_refl _⟩, ⟨by (with_reducible repeat (first | apply Kd.R_alloc | apply Kd.R_drewN | apply Kd.R_drew)); exact Kd.R_mono HO104.out (fun _ hk => hk.2)⟩, ⟨bk BK101⟩, ⟨bh⟩⟩
 case round =>
  clear H'
  try clear c2
  try clear p2
  obtain ⟨x5_1, x6_1, rfl, HA, HK1, HO_5, BK101, HB⟩ := hrel
  cases gk with
  | zero => exact absurd HA.out (by simp [cracknelref04_Moved.l0])
  | succ k1 =>
   have H := HA.out
   clear HA
   simp only [cracknelref04_Moved.l0] at H
   by_cases c6 : x6_1 < (l0.length : Int)
   ·rw [if_pos c6] at H
    have c6b0 : decide (x6_1 < (l0.length : Int)) = true := decide_eq_true c6
    clear c6
    by_cases c7 : 0 ≤ x6_1
    ·rw [if_pos c7] at H
     have c7b0 : decide (0 ≤ x6_1) = true := decide_eq_true c7
     clear c7
     by_cases c8 : x5_1.length < 8796093022208
     ·rw [if_pos c8] at H
      have LMc8 := Aside0.mk c8
      clear c8
      obtain ⟨y107, hy107⟩ : ∃ y_ : List (S29), y_ = (x5_1 ++ [(⟨wrap64 (((rd_T29 l0 x6_1).f0) + a1_0), wrap64 (((rd_T29 l0 x6_1).f1) + a1_1)⟩ : S29)]) := ⟨_, rfl⟩
      replace H : (cracknelref04_Moved.l0 k1 l0 y107 (wrap64 (x6_1 + 1)) a1_0 a1_1) = some r := by first | (rw [hy107]; with_reducible exact H) | (have H2_ := (Option.bind_some _ _).symm.trans H; rw [hy107]; with_reducible exact H2_) | (have H2_ := (Option.bind_some _ _).symm.trans H; with_reducible exact H2_) | with_reducible exact H | (rw [hy107]; exact H) | exact H
      have Ny107 := Aside0.mk hy107
      clear hy107
      have H' := Aside0.mk H
      clear H
      try go_wp2
      replace HO_5 := Aside0.mk (Kd.R_drew HO_5.out)
      replace BK101 := Aside0.mk (blk_drew BK101.out)
      replace HB := Aside0.mk (below_drew1 HB.out)
      have p105 : 0 ≤ (x6_1 : Int) := dt
      have q105 : x6_1 < (l0.length : Int) := dt
      obtain ⟨ad105, e105, hx105_0, hx105_1⟩ := at_T29 HR0.out x6_1 p105 q105
      have hw105_1 := hx105_1
      have hw105_0 := hx105_0
      cases e105
      replace hx105_0 := hc HB hx105_0
      replace hx105_1 := hc HB hx105_1
      replace p105 := eq_true p105
      replace q105 := eq_true q105
      have p106 : 0 ≤ (x6_1 : Int) := dt
      have q106 : x6_1 < (l0.length : Int) := dt
      obtain ⟨ad106, e106, hx106_0, hx106_1⟩ := at_T29 HR0.out x6_1 p106 q106
      have hw106_1 := hx106_1
      have hw106_0 := hx106_0
      obtain rfl : ad105 = ad106 := (by injection e106)
      replace hx106_0 := hc HB hx106_0
      replace hx106_1 := hc HB hx106_1
      replace p106 := eq_true p106
      replace q106 := eq_true q106
      refine start_ (n := 21) (S := fun w' => w'.cell? ⟨gb101, 0, none⟩ = some (.int .i64 a1_0) ∧ w'.cell? ⟨gb101, 1, none⟩ = some (.int .i64 a1_1) ∧ w'.cell? (ad105.add ((x6_1).toNat * 2)) = some (.int .i64 ((rd_T29 l0 x6_1).f0)) ∧ w'.cell? ⟨(ad105.add ((x6_1).toNat * 2)).block, (ad105.add ((x6_1).toNat * 2)).off + 1, none⟩ = some (.int .i64 ((rd_T29 l0 x6_1).f1)) ∧ w'.cell? (ad105.add ((x6_1).toNat * 2)) = some (.int .i64 ((rd_T29 l0 x6_1).f0)) ∧ w'.cell? ⟨(ad105.add ((x6_1).toNat * 2)).block, (ad105.add ((x6_1).toNat * 2)).off + 1, none⟩ = some (.int .i64 ((rd_T29 l0 x6_1).f1))) (ds := []) #[false, false, false, false, false, false, false, false, false, false, false, false, false, false, false, false, false, false, false, false, false] (by kernel_rfl) rfl rfl ⟨bc BK101 0, bc BK101 1, (hc HB hw105_0), (hc HB hw105_1), (hc HB hw106_0), (hc HB hw106_1)⟩ (fun hHeld => ?_); refine with_tabW cracknelref04_Moved.tab5 cracknelref04_Moved.bits5 (fun HT_ HW_ => ?_)
      generalize wr.drew = w9 at HO_5 BK101 HB hx105_0 hx105_1 hx106_0 hx106_1 hHeld ⊢
      refine pu 0 14 HT_ ?_
      refine pu 1 15 HT_ ?_
      refine pu 2 16 HT_ ?_
      refine pu 3 17 HT_ ?_
      refine pu 4 18 HT_ ?_
      refine pu 6 20 HT_ ?_
      refine pu 9 23 HT_ ?_
      refine pu 10 24 HT_ ?_
      refine pu 11 25 HT_ ?_
      refine pu 12 26 HT_ ?_
      refine pu 14 28 HT_ ?_
      refine tk6 5 19 hHeld HT_ HW_ ?_
      refine tk6 7 21 hHeld HT_ HW_ ?_
      refine pu 8 22 HT_ ?_
      refine tk6 13 27 hHeld HT_ HW_ ?_
      refine tk6 15 29 hHeld HT_ HW_ ?_
      refine pu 16 30 HT_ ?_
      refine pu 17 31 HT_ ?_
      refine one_ (i := 18) (N := some 32) #[true, true, true, true, true, true, true, true, true, true, true, true, true, true, true, true, true, true, true, false, false] rfl rfl (on1 HT_) (by decide) (fun K hK => ?_)
      refine value_ (w1 := ?_) (v := ?_) (by rfl) rfl ?_ ?_
      rotate_left 2
      ·go_simp
       constructor
       ·rfl
       ·rfl
      refine hK.out _ _ ⟨(blk_cell (blk_alloc BK101.out _) 0).trans rfl, (blk_cell (blk_alloc BK101.out _) 1).trans rfl, (World.cell?_alloc_lt _ _ _ (World.block_lt_of_cell? _ _ ((hc HB hw105_0)))).trans ((hc HB hw105_0)), (World.cell?_alloc_lt _ _ _ (World.block_lt_of_cell? _ _ ((hc HB hw105_1)))).trans ((hc HB hw105_1)), (World.cell?_alloc_lt _ _ _ (World.block_lt_of_cell? _ _ ((hc HB hw106_0)))).trans ((hc HB hw106_0)), (World.cell?_alloc_lt _ _ _ (World.block_lt_of_cell? _ _ ((hc HB hw106_1)))).trans ((hc HB hw106_1))⟩ (fun hHeld => ?_)
      clear hK K
      refine nm 32 ?_
      refine one_ (i := 19) (N := some 33) #[true, true, true, true, true, true, true, true, true, true, true, true, true, true, true, true, true, true, true, true, false] rfl rfl (on1 HT_) (by decide) (fun K hK => ?_)
      refine Kd.R_append_step k29 (w0 := w) w.heap.size (by rfl) (.tmp 14) (.tmp 32) 22 29 (.agg #[(.int .i64 0), (.int .i64 0)]) 16 rfl Try.underlying22 info29 rfl (by decide) (by omega) u5 x5_1 (⟨wrap64 (((rd_T29 l0 x6_1).f0) + a1_0), wrap64 (((rd_T29 l0 x6_1).f1) + a1_1)⟩ : S29) [.int .i64 (wrap64 (((rd_T29 l0 x6_1).f0) + a1_0)), .int .i64 (wrap64 (((rd_T29 l0 x6_1).f1) + a1_1))] (fun k_ => k_ ≠ gb101) (fun _ => False) rfl rfl ?aP (fun _ hk => hk.elim) ?aF ?aO ?aB ?aS ?aL ?_
      (case aP => exact k29_mkM _ _ _ (⟨wrap64 (((rd_T29 l0 x6_1).f0) + a1_0), wrap64 (((rd_T29 l0 x6_1).f1) + a1_1)⟩ : S29))
      (case aB => exact bh)
      (case aF => exact (fun k_ hk => Kd.freshB (g := gb101) (o := .cells #[.int .i64 a1_0, .int .i64 a1_1] 29 (0, 0)) (bk BK101) k_ hk))
      (case aO => exact (ro HO_5))
      (case aS => exact (below_size bh))
      (case aL => have := LMc8.out; omega)
      intro v108 w10 ho hb hg hat
      rw [← Ny107.out] at ho
      have HO109 := Aside0.mk (ho)
      replace BK101 := Aside0.mk (blk_grown (g := gb101) (o := .cells #[.int .i64 a1_0, .int .i64 a1_1] 29 (0, 0)) (bk BK101) hg (Kd.R_away HO_5.out (fun _ hk => hk)))
      replace HB := Aside0.mk (hb)
      clear HO_5
      clear ho hb hg hat
      refine hK.out _ _ ⟨bc BK101 0, bc BK101 1, (hc HB hw105_0), (hc HB hw105_1), (hc HB hw106_0), (hc HB hw106_1)⟩ (fun hHeld => ?_)
      clear hK K
      refine nm 33 ?_
      refine pu 20 5 HT_ ?_
      refine done_ (done_of HT_.out (by kernel_rfl)) ?_
      try go_wp2
      go_roundg k1
      case measure => have := HK1.out; omega
      case rel => exact ⟨(y107), (wrap64 (x6_1 + 1)), sd, H', ⟨by have := HK1.out; omega⟩, ⟨by (with_reducible repeat (first | apply Kd.R_alloc | apply Kd.R_drewN | apply Kd.R_drew)); exact HO109.out⟩, ⟨bk BK101⟩, ⟨bh⟩⟩
     ·rw [if_neg c8] at H
      exact absurd H (by simp)
    ·rw [if_neg c7] at H
     exact absurd H (by simp)
   ·rw [if_neg c6] at H
    have c6b0 : decide (x6_1 < (l0.length : Int)) = false := decide_eq_false c6
    clear c6
    obtain rfl := Option.some.inj H
    go_wp2
    go_ret
    exact ⟨_, by exact er, by (with_reducible repeat (first | apply Kd.R_alloc | apply Kd.R_drewN | apply Kd.R_drew)); exact Kd.R_mono HO_5.out (fun _ hk => trivial), bh⟩
end Go.Proofs.Ytoffmpkgickfhaa.PG
end
section
namespace Go.Proofs.Ytoffmpkgickfhaa.PG
open Go.RowKit Go.Proofs.YtoffmpkgickfhaaW.PrintWords Go.Proofs.YtoffmpkgickfhaaW.PrintLast Go.Proofs.YtoffmpkgickfhaaW.PrintMore
attribute [local go_sem] max2_int min2_int max_two min_two max_three min_three max_four min_four
set_option linter.unusedVariables false
set_option linter.unusedSimpArgs false
/-! ### cracknellaw04_convex: function 36 -/
def cracknellaw04_convex.f (k : Nat) (l0 : List (S29)) : Option (Int) := (cracknelref04_Polygon.f k l0).bind fun t101 => (if t101 = true then ((cracknelref04_Convex.f k l0).bind fun t102 => (if t102 = true then (some 0) else (some 2))) else (some 1))
theorem cracknellaw04_convex.mono : ∀ a0 k, LeO (cracknellaw04_convex.f k a0) (cracknellaw04_convex.f (k + 1) a0) := by
 intro a0 k
 unfold cracknellaw04_convex.f
 repeat' first
  | (with_reducible exact cracknelref04_Convex.mono _ _)
  | (with_reducible exact cracknelref04_Polygon.mono _ _)
  | (with_reducible exact LeO.refl _)
  | (with_reducible exact LeO.none _)
  | (with_reducible refine LeO.ite ?_ ?_)
  | (with_reducible refine LeO.bind ?_ (fun _ => ?_))
  | exact cracknelref04_Convex.mono _ _
  | exact cracknelref04_Polygon.mono _ _
  | exact LeO.none _
  | refine LeO.ite ?_ ?_
  | refine LeO.bind ?_ (fun _ => ?_)
set_option maxHeartbeats 8000000 in
set_option maxRecDepth 100000 in
theorem cracknellaw04_convex.calls (k : Nat) (A0 : Option Addr) (c0 : Nat) (l0 : List (S29)) (r : Int) (w : World) (hr0 : Kd.C k29 w A0 l0.length l0) (hc0 : l0.length ≤ c0) (h : cracknellaw04_convex.f k l0 = some r) :
  Calls Try.prog 36 #[.slice A0 l0.length c0] w fun e w' => e = .returned (.int .i64 r) ∧ Below w.heap.size w w' := by
 have HR0 := Aside0.mk hr0
 have HC0 := Aside0.mk hc0
 clear hr0 hc0
 have HB := Aside0.mk (Below.refl w.heap.size w)
 have H : ((cracknelref04_Polygon.f k l0).bind fun t101 => (if t101 = true then ((cracknelref04_Convex.f k l0).bind fun t102 => (if t102 = true then (some 0) else (some 2))) else (some 1))) = some r := h
 clear h
 replace H := Option.bind_eq_some_iff.mp H
 obtain ⟨t101, A20, H⟩ := H
 replace H : (if t101 = true then ((cracknelref04_Convex.f k l0).bind fun t102 => (if t102 = true then (some 0) else (some 2))) else (some 1)) = some r := H
 have A2 := Aside0.mk A20
 clear A20
 by_cases c3 : t101 = true
 ·subst c3
  rw [if_pos rfl] at H
  replace H := Option.bind_eq_some_iff.mp H
  obtain ⟨t102, A40, H⟩ := H
  replace H : (if t102 = true then (some 0) else (some 2)) = some r := H
  have A4 := Aside0.mk A40
  clear A40
  by_cases c5 : t102 = true
  ·subst c5
   rw [if_pos rfl] at H
   obtain rfl := Option.some.inj H
   go_enter Try.func36, Try.ntmps36
   go_wp2_with (first | ((with_reducible refine gate_callee (f := 29) rfl ?_); refine goesL_ (some 4) rfl rfl Try.func29 (by kernel_rfl) rfl #[.slice A0 l0.length c0] rfl sg ?_; (with_reducible refine (cracknelref04_Polygon.calls k _ _ l0 true _ ?side1 ?side2 A2.out).mono ?_); (case side1 => repeat (first | exact HR0.out | (with_reducible refine Kd.C_alloc ?_ _) | (with_reducible refine Kd.C_drewN ?_ _) | (with_reducible refine Kd.C_drew ?_))); (case side2 => exact HC0.out); rintro e w6 ⟨rfl, hb⟩; refine ⟨_, rfl, ?_⟩; have n0_ := Aside0.mk (below_step bh hb); clear HB; have HB := n0_; clear n0_; (try clear hb); (try clear hb2); (try clear hk); (try clear hi)) | ((with_reducible refine gate_callee (f := 31) rfl ?_); refine goesL_ (some 7) rfl rfl Try.func31 (by kernel_rfl) rfl #[.slice A0 l0.length c0] rfl sg ?_; (with_reducible refine (cracknelref04_Convex.calls k _ _ l0 true _ ?side1 ?side2 A4.out).mono ?_); (case side1 => exact cs (Kd.C_below HR0.out HB.out)); (case side2 => exact HC0.out); rintro e w7 ⟨rfl, hb⟩; refine ⟨_, rfl, ?_⟩; have n0_ := Aside0.mk (below_step bh hb); clear HB; have HB := n0_; clear n0_; (try clear hb); (try clear hb2); (try clear hk); (try clear hi)))
   go_ret
   exact ⟨by exact er, bh⟩
  ·replace c5 := Bool.eq_false_iff.mpr c5
   subst c5
   rw [if_neg (show ¬ (false = true) by decide)] at H
   obtain rfl := Option.some.inj H
   go_enter Try.func36, Try.ntmps36
   go_wp2_with (first | ((with_reducible refine gate_callee (f := 29) rfl ?_); refine goesL_ (some 4) rfl rfl Try.func29 (by kernel_rfl) rfl #[.slice A0 l0.length c0] rfl sg ?_; (with_reducible refine (cracknelref04_Polygon.calls k _ _ l0 true _ ?side1 ?side2 A2.out).mono ?_); (case side1 => repeat (first | exact HR0.out | (with_reducible refine Kd.C_alloc ?_ _) | (with_reducible refine Kd.C_drewN ?_ _) | (with_reducible refine Kd.C_drew ?_))); (case side2 => exact HC0.out); rintro e w8 ⟨rfl, hb⟩; refine ⟨_, rfl, ?_⟩; have n0_ := Aside0.mk (below_step bh hb); clear HB; have HB := n0_; clear n0_; (try clear hb); (try clear hb2); (try clear hk); (try clear hi)) | ((with_reducible refine gate_callee (f := 31) rfl ?_); refine goesL_ (some 7) rfl rfl Try.func31 (by kernel_rfl) rfl #[.slice A0 l0.length c0] rfl sg ?_; (with_reducible refine (cracknelref04_Convex.calls k _ _ l0 false _ ?side1 ?side2 A4.out).mono ?_); (case side1 => exact cs (Kd.C_below HR0.out HB.out)); (case side2 => exact HC0.out); rintro e w9 ⟨rfl, hb⟩; refine ⟨_, rfl, ?_⟩; have n0_ := Aside0.mk (below_step bh hb); clear HB; have HB := n0_; clear n0_; (try clear hb); (try clear hb2); (try clear hk); (try clear hi)))
   go_ret
   exact ⟨by exact er, bh⟩
 ·replace c3 := Bool.eq_false_iff.mpr c3
  subst c3
  rw [if_neg (show ¬ (false = true) by decide)] at H
  obtain rfl := Option.some.inj H
  go_enter Try.func36, Try.ntmps36
  go_wp2_with (first | ((with_reducible refine gate_callee (f := 29) rfl ?_); refine goesL_ (some 4) rfl rfl Try.func29 (by kernel_rfl) rfl #[.slice A0 l0.length c0] rfl sg ?_; (with_reducible refine (cracknelref04_Polygon.calls k _ _ l0 false _ ?side1 ?side2 A2.out).mono ?_); (case side1 => repeat (first | exact HR0.out | (with_reducible refine Kd.C_alloc ?_ _) | (with_reducible refine Kd.C_drewN ?_ _) | (with_reducible refine Kd.C_drew ?_))); (case side2 => exact HC0.out); rintro e w10 ⟨rfl, hb⟩; refine ⟨_, rfl, ?_⟩; have n0_ := Aside0.mk (below_step bh hb); clear HB; have HB := n0_; clear n0_; (try clear hb); (try clear hb2); (try clear hk); (try clear hi)))
  go_ret
  exact ⟨by exact er, bh⟩
end Go.Proofs.Ytoffmpkgickfhaa.PG
end
section
namespace Go.Proofs.Ytoffmpkgickfhaa.PG
open Go.RowKit Go.Proofs.YtoffmpkgickfhaaW.PrintWords Go.Proofs.YtoffmpkgickfhaaW.PrintLast Go.Proofs.YtoffmpkgickfhaaW.PrintMore
attribute [local go_sem] max2_int min2_int max_two min_two max_three min_three max_four min_four
set_option linter.unusedVariables false
set_option linter.unusedSimpArgs false
/-! ### cracknelref04_parts: function 76 -/
mutual
def cracknelref04_parts.l0 : Nat → List (S29) → List (S29) → Int → Option (Bool)
 | 0, _, _, _ => none
 | k + 1, x0, x1, x5 => if x5 < (x0.length : Int) then (cracknelref04_parts.l1 k x0 x1 x5 true 0) else (some false)
def cracknelref04_parts.l1 : Nat → List (S29) → List (S29) → Int → Bool → Int → Option (Bool)
 | 0, _, _, _, _, _ => none
 | k + 1, x0, x1, x5, x6, x7 => if x7 < (x1.length : Int) then (if x6 = true then (if 0 ≤ x5 then (if x5 < (x0.length : Int) then ((cracknelref04_next.f x0 x5).bind fun bt102 => (if 0 ≤ x7 then ((cracknelref04_Cross.f ((rd_T29 x0 x5).f0) ((rd_T29 x0 x5).f1) bt102.1 bt102.2 ((rd_T29 x1 x7).f0) ((rd_T29 x1 x7).f1)).bind fun t105 => (cracknelref04_parts.l1 k x0 x1 x5 (decide (t105 ≤ 0)) (wrap64 (x7 + 1)))) else (none))) else (none)) else (none)) else (cracknelref04_parts.l1 k x0 x1 x5 false (wrap64 (x7 + 1)))) else (if x6 = true then (some true) else (cracknelref04_parts.l0 k x0 x1 (wrap64 (x5 + 1))))
end
def cracknelref04_parts.f (k : Nat) (l0 : List (S29)) (l1 : List (S29)) : Option (Bool) := cracknelref04_parts.l0 k l0 l1 0
theorem cracknelref04_parts.mono_l : ∀ k, (∀ y0 y1 y2, LeO (cracknelref04_parts.l0 k y0 y1 y2) (cracknelref04_parts.l0 (k + 1) y0 y1 y2)) ∧ (∀ y0 y1 y2 y3 y4, LeO (cracknelref04_parts.l1 k y0 y1 y2 y3 y4) (cracknelref04_parts.l1 (k + 1) y0 y1 y2 y3 y4))
 | 0 => ⟨fun _ _ _ r h => by simp [cracknelref04_parts.l0] at h, fun _ _ _ _ _ r h => by simp [cracknelref04_parts.l1] at h⟩
 | k + 1 => by
  obtain ⟨ih0, ih1⟩ := cracknelref04_parts.mono_l k
  refine ⟨?_, ?_⟩
  ·intro y0 y1 y2
   unfold cracknelref04_parts.l0
   repeat' first
   | (with_reducible exact ih0 _ _ _)
   | (with_reducible exact ih1 _ _ _ _ _)
   | (with_reducible exact LeO.refl _)
   | (with_reducible exact LeO.none _)
   | (with_reducible refine LeO.ite ?_ ?_)
   | (with_reducible refine LeO.bind ?_ (fun _ => ?_))
   | exact ih0 _ _ _
   | exact ih1 _ _ _ _ _
   | exact LeO.none _
   | refine LeO.ite ?_ ?_
   | refine LeO.bind ?_ (fun _ => ?_)
  ·intro y0 y1 y2 y3 y4
   unfold cracknelref04_parts.l1
   repeat' first
   | (with_reducible exact ih0 _ _ _)
   | (with_reducible exact ih1 _ _ _ _ _)
   | (with_reducible exact LeO.refl _)
   | (with_reducible exact LeO.none _)
   | (with_reducible refine LeO.ite ?_ ?_)
   | (with_reducible refine LeO.bind ?_ (fun _ => ?_))
   | exact ih0 _ _ _
   | exact ih1 _ _ _ _ _
   | exact LeO.none _
   | refine LeO.ite ?_ ?_
   | refine LeO.bind ?_ (fun _ => ?_)
theorem cracknelref04_parts.mono : ∀ a0 a1 k, LeO (cracknelref04_parts.f k a0 a1) (cracknelref04_parts.f (k + 1) a0 a1) := by
 intro a0 a1 k
 obtain ⟨ih0, ih1⟩ := cracknelref04_parts.mono_l k
 unfold cracknelref04_parts.f
 repeat' first
  | (with_reducible exact ih0 _ _ _)
  | (with_reducible exact ih1 _ _ _ _ _)
  | (with_reducible exact LeO.refl _)
  | (with_reducible exact LeO.none _)
  | (with_reducible refine LeO.ite ?_ ?_)
  | (with_reducible refine LeO.bind ?_ (fun _ => ?_))
  | exact ih0 _ _ _
  | exact ih1 _ _ _ _ _
  | exact LeO.none _
  | refine LeO.ite ?_ ?_
  | refine LeO.bind ?_ (fun _ => ?_)
def cracknelref04_parts.T8 : Bool × List (List Nat × List Nat) := (true, [([], []), ([0], [0]), ([1], [1]), ([1], [1]), ([2, 3, 1], [1, 2, 3]), ([4, 1], [1, 4]), ([1], [1]), ([1], [1]), ([6, 7, 1, 1], [1, 6, 7]), ([1], [1]), ([1], [1]), ([9, 10, 1], [1, 9, 10]), ([11, 1], [1, 11]), ([5, 8, 12, 8, 1], [1, 5, 8, 12]), ([13, 1], [1, 13]), ([1, 14], [1, 14]), ([15, 13, 0, 1, 2, 3, 4, 5, 6, 7, 8, 9, 10, 11, 12, 13, 14, 15], [0, 15])])
def cracknelref04_parts.B8 : List Nat := [0, 1, 3, 3, 15, 31, 3, 3, 195, 3, 3, 1539, 3587, 8191, 16383, 32767, 65535]
theorem cracknelref04_parts.tab8 : rtab .any (opsOf Try.f76 8) = cracknelref04_parts.T8 := by kernel_rfl
theorem cracknelref04_parts.bits8 : waitsOk cracknelref04_parts.T8.2 cracknelref04_parts.B8 = true := by kernel_rfl
set_option maxHeartbeats 8000000 in
set_option maxRecDepth 100000 in
theorem cracknelref04_parts.calls (k : Nat) (A0 : Option Addr) (c0 : Nat) (l0 : List (S29)) (A1 : Option Addr) (c1 : Nat) (l1 : List (S29)) (r : Bool) (w : World) (hr0 : Kd.C k29 w A0 l0.length l0) (hc0 : l0.length ≤ c0) (hr1 : Kd.C k29 w A1 l1.length l1) (hc1 : l1.length ≤ c1) (h : cracknelref04_parts.f k l0 l1 = some r) :
  Calls Try.prog 76 #[.slice A0 l0.length c0, .slice A1 l1.length c1] w fun e w' => e = .returned (.bool r) ∧ Below w.heap.size w w' := by
 have hu29 := Try.underlying29
 have HR0 := Aside0.mk hr0
 have HC0 := Aside0.mk hc0
 clear hr0 hc0
 have HR1 := Aside0.mk hr1
 have HC1 := Aside0.mk hc1
 clear hr1 hc1
 have HB := Aside0.mk (Below.refl w.heap.size w)
 have H : (cracknelref04_parts.l0 k l0 l1 0) = some r := h
 clear h
 have H' := Aside0.mk H
 clear H
 go_enter Try.func76, Try.ntmps76
 go_wp2
 go_loopg [5] k (fun kq v5 w' => ∃ (x5_1 : Int), v5 = .int .i64 x5_1 ∧ Aside0 (cracknelref04_parts.l0 kq l0 l1 x5_1 = some r) ∧ Aside0 (kq ≤ k) ∧ Aside0 (Below w.heap.size w w'))
 case atStart => exact ⟨(0), sd, H', ⟨Nat.le_refl _⟩, ⟨bh⟩⟩
 case round =>
  clear H'
  try clear c1
  try clear p2
  obtain ⟨x5_1, rfl, HA, HK1, HB⟩ := hrel
  cases gk with
  | zero => exact absurd HA.out (by simp [cracknelref04_parts.l0])
  | succ k1 =>
   have H := HA.out
   clear HA
   simp only [cracknelref04_parts.l0] at H
   by_cases c3 : x5_1 < (l0.length : Int)
   ·rw [if_pos c3] at H
    have c3b0 : decide (x5_1 < (l0.length : Int)) = true := decide_eq_true c3
    clear c3
    have H' := Aside0.mk H
    clear H
    go_wp2
    go_loopg [6, 7] k1 (fun kq v6 v7 w' => ∃ (x6_2 : Bool) (x7_2 : Int), v6 = .bool x6_2 ∧ v7 = .int .i64 x7_2 ∧ Aside0 (cracknelref04_parts.l1 kq l0 l1 x5_1 x6_2 x7_2 = some r) ∧ Aside0 (kq ≤ k1) ∧ Aside0 (Below w.heap.size w w'))
    case atStart => exact ⟨(true), (0), sd, sd, H', ⟨Nat.le_refl _⟩, ⟨bh⟩⟩
    case round =>
     clear H'
     try clear c1
     try clear p2
     try clear c3
     try clear c3b0
     try clear p2
     obtain ⟨x6_2, x7_2, rfl, rfl, HA, HK2, HB⟩ := hrel
     cases gk with
     | zero => exact absurd HA.out (by simp [cracknelref04_parts.l1])
     | succ k2 =>
      have H := HA.out
      clear HA
      simp only [cracknelref04_parts.l1] at H
      by_cases c4 : x7_2 < (l1.length : Int)
      ·rw [if_pos c4] at H
       have c4b0 : decide (x7_2 < (l1.length : Int)) = true := decide_eq_true c4
       clear c4
       by_cases c5 : x6_2 = true
       ·subst c5
        rw [if_pos rfl] at H
        by_cases c6 : 0 ≤ x5_1
        ·rw [if_pos c6] at H
         have c6b0 : decide (0 ≤ x5_1) = true := decide_eq_true c6
         clear c6
         by_cases c7 : x5_1 < (l0.length : Int)
         ·rw [if_pos c7] at H
          have c7b0 : decide (x5_1 < (l0.length : Int)) = true := decide_eq_true c7
          clear c7
          replace H := Option.bind_eq_some_iff.mp H
          obtain ⟨⟨t102, t103⟩, A80, H⟩ := H
          replace H : (if 0 ≤ x7_2 then ((cracknelref04_Cross.f ((rd_T29 l0 x5_1).f0) ((rd_T29 l0 x5_1).f1) t102 t103 ((rd_T29 l1 x7_2).f0) ((rd_T29 l1 x7_2).f1)).bind fun t105 => (cracknelref04_parts.l1 k2 l0 l1 x5_1 (decide (t105 ≤ 0)) (wrap64 (x7_2 + 1)))) else (none)) = some r := H
          have A8 := Aside0.mk A80
          clear A80
          by_cases c9 : 0 ≤ x7_2
          ·rw [if_pos c9] at H
           have c9b0 : decide (0 ≤ x7_2) = true := decide_eq_true c9
           clear c9
           replace H := Option.bind_eq_some_iff.mp H
           obtain ⟨t105, A100, H⟩ := H
           replace H : (cracknelref04_parts.l1 k2 l0 l1 x5_1 (decide (t105 ≤ 0)) (wrap64 (x7_2 + 1))) = some r := H
           have A10 := Aside0.mk A100
           clear A100
           have H' := Aside0.mk H
           clear H
           try go_wp2
           replace HB := Aside0.mk (below_drew1 HB.out)
           have p101 : 0 ≤ (x5_1 : Int) := dt
           have q101 : x5_1 < (l0.length : Int) := dt
           obtain ⟨ad101, e101, hx101_0, hx101_1⟩ := at_T29 HR0.out x5_1 p101 q101
           have hw101_1 := hx101_1
           have hw101_0 := hx101_0
           cases e101
           replace hx101_0 := hc HB hx101_0
           replace hx101_1 := hc HB hx101_1
           replace p101 := eq_true p101
           replace q101 := eq_true q101
           have p104 : 0 ≤ (x7_2 : Int) := dt
           have q104 : x7_2 < (l1.length : Int) := dt
           obtain ⟨ad104, e104, hx104_0, hx104_1⟩ := at_T29 HR1.out x7_2 p104 q104
           have hw104_1 := hx104_1
           have hw104_0 := hx104_0
           cases e104
           replace hx104_0 := hc HB hx104_0
           replace hx104_1 := hc HB hx104_1
           replace p104 := eq_true p104
           replace q104 := eq_true q104
           refine start_ (n := 17) (S := fun w' => w'.cell? (ad101.add ((x5_1).toNat * 2)) = some (.int .i64 ((rd_T29 l0 x5_1).f0)) ∧ w'.cell? ⟨(ad101.add ((x5_1).toNat * 2)).block, (ad101.add ((x5_1).toNat * 2)).off + 1, none⟩ = some (.int .i64 ((rd_T29 l0 x5_1).f1)) ∧ w'.cell? (ad104.add ((x7_2).toNat * 2)) = some (.int .i64 ((rd_T29 l1 x7_2).f0)) ∧ w'.cell? ⟨(ad104.add ((x7_2).toNat * 2)).block, (ad104.add ((x7_2).toNat * 2)).off + 1, none⟩ = some (.int .i64 ((rd_T29 l1 x7_2).f1))) (ds := []) #[false, false, false, false, false, false, false, false, false, false, false, false, false, false, false, false, false] (by kernel_rfl) rfl rfl ⟨(hc HB hw101_0), (hc HB hw101_1), (hc HB hw104_0), (hc HB hw104_1)⟩ (fun hHeld => ?_); refine with_tabW cracknelref04_parts.tab8 cracknelref04_parts.bits8 (fun HT_ HW_ => ?_)
           generalize wr.drew = w11 at HB hx101_0 hx101_1 hx104_0 hx104_1 hHeld ⊢
           refine pu 0 20 HT_ ?_
           refine pu 1 21 HT_ ?_
           refine pu 2 22 HT_ ?_
           refine pu 3 23 HT_ ?_
           refine pu 4 24 HT_ ?_
           refine pu 6 26 HT_ ?_
           refine pu 7 27 HT_ ?_
           refine pu 9 29 HT_ ?_
           refine pu 10 30 HT_ ?_
           refine pu 11 31 HT_ ?_
           refine tk4 5 25 hHeld HT_ HW_ ?_
           refine tk4 12 32 hHeld HT_ HW_ ?_
           refine one_ (i := 8) (N := some 28) #[true, true, true, true, true, true, true, true, true, true, true, true, true, false, false, false, false] rfl rfl (on1 HT_) (by decide) (fun K hK => ?_)
           refine goes_ Try.func64 (by kernel_rfl) rfl #[.slice (some ad101) l0.length c0, .int .i64 x5_1] (by rfl) rfl rfl sg ?_
           with_reducible refine (cracknelref04_next.calls _ _ l0 x5_1 t102 t103 _ ?side1 ?side2 A8.out).mono ?_
           (case side1 => exact cs (Kd.C_below HR0.out HB.out))
           (case side2 => exact HC0.out)
           rintro e w12 ⟨rfl, hb⟩
           refine ⟨_, rfl, ?_⟩
           replace HB := Aside0.mk (below_step bh hb)
           (try clear hb); (try clear hb2); (try clear hk); (try clear hi)
           refine hK.out _ _ ⟨(hc HB hw101_0), (hc HB hw101_1), (hc HB hw104_0), (hc HB hw104_1)⟩ (fun hHeld => ?_)
           clear hK K
           refine nm 28 ?_
           refine one_ (i := 13) (N := some 33) #[true, true, true, true, true, true, true, true, true, true, true, true, true, true, false, false, false] rfl rfl (on1 HT_) (by decide) (fun K hK => ?_)
           refine goes_ Try.func61 (by kernel_rfl) rfl #[.agg #[.int .i64 ((rd_T29 l0 x5_1).f0), .int .i64 ((rd_T29 l0 x5_1).f1)], .agg #[.int .i64 t102, .int .i64 t103], .agg #[.int .i64 ((rd_T29 l1 x7_2).f0), .int .i64 ((rd_T29 l1 x7_2).f1)]] (by rfl) rfl rfl sg ?_
           with_reducible refine (cracknelref04_Cross.calls ((rd_T29 l0 x5_1).f0) ((rd_T29 l0 x5_1).f1) t102 t103 ((rd_T29 l1 x7_2).f0) ((rd_T29 l1 x7_2).f1) t105 _ A10.out).mono ?_
           rintro e w13 ⟨rfl, hb⟩
           refine ⟨_, rfl, ?_⟩
           replace HB := Aside0.mk (below_step bh hb)
           (try clear hb); (try clear hb2); (try clear hk); (try clear hi)
           refine hK.out _ _ ⟨(hc HB hw101_0), (hc HB hw101_1), (hc HB hw104_0), (hc HB hw104_1)⟩ (fun hHeld => ?_)
           clear hK K
           refine nm 33 ?_
           refine pu 14 34 HT_ ?_
           refine pu 15 35 HT_ ?_
           refine pu 16 6 HT_ ?_
           refine done_ (done_of HT_.out (by kernel_rfl)) ?_
           try go_wp2
           go_roundg k2
           case measure => have := HK1.out; have := HK2.out; omega
           case rel => exact ⟨(decide (t105 ≤ 0)), (wrap64 (x7_2 + 1)), sd, sd, H', ⟨by have := HK1.out; have := HK2.out; omega⟩, ⟨bh⟩⟩
          ·rw [if_neg c9] at H
           exact absurd H (by simp)
         ·rw [if_neg c7] at H
          exact absurd H (by simp)
        ·rw [if_neg c6] at H
         exact absurd H (by simp)
       ·replace c5 := Bool.eq_false_iff.mpr c5
        subst c5
        rw [if_neg (show ¬ (false = true) by decide)] at H
        have H' := Aside0.mk H
        clear H
        try go_wp2
        replace HB := Aside0.mk (below_drew1 HB.out)
        refine start_ (n := 17) (S := fun w' => True) (ds := []) #[false, false, false, false, false, false, false, false, false, false, false, false, false, false, false, false, false] (by kernel_rfl) rfl rfl trivial (fun hHeld => ?_); refine with_tabW cracknelref04_parts.tab8 cracknelref04_parts.bits8 (fun HT_ HW_ => ?_)
        generalize wr.drew = w14 at HB hHeld ⊢
        refine pu 0 20 HT_ ?_
        refine pu 1 21 HT_ ?_
        refine pz 2 22 HT_ ?_
        refine pz 3 23 HT_ ?_
        refine pz 4 24 HT_ ?_
        refine pz 5 25 HT_ ?_
        refine pz 6 26 HT_ ?_
        refine pz 7 27 HT_ ?_
        refine pz 8 28 HT_ ?_
        refine pz 9 29 HT_ ?_
        refine pz 10 30 HT_ ?_
        refine pz 11 31 HT_ ?_
        refine pz 12 32 HT_ ?_
        refine pz 13 33 HT_ ?_
        refine pz 14 34 HT_ ?_
        refine pu 15 35 HT_ ?_
        refine pu 16 6 HT_ ?_
        refine done_ (done_of HT_.out (by kernel_rfl)) ?_
        try go_wp2
        go_roundg k2
        case measure => have := HK1.out; have := HK2.out; omega
        case rel => exact ⟨(false), (wrap64 (x7_2 + 1)), sd, sd, H', ⟨by have := HK1.out; have := HK2.out; omega⟩, ⟨bh⟩⟩
      ·rw [if_neg c4] at H
       have c4b0 : decide (x7_2 < (l1.length : Int)) = false := decide_eq_false c4
       clear c4
       by_cases c15 : x6_2 = true
       ·subst c15
        rw [if_pos rfl] at H
        obtain rfl := Option.some.inj H
        go_wp2
        go_ret
        exact ⟨by exact er, bh⟩
       ·replace c15 := Bool.eq_false_iff.mpr c15
        subst c15
        rw [if_neg (show ¬ (false = true) by decide)] at H
        have H' := Aside0.mk H
        clear H
        go_wp2
        go_roundg k2
        case measure => have := HK1.out; have := HK2.out; omega
        case rel => exact ⟨(wrap64 (x5_1 + 1)), sd, H', ⟨by have := HK1.out; have := HK2.out; omega⟩, ⟨bh⟩⟩
   ·rw [if_neg c3] at H
    have c3b0 : decide (x5_1 < (l0.length : Int)) = false := decide_eq_false c3
    clear c3
    obtain rfl := Option.some.inj H
    go_wp2
    go_ret
    exact ⟨by exact er, bh⟩
end Go.Proofs.Ytoffmpkgickfhaa.PG
end
section
namespace Go.Proofs.Ytoffmpkgickfhaa.PG
open Go.RowKit Go.Proofs.YtoffmpkgickfhaaW.PrintWords Go.Proofs.YtoffmpkgickfhaaW.PrintLast Go.Proofs.YtoffmpkgickfhaaW.PrintMore
attribute [local go_sem] max2_int min2_int max_two min_two max_three min_three max_four min_four
set_option linter.unusedVariables false
set_option linter.unusedSimpArgs false
/-! ### cracknelref04_Apart: function 37 -/
def cracknelref04_Apart.f (k : Nat) (l0 : List (S29)) (l1 : List (S29)) : Option (Bool) := (cracknelref04_parts.f k l0 l1).bind fun t101 => (if t101 = true then (some true) else ((cracknelref04_parts.f k l1 l0).bind fun t102 => (some t102)))
theorem cracknelref04_Apart.mono : ∀ a0 a1 k, LeO (cracknelref04_Apart.f k a0 a1) (cracknelref04_Apart.f (k + 1) a0 a1) := by
 intro a0 a1 k
 unfold cracknelref04_Apart.f
 repeat' first
  | (with_reducible exact cracknelref04_parts.mono _ _ _)
  | (with_reducible exact LeO.refl _)
  | (with_reducible exact LeO.none _)
  | (with_reducible refine LeO.ite ?_ ?_)
  | (with_reducible refine LeO.bind ?_ (fun _ => ?_))
  | exact cracknelref04_parts.mono _ _ _
  | exact LeO.none _
  | refine LeO.ite ?_ ?_
  | refine LeO.bind ?_ (fun _ => ?_)
set_option maxHeartbeats 8000000 in
set_option maxRecDepth 100000 in
theorem cracknelref04_Apart.calls (k : Nat) (A0 : Option Addr) (c0 : Nat) (l0 : List (S29)) (A1 : Option Addr) (c1 : Nat) (l1 : List (S29)) (r : Bool) (w : World) (hr0 : Kd.C k29 w A0 l0.length l0) (hc0 : l0.length ≤ c0) (hr1 : Kd.C k29 w A1 l1.length l1) (hc1 : l1.length ≤ c1) (h : cracknelref04_Apart.f k l0 l1 = some r) :
  Calls Try.prog 37 #[.slice A0 l0.length c0, .slice A1 l1.length c1] w fun e w' => e = .returned (.bool r) ∧ Below w.heap.size w w' := by
 have HR0 := Aside0.mk hr0
 have HC0 := Aside0.mk hc0
 clear hr0 hc0
 have HR1 := Aside0.mk hr1
 have HC1 := Aside0.mk hc1
 clear hr1 hc1
 have HB := Aside0.mk (Below.refl w.heap.size w)
 have H : ((cracknelref04_parts.f k l0 l1).bind fun t101 => (if t101 = true then (some true) else ((cracknelref04_parts.f k l1 l0).bind fun t102 => (some t102)))) = some r := h
 clear h
 replace H := Option.bind_eq_some_iff.mp H
 obtain ⟨t101, A30, H⟩ := H
 replace H : (if t101 = true then (some true) else ((cracknelref04_parts.f k l1 l0).bind fun t102 => (some t102))) = some r := H
 have A3 := Aside0.mk A30
 clear A30
 by_cases c4 : t101 = true
 ·subst c4
  rw [if_pos rfl] at H
  obtain rfl := Option.some.inj H
  go_enter Try.func37, Try.ntmps37
  go_wp2_with (first | ((with_reducible refine gate_callee (f := 76) rfl ?_); refine goesL_ (some 7) rfl rfl Try.func76 (by kernel_rfl) rfl #[.slice A0 l0.length c0, .slice A1 l1.length c1] rfl sg ?_; (with_reducible refine (cracknelref04_parts.calls k _ _ l0 _ _ l1 true _ ?side1 ?side2 ?side3 ?side4 A3.out).mono ?_); (case side1 => repeat (first | exact HR0.out | (with_reducible refine Kd.C_alloc ?_ _) | (with_reducible refine Kd.C_drewN ?_ _) | (with_reducible refine Kd.C_drew ?_))); (case side2 => exact HC0.out); (case side3 => repeat (first | exact HR1.out | (with_reducible refine Kd.C_alloc ?_ _) | (with_reducible refine Kd.C_drewN ?_ _) | (with_reducible refine Kd.C_drew ?_))); (case side4 => exact HC1.out); rintro e w5 ⟨rfl, hb⟩; refine ⟨_, rfl, ?_⟩; have n0_ := Aside0.mk (below_step bh hb); clear HB; have HB := n0_; clear n0_; (try clear hb); (try clear hb2); (try clear hk); (try clear hi)))
  go_ret
  exact ⟨by exact er, bh⟩
 ·replace c4 := Bool.eq_false_iff.mpr c4
  subst c4
  rw [if_neg (show ¬ (false = true) by decide)] at H
  replace H := Option.bind_eq_some_iff.mp H
  obtain ⟨t102, A60, H⟩ := H
  replace H : (some t102) = some r := H
  have A6 := Aside0.mk A60
  clear A60
  obtain rfl := Option.some.inj H
  go_enter Try.func37, Try.ntmps37
  go_wp2_with (first | ((with_reducible refine gate_callee (f := 76) rfl ?_); refine goesL_ (some 7) rfl rfl Try.func76 (by kernel_rfl) rfl #[.slice A0 l0.length c0, .slice A1 l1.length c1] rfl sg ?_; (with_reducible refine (cracknelref04_parts.calls k _ _ l0 _ _ l1 false _ ?side1 ?side2 ?side3 ?side4 A3.out).mono ?_); (case side1 => repeat (first | exact HR0.out | (with_reducible refine Kd.C_alloc ?_ _) | (with_reducible refine Kd.C_drewN ?_ _) | (with_reducible refine Kd.C_drew ?_))); (case side2 => exact HC0.out); (case side3 => repeat (first | exact HR1.out | (with_reducible refine Kd.C_alloc ?_ _) | (with_reducible refine Kd.C_drewN ?_ _) | (with_reducible refine Kd.C_drew ?_))); (case side4 => exact HC1.out); rintro e w7 ⟨rfl, hb⟩; refine ⟨_, rfl, ?_⟩; have n0_ := Aside0.mk (below_step bh hb); clear HB; have HB := n0_; clear n0_; (try clear hb); (try clear hb2); (try clear hk); (try clear hi)) | (go_at_call 76; (with_reducible refine (cracknelref04_parts.calls k _ _ l1 _ _ l0 t102 _ ?side1 ?side2 ?side3 ?side4 A6.out).mono ?_); (case side1 => exact cs (Kd.C_below HR1.out HB.out)); (case side2 => exact HC1.out); (case side3 => exact cs (Kd.C_below HR0.out HB.out)); (case side4 => exact HC0.out); rintro e w8 ⟨rfl, hb⟩; have n0_ := Aside0.mk (below_step bh hb); clear HB; have HB := n0_; clear n0_; (try clear hb); (try clear hb2); (try clear hk); (try clear hi)))
  go_ret
  exact ⟨by exact er, bh⟩
end Go.Proofs.Ytoffmpkgickfhaa.PG
end
section
namespace Go.Proofs.Ytoffmpkgickfhaa.PG
open Go.RowKit Go.Proofs.YtoffmpkgickfhaaW.PrintWords Go.Proofs.YtoffmpkgickfhaaW.PrintLast Go.Proofs.YtoffmpkgickfhaaW.PrintMore
/-- is p to the left of the line from (x0, x1) to (y0, y1), as the code reckons -/
def leftOf (x0 x1 y0 y1 : Int) (p : S29) : Bool := decide (((shape_side.f x0 x1 y0 y1 p.f0 p.f1).getD 0) > 0)
set_option maxHeartbeats 2000000 in
set_option maxRecDepth 100000 in
theorem left_1 (x0 x1 y0 y1 : Int) (g1 g2 : Nat) (W : World) (p : S29) (h1 : W.heap[g1]? = some (.cells #[.int .i64 x0, .int .i64 x1] 29 (0, 0))) (h2 : W.heap[g2]? = some (.cells #[.int .i64 y0, .int .i64 y1] 29 (0, 0))) :
  Calls Try.prog 120 #[.agg #[.int .i64 p.f0, .int .i64 p.f1], .pointer (some ⟨g1, 0, none⟩), .pointer (some ⟨g2, 0, none⟩)] W fun e w' => e = .returned (.bool (leftOf x0 x1 y0 y1 p)) ∧ Below W.heap.size W w' := by
 have hu29 := Try.underlying29
 have n1 : g1 ≠ W.heap.size := Nat.ne_of_lt (blk_lt h1)
 have n2 : g2 ≠ W.heap.size := Nat.ne_of_lt (blk_lt h2)
 have a0 : W.cell? ⟨g1, 0, none⟩ = some (.int .i64 x0) := (blk_cell h1 0).trans rfl
 have a1 : W.cell? ⟨g1, 1, none⟩ = some (.int .i64 x1) := (blk_cell h1 1).trans rfl
 have b0 : W.cell? ⟨g2, 0, none⟩ = some (.int .i64 y0) := (blk_cell h2 0).trans rfl
 have b1 : W.cell? ⟨g2, 1, none⟩ = some (.int .i64 y1) := (blk_cell h2 1).trans rfl
 clear h1 h2
 unfold leftOf
 have hs : shape_side.f x0 x1 y0 y1 p.f0 p.f1 = some ((shape_side.f x0 x1 y0 y1 p.f0 p.f1).getD 0) := by unfold shape_side.f shape_sub.f shape_cross.f; rfl
 generalize (shape_side.f x0 x1 y0 y1 p.f0 p.f1).getD 0 = s at hs ⊢
 have HS := Aside0.mk hs
 clear hs
 generalize p.f0 = q0 at HS ⊢
 generalize p.f1 = q1 at HS ⊢
 have hB := below_alloc (Below.refl W.heap.size W) (.cells #[.int .i64 q0, .int .i64 q1] 29)
 replace a0 := (hB.cell (World.block_lt_of_cell? W _ a0)).trans a0
 replace a1 := (hB.cell (World.block_lt_of_cell? W _ a1)).trans a1
 replace b0 := (hB.cell (World.block_lt_of_cell? W _ b0)).trans b0
 replace b1 := (hB.cell (World.block_lt_of_cell? W _ b1)).trans b1
 clear hB
 go_enter Try.func120, Try.ntmps120
 go_wp2_with (go_at_call 91; refine (shape_side.calls x0 x1 y0 y1 q0 q1 s _ HS.out).mono ?_; rintro e w' ⟨rfl, hb'⟩)
 go_ret
 exact ⟨rfl, ((Below.refl _ W).alloc (Nat.le_refl _) _).trans (hb'.mono (by simp))⟩
def left_any.f (l0 : List (S29)) (x0 x1 y0 y1 : Int) : Option (Bool) := some (l0.any (leftOf x0 x1 y0 y1))
theorem left_any.calls (A0 : Option Addr) (c0 : Nat) (l0 : List (S29)) (x0 x1 y0 y1 : Int) (g1 g2 : Nat) (r : Bool) (w : World) (h1 : w.heap[g1]? = some (.cells #[.int .i64 x0, .int .i64 x1] 29 (0, 0))) (h2 : w.heap[g2]? = some (.cells #[.int .i64 y0, .int .i64 y1] 29 (0, 0)))
  (hr0 : Kd.C k29 w A0 l0.length l0) (_hc0 : l0.length ≤ c0) (h : left_any.f l0 x0 x1 y0 y1 = some r) :
  Calls Try.prog 86 #[.slice A0 l0.length c0, .func (.func 120) #[] #[.pointer (some ⟨g1, 0, none⟩), .pointer (some ⟨g2, 0, none⟩)]] w fun e w' => e = .returned (.bool r) ∧ Below w.heap.size w w' := by
 obtain rfl := Option.some.inj h
 exact ContainsFunc_any 120 #[.pointer (some ⟨g1, 0, none⟩), .pointer (some ⟨g2, 0, none⟩)] (leftOf x0 x1 y0 y1) (enters_of Try.func120 (by kernel_rfl) rfl) A0 c0 l0 w hr0
  (fun W x hb => (left_1 x0 x1 y0 y1 g1 g2 W x (blk_below h1 hb) (blk_below h2 hb)).mono fun e w' ⟨he, hb'⟩ => ⟨he, hb.trans (hb'.mono hb.size)⟩)
end Go.Proofs.Ytoffmpkgickfhaa.PG
end
section
namespace Go.Proofs.Ytoffmpkgickfhaa.PG
open Go.RowKit Go.Proofs.YtoffmpkgickfhaaW.PrintWords Go.Proofs.YtoffmpkgickfhaaW.PrintLast Go.Proofs.YtoffmpkgickfhaaW.PrintMore
attribute [local go_sem] max2_int min2_int max_two min_two max_three min_three max_four min_four
set_option linter.unusedVariables false
set_option linter.unusedSimpArgs false
/-! ### shape_parted: function 101 -/
def shape_parted.l0 : Nat → List (S29) → List (S29) → Int → Int → Option (Bool)
 | 0, _, _, _, _ => none
 | k + 1, x0, x1, x9, x10 => if x10 < x9 then (if 0 ≤ x10 then (if x10 < (x0.length : Int) then (if (x0.length : Int) = 0 then (none) else (if 0 ≤ (Int.tmod (wrap64 (x10 + 1)) (x0.length : Int)) then (if (Int.tmod (wrap64 (x10 + 1)) (x0.length : Int)) < (x0.length : Int) then ((left_any.f x1 ((rd_T29 x0 x10).f0) ((rd_T29 x0 x10).f1) ((rd_T29 x0 (Int.tmod (wrap64 (x10 + 1)) (x0.length : Int))).f0) ((rd_T29 x0 (Int.tmod (wrap64 (x10 + 1)) (x0.length : Int))).f1)).bind fun t105 => (if t105 = true then (shape_parted.l0 k x0 x1 x9 (wrap64 (x10 + 1))) else (some true))) else (none)) else (none))) else (none)) else (none)) else (some false)
def shape_parted.f (k : Nat) (l0 : List (S29)) (l1 : List (S29)) : Option (Bool) := shape_parted.l0 k l0 l1 (l0.length : Int) 0
theorem shape_parted.mono_l : ∀ k, (∀ y0 y1 y2 y3, LeO (shape_parted.l0 k y0 y1 y2 y3) (shape_parted.l0 (k + 1) y0 y1 y2 y3))
 | 0 => fun _ _ _ _ r h => by simp [shape_parted.l0] at h
 | k + 1 => by
  have ih0 := shape_parted.mono_l k
  ·intro y0 y1 y2 y3
   unfold shape_parted.l0
   repeat' first
   | (with_reducible exact ih0 _ _ _ _)
   | (with_reducible exact LeO.refl _)
   | (with_reducible exact LeO.none _)
   | (with_reducible refine LeO.ite ?_ ?_)
   | (with_reducible refine LeO.bind ?_ (fun _ => ?_))
   | exact ih0 _ _ _ _
   | exact LeO.none _
   | refine LeO.ite ?_ ?_
   | refine LeO.bind ?_ (fun _ => ?_)
theorem shape_parted.mono : ∀ a0 a1 k, LeO (shape_parted.f k a0 a1) (shape_parted.f (k + 1) a0 a1) := by
 intro a0 a1 k
 have ih0 := shape_parted.mono_l k
 unfold shape_parted.f
 repeat' first
  | (with_reducible exact ih0 _ _ _ _)
  | (with_reducible exact LeO.refl _)
  | (with_reducible exact LeO.none _)
  | (with_reducible refine LeO.ite ?_ ?_)
  | (with_reducible refine LeO.bind ?_ (fun _ => ?_))
  | exact ih0 _ _ _ _
  | exact LeO.none _
  | refine LeO.ite ?_ ?_
  | refine LeO.bind ?_ (fun _ => ?_)
def shape_parted.T4 : Bool × List (List Nat × List Nat) := (true, [([], []), ([], []), ([0, 1], [0, 1]), ([2], [2]), ([], []), ([], []), ([5], [5]), ([], []), ([7], [7]), ([6, 8], [6, 8]), ([4, 9], [4, 9]), ([10], [10]), ([], []), ([], []), ([12, 3, 0, 1, 2, 3, 12, 13], [3, 12]), ([13, 11, 14, 0, 1, 2, 3, 4, 5, 6, 7, 8, 9, 10, 11, 12, 13, 14], [11, 13])])
def shape_parted.B4 : List Nat := [0, 0, 3, 7, 0, 0, 32, 0, 128, 480, 1008, 2032, 0, 0, 12303, 32767]
theorem shape_parted.tab4 : rtab .any (opsOf Try.f101 4) = shape_parted.T4 := by kernel_rfl
theorem shape_parted.bits4 : waitsOk shape_parted.T4.2 shape_parted.B4 = true := by kernel_rfl
set_option maxHeartbeats 8000000 in
set_option maxRecDepth 100000 in
theorem shape_parted.calls (k : Nat) (A0 : Option Addr) (c0 : Nat) (l0 : List (S29)) (A1 : Option Addr) (c1 : Nat) (l1 : List (S29)) (r : Bool) (w : World) (hr0 : Kd.C k29 w A0 l0.length l0) (hc0 : l0.length ≤ c0) (hr1 : Kd.C k29 w A1 l1.length l1) (hc1 : l1.length ≤ c1) (h : shape_parted.f k l0 l1 = some r) :
  Calls Try.prog 101 #[.slice A0 l0.length c0, .slice A1 l1.length c1] w fun e w' => e = .returned (.bool r) ∧ Below w.heap.size w w' := by
 have hu29 := Try.underlying29
 have HR0 := Aside0.mk hr0
 have HC0 := Aside0.mk hc0
 clear hr0 hc0
 have HR1 := Aside0.mk hr1
 have HC1 := Aside0.mk hc1
 clear hr1 hc1
 have HB := Aside0.mk (Below.refl w.heap.size w)
 have H : (shape_parted.l0 k l0 l1 (l0.length : Int) 0) = some r := h
 clear h
 have H' := Aside0.mk H
 clear H
 go_enter Try.func101, Try.ntmps101
 go_wp2
 go_loopg [10] k (fun kq v10 w' => ∃ (x10_1 : Int), v10 = .int .i64 x10_1 ∧ Aside0 (shape_parted.l0 kq l0 l1 (l0.length : Int) x10_1 = some r) ∧ Aside0 (kq ≤ k) ∧ Aside0 (Below w.heap.size w w'))
 case atStart => exact ⟨(0), sd, H', ⟨Nat.le_refl _⟩, ⟨bh⟩⟩
 case round =>
  clear H'
  try clear c1
  try clear p2
  obtain ⟨x10_1, rfl, HA, HK1, HB⟩ := hrel
  cases gk with
  | zero => exact absurd HA.out (by simp [shape_parted.l0])
  | succ k1 =>
   have H := HA.out
   clear HA
   simp only [shape_parted.l0] at H
   by_cases c3 : x10_1 < (l0.length : Int)
   ·rw [if_pos c3] at H
    have c3b0 : decide (x10_1 < (l0.length : Int)) = true := decide_eq_true c3
    clear c3
    by_cases c4 : 0 ≤ x10_1
    ·rw [if_pos c4] at H
     have c4b0 : decide (0 ≤ x10_1) = true := decide_eq_true c4
     clear c4
     by_cases c5 : x10_1 < (l0.length : Int)
     ·rw [if_pos c5] at H
      have c5b0 : decide (x10_1 < (l0.length : Int)) = true := decide_eq_true c5
      clear c5
      by_cases c6 : (l0.length : Int) = 0
      ·rw [if_pos c6] at H
       exact absurd H (by simp)
      ·rw [if_neg c6] at H
       have c6b0 : ((l0.length : Int) == 0) = false := beq_eq_false_iff_ne.mpr c6
       have c6b1 : ((l0.length : Int) != 0) = true := bne_iff_ne.mpr c6
       have c6b2 : ¬ (l0 = []) := fun h_ => c6 (by rw [h_]; rfl)
       obtain ⟨ji7, hji7⟩ : ∃ j_ : Int, (Int.tmod (wrap64 (x10_1 + 1)) (l0.length : Int)) = j_ := ⟨_, rfl⟩
       replace H : (if 0 ≤ (ji7) then (if (ji7) < (l0.length : Int) then ((left_any.f l1 ((rd_T29 l0 x10_1).f0) ((rd_T29 l0 x10_1).f1) ((rd_T29 l0 (ji7)).f0) ((rd_T29 l0 (ji7)).f1)).bind fun t105 => (if t105 = true then (shape_parted.l0 k1 l0 l1 (l0.length : Int) (wrap64 (x10_1 + 1))) else (some true))) else (none)) else (none)) = some r := by first | (rw [hji7] at H; exact H) | (simp only [hji7] at H ⊢; exact H)
       by_cases c8 : 0 ≤ (ji7)
       ·rw [if_pos c8] at H
        have c8b0 : decide (0 ≤ (ji7)) = true := decide_eq_true c8
        clear c8
        by_cases c9 : (ji7) < (l0.length : Int)
        ·rw [if_pos c9] at H
         have c9b0 : decide ((ji7) < (l0.length : Int)) = true := decide_eq_true c9
         clear c9
         replace H := Option.bind_eq_some_iff.mp H
         obtain ⟨t105, A100, H⟩ := H
         replace H : (if t105 = true then (shape_parted.l0 k1 l0 l1 (l0.length : Int) (wrap64 (x10_1 + 1))) else (some true)) = some r := H
         have A10 := Aside0.mk A100
         clear A100
         by_cases c11 : t105 = true
         ·subst c11
          rw [if_pos rfl] at H
          have H' := Aside0.mk H
          clear H
          try go_wp2
          replace HB := Aside0.mk (below_drew1 HB.out)
          have p101 : 0 ≤ (x10_1 : Int) := dt
          have q101 : x10_1 < (l0.length : Int) := dt
          obtain ⟨ad101, e101, hx101_0, hx101_1⟩ := at_T29 HR0.out x10_1 p101 q101
          have hw101_1 := hx101_1
          have hw101_0 := hx101_0
          cases e101
          replace hx101_0 := hc HB hx101_0
          replace hx101_1 := hc HB hx101_1
          replace p101 := eq_true p101
          replace q101 := eq_true q101
          have p102 : 0 ≤ ((ji7) : Int) := dt
          have q102 : (ji7) < (l0.length : Int) := dt
          obtain ⟨ad102, e102, hx102_0, hx102_1⟩ := at_T29 HR0.out (ji7) p102 q102
          have hw102_1 := hx102_1
          have hw102_0 := hx102_0
          obtain rfl : ad101 = ad102 := (by injection e102)
          replace hx102_0 := hc HB hx102_0
          replace hx102_1 := hc HB hx102_1
          replace p102 := eq_true p102
          replace q102 := eq_true q102
          refine start_ (n := 16) (S := fun w' => w'.cell? (ad101.add ((x10_1).toNat * 2)) = some (.int .i64 ((rd_T29 l0 x10_1).f0)) ∧ w'.cell? ⟨(ad101.add ((x10_1).toNat * 2)).block, (ad101.add ((x10_1).toNat * 2)).off + 1, none⟩ = some (.int .i64 ((rd_T29 l0 x10_1).f1)) ∧ w'.cell? (ad101.add (((ji7)).toNat * 2)) = some (.int .i64 ((rd_T29 l0 (ji7)).f0)) ∧ w'.cell? ⟨(ad101.add (((ji7)).toNat * 2)).block, (ad101.add (((ji7)).toNat * 2)).off + 1, none⟩ = some (.int .i64 ((rd_T29 l0 (ji7)).f1))) (ds := []) #[false, false, false, false, false, false, false, false, false, false, false, false, false, false, false, false] (by kernel_rfl) rfl rfl ⟨(hc HB hw101_0), (hc HB hw101_1), (hc HB hw102_0), (hc HB hw102_1)⟩ (fun hHeld => ?_); refine with_tabW shape_parted.tab4 shape_parted.bits4 (fun HT_ HW_ => ?_)
          generalize wr.drew = w12 at HB hx101_0 hx101_1 hx102_0 hx102_1 hHeld ⊢
          refine pu 0 13 HT_ ?_
          refine pu 1 14 HT_ ?_
          refine pu 2 15 HT_ ?_
          refine pu 4 17 HT_ ?_
          refine pu 5 18 HT_ ?_
          refine pu 6 19 HT_ ?_
          refine pu 7 20 HT_ ?_
          refine pu 8 21 HT_ ?_
          refine pu 9 22 HT_ ?_
          refine pu 10 23 HT_ ?_
          refine tk4 3 16 hHeld HT_ HW_ ?_
          refine tk4 11 24 hHeld HT_ HW_ ?_
          refine join_ (σ := Nat × Nat) 2 #[true, true, true, true, true, true, true, true, true, true, true, true, true, true, false, false] (fun s_ => [(6, .pointer (some ⟨s_.1, 0, none⟩)), (7, .pointer (some ⟨s_.2, 0, none⟩))]) (fun s_ w' => (w'.cell? (ad101.add ((x10_1).toNat * 2)) = some (.int .i64 ((rd_T29 l0 x10_1).f0)) ∧ w'.cell? ⟨(ad101.add ((x10_1).toNat * 2)).block, (ad101.add ((x10_1).toNat * 2)).off + 1, none⟩ = some (.int .i64 ((rd_T29 l0 x10_1).f1)) ∧ w'.cell? (ad101.add (((ji7)).toNat * 2)) = some (.int .i64 ((rd_T29 l0 (ji7)).f0)) ∧ w'.cell? ⟨(ad101.add (((ji7)).toNat * 2)).block, (ad101.add (((ji7)).toNat * 2)).off + 1, none⟩ = some (.int .i64 ((rd_T29 l0 (ji7)).f1))) ∧ (w'.heap[s_.1]? = some (.cells #[.int .i64 0, .int .i64 0] 29 (0, 0))) ∧ (w'.heap[s_.2]? = some (.cells #[.int .i64 0, .int .i64 0] 29 (0, 0))) ∧ (w.heap.size ≤ s_.1) ∧ (w.heap.size ≤ s_.1) ∧ (s_.2 ≠ s_.1) ∧ (s_.1 ≠ s_.2) ∧ (w.heap.size ≤ s_.2) ∧ (w.heap.size ≤ s_.2) ∧ (Below w.heap.size w w')) ?_ ?_
          rotate_left
          ·intro hCont
           refine two_ (i := 12) (j := 13) (Ni := some 6) (Nj := some 7) #[true, true, true, true, true, true, true, true, true, true, true, true, true, false, false, false] #[true, true, true, true, true, true, true, true, true, true, true, true, false, true, false, false] rfl rfl rfl rfl (on2 HT_) (by decide) (by decide) (fun K hK => ?_) (fun K hK => ?_)
           ·skip
            refine bxs 6 #[.int .i64 0, .int .i64 0] 29 ?_
            intro gb103 hg w13 hbox hb
            have BK103 := Aside0.mk (hbox)
            have GW103 := Aside0.mk (gs hg : w.heap.size ≤ gb103)
            have GE103 := Aside0.mk (gs hg : w.heap.size ≤ gb103)
            replace HB := Aside0.mk (below_step bh hb)
            clear hb hbox hg
            refine hK.out _ _ ⟨(hc HB hw101_0), (hc HB hw101_1), (hc HB hw102_0), (hc HB hw102_1)⟩ (fun hHeld => ?_)
            clear hK K
            refine nm 6 ?_
            refine one_ (i := 13) (N := some 7) #[true, true, true, true, true, true, true, true, true, true, true, true, true, true, false, false] rfl rfl (on1 HT_) (by decide) (fun K hK => ?_)
            refine bxs 7 #[.int .i64 0, .int .i64 0] 29 ?_
            intro gb104 hg w14 hbox hb
            have BK104 := Aside0.mk (hbox)
            have GW104 := Aside0.mk (gs hg : w.heap.size ≤ gb104)
            have GE104 := Aside0.mk (gs hg : w.heap.size ≤ gb104)
            have NB103_104 := Aside0.mk ((by rw [hg]; exact Nat.ne_of_lt (kl BK103) : gb103 ≠ gb104))
            have NB104_103 := Aside0.mk ((by rw [hg]; exact Nat.ne_of_gt (kl BK103) : gb104 ≠ gb103))
            replace BK103 := kb BK103 hb
            replace HB := Aside0.mk (below_step bh hb)
            clear hb hbox hg
            refine hK.out _ _ ⟨(hc HB hw101_0), (hc HB hw101_1), (hc HB hw102_0), (hc HB hw102_1)⟩ (fun hHeld => ?_)
            clear hK K
            refine nm 7 ?_
            exact norm_ pa (hCont (gb103, gb104) _ ⟨hHeld, bk BK103, bk BK104, GW103.out, GE103.out, NB104_103.out, NB103_104.out, GW104.out, GE104.out, bh⟩)
           ·skip
            refine bxs 7 #[.int .i64 0, .int .i64 0] 29 ?_
            intro gb104 hg w13 hbox hb
            have BK104 := Aside0.mk (hbox)
            have GW104 := Aside0.mk (gs hg : w.heap.size ≤ gb104)
            have GE104 := Aside0.mk (gs hg : w.heap.size ≤ gb104)
            replace HB := Aside0.mk (below_step bh hb)
            clear hb hbox hg
            refine hK.out _ _ ⟨(hc HB hw101_0), (hc HB hw101_1), (hc HB hw102_0), (hc HB hw102_1)⟩ (fun hHeld => ?_)
            clear hK K
            refine nm 7 ?_
            refine one_ (i := 12) (N := some 6) #[true, true, true, true, true, true, true, true, true, true, true, true, true, true, false, false] rfl rfl (on1 HT_) (by decide) (fun K hK => ?_)
            refine bxs 6 #[.int .i64 0, .int .i64 0] 29 ?_
            intro gb103 hg w14 hbox hb
            have BK103 := Aside0.mk (hbox)
            have GW103 := Aside0.mk (gs hg : w.heap.size ≤ gb103)
            have GE103 := Aside0.mk (gs hg : w.heap.size ≤ gb103)
            have NB104_103 := Aside0.mk ((by rw [hg]; exact Nat.ne_of_lt (kl BK104) : gb104 ≠ gb103))
            have NB103_104 := Aside0.mk ((by rw [hg]; exact Nat.ne_of_gt (kl BK104) : gb103 ≠ gb104))
            replace BK104 := kb BK104 hb
            replace HB := Aside0.mk (below_step bh hb)
            clear hb hbox hg
            refine hK.out _ _ ⟨(hc HB hw101_0), (hc HB hw101_1), (hc HB hw102_0), (hc HB hw102_1)⟩ (fun hHeld => ?_)
            clear hK K
            refine nm 6 ?_
            exact norm_ pa (hCont (gb103, gb104) _ ⟨hHeld, bk BK103, bk BK104, GW103.out, GE103.out, NB104_103.out, NB103_104.out, GW104.out, GE104.out, bh⟩)
          rintro ⟨gb103, gb104⟩ w15 ⟨hS_, h0_, h1_, h2_, h3_, h4_, h5_, h6_, h7_, h8_⟩
          have BK103 := Aside0.mk h0_
          have BK104 := Aside0.mk h1_
          have GW103 := Aside0.mk h2_
          have GE103 := Aside0.mk h3_
          have NB104_103 := Aside0.mk h4_
          have NB103_104 := Aside0.mk h5_
          have GW104 := Aside0.mk h6_
          have GE104 := Aside0.mk h7_
          replace HB := Aside0.mk h8_
          clear h0_ h1_ h2_ h3_ h4_ h5_ h6_ h7_ h8_
          have hHeld := hS_
          refine nn ?_
          refine one_ (i := 14) (N := none) #[true, true, true, true, true, true, true, true, true, true, true, true, true, true, true, false] rfl rfl (on1 HT_) (by decide) (fun K hK => ?_)
          have hs16 : w15.cell? ⟨gb103, 0, none⟩ = some (.int .i64 0) := bc BK103 0
          have hfs16 := blk_frozen BK103.out 0
          have hns16_1 := NB104_103.out
          have hms16_1 := NB103_104.out
          have hs17 : w15.cell? ⟨gb103, 1, none⟩ = some (.int .i64 0) := bc BK103 1
          have hfs17 := blk_frozen BK103.out 1
          have hns17_1 := NB104_103.out
          have hms17_1 := NB103_104.out
          refine skip_ (w1 := ?_) (by rfl) rfl ?_ ?_
          rotate_left
          ·go_simp
           rfl
          refine hK.out _ _ ⟨((cell_far (p := ⟨gb103, _, none⟩) (fr hw101_0 GW103) _).trans (((cell_far (p := ⟨gb103, _, none⟩) (fr hw101_0 GW103) _).trans (hHeld.1)))), ((cell_far (p := ⟨gb103, _, none⟩) (fr hw101_1 GW103) _).trans (((cell_far (p := ⟨gb103, _, none⟩) (fr hw101_1 GW103) _).trans (hHeld.2.1)))), ((cell_far (p := ⟨gb103, _, none⟩) (fr hw102_0 GW103) _).trans (((cell_far (p := ⟨gb103, _, none⟩) (fr hw102_0 GW103) _).trans (hHeld.2.2.1)))), ((cell_far (p := ⟨gb103, _, none⟩) (fr hw102_1 GW103) _).trans (((cell_far (p := ⟨gb103, _, none⟩) (fr hw102_1 GW103) _).trans (hHeld.2.2.2))))⟩ (fun hHeld => ?_)
          clear hK K
          refine one_ (i := 15) (N := none) #[true, true, true, true, true, true, true, true, true, true, true, true, true, true, true, true] rfl rfl (on1 HT_) (by decide) (fun K hK => ?_)
          have hs18 : w15.cell? ⟨gb104, 0, none⟩ = some (.int .i64 0) := bc BK104 0
          have hfs18 := blk_frozen BK104.out 0
          have hns18_0 := NB103_104.out
          have hms18_0 := NB104_103.out
          have hs19 : w15.cell? ⟨gb104, 1, none⟩ = some (.int .i64 0) := bc BK104 1
          have hfs19 := blk_frozen BK104.out 1
          have hns19_0 := NB103_104.out
          have hms19_0 := NB104_103.out
          refine skip_ (w1 := ?_) (by rfl) rfl ?_ ?_
          rotate_left
          ·go_simp
           rfl
          refine hK.out _ _ ⟨((cell_far (p := ⟨gb104, _, none⟩) (fr hw101_0 GW104) _).trans (((cell_far (p := ⟨gb104, _, none⟩) (fr hw101_0 GW104) _).trans (hHeld.1)))), ((cell_far (p := ⟨gb104, _, none⟩) (fr hw101_1 GW104) _).trans (((cell_far (p := ⟨gb104, _, none⟩) (fr hw101_1 GW104) _).trans (hHeld.2.1)))), ((cell_far (p := ⟨gb104, _, none⟩) (fr hw102_0 GW104) _).trans (((cell_far (p := ⟨gb104, _, none⟩) (fr hw102_0 GW104) _).trans (hHeld.2.2.1)))), ((cell_far (p := ⟨gb104, _, none⟩) (fr hw102_1 GW104) _).trans (((cell_far (p := ⟨gb104, _, none⟩) (fr hw102_1 GW104) _).trans (hHeld.2.2.2))))⟩ (fun hHeld => ?_)
          clear hK K
          refine done_ (done_of HT_.out (by kernel_rfl)) ?_
          try go_wp2_with (first | ((with_reducible refine gate_callee (f := 86) rfl ?_); refine goesL_ (some 27) rfl rfl Try.func86 (by kernel_rfl) rfl #[.slice A1 l1.length c1, .func (.func 120) #[] #[.pointer (some ⟨gb103, 0, none⟩), .pointer (some ⟨gb104, 0, none⟩)]] rfl sg ?_; (with_reducible refine (left_any.calls _ _ l1 ((rd_T29 l0 x10_1).f0) ((rd_T29 l0 x10_1).f1) ((rd_T29 l0 (ji7)).f0) ((rd_T29 l0 (ji7)).f1) gb103 gb104 true _ (by (with_reducible repeat (first | refine blk_drewN ?_ _ | refine blk_drew ?_ | refine blk_alloc ?_ _)); refine blk_far ?_ NB103_104.out _; (with_reducible repeat (first | refine blk_drewN ?_ _ | refine blk_drew ?_ | refine blk_alloc ?_ _)); refine blk_far ?_ NB103_104.out _; (with_reducible repeat (first | refine blk_drewN ?_ _ | refine blk_drew ?_ | refine blk_alloc ?_ _)); refine blk_put (cs := #[.int .i64 ((rd_T29 l0 x10_1).f0), .int .i64 0]) ?_ 1 _ rfl; (with_reducible repeat (first | refine blk_drewN ?_ _ | refine blk_drew ?_ | refine blk_alloc ?_ _)); refine blk_put (cs := #[.int .i64 0, .int .i64 0]) ?_ 0 _ rfl; (with_reducible repeat (first | refine blk_drewN ?_ _ | refine blk_drew ?_ | refine blk_alloc ?_ _)); exact BK103.out) (by (with_reducible repeat (first | refine blk_drewN ?_ _ | refine blk_drew ?_ | refine blk_alloc ?_ _)); refine blk_put (cs := #[.int .i64 ((rd_T29 l0 (ji7)).f0), .int .i64 0]) ?_ 1 _ rfl; (with_reducible repeat (first | refine blk_drewN ?_ _ | refine blk_drew ?_ | refine blk_alloc ?_ _)); refine blk_put (cs := #[.int .i64 0, .int .i64 0]) ?_ 0 _ rfl; (with_reducible repeat (first | refine blk_drewN ?_ _ | refine blk_drew ?_ | refine blk_alloc ?_ _)); refine blk_far ?_ NB104_103.out _; (with_reducible repeat (first | refine blk_drewN ?_ _ | refine blk_drew ?_ | refine blk_alloc ?_ _)); refine blk_far ?_ NB104_103.out _; (with_reducible repeat (first | refine blk_drewN ?_ _ | refine blk_drew ?_ | refine blk_alloc ?_ _)); exact BK104.out) ?side1 ?side2 A10.out).mono ?_); (case side1 => exact Kd.C_below HR1.out bh); (case side2 => exact HC1.out); rintro e w20 ⟨rfl, hb⟩; refine ⟨_, rfl, ?_⟩; have n0_ := Aside0.mk (blk_below (g := gb103) (o := .cells #[.int .i64 ((rd_T29 l0 x10_1).f0), .int .i64 ((rd_T29 l0 x10_1).f1)] 29 (0, 0)) (by (with_reducible repeat (first | refine blk_drewN ?_ _ | refine blk_drew ?_ | refine blk_alloc ?_ _)); refine blk_far ?_ NB103_104.out _; (with_reducible repeat (first | refine blk_drewN ?_ _ | refine blk_drew ?_ | refine blk_alloc ?_ _)); refine blk_far ?_ NB103_104.out _; (with_reducible repeat (first | refine blk_drewN ?_ _ | refine blk_drew ?_ | refine blk_alloc ?_ _)); refine blk_put (cs := #[.int .i64 ((rd_T29 l0 x10_1).f0), .int .i64 0]) ?_ 1 _ rfl; (with_reducible repeat (first | refine blk_drewN ?_ _ | refine blk_drew ?_ | refine blk_alloc ?_ _)); refine blk_put (cs := #[.int .i64 0, .int .i64 0]) ?_ 0 _ rfl; (with_reducible repeat (first | refine blk_drewN ?_ _ | refine blk_drew ?_ | refine blk_alloc ?_ _)); exact BK103.out) hb); have n1_ := Aside0.mk (blk_below (g := gb104) (o := .cells #[.int .i64 ((rd_T29 l0 (ji7)).f0), .int .i64 ((rd_T29 l0 (ji7)).f1)] 29 (0, 0)) (by (with_reducible repeat (first | refine blk_drewN ?_ _ | refine blk_drew ?_ | refine blk_alloc ?_ _)); refine blk_put (cs := #[.int .i64 ((rd_T29 l0 (ji7)).f0), .int .i64 0]) ?_ 1 _ rfl; (with_reducible repeat (first | refine blk_drewN ?_ _ | refine blk_drew ?_ | refine blk_alloc ?_ _)); refine blk_put (cs := #[.int .i64 0, .int .i64 0]) ?_ 0 _ rfl; (with_reducible repeat (first | refine blk_drewN ?_ _ | refine blk_drew ?_ | refine blk_alloc ?_ _)); refine blk_far ?_ NB104_103.out _; (with_reducible repeat (first | refine blk_drewN ?_ _ | refine blk_drew ?_ | refine blk_alloc ?_ _)); refine blk_far ?_ NB104_103.out _; (with_reducible repeat (first | refine blk_drewN ?_ _ | refine blk_drew ?_ | refine blk_alloc ?_ _)); exact BK104.out) hb); have n2_ := Aside0.mk (below_step bh hb); clear BK103; clear BK104; clear HB; have BK103 := n0_; have BK104 := n1_; have HB := n2_; clear n0_ n1_ n2_; (try clear hb); (try clear hb2); (try clear hk); (try clear hi)))
          go_roundg k1
          case measure => have := HK1.out; omega
          case rel => exact ⟨(wrap64 (x10_1 + 1)), sd, H', ⟨by have := HK1.out; omega⟩, ⟨bh⟩⟩
         ·replace c11 := Bool.eq_false_iff.mpr c11
          subst c11
          rw [if_neg (show ¬ (false = true) by decide)] at H
          obtain rfl := Option.some.inj H
          try go_wp2
          replace HB := Aside0.mk (below_drew1 HB.out)
          have p101 : 0 ≤ (x10_1 : Int) := dt
          have q101 : x10_1 < (l0.length : Int) := dt
          obtain ⟨ad101, e101, hx101_0, hx101_1⟩ := at_T29 HR0.out x10_1 p101 q101
          have hw101_1 := hx101_1
          have hw101_0 := hx101_0
          cases e101
          replace hx101_0 := hc HB hx101_0
          replace hx101_1 := hc HB hx101_1
          replace p101 := eq_true p101
          replace q101 := eq_true q101
          have p102 : 0 ≤ ((ji7) : Int) := dt
          have q102 : (ji7) < (l0.length : Int) := dt
          obtain ⟨ad102, e102, hx102_0, hx102_1⟩ := at_T29 HR0.out (ji7) p102 q102
          have hw102_1 := hx102_1
          have hw102_0 := hx102_0
          obtain rfl : ad101 = ad102 := (by injection e102)
          replace hx102_0 := hc HB hx102_0
          replace hx102_1 := hc HB hx102_1
          replace p102 := eq_true p102
          replace q102 := eq_true q102
          refine start_ (n := 16) (S := fun w' => w'.cell? (ad101.add ((x10_1).toNat * 2)) = some (.int .i64 ((rd_T29 l0 x10_1).f0)) ∧ w'.cell? ⟨(ad101.add ((x10_1).toNat * 2)).block, (ad101.add ((x10_1).toNat * 2)).off + 1, none⟩ = some (.int .i64 ((rd_T29 l0 x10_1).f1)) ∧ w'.cell? (ad101.add (((ji7)).toNat * 2)) = some (.int .i64 ((rd_T29 l0 (ji7)).f0)) ∧ w'.cell? ⟨(ad101.add (((ji7)).toNat * 2)).block, (ad101.add (((ji7)).toNat * 2)).off + 1, none⟩ = some (.int .i64 ((rd_T29 l0 (ji7)).f1))) (ds := []) #[false, false, false, false, false, false, false, false, false, false, false, false, false, false, false, false] (by kernel_rfl) rfl rfl ⟨(hc HB hw101_0), (hc HB hw101_1), (hc HB hw102_0), (hc HB hw102_1)⟩ (fun hHeld => ?_); refine with_tabW shape_parted.tab4 shape_parted.bits4 (fun HT_ HW_ => ?_)
          generalize wr.drew = w21 at HB hx101_0 hx101_1 hx102_0 hx102_1 hHeld ⊢
          refine pu 0 13 HT_ ?_
          refine pu 1 14 HT_ ?_
          refine pu 2 15 HT_ ?_
          refine pu 4 17 HT_ ?_
          refine pu 5 18 HT_ ?_
          refine pu 6 19 HT_ ?_
          refine pu 7 20 HT_ ?_
          refine pu 8 21 HT_ ?_
          refine pu 9 22 HT_ ?_
          refine pu 10 23 HT_ ?_
          refine tk4 3 16 hHeld HT_ HW_ ?_
          refine tk4 11 24 hHeld HT_ HW_ ?_
          refine join_ (σ := Nat × Nat) 2 #[true, true, true, true, true, true, true, true, true, true, true, true, true, true, false, false] (fun s_ => [(6, .pointer (some ⟨s_.1, 0, none⟩)), (7, .pointer (some ⟨s_.2, 0, none⟩))]) (fun s_ w' => (w'.cell? (ad101.add ((x10_1).toNat * 2)) = some (.int .i64 ((rd_T29 l0 x10_1).f0)) ∧ w'.cell? ⟨(ad101.add ((x10_1).toNat * 2)).block, (ad101.add ((x10_1).toNat * 2)).off + 1, none⟩ = some (.int .i64 ((rd_T29 l0 x10_1).f1)) ∧ w'.cell? (ad101.add (((ji7)).toNat * 2)) = some (.int .i64 ((rd_T29 l0 (ji7)).f0)) ∧ w'.cell? ⟨(ad101.add (((ji7)).toNat * 2)).block, (ad101.add (((ji7)).toNat * 2)).off + 1, none⟩ = some (.int .i64 ((rd_T29 l0 (ji7)).f1))) ∧ (w'.heap[s_.1]? = some (.cells #[.int .i64 0, .int .i64 0] 29 (0, 0))) ∧ (w'.heap[s_.2]? = some (.cells #[.int .i64 0, .int .i64 0] 29 (0, 0))) ∧ (w.heap.size ≤ s_.1) ∧ (w.heap.size ≤ s_.1) ∧ (s_.2 ≠ s_.1) ∧ (s_.1 ≠ s_.2) ∧ (w.heap.size ≤ s_.2) ∧ (w.heap.size ≤ s_.2) ∧ (Below w.heap.size w w')) ?_ ?_
          rotate_left
          ·intro hCont
           refine two_ (i := 12) (j := 13) (Ni := some 6) (Nj := some 7) #[true, true, true, true, true, true, true, true, true, true, true, true, true, false, false, false] #[true, true, true, true, true, true, true, true, true, true, true, true, false, true, false, false] rfl rfl rfl rfl (on2 HT_) (by decide) (by decide) (fun K hK => ?_) (fun K hK => ?_)
           ·skip
            refine bxs 6 #[.int .i64 0, .int .i64 0] 29 ?_
            intro gb103 hg w22 hbox hb
            have BK103 := Aside0.mk (hbox)
            have GW103 := Aside0.mk (gs hg : w.heap.size ≤ gb103)
            have GE103 := Aside0.mk (gs hg : w.heap.size ≤ gb103)
            replace HB := Aside0.mk (below_step bh hb)
            clear hb hbox hg
            refine hK.out _ _ ⟨(hc HB hw101_0), (hc HB hw101_1), (hc HB hw102_0), (hc HB hw102_1)⟩ (fun hHeld => ?_)
            clear hK K
            refine nm 6 ?_
            refine one_ (i := 13) (N := some 7) #[true, true, true, true, true, true, true, true, true, true, true, true, true, true, false, false] rfl rfl (on1 HT_) (by decide) (fun K hK => ?_)
            refine bxs 7 #[.int .i64 0, .int .i64 0] 29 ?_
            intro gb104 hg w23 hbox hb
            have BK104 := Aside0.mk (hbox)
            have GW104 := Aside0.mk (gs hg : w.heap.size ≤ gb104)
            have GE104 := Aside0.mk (gs hg : w.heap.size ≤ gb104)
            have NB103_104 := Aside0.mk ((by rw [hg]; exact Nat.ne_of_lt (kl BK103) : gb103 ≠ gb104))
            have NB104_103 := Aside0.mk ((by rw [hg]; exact Nat.ne_of_gt (kl BK103) : gb104 ≠ gb103))
            replace BK103 := kb BK103 hb
            replace HB := Aside0.mk (below_step bh hb)
            clear hb hbox hg
            refine hK.out _ _ ⟨(hc HB hw101_0), (hc HB hw101_1), (hc HB hw102_0), (hc HB hw102_1)⟩ (fun hHeld => ?_)
            clear hK K
            refine nm 7 ?_
            exact norm_ pa (hCont (gb103, gb104) _ ⟨hHeld, bk BK103, bk BK104, GW103.out, GE103.out, NB104_103.out, NB103_104.out, GW104.out, GE104.out, bh⟩)
           ·skip
            refine bxs 7 #[.int .i64 0, .int .i64 0] 29 ?_
            intro gb104 hg w22 hbox hb
            have BK104 := Aside0.mk (hbox)
            have GW104 := Aside0.mk (gs hg : w.heap.size ≤ gb104)
            have GE104 := Aside0.mk (gs hg : w.heap.size ≤ gb104)
            replace HB := Aside0.mk (below_step bh hb)
            clear hb hbox hg
            refine hK.out _ _ ⟨(hc HB hw101_0), (hc HB hw101_1), (hc HB hw102_0), (hc HB hw102_1)⟩ (fun hHeld => ?_)
            clear hK K
            refine nm 7 ?_
            refine one_ (i := 12) (N := some 6) #[true, true, true, true, true, true, true, true, true, true, true, true, true, true, false, false] rfl rfl (on1 HT_) (by decide) (fun K hK => ?_)
            refine bxs 6 #[.int .i64 0, .int .i64 0] 29 ?_
            intro gb103 hg w23 hbox hb
            have BK103 := Aside0.mk (hbox)
            have GW103 := Aside0.mk (gs hg : w.heap.size ≤ gb103)
            have GE103 := Aside0.mk (gs hg : w.heap.size ≤ gb103)
            have NB104_103 := Aside0.mk ((by rw [hg]; exact Nat.ne_of_lt (kl BK104) : gb104 ≠ gb103))
            have NB103_104 := Aside0.mk ((by rw [hg]; exact Nat.ne_of_gt (kl BK104) : gb103 ≠ gb104))
            replace BK104 := kb BK104 hb
            replace HB := Aside0.mk (below_step bh hb)
            clear hb hbox hg
            refine hK.out _ _ ⟨(hc HB hw101_0), (hc HB hw101_1), (hc HB hw102_0), (hc HB hw102_1)⟩ (fun hHeld => ?_)
            clear hK K
            refine nm 6 ?_
            exact norm_ pa (hCont (gb103, gb104) _ ⟨hHeld, bk BK103, bk BK104, GW103.out, GE103.out, NB104_103.out, NB103_104.out, GW104.out, GE104.out, bh⟩)
          rintro ⟨gb103, gb104⟩ w24 ⟨hS_, h0_, h1_, h2_, h3_, h4_, h5_, h6_, h7_, h8_⟩
          have BK103 := Aside0.mk h0_
          have BK104 := Aside0.mk h1_
          have GW103 := Aside0.mk h2_
          have GE103 := Aside0.mk h3_
          have NB104_103 := Aside0.mk h4_
          have NB103_104 := Aside0.mk h5_
          have GW104 := Aside0.mk h6_
          have GE104 := Aside0.mk h7_
          replace HB := Aside0.mk h8_
          clear h0_ h1_ h2_ h3_ h4_ h5_ h6_ h7_ h8_
          have hHeld := hS_
          refine nn ?_
          refine one_ (i := 14) (N := none) #[true, true, true, true, true, true, true, true, true, true, true, true, true, true, true, false] rfl rfl (on1 HT_) (by decide) (fun K hK => ?_)
          have hs25 : w24.cell? ⟨gb103, 0, none⟩ = some (.int .i64 0) := bc BK103 0
          have hfs25 := blk_frozen BK103.out 0
          have hns25_1 := NB104_103.out
          have hms25_1 := NB103_104.out
          have hs26 : w24.cell? ⟨gb103, 1, none⟩ = some (.int .i64 0) := bc BK103 1
          have hfs26 := blk_frozen BK103.out 1
          have hns26_1 := NB104_103.out
          have hms26_1 := NB103_104.out
          refine skip_ (w1 := ?_) (by rfl) rfl ?_ ?_
          rotate_left
          ·go_simp
           rfl
          refine hK.out _ _ ⟨((cell_far (p := ⟨gb103, _, none⟩) (fr hw101_0 GW103) _).trans (((cell_far (p := ⟨gb103, _, none⟩) (fr hw101_0 GW103) _).trans (hHeld.1)))), ((cell_far (p := ⟨gb103, _, none⟩) (fr hw101_1 GW103) _).trans (((cell_far (p := ⟨gb103, _, none⟩) (fr hw101_1 GW103) _).trans (hHeld.2.1)))), ((cell_far (p := ⟨gb103, _, none⟩) (fr hw102_0 GW103) _).trans (((cell_far (p := ⟨gb103, _, none⟩) (fr hw102_0 GW103) _).trans (hHeld.2.2.1)))), ((cell_far (p := ⟨gb103, _, none⟩) (fr hw102_1 GW103) _).trans (((cell_far (p := ⟨gb103, _, none⟩) (fr hw102_1 GW103) _).trans (hHeld.2.2.2))))⟩ (fun hHeld => ?_)
          clear hK K
          refine one_ (i := 15) (N := none) #[true, true, true, true, true, true, true, true, true, true, true, true, true, true, true, true] rfl rfl (on1 HT_) (by decide) (fun K hK => ?_)
          have hs27 : w24.cell? ⟨gb104, 0, none⟩ = some (.int .i64 0) := bc BK104 0
          have hfs27 := blk_frozen BK104.out 0
          have hns27_0 := NB103_104.out
          have hms27_0 := NB104_103.out
          have hs28 : w24.cell? ⟨gb104, 1, none⟩ = some (.int .i64 0) := bc BK104 1
          have hfs28 := blk_frozen BK104.out 1
          have hns28_0 := NB103_104.out
          have hms28_0 := NB104_103.out
          refine skip_ (w1 := ?_) (by rfl) rfl ?_ ?_
          rotate_left
          ·go_simp
           rfl
          refine hK.out _ _ ⟨((cell_far (p := ⟨gb104, _, none⟩) (fr hw101_0 GW104) _).trans (((cell_far (p := ⟨gb104, _, none⟩) (fr hw101_0 GW104) _).trans (hHeld.1)))), ((cell_far (p := ⟨gb104, _, none⟩) (fr hw101_1 GW104) _).trans (((cell_far (p := ⟨gb104, _, none⟩) (fr hw101_1 GW104) _).trans (hHeld.2.1)))), ((cell_far (p := ⟨gb104, _, none⟩) (fr hw102_0 GW104) _).trans (((cell_far (p := ⟨gb104, _, none⟩) (fr hw102_0 GW104) _).trans (hHeld.2.2.1)))), ((cell_far (p := ⟨gb104, _, none⟩) (fr hw102_1 GW104) _).trans (((cell_far (p := ⟨gb104, _, none⟩) (fr hw102_1 GW104) _).trans (hHeld.2.2.2))))⟩ (fun hHeld => ?_)
          clear hK K
          refine done_ (done_of HT_.out (by kernel_rfl)) ?_
          try go_wp2_with (first | ((with_reducible refine gate_callee (f := 86) rfl ?_); refine goesL_ (some 27) rfl rfl Try.func86 (by kernel_rfl) rfl #[.slice A1 l1.length c1, .func (.func 120) #[] #[.pointer (some ⟨gb103, 0, none⟩), .pointer (some ⟨gb104, 0, none⟩)]] rfl sg ?_; (with_reducible refine (left_any.calls _ _ l1 ((rd_T29 l0 x10_1).f0) ((rd_T29 l0 x10_1).f1) ((rd_T29 l0 (ji7)).f0) ((rd_T29 l0 (ji7)).f1) gb103 gb104 false _ (by (with_reducible repeat (first | refine blk_drewN ?_ _ | refine blk_drew ?_ | refine blk_alloc ?_ _)); refine blk_far ?_ NB103_104.out _; (with_reducible repeat (first | refine blk_drewN ?_ _ | refine blk_drew ?_ | refine blk_alloc ?_ _)); refine blk_far ?_ NB103_104.out _; (with_reducible repeat (first | refine blk_drewN ?_ _ | refine blk_drew ?_ | refine blk_alloc ?_ _)); refine blk_put (cs := #[.int .i64 ((rd_T29 l0 x10_1).f0), .int .i64 0]) ?_ 1 _ rfl; (with_reducible repeat (first | refine blk_drewN ?_ _ | refine blk_drew ?_ | refine blk_alloc ?_ _)); refine blk_put (cs := #[.int .i64 0, .int .i64 0]) ?_ 0 _ rfl; (with_reducible repeat (first | refine blk_drewN ?_ _ | refine blk_drew ?_ | refine blk_alloc ?_ _)); exact BK103.out) (by (with_reducible repeat (first | refine blk_drewN ?_ _ | refine blk_drew ?_ | refine blk_alloc ?_ _)); refine blk_put (cs := #[.int .i64 ((rd_T29 l0 (ji7)).f0), .int .i64 0]) ?_ 1 _ rfl; (with_reducible repeat (first | refine blk_drewN ?_ _ | refine blk_drew ?_ | refine blk_alloc ?_ _)); refine blk_put (cs := #[.int .i64 0, .int .i64 0]) ?_ 0 _ rfl; (with_reducible repeat (first | refine blk_drewN ?_ _ | refine blk_drew ?_ | refine blk_alloc ?_ _)); refine blk_far ?_ NB104_103.out _; (with_reducible repeat (first | refine blk_drewN ?_ _ | refine blk_drew ?_ | refine blk_alloc ?_ _)); refine blk_far ?_ NB104_103.out _; (with_reducible repeat (first | refine blk_drewN ?_ _ | refine blk_drew ?_ | refine blk_alloc ?_ _)); exact BK104.out) ?side1 ?side2 A10.out).mono ?_); (case side1 => exact Kd.C_below HR1.out bh); (case side2 => exact HC1.out); rintro e w29 ⟨rfl, hb⟩; refine ⟨_, rfl, ?_⟩; have n0_ := Aside0.mk (blk_below (g := gb103) (o := .cells #[.int .i64 ((rd_T29 l0 x10_1).f0), .int .i64 ((rd_T29 l0 x10_1).f1)] 29 (0, 0)) (by (with_reducible repeat (first | refine blk_drewN ?_ _ | refine blk_drew ?_ | refine blk_alloc ?_ _)); refine blk_far ?_ NB103_104.out _; (with_reducible repeat (first | refine blk_drewN ?_ _ | refine blk_drew ?_ | refine blk_alloc ?_ _)); refine blk_far ?_ NB103_104.out _; (with_reducible repeat (first | refine blk_drewN ?_ _ | refine blk_drew ?_ | refine blk_alloc ?_ _)); refine blk_put (cs := #[.int .i64 ((rd_T29 l0 x10_1).f0), .int .i64 0]) ?_ 1 _ rfl; (with_reducible repeat (first | refine blk_drewN ?_ _ | refine blk_drew ?_ | refine blk_alloc ?_ _)); refine blk_put (cs := #[.int .i64 0, .int .i64 0]) ?_ 0 _ rfl; (with_reducible repeat (first | refine blk_drewN ?_ _ | refine blk_drew ?_ | refine blk_alloc ?_ _)); exact BK103.out) hb); have n1_ := Aside0.mk (blk_below (g := gb104) (o := .cells #[.int .i64 ((rd_T29 l0 (ji7)).f0), .int .i64 ((rd_T29 l0 (ji7)).f1)] 29 (0, 0)) (by (with_reducible repeat (first | refine blk_drewN ?_ _ | refine blk_drew ?_ | refine blk_alloc ?_ _)); refine blk_put (cs := #[.int .i64 ((rd_T29 l0 (ji7)).f0), .int .i64 0]) ?_ 1 _ rfl; (with_reducible repeat (first | refine blk_drewN ?_ _ | refine blk_drew ?_ | refine blk_alloc ?_ _)); refine blk_put (cs := #[.int .i64 0, .int .i64 0]) ?_ 0 _ rfl; (with_reducible repeat (first | refine blk_drewN ?_ _ | refine blk_drew ?_ | refine blk_alloc ?_ _)); refine blk_far ?_ NB104_103.out _; (with_reducible repeat (first | refine blk_drewN ?_ _ | refine blk_drew ?_ | refine blk_alloc ?_ _)); refine blk_far ?_ NB104_103.out _; (with_reducible repeat (first | refine blk_drewN ?_ _ | refine blk_drew ?_ | refine blk_alloc ?_ _)); exact BK104.out) hb); have n2_ := Aside0.mk (below_step bh hb); clear BK103; clear BK104; clear HB; have BK103 := n0_; have BK104 := n1_; have HB := n2_; clear n0_ n1_ n2_; (try clear hb); (try clear hb2); (try clear hk); (try clear hi)))
          go_ret
          exact ⟨by first | rfl | (simp [errW_none, errW_some] <;> rfl) | (simp only [← hji7]; first | rfl | (simp [errW_none, errW_some] <;> rfl)) | (simp [*, errW_none, errW_some] <;> rfl), bh⟩
        ·rw [if_neg c9] at H
         exact absurd H (by simp)
       ·rw [if_neg c8] at H
        exact absurd H (by simp)
     ·rw [if_neg c5] at H
      exact absurd H (by simp)
    ·rw [if_neg c4] at H
     exact absurd H (by simp)
   ·rw [if_neg c3] at H
    have c3b0 : decide (x10_1 < (l0.length : Int)) = false := decide_eq_false c3
    clear c3
    obtain rfl := Option.some.inj H
    go_wp2
    go_ret
    exact ⟨by exact er, bh⟩
end Go.Proofs.Ytoffmpkgickfhaa.PG
end
section
namespace Go.Proofs.Ytoffmpkgickfhaa.PG
open Go.RowKit Go.Proofs.YtoffmpkgickfhaaW.PrintWords Go.Proofs.YtoffmpkgickfhaaW.PrintLast Go.Proofs.YtoffmpkgickfhaaW.PrintMore
attribute [local go_sem] max2_int min2_int max_two min_two max_three min_three max_four min_four
set_option linter.unusedVariables false
set_option linter.unusedSimpArgs false
/-! ### shape_apart: function 74 -/
def shape_apart.f (k : Nat) (l0 : List (S29)) (l1 : List (S29)) : Option (Bool) := (shape_parted.f k l0 l1).bind fun t101 => (if t101 = true then (some true) else ((shape_parted.f k l1 l0).bind fun t102 => (some t102)))
theorem shape_apart.mono : ∀ a0 a1 k, LeO (shape_apart.f k a0 a1) (shape_apart.f (k + 1) a0 a1) := by
 intro a0 a1 k
 unfold shape_apart.f
 repeat' first
  | (with_reducible exact shape_parted.mono _ _ _)
  | (with_reducible exact LeO.refl _)
  | (with_reducible exact LeO.none _)
  | (with_reducible refine LeO.ite ?_ ?_)
  | (with_reducible refine LeO.bind ?_ (fun _ => ?_))
  | exact shape_parted.mono _ _ _
  | exact LeO.none _
  | refine LeO.ite ?_ ?_
  | refine LeO.bind ?_ (fun _ => ?_)
set_option maxHeartbeats 8000000 in
set_option maxRecDepth 100000 in
theorem shape_apart.calls (k : Nat) (A0 : Option Addr) (c0 : Nat) (l0 : List (S29)) (A1 : Option Addr) (c1 : Nat) (l1 : List (S29)) (r : Bool) (w : World) (hr0 : Kd.C k29 w A0 l0.length l0) (hc0 : l0.length ≤ c0) (hr1 : Kd.C k29 w A1 l1.length l1) (hc1 : l1.length ≤ c1) (h : shape_apart.f k l0 l1 = some r) :
  Calls Try.prog 74 #[.slice A0 l0.length c0, .slice A1 l1.length c1] w fun e w' => e = .returned (.bool r) ∧ Below w.heap.size w w' := by
 have HR0 := Aside0.mk hr0
 have HC0 := Aside0.mk hc0
 clear hr0 hc0
 have HR1 := Aside0.mk hr1
 have HC1 := Aside0.mk hc1
 clear hr1 hc1
 have HB := Aside0.mk (Below.refl w.heap.size w)
 have H : ((shape_parted.f k l0 l1).bind fun t101 => (if t101 = true then (some true) else ((shape_parted.f k l1 l0).bind fun t102 => (some t102)))) = some r := h
 clear h
 replace H := Option.bind_eq_some_iff.mp H
 obtain ⟨t101, A30, H⟩ := H
 replace H : (if t101 = true then (some true) else ((shape_parted.f k l1 l0).bind fun t102 => (some t102))) = some r := H
 have A3 := Aside0.mk A30
 clear A30
 by_cases c4 : t101 = true
 ·subst c4
  rw [if_pos rfl] at H
  obtain rfl := Option.some.inj H
  go_enter Try.func74, Try.ntmps74
  go_wp2_with (first | ((with_reducible refine gate_callee (f := 101) rfl ?_); refine goesL_ (some 7) rfl rfl Try.func101 (by kernel_rfl) rfl #[.slice A0 l0.length c0, .slice A1 l1.length c1] rfl sg ?_; (with_reducible refine (shape_parted.calls k _ _ l0 _ _ l1 true _ ?side1 ?side2 ?side3 ?side4 A3.out).mono ?_); (case side1 => repeat (first | exact HR0.out | (with_reducible refine Kd.C_alloc ?_ _) | (with_reducible refine Kd.C_drewN ?_ _) | (with_reducible refine Kd.C_drew ?_))); (case side2 => exact HC0.out); (case side3 => repeat (first | exact HR1.out | (with_reducible refine Kd.C_alloc ?_ _) | (with_reducible refine Kd.C_drewN ?_ _) | (with_reducible refine Kd.C_drew ?_))); (case side4 => exact HC1.out); rintro e w5 ⟨rfl, hb⟩; refine ⟨_, rfl, ?_⟩; have n0_ := Aside0.mk (below_step bh hb); clear HB; have HB := n0_; clear n0_; (try clear hb); (try clear hb2); (try clear hk); (try clear hi)))
  go_ret
  exact ⟨by exact er, bh⟩
 ·replace c4 := Bool.eq_false_iff.mpr c4
  subst c4
  rw [if_neg (show ¬ (false = true) by decide)] at H
  replace H := Option.bind_eq_some_iff.mp H
  obtain ⟨t102, A60, H⟩ := H
  replace H : (some t102) = some r := H
  have A6 := Aside0.mk A60
  clear A60
  obtain rfl := Option.some.inj H
  go_enter Try.func74, Try.ntmps74
  go_wp2_with (first | ((with_reducible refine gate_callee (f := 101) rfl ?_); refine goesL_ (some 7) rfl rfl Try.func101 (by kernel_rfl) rfl #[.slice A0 l0.length c0, .slice A1 l1.length c1] rfl sg ?_; (with_reducible refine (shape_parted.calls k _ _ l0 _ _ l1 false _ ?side1 ?side2 ?side3 ?side4 A3.out).mono ?_); (case side1 => repeat (first | exact HR0.out | (with_reducible refine Kd.C_alloc ?_ _) | (with_reducible refine Kd.C_drewN ?_ _) | (with_reducible refine Kd.C_drew ?_))); (case side2 => exact HC0.out); (case side3 => repeat (first | exact HR1.out | (with_reducible refine Kd.C_alloc ?_ _) | (with_reducible refine Kd.C_drewN ?_ _) | (with_reducible refine Kd.C_drew ?_))); (case side4 => exact HC1.out); rintro e w7 ⟨rfl, hb⟩; refine ⟨_, rfl, ?_⟩; have n0_ := Aside0.mk (below_step bh hb); clear HB; have HB := n0_; clear n0_; (try clear hb); (try clear hb2); (try clear hk); (try clear hi)) | (go_at_call 101; (with_reducible refine (shape_parted.calls k _ _ l1 _ _ l0 t102 _ ?side1 ?side2 ?side3 ?side4 A6.out).mono ?_); (case side1 => exact cs (Kd.C_below HR1.out HB.out)); (case side2 => exact HC1.out); (case side3 => exact cs (Kd.C_below HR0.out HB.out)); (case side4 => exact HC0.out); rintro e w8 ⟨rfl, hb⟩; have n0_ := Aside0.mk (below_step bh hb); clear HB; have HB := n0_; clear n0_; (try clear hb); (try clear hb2); (try clear hk); (try clear hi)))
  go_ret
  exact ⟨by exact er, bh⟩
end Go.Proofs.Ytoffmpkgickfhaa.PG
end
section
namespace Go.Proofs.Ytoffmpkgickfhaa.PG
open Go.RowKit Go.Proofs.YtoffmpkgickfhaaW.PrintWords Go.Proofs.YtoffmpkgickfhaaW.PrintLast Go.Proofs.YtoffmpkgickfhaaW.PrintMore
attribute [local go_sem] max2_int min2_int max_two min_two max_three min_three max_four min_four
set_option linter.unusedVariables false
set_option linter.unusedSimpArgs false
/-! ### shape_add: function 78 -/
def shape_add.f (a0_0 : Int) (a0_1 : Int) (a1_0 : Int) (a1_1 : Int) : Option (Int × Int) := some (wrap64 (a0_0 + a1_0), wrap64 (a0_1 + a1_1))
set_option maxHeartbeats 8000000 in
set_option maxRecDepth 100000 in
theorem shape_add.calls (a0_0 : Int) (a0_1 : Int) (a1_0 : Int) (a1_1 : Int) (r1 : Int) (r2 : Int) (w : World) (h : shape_add.f a0_0 a0_1 a1_0 a1_1 = some (r1, r2)) :
  Calls Try.prog 78 #[.agg #[.int .i64 a0_0, .int .i64 a0_1], .agg #[.int .i64 a1_0, .int .i64 a1_1]] w fun e w' => e = .returned (.agg #[.int .i64 r1, .int .i64 r2]) ∧ Below w.heap.size w w' := by
 have hu29 := Try.underlying29
 have HB := Aside0.mk (Below.refl w.heap.size w)
 have H : (some (wrap64 (a0_0 + a1_0), wrap64 (a0_1 + a1_1))) = some (r1, r2) := h
 clear h
 simp only [Option.some.injEq, Prod.mk.injEq] at H
 obtain ⟨rfl, rfl⟩ := H
 go_enter Try.func78, Try.ntmps78
 go_wp2_with (first | ((with_reducible refine gate_dst (N := 2) rfl ?_); refine bxe 2 #[.int .i64 a0_0, .int .i64 a0_1] 29 ?_; intro gb101 hg w3 hbox hb; have n0_ := Aside0.mk (below_step bh hb); have n1_ := Aside0.mk (hbox); have n2_ := Aside0.mk (gs hg : w.heap.size ≤ gb101); have n3_ := Aside0.mk (gs hg : w.heap.size ≤ gb101); clear HB; have HB := n0_; have BK101 := n1_; have GW101 := n2_; have GE101 := n3_; clear n0_ n1_ n2_ n3_; clear hb hbox hg) | ((with_reducible refine gate_dst (N := 3) rfl ?_); refine bxe 3 #[.int .i64 a1_0, .int .i64 a1_1] 29 ?_; intro gb102 hg w4 hbox hb; have n0_ := kb BK101 hb; have n1_ := Aside0.mk (below_step bh hb); have n2_ := Aside0.mk (hbox); have n3_ := Aside0.mk (gs hg : w.heap.size ≤ gb102); have n4_ := Aside0.mk (gs hg : w.heap.size ≤ gb102); have n5_ := Aside0.mk ((by rw [hg]; exact Nat.ne_of_lt (kl BK101) : gb101 ≠ gb102)); have n6_ := Aside0.mk ((by rw [hg]; exact Nat.ne_of_gt (kl BK101) : gb102 ≠ gb101)); clear BK101; clear HB; have BK101 := n0_; have HB := n1_; have BK102 := n2_; have GW102 := n3_; have GE102 := n4_; have NB101_102 := n5_; have NB102_101 := n6_; clear n0_ n1_ n2_ n3_ n4_ n5_ n6_; clear hb hbox hg) | ((with_reducible refine gate_dst (N := 4) rfl ?_); refine bxe 4 #[.int .i64 0, .int .i64 0] 29 ?_; intro gb103 hg w5 hbox hb; have n0_ := kb BK101 hb; have n1_ := kb BK102 hb; have n2_ := Aside0.mk (below_step bh hb); have n3_ := Aside0.mk (hbox); have n4_ := Aside0.mk (gs hg : w.heap.size ≤ gb103); have n5_ := Aside0.mk (gs hg : w.heap.size ≤ gb103); have n6_ := Aside0.mk ((by rw [hg]; exact Nat.ne_of_lt (kl BK101) : gb101 ≠ gb103)); have n7_ := Aside0.mk ((by rw [hg]; exact Nat.ne_of_gt (kl BK101) : gb103 ≠ gb101)); have n8_ := Aside0.mk ((by rw [hg]; exact Nat.ne_of_lt (kl BK102) : gb102 ≠ gb103)); have n9_ := Aside0.mk ((by rw [hg]; exact Nat.ne_of_gt (kl BK102) : gb103 ≠ gb102)); clear BK101; clear BK102; clear HB; have BK101 := n0_; have BK102 := n1_; have HB := n2_; have BK103 := n3_; have GW103 := n4_; have GE103 := n5_; have NB101_103 := n6_; have NB103_101 := n7_; have NB102_103 := n8_; have NB103_102 := n9_; clear n0_ n1_ n2_ n3_ n4_ n5_ n6_ n7_ n8_ n9_; clear hb hbox hg; have hnb6 := NB101_102.out; have hnc6 := NB102_101.out; have hnb7 := NB101_103.out; have hnc7 := NB103_101.out; have hcz8_0 : w5.cell? ⟨gb101, 0, none⟩ = some (.int .i64 a0_0) := bc BK101 0; have hcz8_1 : w5.cell? ⟨gb101, 1, none⟩ = some (.int .i64 a0_1) := bc BK101 1; have hfz8_0 := blk_frozen BK101.out 0; have hfz8_1 := blk_frozen BK101.out 1; have hnb9 := NB102_103.out; have hnc9 := NB103_102.out; have hcz10_0 : w5.cell? ⟨gb102, 0, none⟩ = some (.int .i64 a1_0) := bc BK102 0; have hcz10_1 : w5.cell? ⟨gb102, 1, none⟩ = some (.int .i64 a1_1) := bc BK102 1; have hfz10_0 := blk_frozen BK102.out 0; have hfz10_1 := blk_frozen BK102.out 1; have hcz11_0 : w5.cell? ⟨gb103, 0, none⟩ = some (.int .i64 0) := bc BK103 0; have hcz11_1 : w5.cell? ⟨gb103, 1, none⟩ = some (.int .i64 0) := bc BK103 1; have hfz11_0 := blk_frozen BK103.out 0; have hfz11_1 := blk_frozen BK103.out 1))
 refine bodyPost_ret (results_cell_row rfl _ _ gb103 29 #[.int .i64 (wrap64 (a0_0 + a1_0)), .int .i64 (wrap64 (a0_1 + a1_1))] (0, 0) _ rfl (by (with_reducible repeat (first | refine blk_drewN ?_ _ | refine blk_drew ?_ | refine blk_alloc ?_ _)); refine blk_put (cs := #[.int .i64 (wrap64 (a0_0 + a1_0)), .int .i64 0]) ?_ 1 _ rfl; (with_reducible repeat (first | refine blk_drewN ?_ _ | refine blk_drew ?_ | refine blk_alloc ?_ _)); refine blk_put (cs := #[.int .i64 0, .int .i64 0]) ?_ 0 _ rfl; (with_reducible repeat (first | refine blk_drewN ?_ _ | refine blk_drew ?_ | refine blk_alloc ?_ _)); exact BK103.out) Try.underlying29 rfl (by kernel_rfl)) rfl ?_
 exact ⟨by exact er, bh⟩
end Go.Proofs.Ytoffmpkgickfhaa.PG
end
section
namespace Go.Proofs.Ytoffmpkgickfhaa.PG
open Go.RowKit Go.Proofs.YtoffmpkgickfhaaW.PrintWords Go.Proofs.YtoffmpkgickfhaaW.PrintLast Go.Proofs.YtoffmpkgickfhaaW.PrintMore
attribute [local go_sem] max2_int min2_int max_two min_two max_three min_three max_four min_four
set_option linter.unusedVariables false
set_option linter.unusedSimpArgs false
/-! ### shape_moved: function 75 -/
def shape_moved.l0 : Nat → List (S29) → List (S29) → Int → Int → Int → Int → Option ((List (S29)))
 | 0, _, _, _, _, _, _ => none
 | k + 1, x5, x8, x9, x10, x102000, x102001 => if x10 < x9 then (if 0 ≤ x10 then (if x10 < (x8.length : Int) then ((shape_add.f ((rd_T29 x8 x10).f0) ((rd_T29 x8 x10).f1) x102000 x102001).bind fun bt104 => (if x5.length < 8796093022208 then (shape_moved.l0 k (x5 ++ [(⟨bt104.1, bt104.2⟩ : S29)]) x8 x9 (wrap64 (x10 + 1)) x102000 x102001) else (none))) else (none)) else (none)) else (some x5)
def shape_moved.f (k : Nat) (l0 : List (S29)) (a1_0 : Int) (a1_1 : Int) : Option ((List (S29))) := shape_moved.l0 k ([] : List (S29)) l0 (l0.length : Int) 0 a1_0 a1_1
theorem shape_moved.mono_l : ∀ k, (∀ y0 y1 y2 y3 y4 y5, LeO (shape_moved.l0 k y0 y1 y2 y3 y4 y5) (shape_moved.l0 (k + 1) y0 y1 y2 y3 y4 y5))
 | 0 => fun _ _ _ _ _ _ r h => by simp [shape_moved.l0] at h
 | k + 1 => by
  have ih0 := shape_moved.mono_l k
  ·intro y0 y1 y2 y3 y4 y5
   unfold shape_moved.l0
   repeat' first
   | (with_reducible exact ih0 _ _ _ _ _ _)
   | (with_reducible exact LeO.refl _)
   | (with_reducible exact LeO.none _)
   | (with_reducible refine LeO.ite ?_ ?_)
   | (with_reducible refine LeO.bind ?_ (fun _ => ?_))
   | exact ih0 _ _ _ _ _ _
   | exact LeO.none _
   | refine LeO.ite ?_ ?_
   | refine LeO.bind ?_ (fun _ => ?_)
theorem shape_moved.mono : ∀ a0 a1 a2 k, LeO (shape_moved.f k a0 a1 a2) (shape_moved.f (k + 1) a0 a1 a2) := by
 intro a0 a1 a2 k
 have ih0 := shape_moved.mono_l k
 unfold shape_moved.f
 repeat' first
  | (with_reducible exact ih0 _ _ _ _ _ _)
  | (with_reducible exact LeO.refl _)
  | (with_reducible exact LeO.none _)
  | (with_reducible refine LeO.ite ?_ ?_)
  | (with_reducible refine LeO.bind ?_ (fun _ => ?_))
  | exact ih0 _ _ _ _ _ _
  | exact LeO.none _
  | refine LeO.ite ?_ ?_
  | refine LeO.bind ?_ (fun _ => ?_)
set_option maxHeartbeats 8000000 in
set_option maxRecDepth 100000 in
theorem shape_moved.calls (k : Nat) (A0 : Option Addr) (c0 : Nat) (l0 : List (S29)) (a1_0 : Int) (a1_1 : Int) (r : List (S29)) (w : World) (hr0 : Kd.C k29 w A0 l0.length l0) (hc0 : l0.length ≤ c0) (h : shape_moved.f k l0 a1_0 a1_1 = some r) :
  Calls Try.prog 75 #[.slice A0 l0.length c0, .agg #[.int .i64 a1_0, .int .i64 a1_1]] w fun e w' => ∃ v0_ : Value, e = .returned (v0_) ∧ Kd.R k29 29 w' w.heap.size (fun _ => True) v0_ r ∧ Below w.heap.size w w' := by
 have hu29 := Try.underlying29
 have HR0 := Aside0.mk hr0
 have HC0 := Aside0.mk hc0
 clear hr0 hc0
 have HB := Aside0.mk (Below.refl w.heap.size w)
 have H : (shape_moved.l0 k ([] : List (S29)) l0 (l0.length : Int) 0 a1_0 a1_1) = some r := h
 clear h
 have H' := Aside0.mk H
 clear H
 go_enter Try.func75, Try.ntmps75
 go_wp2_with (first | ((with_reducible refine gate_dst (N := 3) rfl ?_); refine bxe 3 #[.int .i64 a1_0, .int .i64 a1_1] 29 ?_; intro gb101 hg w3 hbox hb; have n0_ := Aside0.mk (below_step bh hb); have n1_ := Aside0.mk (hbox); have n2_ := Aside0.mk (gs hg : w.heap.size ≤ gb101); have n3_ := Aside0.mk (gs hg : w.heap.size ≤ gb101); clear HB; have HB := n0_; have BK101 := n1_; have GW101 := n2_; have GE101 := n3_; clear n0_ n1_ n2_ n3_; clear hb hbox hg))
 go_loopg [5, 10] k (fun kq v5 v10 w' => ∃ (x5_1 : List (S29)) (x10_1 : Int), v10 = .int .i64 x10_1 ∧ Aside0 (shape_moved.l0 kq x5_1 l0 (l0.length : Int) x10_1 a1_0 a1_1 = some r) ∧ Aside0 (kq ≤ k) ∧ Aside0 (Kd.R k29 29 w' w.heap.size (fun k_ => k_ ≠ gb101) v5 x5_1) ∧ Aside0 (w'.heap[gb101]? = some (.cells #[.int .i64 a1_0, .int .i64 a1_1] 29 (0, 0))) ∧ Aside0 (Below w.heap.size w w'))
 case atStart => exact ⟨(([] : List (S29))), (0), sd, H', ⟨Nat.le_refl _⟩, ⟨by first | exact Kd.R_nil _ _ _ _ _ | exact Kd.N_nil _ _ _ _ _ | exact Kd.V_nil _ _ _ _ _ | exact Kd.Q_nil _ _ _ _ _ | exact Kd.S_nil _ _ _ _ _⟩, ⟨bk BK101⟩, ⟨bh⟩⟩
 case round =>
  clear H'
  try clear p2
  obtain ⟨x5_1, x10_1, rfl, HA, HK1, HO_5, BK101, HB⟩ := hrel
  cases gk with
  | zero => exact absurd HA.out (by simp [shape_moved.l0])
  | succ k1 =>
   have H := HA.out
   clear HA
   simp only [shape_moved.l0] at H
   by_cases c4 : x10_1 < (l0.length : Int)
   ·rw [if_pos c4] at H
    have c4b0 : decide (x10_1 < (l0.length : Int)) = true := decide_eq_true c4
    clear c4
    by_cases c5 : 0 ≤ x10_1
    ·rw [if_pos c5] at H
     have c5b0 : decide (0 ≤ x10_1) = true := decide_eq_true c5
     clear c5
     by_cases c6 : x10_1 < (l0.length : Int)
     ·rw [if_pos c6] at H
      have c6b0 : decide (x10_1 < (l0.length : Int)) = true := decide_eq_true c6
      clear c6
      replace H := Option.bind_eq_some_iff.mp H
      obtain ⟨⟨t104, t105⟩, A70, H⟩ := H
      replace H : (if x5_1.length < 8796093022208 then (shape_moved.l0 k1 (x5_1 ++ [(⟨t104, t105⟩ : S29)]) l0 (l0.length : Int) (wrap64 (x10_1 + 1)) a1_0 a1_1) else (none)) = some r := H
      have A7 := Aside0.mk A70
      clear A70
      by_cases c8 : x5_1.length < 8796093022208
      ·rw [if_pos c8] at H
       have LMc8 := Aside0.mk c8
       clear c8
       obtain ⟨y106, hy106⟩ : ∃ y_ : List (S29), y_ = (x5_1 ++ [(⟨t104, t105⟩ : S29)]) := ⟨_, rfl⟩
       replace H : (shape_moved.l0 k1 y106 l0 (l0.length : Int) (wrap64 (x10_1 + 1)) a1_0 a1_1) = some r := by first | (rw [hy106]; with_reducible exact H) | (have H2_ := (Option.bind_some _ _).symm.trans H; rw [hy106]; with_reducible exact H2_) | (have H2_ := (Option.bind_some _ _).symm.trans H; with_reducible exact H2_) | with_reducible exact H | (rw [hy106]; exact H) | exact H
       have Ny106 := Aside0.mk hy106
       clear hy106
       have H' := Aside0.mk H
       clear H
       have p102 : 0 ≤ (x10_1 : Int) := dt
       have q102 : x10_1 < (l0.length : Int) := dt
       obtain ⟨ad102, e102, hx102_0, hx102_1⟩ := at_T29 HR0.out x10_1 p102 q102
       cases e102
       replace hx102_0 := hc HB hx102_0
       replace hx102_1 := hc HB hx102_1
       replace p102 := eq_true p102
       replace q102 := eq_true q102
       go_wp2_with (first | ((with_reducible refine gate_dst (N := 7) rfl ?_); refine bxe 7 #[.int .i64 0, .int .i64 0] 29 ?_; intro gb103 hg w9 hbox hb; have n0_ := Aside0.mk (Kd.R_below (Kd.R_elderB (ro HO_5) gb103 (Nat.le_of_eq hg.symm)) hb); have n1_ := kb BK101 hb; have n2_ := Aside0.mk (below_step bh hb); have n3_ := Aside0.mk (hbox); have n4_ := Aside0.mk (gs hg : w.heap.size ≤ gb103); have n5_ := Aside0.mk (gs hg : w.heap.size ≤ gb103); have n6_ := Aside0.mk ((by rw [hg]; exact Nat.ne_of_lt (kl BK101) : gb101 ≠ gb103)); have n7_ := Aside0.mk ((by rw [hg]; exact Nat.ne_of_gt (kl BK101) : gb103 ≠ gb101)); clear HO_5; clear BK101; clear HB; have HO_5 := n0_; have BK101 := n1_; have HB := n2_; have BK103 := n3_; have GW103 := n4_; have GE103 := n5_; have NB101_103 := n6_; have NB103_101 := n7_; clear n0_ n1_ n2_ n3_ n4_ n5_ n6_ n7_; clear hb hbox hg; have hnb10 := NB103_101.out; have hnc10 := NB101_103.out; have hcz11_0 : w9.cell? ⟨gb103, 0, none⟩ = some (.int .i64 0) := bc BK103 0; have hcz11_1 : w9.cell? ⟨gb103, 1, none⟩ = some (.int .i64 0) := bc BK103 1; have hfz11_0 := blk_frozen BK103.out 0; have hfz11_1 := blk_frozen BK103.out 1; have hcz12_0 : w9.cell? ⟨gb101, 0, none⟩ = some (.int .i64 a1_0) := bc BK101 0; have hcz12_1 : w9.cell? ⟨gb101, 1, none⟩ = some (.int .i64 a1_1) := bc BK101 1; have hfz12_0 := blk_frozen BK101.out 0; have hfz12_1 := blk_frozen BK101.out 1) | ((with_reducible refine gate_callee (f := 78) rfl ?_); refine goesL_ (some 17) rfl rfl Try.func78 (by kernel_rfl) rfl #[.agg #[.int .i64 ((rd_T29 l0 x10_1).f0), .int .i64 ((rd_T29 l0 x10_1).f1)], .agg #[.int .i64 a1_0, .int .i64 a1_1]] rfl sg ?_; (with_reducible refine (shape_add.calls ((rd_T29 l0 x10_1).f0) ((rd_T29 l0 x10_1).f1) a1_0 a1_1 t104 t105 _ A7.out).mono ?_); rintro e w13 ⟨rfl, hb⟩; refine ⟨_, rfl, ?_⟩; have n0_ := Aside0.mk (Kd.R_below (by (with_reducible repeat (first | apply Kd.R_alloc | apply Kd.R_drewN | apply Kd.R_drew)); exact (Kd.R_mono (Kd.R_far (p := ⟨gb103, 1, none⟩) (Kd.R_far (p := ⟨gb103, 0, none⟩) (Kd.R_mono HO_5.out (fun k_ hk => (⟨hk, hk.2⟩ : _ ∧ k_ ≠ gb103))) (fun _ hk => hk.2) (.int .i64 ((rd_T29 l0 x10_1).f0))) (fun _ hk => hk.2) (.int .i64 ((rd_T29 l0 x10_1).f1))) (fun _ h_ => h_.1))) hb); have n1_ := Aside0.mk (blk_below (g := gb101) (o := .cells #[.int .i64 a1_0, .int .i64 a1_1] 29 (0, 0)) (by (with_reducible repeat (first | refine blk_drewN ?_ _ | refine blk_drew ?_ | refine blk_alloc ?_ _)); refine blk_far ?_ NB101_103.out _; (with_reducible repeat (first | refine blk_drewN ?_ _ | refine blk_drew ?_ | refine blk_alloc ?_ _)); refine blk_far ?_ NB101_103.out _; (with_reducible repeat (first | refine blk_drewN ?_ _ | refine blk_drew ?_ | refine blk_alloc ?_ _)); exact BK101.out) hb); have n2_ := Aside0.mk (blk_below (g := gb103) (o := .cells #[.int .i64 ((rd_T29 l0 x10_1).f0), .int .i64 ((rd_T29 l0 x10_1).f1)] 29 (0, 0)) (by (with_reducible repeat (first | refine blk_drewN ?_ _ | refine blk_drew ?_ | refine blk_alloc ?_ _)); refine blk_put (cs := #[.int .i64 ((rd_T29 l0 x10_1).f0), .int .i64 0]) ?_ 1 _ rfl; (with_reducible repeat (first | refine blk_drewN ?_ _ | refine blk_drew ?_ | refine blk_alloc ?_ _)); refine blk_put (cs := #[.int .i64 0, .int .i64 0]) ?_ 0 _ rfl; (with_reducible repeat (first | refine blk_drewN ?_ _ | refine blk_drew ?_ | refine blk_alloc ?_ _)); exact BK103.out) hb); have n3_ := Aside0.mk (below_step bh hb); clear HO_5; clear BK101; clear BK103; clear HB; have HO_5 := n0_; have BK101 := n1_; have BK103 := n2_; have HB := n3_; clear n0_ n1_ n2_ n3_; (try clear hb); (try clear hb2); (try clear hk); (try clear hi)) | ((with_reducible refine gate_builtin (b := .append) (xs := #[.tmp 14, .tmp 18]) rfl ?_); at_builtin; refine Kd.R_append k29 (w0 := w) w.heap.size rfl (.tmp 14) (.tmp 18) 22 29 (.agg #[(.int .i64 0), (.int .i64 0)]) 16 rfl Try.underlying22 info29 rfl (by decide) (by omega) u5 x5_1 (⟨t104, t105⟩ : S29) [.int .i64 t104, .int .i64 t105] (fun k_ => k_ ≠ gb101 ∧ k_ ≠ gb103) (fun _ => False) rfl rfl ?aP (fun _ hk => hk.elim) ?aF ?aO ?aB ?aS ?aL ?_; (case aP => exact k29_mkM _ _ _ (⟨t104, t105⟩ : S29)); (case aB => exact bh); (case aF => exact (fun k_ hk => ⟨Kd.freshB (g := gb101) (o := .cells #[.int .i64 a1_0, .int .i64 a1_1] 29 (0, 0)) (bk BK101) k_ hk, Kd.freshB (g := gb103) (o := .cells #[.int .i64 ((rd_T29 l0 x10_1).f0), .int .i64 ((rd_T29 l0 x10_1).f1)] 29 (0, 0)) (bk BK103) k_ hk⟩)); (case aO => exact (ro HO_5)); (case aS => exact (below_size bh)); (case aL => have := LMc8.out; omega); intro v107 w14 ho hb hg hat; rw [← Ny106.out] at ho; have n0_ := Aside0.mk (blk_grown (g := gb101) (o := .cells #[.int .i64 a1_0, .int .i64 a1_1] 29 (0, 0)) (bk BK101) hg (Kd.R_away HO_5.out (fun _ hk => hk.1))); have n1_ := Aside0.mk (blk_grown (g := gb103) (o := .cells #[.int .i64 ((rd_T29 l0 x10_1).f0), .int .i64 ((rd_T29 l0 x10_1).f1)] 29 (0, 0)) (bk BK103) hg (Kd.R_away HO_5.out (fun _ hk => hk.2))); have n2_ := Aside0.mk (hb); have n3_ := Aside0.mk (ho); clear BK101; clear BK103; clear HB; clear HO_5; have BK101 := n0_; have BK103 := n1_; have HB := n2_; have HO108 := n3_; clear n0_ n1_ n2_ n3_; clear ho hb hg hat))
       go_roundg k1
       case measure => have := HK1.out; omega
       case rel => exact ⟨(y106), (wrap64 (x10_1 + 1)), sd, H', ⟨by have := HK1.out; omega⟩, ⟨by (with_reducible repeat (first | apply Kd.R_alloc | apply Kd.R_drewN | apply Kd.R_drew)); exact Kd.R_mono HO108.out (fun _ hk => hk.1)⟩, ⟨bk BK101⟩, ⟨bh⟩⟩
      ·rw [if_neg c8] at H
       exact absurd H (by simp)
     ·rw [if_neg c6] at H
      exact absurd H (by simp)
    ·rw [if_neg c5] at H
     exact absurd H (by simp)
   ·rw [if_neg c4] at H
    have c4b0 : decide (x10_1 < (l0.length : Int)) = false := decide_eq_false c4
    clear c4
    obtain rfl := Option.some.inj H
    go_wp2
    go_ret
    exact ⟨_, by exact er, by (with_reducible repeat (first | apply Kd.R_alloc | apply Kd.R_drewN | apply Kd.R_drew)); exact Kd.R_mono HO_5.out (fun _ hk => trivial), bh⟩
end Go.Proofs.Ytoffmpkgickfhaa.PG
end
section
namespace Go.Proofs.Ytoffmpkgickfhaa.PG
open Go.RowKit Go.Proofs.YtoffmpkgickfhaaW.PrintWords Go.Proofs.YtoffmpkgickfhaaW.PrintLast Go.Proofs.YtoffmpkgickfhaaW.PrintMore
attribute [local go_sem] max2_int min2_int max_two min_two max_three min_three max_four min_four
set_option linter.unusedVariables false
set_option linter.unusedSimpArgs false
/-! ### shape_refused_normal: function 2068 -/
def shape_refused_normal.f (k : Nat) (l0 : List (S29))  : Option (Int) := (shape_polygon.f l0).bind fun t101 => (if t101 = true then ((shape_normal.f k l0).bind fun t102 => (if t102 = true then (some 0) else (some 2))) else (some 1))
theorem shape_refused_normal.mono : ∀ a0 k, LeO (shape_refused_normal.f k a0) (shape_refused_normal.f (k + 1) a0) := by
 intro a0 k
 unfold shape_refused_normal.f
 repeat' first
  | (with_reducible exact shape_normal.mono _ _)
  | (with_reducible exact LeO.refl _)
  | (with_reducible exact LeO.none _)
  | (with_reducible refine LeO.ite ?_ ?_)
  | (with_reducible refine LeO.bind ?_ (fun _ => ?_))
  | exact shape_normal.mono _ _
  | exact LeO.none _
  | refine LeO.ite ?_ ?_
  | refine LeO.bind ?_ (fun _ => ?_)
set_option maxHeartbeats 8000000 in
set_option maxRecDepth 100000 in
theorem shape_refused_normal.calls (k : Nat) (A0 : Option Addr) (c0 : Nat) (l0 : List (S29))  (r : Int) (w : World) (hr0 : Kd.C k29 w A0 l0.length l0) (hc0 : l0.length ≤ c0) (h : shape_refused_normal.f k l0 = some r) :
  Calls Try.prog 68 #[.slice A0 l0.length c0, .func (.func 72) #[] #[]] w fun e w' => e = .returned (.int .i64 r) ∧ Below w.heap.size w w' := by
 have HR0 := Aside0.mk hr0
 have HC0 := Aside0.mk hc0
 clear hr0 hc0
 have HB := Aside0.mk (Below.refl w.heap.size w)
 have H : ((shape_polygon.f l0).bind fun t101 => (if t101 = true then ((shape_normal.f k l0).bind fun t102 => (if t102 = true then (some 0) else (some 2))) else (some 1))) = some r := h
 clear h
 replace H := Option.bind_eq_some_iff.mp H
 obtain ⟨t101, A30, H⟩ := H
 replace H : (if t101 = true then ((shape_normal.f k l0).bind fun t102 => (if t102 = true then (some 0) else (some 2))) else (some 1)) = some r := H
 have A3 := Aside0.mk A30
 clear A30
 by_cases c4 : t101 = true
 ·subst c4
  rw [if_pos rfl] at H
  replace H := Option.bind_eq_some_iff.mp H
  obtain ⟨t102, A50, H⟩ := H
  replace H : (if t102 = true then (some 0) else (some 2)) = some r := H
  have A5 := Aside0.mk A50
  clear A50
  by_cases c6 : t102 = true
  ·subst c6
   rw [if_pos rfl] at H
   obtain rfl := Option.some.inj H
   go_enter Try.func68, Try.ntmps68
   go_wp2_with (first | ((first | ((with_reducible refine gate_callee (f := 66) rfl ?_); refine goesL_ (some 7) rfl rfl Try.func66 (by kernel_rfl) rfl #[.slice A0 l0.length c0] rfl sg ?_) | ((with_reducible refine gate_value 66 rfl rfl ?_); refine goesLV_ (some 7) rfl rfl Try.func66 (by kernel_rfl) rfl #[.slice A0 l0.length c0] rfl sg rfl ?_)); (with_reducible refine (shape_polygon.calls _ _ l0 true _ ?side1 ?side2 A3.out).mono ?_); (case side1 => repeat (first | exact HR0.out | (with_reducible refine Kd.C_alloc ?_ _) | (with_reducible refine Kd.C_drewN ?_ _) | (with_reducible refine Kd.C_drew ?_))); (case side2 => exact HC0.out); rintro e w7 ⟨rfl, hb⟩; refine ⟨_, rfl, ?_⟩; have n0_ := Aside0.mk (below_step bh hb); clear HB; have HB := n0_; clear n0_; (try clear hb); (try clear hb2); (try clear hk); (try clear hi)) | ((first | ((with_reducible refine gate_callee (f := 72) rfl ?_); refine goesL_ (some 12) rfl rfl Try.func72 (by kernel_rfl) rfl #[.slice A0 l0.length c0] rfl sg ?_) | ((with_reducible refine gate_value 72 rfl rfl ?_); refine goesLV_ (some 12) rfl rfl Try.func72 (by kernel_rfl) rfl #[.slice A0 l0.length c0] rfl sg rfl ?_)); (with_reducible refine (shape_normal.calls k _ _ l0 true _ ?side1 ?side2 A5.out).mono ?_); (case side1 => exact cs (Kd.C_below HR0.out HB.out)); (case side2 => exact HC0.out); rintro e w8 ⟨rfl, hb⟩; refine ⟨_, rfl, ?_⟩; have n0_ := Aside0.mk (below_step bh hb); clear HB; have HB := n0_; clear n0_; (try clear hb); (try clear hb2); (try clear hk); (try clear hi)))
   go_ret
   exact ⟨by exact er, bh⟩
  ·replace c6 := Bool.eq_false_iff.mpr c6
   subst c6
   rw [if_neg (show ¬ (false = true) by decide)] at H
   obtain rfl := Option.some.inj H
   go_enter Try.func68, Try.ntmps68
   go_wp2_with (first | ((first | ((with_reducible refine gate_callee (f := 66) rfl ?_); refine goesL_ (some 7) rfl rfl Try.func66 (by kernel_rfl) rfl #[.slice A0 l0.length c0] rfl sg ?_) | ((with_reducible refine gate_value 66 rfl rfl ?_); refine goesLV_ (some 7) rfl rfl Try.func66 (by kernel_rfl) rfl #[.slice A0 l0.length c0] rfl sg rfl ?_)); (with_reducible refine (shape_polygon.calls _ _ l0 true _ ?side1 ?side2 A3.out).mono ?_); (case side1 => repeat (first | exact HR0.out | (with_reducible refine Kd.C_alloc ?_ _) | (with_reducible refine Kd.C_drewN ?_ _) | (with_reducible refine Kd.C_drew ?_))); (case side2 => exact HC0.out); rintro e w9 ⟨rfl, hb⟩; refine ⟨_, rfl, ?_⟩; have n0_ := Aside0.mk (below_step bh hb); clear HB; have HB := n0_; clear n0_; (try clear hb); (try clear hb2); (try clear hk); (try clear hi)) | ((first | ((with_reducible refine gate_callee (f := 72) rfl ?_); refine goesL_ (some 12) rfl rfl Try.func72 (by kernel_rfl) rfl #[.slice A0 l0.length c0] rfl sg ?_) | ((with_reducible refine gate_value 72 rfl rfl ?_); refine goesLV_ (some 12) rfl rfl Try.func72 (by kernel_rfl) rfl #[.slice A0 l0.length c0] rfl sg rfl ?_)); (with_reducible refine (shape_normal.calls k _ _ l0 false _ ?side1 ?side2 A5.out).mono ?_); (case side1 => exact cs (Kd.C_below HR0.out HB.out)); (case side2 => exact HC0.out); rintro e w10 ⟨rfl, hb⟩; refine ⟨_, rfl, ?_⟩; have n0_ := Aside0.mk (below_step bh hb); clear HB; have HB := n0_; clear n0_; (try clear hb); (try clear hb2); (try clear hk); (try clear hi)))
   go_ret
   exact ⟨by exact er, bh⟩
 ·replace c4 := Bool.eq_false_iff.mpr c4
  subst c4
  rw [if_neg (show ¬ (false = true) by decide)] at H
  obtain rfl := Option.some.inj H
  go_enter Try.func68, Try.ntmps68
  go_wp2_with (first | ((first | ((with_reducible refine gate_callee (f := 66) rfl ?_); refine goesL_ (some 7) rfl rfl Try.func66 (by kernel_rfl) rfl #[.slice A0 l0.length c0] rfl sg ?_) | ((with_reducible refine gate_value 66 rfl rfl ?_); refine goesLV_ (some 7) rfl rfl Try.func66 (by kernel_rfl) rfl #[.slice A0 l0.length c0] rfl sg rfl ?_)); (with_reducible refine (shape_polygon.calls _ _ l0 false _ ?side1 ?side2 A3.out).mono ?_); (case side1 => repeat (first | exact HR0.out | (with_reducible refine Kd.C_alloc ?_ _) | (with_reducible refine Kd.C_drewN ?_ _) | (with_reducible refine Kd.C_drew ?_))); (case side2 => exact HC0.out); rintro e w11 ⟨rfl, hb⟩; refine ⟨_, rfl, ?_⟩; have n0_ := Aside0.mk (below_step bh hb); clear HB; have HB := n0_; clear n0_; (try clear hb); (try clear hb2); (try clear hk); (try clear hi)))
  go_ret
  exact ⟨by exact er, bh⟩
end Go.Proofs.Ytoffmpkgickfhaa.PG
end
section
namespace Go.Proofs.Ytoffmpkgickfhaa.PG
open Go.RowKit Go.Proofs.YtoffmpkgickfhaaW.PrintWords Go.Proofs.YtoffmpkgickfhaaW.PrintLast Go.Proofs.YtoffmpkgickfhaaW.PrintMore
attribute [local go_sem] max2_int min2_int max_two min_two max_three min_three max_four min_four
set_option linter.unusedVariables false
set_option linter.unusedSimpArgs false
/-! ### shape_Apart: function 35 -/
def shape_Apart.l0 : Nat → List (S29) → List (S29) → List (List (S29)) → Int → Int → Int → Int → Option (Bool × Int)
 | 0, _, _, _, _, _, _, _ => none
 | k + 1, x0, x1, x13, x14, x15, x102000, x102001 => if x15 < x14 then (if 0 ≤ x15 then (if x15 < (x13.length : Int) then ((shape_refused_normal.f k (rd_L2 x13 x15)).bind fun t106 => (if t106 = 0 then (shape_Apart.l0 k x0 x1 x13 x14 (wrap64 (x15 + 1)) x102000 x102001) else (some (false, t106)))) else (none)) else (none)) else ((shape_within.f (([(⟨x102000, x102001⟩ : S29)] : List (S29))) 20000).bind fun t110 => (if t110 = true then ((shape_moved.f k x1 x102000 x102001).bind fun t111 => ((shape_apart.f k x0 t111).bind fun t114 => (some (t114, 0)))) else (some (false, 1))))
def shape_Apart.f (k : Nat) (l0 : List (S29)) (l1 : List (S29)) (a2_0 : Int) (a2_1 : Int) : Option (Bool × Int) := (some (([l0, l1] : List (List (S29))) : List (List (S29)))).bind fun y102 => (shape_Apart.l0 k l0 l1 y102 (y102.length : Int) 0 a2_0 a2_1)
theorem shape_Apart.mono_l : ∀ k, (∀ y0 y1 y2 y3 y4 y5 y6, LeO (shape_Apart.l0 k y0 y1 y2 y3 y4 y5 y6) (shape_Apart.l0 (k + 1) y0 y1 y2 y3 y4 y5 y6))
 | 0 => fun _ _ _ _ _ _ _ r h => by simp [shape_Apart.l0] at h
 | k + 1 => by
  have ih0 := shape_Apart.mono_l k
  ·intro y0 y1 y2 y3 y4 y5 y6
   unfold shape_Apart.l0
   repeat' first
   | (with_reducible exact ih0 _ _ _ _ _ _ _)
   | (with_reducible exact shape_apart.mono _ _ _)
   | (with_reducible exact shape_moved.mono _ _ _ _)
   | (with_reducible exact shape_refused_normal.mono _ _)
   | (with_reducible exact LeO.refl _)
   | (with_reducible exact LeO.none _)
   | (with_reducible refine LeO.ite ?_ ?_)
   | (with_reducible refine LeO.bind ?_ (fun _ => ?_))
   | exact ih0 _ _ _ _ _ _ _
   | exact shape_apart.mono _ _ _
   | exact shape_moved.mono _ _ _ _
   | exact shape_refused_normal.mono _ _
   | exact LeO.none _
   | refine LeO.ite ?_ ?_
   | refine LeO.bind ?_ (fun _ => ?_)
theorem shape_Apart.mono : ∀ a0 a1 a2 a3 k, LeO (shape_Apart.f k a0 a1 a2 a3) (shape_Apart.f (k + 1) a0 a1 a2 a3) := by
 intro a0 a1 a2 a3 k
 have ih0 := shape_Apart.mono_l k
 unfold shape_Apart.f
 repeat' first
  | (with_reducible exact ih0 _ _ _ _ _ _ _)
  | (with_reducible exact shape_apart.mono _ _ _)
  | (with_reducible exact shape_moved.mono _ _ _ _)
  | (with_reducible exact shape_refused_normal.mono _ _)
  | (with_reducible exact LeO.refl _)
  | (with_reducible exact LeO.none _)
  | (with_reducible refine LeO.ite ?_ ?_)
  | (with_reducible refine LeO.bind ?_ (fun _ => ?_))
  | exact ih0 _ _ _ _ _ _ _
  | exact shape_apart.mono _ _ _
  | exact shape_moved.mono _ _ _ _
  | exact shape_refused_normal.mono _ _
  | exact LeO.none _
  | refine LeO.ite ?_ ?_
  | refine LeO.bind ?_ (fun _ => ?_)
set_option maxHeartbeats 8000000 in
set_option maxRecDepth 100000 in
theorem shape_Apart.calls (k : Nat) (P0_ : Nat → Prop) (A0 : Option Addr) (c0 : Nat) (l0 : List (S29)) (P1_ : Nat → Prop) (A1 : Option Addr) (c1 : Nat) (l1 : List (S29)) (a2_0 : Int) (a2_1 : Int) (r1 : Bool) (r2 : Int) (w : World) (hs0 : Kd.V k29 29 w w.heap.size (fun k_ => P0_ k_) (.slice A0 l0.length c0) l0) (hs1 : Kd.V k29 29 w w.heap.size (fun k_ => P1_ k_) (.slice A1 l1.length c1) l1) (h : shape_Apart.f k l0 l1 a2_0 a2_1 = some (r1, r2)) :
  Calls Try.prog 35 #[.slice A0 l0.length c0, .slice A1 l1.length c1, .agg #[.int .i64 a2_0, .int .i64 a2_1]] w fun e w' => e = .returned (.tuple #[.bool r1, .int .i64 r2]) ∧ Below w.heap.size w w' := by
 have hu29 := Try.underlying29
 have HO0 := Aside0.mk (show Kd.V k29 29 w w.heap.size (fun k_ => ((P0_ k_ ∨ P1_ k_) ∨ w.heap.size ≤ k_)) (.slice A0 l0.length c0) l0 from Kd.V_mono hs0 (fun k_ hk => .inl (.inl hk)))
 have HO1 := Aside0.mk (show Kd.V k29 29 w w.heap.size (fun k_ => ((P0_ k_ ∨ P1_ k_) ∨ w.heap.size ≤ k_)) (.slice A1 l1.length c1) l1 from Kd.V_mono hs1 (fun k_ hk => .inl (.inr hk)))
 have HB := Aside0.mk (Below.refl w.heap.size w)
 have H : ((some (([l0, l1] : List (List (S29))) : List (List (S29)))).bind fun y102 => (shape_Apart.l0 k l0 l1 y102 (y102.length : Int) 0 a2_0 a2_1)) = some (r1, r2) := h
 clear h
 obtain ⟨y102, hy102⟩ : ∃ y_ : List (List (S29)), y_ = (([l0, l1] : List (List (S29)))) := ⟨_, rfl⟩
 replace H : (shape_Apart.l0 k l0 l1 y102 (y102.length : Int) 0 a2_0 a2_1) = some (r1, r2) := by first | (rw [hy102]; with_reducible exact H) | (have H2_ := (Option.bind_some _ _).symm.trans H; rw [hy102]; with_reducible exact H2_) | (have H2_ := (Option.bind_some _ _).symm.trans H; with_reducible exact H2_) | with_reducible exact H | (rw [hy102]; exact H) | exact H
 have Ny102 := Aside0.mk hy102
 clear hy102
 have H' := Aside0.mk H
 clear H
 go_enter Try.func35, Try.ntmps35
 go_wp2_with (first | ((with_reducible refine gate_dst (N := 5) rfl ?_); refine bxe 5 #[.int .i64 a2_0, .int .i64 a2_1] 29 ?_; intro gb101 hg w4 hbox hb; have n0_ := Aside0.mk (Kd.V_below (Kd.V_elderB (vo HO0) gb101 (Nat.le_of_eq hg.symm)) hb); have n1_ := Aside0.mk (Kd.V_below (Kd.V_elderB (vo HO1) gb101 (Nat.le_of_eq hg.symm)) hb); have n2_ := Aside0.mk (below_step bh hb); have n3_ := Aside0.mk (hbox); have n4_ := Aside0.mk (gs hg : w.heap.size ≤ gb101); have n5_ := Aside0.mk (gs hg : w.heap.size ≤ gb101); clear HO0; clear HO1; clear HB; have HO0 := n0_; have HO1 := n1_; have HB := n2_; have BK101 := n3_; have GW101 := n4_; have GE101 := n5_; clear n0_ n1_ n2_ n3_ n4_ n5_; clear hb hbox hg) | ((with_reducible refine gate_dst (N := 13) rfl ?_); refine Kd.N_lit (Kd.slice 29 k29) _ 22 ?hg (N' := 13) ?hd (xs := ([l0, l1] : List (List (S29)))) (inner := [.slice A0 l0.length c0, .slice A1 l1.length c1]) (ok := (fun k_ => ((P0_ k_ ∨ P1_ k_) ∨ w.heap.size ≤ k_) ∧ k_ ≠ gb101)) (okp := (fun k_ => ((P0_ k_ ∨ P1_ k_) ∨ w.heap.size ≤ k_) ∧ k_ ≠ gb101)) ?hr ?hp (fun _ hk => hk) ((show ∀ k_, w4.heap.size ≤ k_ → (fun k_ => ((P0_ k_ ∨ P1_ k_) ∨ w.heap.size ≤ k_) ∧ k_ ≠ gb101) k_ from fun k_ hk => ⟨(.inr (Nat.le_trans (below_size bh) hk)), Kd.freshB (g := gb101) (o := .cells #[.int .i64 a2_0, .int .i64 a2_1] 29 (0, 0)) (bk BK101) k_ hk⟩) _ (Nat.le_refl _)) (Below.refl _ _) (Nat.le_refl _) (by simp) ?_; (case hd => rfl); (case hg => rfl); (case hr => first | (go_simp; done) | (go_simp; rfl)); (case hp => exact (Reps.one (show Kd.FK (Kd.slice 29 k29) _ _ l0 [.slice A0 l0.length c0] from (Kd.FK_slice_mk (Kd.V_reads' (Kd.V_mono (ok' := (fun k_ => ((P0_ k_ ∨ P1_ k_) ∨ w.heap.size ≤ k_) ∧ k_ ≠ gb101)) (HO0.out) (fun k_ hk => ⟨hk.1, hk.2⟩))).2.1 (Kd.V_F (Kd.V_mono (ok' := (fun k_ => ((P0_ k_ ∨ P1_ k_) ∨ w.heap.size ≤ k_) ∧ k_ ≠ gb101)) (HO0.out) (fun k_ hk => ⟨hk.1, hk.2⟩))))) (Reps.one (show Kd.FK (Kd.slice 29 k29) _ _ l1 [.slice A1 l1.length c1] from (Kd.FK_slice_mk (Kd.V_reads' (Kd.V_mono (ok' := (fun k_ => ((P0_ k_ ∨ P1_ k_) ∨ w.heap.size ≤ k_) ∧ k_ ≠ gb101)) (HO1.out) (fun k_ hk => ⟨hk.1, hk.2⟩))).2.1 (Kd.V_F (Kd.V_mono (ok' := (fun k_ => ((P0_ k_ ∨ P1_ k_) ∨ w.heap.size ≤ k_) ∧ k_ ≠ gb101)) (HO1.out) (fun k_ hk => ⟨hk.1, hk.2⟩))))) (Reps.none _ _)))); intro v103 w5 ho6 hb hg_ hnew_; clear hg_ hnew_; (first | rw [← Ny102.out] at ho6 | (simp only [Int.reduceToNat] at ho6; rw [← Ny102.out] at ho6)); have n0_ := Aside0.mk (Kd.V_elder' (vo HO0) (Kd.N_base ho6) hb); have n1_ := Aside0.mk (Kd.V_elder' (vo HO1) (Kd.N_base ho6) hb); have n2_ := Aside0.mk (Kd.N_lower ho6 (below_size bh)); have n3_ := kb BK101 hb; have n4_ := Aside0.mk (below_step bh hb); clear HO0; clear HO1; clear BK101; clear HB; have HO0 := n0_; have HO1 := n1_; have HO104 := n2_; have BK101 := n3_; have HB := n4_; clear n0_ n1_ n2_ n3_ n4_; clear hb ho6; obtain ⟨Ao7, co7, eo7⟩ := Kd.N_slice HO104.out; subst eo7))
 go_loopg [15] k (fun kq v15 w' => ∃ (x15_1 : Int), v15 = .int .i64 x15_1 ∧ Aside0 (shape_Apart.l0 kq l0 l1 y102 (y102.length : Int) x15_1 a2_0 a2_1 = some (r1, r2)) ∧ Aside0 (kq ≤ k) ∧ Aside0 (Kd.V k29 29 w' w.heap.size (fun k_ => ((P0_ k_ ∨ P1_ k_) ∨ w.heap.size ≤ k_) ∧ some k_ ≠ ((.slice Ao7 y102.length co7) : Value).ownBlock ∧ k_ ≠ gb101) (.slice A0 l0.length c0) l0) ∧ Aside0 (Kd.V k29 29 w' w.heap.size (fun k_ => ((P0_ k_ ∨ P1_ k_) ∨ w.heap.size ≤ k_) ∧ some k_ ≠ ((.slice Ao7 y102.length co7) : Value).ownBlock ∧ k_ ≠ gb101) (.slice A1 l1.length c1) l1) ∧ Aside0 (Kd.N (Kd.slice 29 k29) 22 w' w.heap.size (fun k_ => ((P0_ k_ ∨ P1_ k_) ∨ w.heap.size ≤ k_) ∧ k_ ≠ gb101) (.slice Ao7 y102.length co7) y102) ∧ Aside0 (w'.heap[gb101]? = some (.cells #[.int .i64 a2_0, .int .i64 a2_1] 29 (0, 0))) ∧ Aside0 (Below w.heap.size w w'))
 case atStart => exact ⟨(0), sd, H', ⟨Nat.le_refl _⟩, ⟨by (with_reducible repeat (first | apply Kd.V_alloc | apply Kd.V_drewN | apply Kd.V_drew)); exact Kd.V_mono HO0.out (fun _ hk => ⟨hk.1.1, ⟨hk.2, hk.1.2⟩⟩)⟩, ⟨by (with_reducible repeat (first | apply Kd.V_alloc | apply Kd.V_drewN | apply Kd.V_drew)); exact Kd.V_mono HO1.out (fun _ hk => ⟨hk.1.1, ⟨hk.2, hk.1.2⟩⟩)⟩, ⟨by (with_reducible repeat (first | apply Kd.N_alloc | apply Kd.N_drewN | apply Kd.N_drew)); exact HO104.out⟩, ⟨bk BK101⟩, ⟨bh⟩⟩
 case round =>
  clear H'
  try clear c1
  try clear p2
  try clear c3
  obtain ⟨x15_1, rfl, HA, HK1, HO_0, HO_1, HO_13, BK101, HB⟩ := hrel
  cases gk with
  | zero => exact absurd HA.out (by simp [shape_Apart.l0])
  | succ k1 =>
   have H := HA.out
   clear HA
   simp only [shape_Apart.l0] at H
   by_cases c8 : x15_1 < (y102.length : Int)
   ·rw [if_pos c8] at H
    have c8b0 : decide (x15_1 < (y102.length : Int)) = true := decide_eq_true c8
    clear c8
    by_cases c9 : 0 ≤ x15_1
    ·rw [if_pos c9] at H
     have c9b0 : decide (0 ≤ x15_1) = true := decide_eq_true c9
     clear c9
     by_cases c10 : x15_1 < (y102.length : Int)
     ·rw [if_pos c10] at H
      have c10b0 : decide (x15_1 < (y102.length : Int)) = true := decide_eq_true c10
      clear c10
      replace H := Option.bind_eq_some_iff.mp H
      obtain ⟨t106, A110, H⟩ := H
      replace H : (if t106 = 0 then (shape_Apart.l0 k1 l0 l1 y102 (y102.length : Int) (wrap64 (x15_1 + 1)) a2_0 a2_1) else (some (false, t106))) = some (r1, r2) := H
      have A11 := Aside0.mk A110
      clear A110
      by_cases c12 : t106 = 0
      ·rw [if_pos c12] at H
       have c12b0 : (t106 == 0) = true := beq_iff_eq.mpr c12
       have c12b1 : (t106 != 0) = false := bne_eq_false_iff_eq.mpr c12
       clear c12
       have H' := Aside0.mk H
       clear H
       have p105 : 0 ≤ (x15_1 : Int) := dt
       have q105 : x15_1 < (y102.length : Int) := dt
       obtain ⟨ad105, A105_0, c105_0, e105, hx105_0, hl105_0, hi105_0⟩ := at_L2 (Kd.N_reads' HO_13.out).2.2 x15_1 p105 q105
       cases e105
       obtain ⟨ce105, hce105, hMe105, hcc105⟩ := Kd.N_get HO_13.out [] x15_1 p105 (by first | exact q105 | exact dt | (have e_ := (Kd.N_reads' HO_13.out).1; omega))
       obtain ⟨ua105_0, uc105_0, rfl, ul105_0, ge105_0⟩ := Kd.FK_slice_open hMe105
       have hv105_0 := hcc105 0 _ rfl
       rw [Nat.add_zero, show ((Kd.slice 29 k29)).sz = 1 from rfl, Nat.mul_one] at hv105_0
       replace hv105_0 := Option.some.inj (hv105_0.symm.trans hx105_0)
       injection hv105_0 with hva_ hvn_ hvc_
       rw [hva_] at ge105_0
       rw [hvc_] at ul105_0
       have HL105_0 := Aside0.mk (show Kd.V k29 29 _ w.heap.size _ _ (rd_L2 y102 x15_1) from Kd.V_mk ul105_0 ge105_0)
       clear hva_ hvn_ hvc_ ge105_0 ul105_0
       clear hcc105 hce105
       have HR105_0 := Aside0.mk hi105_0
       have HC105_0 := Aside0.mk hl105_0
       clear hi105_0 hl105_0
       replace p105 := eq_true p105
       replace q105 := eq_true q105
       go_wp2_with (first | ((with_reducible refine gate_callee (f := 68) rfl ?_); refine goesL_ (some 20) rfl rfl Try.func68 (by kernel_rfl) rfl #[.slice A105_0 (rd_L2 y102 x15_1).length c105_0, .func (.func 72) #[] #[]] rfl sg ?_; (with_reducible refine (shape_refused_normal.calls k1 _ _ (rd_L2 y102 x15_1)  t106 _ ?side1 ?side2 A11.out).mono ?_); (case side1 => repeat (first | exact (by repeat (first | (with_reducible exact HR105_0.out) | (with_reducible refine Kd.C_alloc ?_ _) | (with_reducible refine Kd.C_drewN ?_ _) | (with_reducible refine Kd.C_drew ?_) | exact HR105_0.out)) | (with_reducible refine Kd.C_alloc ?_ _) | (with_reducible refine Kd.C_drewN ?_ _) | (with_reducible refine Kd.C_drew ?_))); (case side2 => exact HC105_0.out); rintro e w13 ⟨rfl, hb⟩; refine ⟨_, rfl, ?_⟩; have n0_ := Aside0.mk (Kd.V_below (vo HO_0) hb); have n1_ := Aside0.mk (Kd.V_below (vo HO_1) hb); have n2_ := Aside0.mk (Kd.N_below (no HO_13) hb); have n3_ := Aside0.mk (Kd.V_below (by (with_reducible repeat (first | apply Kd.V_alloc | apply Kd.V_drewN | apply Kd.V_drew)); exact HL105_0.out) hb); have n4_ := kb BK101 hb; have n5_ := Aside0.mk (Kd.C_below (by repeat (first | (with_reducible exact HR105_0.out) | (with_reducible refine Kd.C_alloc ?_ _) | (with_reducible refine Kd.C_drewN ?_ _) | (with_reducible refine Kd.C_drew ?_) | exact HR105_0.out)) hb); have n6_ := Aside0.mk (below_step bh hb); clear HO_0; clear HO_1; clear HO_13; clear HL105_0; clear BK101; clear HR105_0; clear HB; have HO_0 := n0_; have HO_1 := n1_; have HO_13 := n2_; have HL105_0 := n3_; have BK101 := n4_; have HR105_0 := n5_; have HB := n6_; clear n0_ n1_ n2_ n3_ n4_ n5_ n6_; (try clear hb); (try clear hb2); (try clear hk); (try clear hi)))
       go_roundg k1
       case measure => have := HK1.out; omega
       case rel => exact ⟨(wrap64 (x15_1 + 1)), sd, H', ⟨by have := HK1.out; omega⟩, ⟨by (with_reducible repeat (first | apply Kd.V_alloc | apply Kd.V_drewN | apply Kd.V_drew)); exact HO_0.out⟩, ⟨by (with_reducible repeat (first | apply Kd.V_alloc | apply Kd.V_drewN | apply Kd.V_drew)); exact HO_1.out⟩, ⟨by (with_reducible repeat (first | apply Kd.N_alloc | apply Kd.N_drewN | apply Kd.N_drew)); exact HO_13.out⟩, ⟨bk BK101⟩, ⟨bh⟩⟩
      ·rw [if_neg c12] at H
       have c12b0 : (t106 == 0) = false := beq_eq_false_iff_ne.mpr c12
       have c12b1 : (t106 != 0) = true := bne_iff_ne.mpr c12
       simp only [Option.some.injEq, Prod.mk.injEq] at H
       obtain ⟨rfl, rfl⟩ := H
       have p105 : 0 ≤ (x15_1 : Int) := dt
       have q105 : x15_1 < (y102.length : Int) := dt
       obtain ⟨ad105, A105_0, c105_0, e105, hx105_0, hl105_0, hi105_0⟩ := at_L2 (Kd.N_reads' HO_13.out).2.2 x15_1 p105 q105
       cases e105
       obtain ⟨ce105, hce105, hMe105, hcc105⟩ := Kd.N_get HO_13.out [] x15_1 p105 (by first | exact q105 | exact dt | (have e_ := (Kd.N_reads' HO_13.out).1; omega))
       obtain ⟨ua105_0, uc105_0, rfl, ul105_0, ge105_0⟩ := Kd.FK_slice_open hMe105
       have hv105_0 := hcc105 0 _ rfl
       rw [Nat.add_zero, show ((Kd.slice 29 k29)).sz = 1 from rfl, Nat.mul_one] at hv105_0
       replace hv105_0 := Option.some.inj (hv105_0.symm.trans hx105_0)
       injection hv105_0 with hva_ hvn_ hvc_
       rw [hva_] at ge105_0
       rw [hvc_] at ul105_0
       have HL105_0 := Aside0.mk (show Kd.V k29 29 _ w.heap.size _ _ (rd_L2 y102 x15_1) from Kd.V_mk ul105_0 ge105_0)
       clear hva_ hvn_ hvc_ ge105_0 ul105_0
       clear hcc105 hce105
       have HR105_0 := Aside0.mk hi105_0
       have HC105_0 := Aside0.mk hl105_0
       clear hi105_0 hl105_0
       replace p105 := eq_true p105
       replace q105 := eq_true q105
       go_wp2_with (first | ((with_reducible refine gate_callee (f := 68) rfl ?_); refine goesL_ (some 20) rfl rfl Try.func68 (by kernel_rfl) rfl #[.slice A105_0 (rd_L2 y102 x15_1).length c105_0, .func (.func 72) #[] #[]] rfl sg ?_; (with_reducible refine (shape_refused_normal.calls k1 _ _ (rd_L2 y102 x15_1)  t106 _ ?side1 ?side2 A11.out).mono ?_); (case side1 => repeat (first | exact (by repeat (first | (with_reducible exact HR105_0.out) | (with_reducible refine Kd.C_alloc ?_ _) | (with_reducible refine Kd.C_drewN ?_ _) | (with_reducible refine Kd.C_drew ?_) | exact HR105_0.out)) | (with_reducible refine Kd.C_alloc ?_ _) | (with_reducible refine Kd.C_drewN ?_ _) | (with_reducible refine Kd.C_drew ?_))); (case side2 => exact HC105_0.out); rintro e w14 ⟨rfl, hb⟩; refine ⟨_, rfl, ?_⟩; have n0_ := Aside0.mk (Kd.V_below (vo HO_0) hb); have n1_ := Aside0.mk (Kd.V_below (vo HO_1) hb); have n2_ := Aside0.mk (Kd.N_below (no HO_13) hb); have n3_ := Aside0.mk (Kd.V_below (by (with_reducible repeat (first | apply Kd.V_alloc | apply Kd.V_drewN | apply Kd.V_drew)); exact HL105_0.out) hb); have n4_ := kb BK101 hb; have n5_ := Aside0.mk (Kd.C_below (by repeat (first | (with_reducible exact HR105_0.out) | (with_reducible refine Kd.C_alloc ?_ _) | (with_reducible refine Kd.C_drewN ?_ _) | (with_reducible refine Kd.C_drew ?_) | exact HR105_0.out)) hb); have n6_ := Aside0.mk (below_step bh hb); clear HO_0; clear HO_1; clear HO_13; clear HL105_0; clear BK101; clear HR105_0; clear HB; have HO_0 := n0_; have HO_1 := n1_; have HO_13 := n2_; have HL105_0 := n3_; have BK101 := n4_; have HR105_0 := n5_; have HB := n6_; clear n0_ n1_ n2_ n3_ n4_ n5_ n6_; (try clear hb); (try clear hb2); (try clear hk); (try clear hi)))
       go_ret2
       exact ⟨by exact er, bh⟩
     ·rw [if_neg c10] at H
      exact absurd H (by simp)
    ·rw [if_neg c9] at H
     exact absurd H (by simp)
   ·rw [if_neg c8] at H
    have c8b0 : decide (x15_1 < (y102.length : Int)) = false := decide_eq_false c8
    clear c8
    obtain ⟨y107, hy107⟩ : ∃ y_ : List (S29), y_ = (([(⟨a2_0, a2_1⟩ : S29)] : List (S29))) := ⟨_, rfl⟩
    replace H : ((shape_within.f y107 20000).bind fun t110 => (if t110 = true then ((shape_moved.f k1 l1 a2_0 a2_1).bind fun t111 => ((shape_apart.f k1 l0 t111).bind fun t114 => (some (t114, 0)))) else (some (false, 1)))) = some (r1, r2) := by first | (rw [hy107]; with_reducible exact H) | (have H2_ := (Option.bind_some _ _).symm.trans H; rw [hy107]; with_reducible exact H2_) | (have H2_ := (Option.bind_some _ _).symm.trans H; with_reducible exact H2_) | with_reducible exact H | (rw [hy107]; exact H) | exact H
    have Ny107 := Aside0.mk hy107
    clear hy107
    replace H := Option.bind_eq_some_iff.mp H
    obtain ⟨t110, A150, H⟩ := H
    replace H : (if t110 = true then ((shape_moved.f k1 l1 a2_0 a2_1).bind fun t111 => ((shape_apart.f k1 l0 t111).bind fun t114 => (some (t114, 0)))) else (some (false, 1))) = some (r1, r2) := H
    have A15 := Aside0.mk A150
    clear A150
    by_cases c16 : t110 = true
    ·subst c16
     rw [if_pos rfl] at H
     replace H := Option.bind_eq_some_iff.mp H
     obtain ⟨t111, A170, H⟩ := H
     replace H : ((shape_apart.f k1 l0 t111).bind fun t114 => (some (t114, 0))) = some (r1, r2) := H
     have A17 := Aside0.mk A170
     clear A170
     replace H := Option.bind_eq_some_iff.mp H
     obtain ⟨t114, A180, H⟩ := H
     replace H : (some (t114, 0)) = some (r1, r2) := H
     have A18 := Aside0.mk A180
     clear A180
     simp only [Option.some.injEq, Prod.mk.injEq] at H
     obtain ⟨rfl, rfl⟩ := H
     obtain ⟨hcz19_0, hcz19_1, hfz19_0, hfz19_1⟩ := b2 BK101
     go_wp2_with (first | ((with_reducible refine gate_dst (N := 26) rfl ?_); refine Kd.R_lit k29 _ 29 ?hg (N := 26) ?hd (xs := ([(⟨a2_0, a2_1⟩ : S29)] : List (S29))) (inner := [.int .i64 a2_0, .int .i64 a2_1]) (ok := fun _ => True) (okp := fun _ => True) ?hr ?hp (fun _ hk => hk) trivial (Below.refl _ _) (Nat.le_refl _) (by simp) ?_; (case hd => rfl); (case hg => rfl); (case hr => first | (go_simp; done) | (go_simp; rfl)); (case hp => exact (Reps.c2 (show Kd.M k29 _ _ _ (⟨a2_0, a2_1⟩ : S29) [.int .i64 a2_0, .int .i64 a2_1] from (k29_mkM _ _ _ (⟨a2_0, a2_1⟩ : S29) )) (Reps.none _ _))); intro v108 w20 ho21 hb hg_ hnew_; clear hg_ hnew_; (first | rw [← Ny107.out] at ho21 | (simp only [Int.reduceToNat] at ho21; rw [← Ny107.out] at ho21)); have n0_ := Aside0.mk (Kd.V_elder' (vo HO_0) (Kd.R_base ho21) hb); have n1_ := Aside0.mk (Kd.V_elder' (vo HO_1) (Kd.R_base ho21) hb); have n2_ := Aside0.mk (Kd.N_elder' (no HO_13) (Kd.R_base ho21) hb); have n3_ := Aside0.mk (Kd.R_lower (Kd.R_newB (Kd.R_newM (M := fun k_ => (w.heap.size ≤ k_)) ho21 (below_size bh) (fun k_ h_ => h_)) (g := gb101) (o := .cells #[.int .i64 a2_0, .int .i64 a2_1] 29 (0, 0)) (bk BK101)) (below_size bh)); have n4_ := kb BK101 hb; have n5_ := Aside0.mk (below_step bh hb); clear HO_0; clear HO_1; clear HO_13; clear BK101; clear HB; have HO_0 := n0_; have HO_1 := n1_; have HO_13 := n2_; have HO109 := n3_; have BK101 := n4_; have HB := n5_; clear n0_ n1_ n2_ n3_ n4_ n5_; clear hb ho21; obtain ⟨Ao22, co22, eo22⟩ := Kd.R_slice HO109.out; subst eo22) | ((with_reducible refine gate_callee (f := 48) rfl ?_); refine goesL_ (some 27) rfl rfl Try.func48 (by kernel_rfl) rfl #[.slice Ao22 y107.length co22, .int .i64 20000] rfl sg ?_; (with_reducible refine (shape_within.calls _ _ y107 20000 true _ ?side1 ?side2 A15.out).mono ?_); (case side1 => exact cs (Kd.R_reads' HO109.out).2.2); (case side2 => exact (Kd.R_reads' HO109.out).2.1); rintro e w23 ⟨rfl, hb⟩; refine ⟨_, rfl, ?_⟩; have n0_ := Aside0.mk (Kd.V_below (vo HO_0) hb); have n1_ := Aside0.mk (Kd.V_below (vo HO_1) hb); have n2_ := Aside0.mk (Kd.N_below (no HO_13) hb); have n3_ := Aside0.mk (Kd.R_below (ro HO109) hb); have n4_ := kb BK101 hb; have n5_ := Aside0.mk (below_step bh hb); clear HO_0; clear HO_1; clear HO_13; clear HO109; clear BK101; clear HB; have HO_0 := n0_; have HO_1 := n1_; have HO_13 := n2_; have HO109 := n3_; have BK101 := n4_; have HB := n5_; clear n0_ n1_ n2_ n3_ n4_ n5_; (try clear hb); (try clear hb2); (try clear hk); (try clear hi); have hcz24_0 : w23.cell? ⟨gb101, 0, none⟩ = some (.int .i64 a2_0) := bc BK101 0; have hcz24_1 : w23.cell? ⟨gb101, 1, none⟩ = some (.int .i64 a2_1) := bc BK101 1; have hfz24_0 := blk_frozen BK101.out 0; have hfz24_1 := blk_frozen BK101.out 1) | ((with_reducible refine gate_callee (f := 75) rfl ?_); refine goesL_ (some 32) rfl rfl Try.func75 (by kernel_rfl) rfl #[.slice A1 l1.length c1, .agg #[.int .i64 a2_0, .int .i64 a2_1]] rfl sg ?_; (with_reducible refine (shape_moved.calls k1 _ _ l1 a2_0 a2_1 t111 _ ?side1 ?side2 A17.out).mono ?_); (case side1 => exact cs (Kd.V_reads' HO_1.out).2.2); (case side2 => exact (Kd.V_reads' HO_1.out).2.1); rintro e w25 ⟨v112, rfl, ho0, hb⟩; refine ⟨_, rfl, ?_⟩; have n0_ := Aside0.mk (Kd.V_elder' (vo HO_0) (Kd.R_base ho0) hb); have n1_ := Aside0.mk (Kd.V_elder' (vo HO_1) (Kd.R_base ho0) hb); have n2_ := Aside0.mk (Kd.N_elder' (no HO_13) (Kd.R_base ho0) hb); have n3_ := Aside0.mk (Kd.R_elder' (ro HO109) (Kd.R_base ho0) hb); have n4_ := Aside0.mk (Kd.R_lower (Kd.R_newB (Kd.R_new' (Kd.R_newM (M := fun k_ => (w.heap.size ≤ k_)) ho0 (below_size bh) (fun k_ h_ => h_)) (Kd.R_lt (ro HO109))) (g := gb101) (o := .cells #[.int .i64 a2_0, .int .i64 a2_1] 29 (0, 0)) (bk BK101)) (below_size bh)); have n5_ := kb BK101 hb; have n6_ := Aside0.mk (below_step bh hb); clear HO_0; clear HO_1; clear HO_13; clear HO109; clear BK101; clear HB; have HO_0 := n0_; have HO_1 := n1_; have HO_13 := n2_; have HO109 := n3_; have HO113 := n4_; have BK101 := n5_; have HB := n6_; clear n0_ n1_ n2_ n3_ n4_ n5_ n6_; (try clear hb); (try clear hb2); (try clear hk); (try clear hi); (try clear ho0); obtain ⟨Ao26, co26, eo26⟩ := Kd.R_slice HO113.out; subst eo26) | ((with_reducible refine gate_callee (f := 74) rfl ?_); refine goesL_ (some 33) rfl rfl Try.func74 (by kernel_rfl) rfl #[.slice A0 l0.length c0, .slice Ao26 t111.length co26] rfl sg ?_; (with_reducible refine (shape_apart.calls k1 _ _ l0 _ _ t111 t114 _ ?side1 ?side2 ?side3 ?side4 A18.out).mono ?_); (case side1 => exact cs (Kd.V_reads' HO_0.out).2.2); (case side2 => exact (Kd.V_reads' HO_0.out).2.1); (case side3 => exact cs (Kd.R_reads' HO113.out).2.2); (case side4 => exact (Kd.R_reads' HO113.out).2.1); rintro e w27 ⟨rfl, hb⟩; refine ⟨_, rfl, ?_⟩; have n0_ := Aside0.mk (Kd.V_below (vo HO_0) hb); have n1_ := Aside0.mk (Kd.V_below (vo HO_1) hb); have n2_ := Aside0.mk (Kd.N_below (no HO_13) hb); have n3_ := Aside0.mk (Kd.R_below (ro HO109) hb); have n4_ := Aside0.mk (Kd.R_below (ro HO113) hb); have n5_ := kb BK101 hb; have n6_ := Aside0.mk (below_step bh hb); clear HO_0; clear HO_1; clear HO_13; clear HO109; clear HO113; clear BK101; clear HB; have HO_0 := n0_; have HO_1 := n1_; have HO_13 := n2_; have HO109 := n3_; have HO113 := n4_; have BK101 := n5_; have HB := n6_; clear n0_ n1_ n2_ n3_ n4_ n5_ n6_; (try clear hb); (try clear hb2); (try clear hk); (try clear hi)))
     go_ret2
     exact ⟨by exact er, bh⟩
    ·replace c16 := Bool.eq_false_iff.mpr c16
     subst c16
     rw [if_neg (show ¬ (false = true) by decide)] at H
     simp only [Option.some.injEq, Prod.mk.injEq] at H
     obtain ⟨rfl, rfl⟩ := H
     obtain ⟨hcz28_0, hcz28_1, hfz28_0, hfz28_1⟩ := b2 BK101
     go_wp2_with (first | ((with_reducible refine gate_dst (N := 26) rfl ?_); refine Kd.R_lit k29 _ 29 ?hg (N := 26) ?hd (xs := ([(⟨a2_0, a2_1⟩ : S29)] : List (S29))) (inner := [.int .i64 a2_0, .int .i64 a2_1]) (ok := fun _ => True) (okp := fun _ => True) ?hr ?hp (fun _ hk => hk) trivial (Below.refl _ _) (Nat.le_refl _) (by simp) ?_; (case hd => rfl); (case hg => rfl); (case hr => first | (go_simp; done) | (go_simp; rfl)); (case hp => exact (Reps.c2 (show Kd.M k29 _ _ _ (⟨a2_0, a2_1⟩ : S29) [.int .i64 a2_0, .int .i64 a2_1] from (k29_mkM _ _ _ (⟨a2_0, a2_1⟩ : S29) )) (Reps.none _ _))); intro v108 w29 ho30 hb hg_ hnew_; clear hg_ hnew_; (first | rw [← Ny107.out] at ho30 | (simp only [Int.reduceToNat] at ho30; rw [← Ny107.out] at ho30)); have n0_ := Aside0.mk (Kd.V_elder' (vo HO_0) (Kd.R_base ho30) hb); have n1_ := Aside0.mk (Kd.V_elder' (vo HO_1) (Kd.R_base ho30) hb); have n2_ := Aside0.mk (Kd.N_elder' (no HO_13) (Kd.R_base ho30) hb); have n3_ := Aside0.mk (Kd.R_lower (Kd.R_newB (Kd.R_newM (M := fun k_ => (w.heap.size ≤ k_)) ho30 (below_size bh) (fun k_ h_ => h_)) (g := gb101) (o := .cells #[.int .i64 a2_0, .int .i64 a2_1] 29 (0, 0)) (bk BK101)) (below_size bh)); have n4_ := kb BK101 hb; have n5_ := Aside0.mk (below_step bh hb); clear HO_0; clear HO_1; clear HO_13; clear BK101; clear HB; have HO_0 := n0_; have HO_1 := n1_; have HO_13 := n2_; have HO109 := n3_; have BK101 := n4_; have HB := n5_; clear n0_ n1_ n2_ n3_ n4_ n5_; clear hb ho30; obtain ⟨Ao31, co31, eo31⟩ := Kd.R_slice HO109.out; subst eo31) | ((with_reducible refine gate_callee (f := 48) rfl ?_); refine goesL_ (some 27) rfl rfl Try.func48 (by kernel_rfl) rfl #[.slice Ao31 y107.length co31, .int .i64 20000] rfl sg ?_; (with_reducible refine (shape_within.calls _ _ y107 20000 false _ ?side1 ?side2 A15.out).mono ?_); (case side1 => exact cs (Kd.R_reads' HO109.out).2.2); (case side2 => exact (Kd.R_reads' HO109.out).2.1); rintro e w32 ⟨rfl, hb⟩; refine ⟨_, rfl, ?_⟩; have n0_ := Aside0.mk (Kd.V_below (vo HO_0) hb); have n1_ := Aside0.mk (Kd.V_below (vo HO_1) hb); have n2_ := Aside0.mk (Kd.N_below (no HO_13) hb); have n3_ := Aside0.mk (Kd.R_below (ro HO109) hb); have n4_ := kb BK101 hb; have n5_ := Aside0.mk (below_step bh hb); clear HO_0; clear HO_1; clear HO_13; clear HO109; clear BK101; clear HB; have HO_0 := n0_; have HO_1 := n1_; have HO_13 := n2_; have HO109 := n3_; have BK101 := n4_; have HB := n5_; clear n0_ n1_ n2_ n3_ n4_ n5_; (try clear hb); (try clear hb2); (try clear hk); (try clear hi)))
     go_ret2
     exact ⟨by exact er, bh⟩
end Go.Proofs.Ytoffmpkgickfhaa.PG
end
section
namespace Go.Proofs.Ytoffmpkgickfhaa.PG
open Go.RowKit Go.Proofs.YtoffmpkgickfhaaW.PrintWords Go.Proofs.YtoffmpkgickfhaaW.PrintLast Go.Proofs.YtoffmpkgickfhaaW.PrintMore
attribute [local go_sem] max2_int min2_int max_two min_two max_three min_three max_four min_four
set_option linter.unusedVariables false
set_option linter.unusedSimpArgs false
/-! ### cracknellaw04_ShapeAparts: function 7 -/
mutual
def cracknellaw04_ShapeAparts.j0 : Nat → List (S29) → List (S29) → Bool → Int → Int → Int → Int → Option (Bool)
 | 0, _, _, _, _, _, _, _ => none
 | k + 1, x7, x8, x9, x10, x11, x102000, x102001 => if x11 = 0 then ((cracknelref04_Valid.f x102000 x102001 20000).bind fun t112 => (cracknellaw04_ShapeAparts.j1 k x7 x8 x9 x10 x11 (!t112) x102000 x102001)) else (cracknellaw04_ShapeAparts.j1 k x7 x8 x9 x10 x11 false x102000 x102001)
def cracknellaw04_ShapeAparts.j1 : Nat → List (S29) → List (S29) → Bool → Int → Int → Bool → Int → Int → Option (Bool)
 | 0, _, _, _, _, _, _, _, _ => none
 | k + 1, x7, x8, x9, x10, x11, x35, x102000, x102001 => if x35 = true then (cracknellaw04_ShapeAparts.j2 k x7 x8 x9 x10 1 x102000 x102001) else (cracknellaw04_ShapeAparts.j2 k x7 x8 x9 x10 x11 x102000 x102001)
def cracknellaw04_ShapeAparts.j2 : Nat → List (S29) → List (S29) → Bool → Int → Int → Int → Int → Option (Bool)
 | 0, _, _, _, _, _, _, _ => none
 | k + 1, x7, x8, x9, x10, x11, x102000, x102001 => if x11 = 0 then ((cracknelref04_Moved.f k x8 x102000 x102001).bind fun t114 => ((cracknelref04_Apart.f k x7 t114).bind fun t117 => (if (x9 == t117) = true then (if x10 = 0 then ((cracknellaw04_lives.f k).bind fun t118 => (some t118)) else (some false)) else (some false)))) else (if x9 = true then (some false) else (if x10 = x11 then ((cracknellaw04_lives.f k).bind fun t113 => (some t113)) else (some false)))
end
def cracknellaw04_ShapeAparts.f (k : Nat) (l0 : List (S29)) (l1 : List (S29)) (a2_0 : Int) (a2_1 : Int) : Option (Bool) := (cracknellaw04_cut.f l0 12).bind fun t102 => ((cracknellaw04_cut.f l1 12).bind fun t105 => ((shape_Apart.f k t102 t105 a2_0 a2_1).bind fun bt108 => ((cracknellaw04_convex.f k t102).bind fun t110 => (if t110 = 0 then ((cracknellaw04_convex.f k t105).bind fun t111 => (cracknellaw04_ShapeAparts.j0 k t102 t105 bt108.1 bt108.2 t111 a2_0 a2_1)) else (cracknellaw04_ShapeAparts.j0 k t102 t105 bt108.1 bt108.2 t110 a2_0 a2_1)))))
theorem cracknellaw04_ShapeAparts.mono_l : ∀ k, (∀ y0 y1 y2 y3 y4 y5 y6, LeO (cracknellaw04_ShapeAparts.j0 k y0 y1 y2 y3 y4 y5 y6) (cracknellaw04_ShapeAparts.j0 (k + 1) y0 y1 y2 y3 y4 y5 y6)) ∧ (∀ y0 y1 y2 y3 y4 y5 y6 y7, LeO (cracknellaw04_ShapeAparts.j1 k y0 y1 y2 y3 y4 y5 y6 y7) (cracknellaw04_ShapeAparts.j1 (k + 1) y0 y1 y2 y3 y4 y5 y6 y7)) ∧ (∀ y0 y1 y2 y3 y4 y5 y6, LeO (cracknellaw04_ShapeAparts.j2 k y0 y1 y2 y3 y4 y5 y6) (cracknellaw04_ShapeAparts.j2 (k + 1) y0 y1 y2 y3 y4 y5 y6))
 | 0 => ⟨fun _ _ _ _ _ _ _ r h => by simp [cracknellaw04_ShapeAparts.j0] at h, fun _ _ _ _ _ _ _ _ r h => by simp [cracknellaw04_ShapeAparts.j1] at h, fun _ _ _ _ _ _ _ r h => by simp [cracknellaw04_ShapeAparts.j2] at h⟩
 | k + 1 => by
  obtain ⟨ih0, ih1, ih2⟩ := cracknellaw04_ShapeAparts.mono_l k
  refine ⟨?_, ?_, ?_⟩
  ·intro y0 y1 y2 y3 y4 y5 y6
   unfold cracknellaw04_ShapeAparts.j0
   repeat' first
   | (with_reducible exact ih0 _ _ _ _ _ _ _)
   | (with_reducible exact ih1 _ _ _ _ _ _ _ _)
   | (with_reducible exact ih2 _ _ _ _ _ _ _)
   | (with_reducible exact cracknellaw04_convex.mono _ _)
   | (with_reducible exact cracknellaw04_lives.mono _)
   | (with_reducible exact cracknelref04_Apart.mono _ _ _)
   | (with_reducible exact cracknelref04_Moved.mono _ _ _ _)
   | (with_reducible exact shape_Apart.mono _ _ _ _ _)
   | (with_reducible exact LeO.refl _)
   | (with_reducible exact LeO.none _)
   | (with_reducible refine LeO.ite ?_ ?_)
   | (with_reducible refine LeO.bind ?_ (fun _ => ?_))
   | exact ih0 _ _ _ _ _ _ _
   | exact ih1 _ _ _ _ _ _ _ _
   | exact ih2 _ _ _ _ _ _ _
   | exact cracknellaw04_convex.mono _ _
   | exact cracknellaw04_lives.mono _
   | exact cracknelref04_Apart.mono _ _ _
   | exact cracknelref04_Moved.mono _ _ _ _
   | exact shape_Apart.mono _ _ _ _ _
   | exact LeO.none _
   | refine LeO.ite ?_ ?_
   | refine LeO.bind ?_ (fun _ => ?_)
  ·intro y0 y1 y2 y3 y4 y5 y6 y7
   unfold cracknellaw04_ShapeAparts.j1
   repeat' first
   | (with_reducible exact ih0 _ _ _ _ _ _ _)
   | (with_reducible exact ih1 _ _ _ _ _ _ _ _)
   | (with_reducible exact ih2 _ _ _ _ _ _ _)
   | (with_reducible exact cracknellaw04_convex.mono _ _)
   | (with_reducible exact cracknellaw04_lives.mono _)
   | (with_reducible exact cracknelref04_Apart.mono _ _ _)
   | (with_reducible exact cracknelref04_Moved.mono _ _ _ _)
   | (with_reducible exact shape_Apart.mono _ _ _ _ _)
   | (with_reducible exact LeO.refl _)
   | (with_reducible exact LeO.none _)
   | (with_reducible refine LeO.ite ?_ ?_)
   | (with_reducible refine LeO.bind ?_ (fun _ => ?_))
   | exact ih0 _ _ _ _ _ _ _
   | exact ih1 _ _ _ _ _ _ _ _
   | exact ih2 _ _ _ _ _ _ _
   | exact cracknellaw04_convex.mono _ _
   | exact cracknellaw04_lives.mono _
   | exact cracknelref04_Apart.mono _ _ _
   | exact cracknelref04_Moved.mono _ _ _ _
   | exact shape_Apart.mono _ _ _ _ _
   | exact LeO.none _
   | refine LeO.ite ?_ ?_
   | refine LeO.bind ?_ (fun _ => ?_)
  ·intro y0 y1 y2 y3 y4 y5 y6
   unfold cracknellaw04_ShapeAparts.j2
   repeat' first
   | (with_reducible exact ih0 _ _ _ _ _ _ _)
   | (with_reducible exact ih1 _ _ _ _ _ _ _ _)
   | (with_reducible exact ih2 _ _ _ _ _ _ _)
   | (with_reducible exact cracknellaw04_convex.mono _ _)
   | (with_reducible exact cracknellaw04_lives.mono _)
   | (with_reducible exact cracknelref04_Apart.mono _ _ _)
   | (with_reducible exact cracknelref04_Moved.mono _ _ _ _)
   | (with_reducible exact shape_Apart.mono _ _ _ _ _)
   | (with_reducible exact LeO.refl _)
   | (with_reducible exact LeO.none _)
   | (with_reducible refine LeO.ite ?_ ?_)
   | (with_reducible refine LeO.bind ?_ (fun _ => ?_))
   | exact ih0 _ _ _ _ _ _ _
   | exact ih1 _ _ _ _ _ _ _ _
   | exact ih2 _ _ _ _ _ _ _
   | exact cracknellaw04_convex.mono _ _
   | exact cracknellaw04_lives.mono _
   | exact cracknelref04_Apart.mono _ _ _
   | exact cracknelref04_Moved.mono _ _ _ _
   | exact shape_Apart.mono _ _ _ _ _
   | exact LeO.none _
   | refine LeO.ite ?_ ?_
   | refine LeO.bind ?_ (fun _ => ?_)
theorem cracknellaw04_ShapeAparts.mono : ∀ a0 a1 a2 a3 k, LeO (cracknellaw04_ShapeAparts.f k a0 a1 a2 a3) (cracknellaw04_ShapeAparts.f (k + 1) a0 a1 a2 a3) := by
 intro a0 a1 a2 a3 k
 obtain ⟨ih0, ih1, ih2⟩ := cracknellaw04_ShapeAparts.mono_l k
 unfold cracknellaw04_ShapeAparts.f
 repeat' first
  | (with_reducible exact ih0 _ _ _ _ _ _ _)
  | (with_reducible exact ih1 _ _ _ _ _ _ _ _)
  | (with_reducible exact ih2 _ _ _ _ _ _ _)
  | (with_reducible exact cracknellaw04_convex.mono _ _)
  | (with_reducible exact cracknellaw04_lives.mono _)
  | (with_reducible exact cracknelref04_Apart.mono _ _ _)
  | (with_reducible exact cracknelref04_Moved.mono _ _ _ _)
  | (with_reducible exact shape_Apart.mono _ _ _ _ _)
  | (with_reducible exact LeO.refl _)
  | (with_reducible exact LeO.none _)
  | (with_reducible refine LeO.ite ?_ ?_)
  | (with_reducible refine LeO.bind ?_ (fun _ => ?_))
  | exact ih0 _ _ _ _ _ _ _
  | exact ih1 _ _ _ _ _ _ _ _
  | exact ih2 _ _ _ _ _ _ _
  | exact cracknellaw04_convex.mono _ _
  | exact cracknellaw04_lives.mono _
  | exact cracknelref04_Apart.mono _ _ _
  | exact cracknelref04_Moved.mono _ _ _ _
  | exact shape_Apart.mono _ _ _ _ _
  | exact LeO.none _
  | refine LeO.ite ?_ ?_
  | refine LeO.bind ?_ (fun _ => ?_)
set_option maxHeartbeats 8000000 in
set_option maxRecDepth 100000 in
theorem cracknellaw04_ShapeAparts.calls (k : Nat) (A0 : Option Addr) (c0 : Nat) (l0 : List (S29)) (A1 : Option Addr) (c1 : Nat) (l1 : List (S29)) (a2_0 : Int) (a2_1 : Int) (r : Bool) (w : World) (hr0 : Kd.C k29 w A0 l0.length l0) (hc0 : l0.length ≤ c0) (hr1 : Kd.C k29 w A1 l1.length l1) (hc1 : l1.length ≤ c1) (h : cracknellaw04_ShapeAparts.f k l0 l1 a2_0 a2_1 = some r) :
  Calls Try.prog 7 #[.slice A0 l0.length c0, .slice A1 l1.length c1, .agg #[.int .i64 a2_0, .int .i64 a2_1]] w fun e w' => e = .returned (.bool r) ∧ Below w.heap.size w w' := by
 have hu29 := Try.underlying29
 have HR0 := Aside0.mk hr0
 have HC0 := Aside0.mk hc0
 clear hr0 hc0
 have HR1 := Aside0.mk hr1
 have HC1 := Aside0.mk hc1
 clear hr1 hc1
 have HB := Aside0.mk (Below.refl w.heap.size w)
 have H : ((cracknellaw04_cut.f l0 12).bind fun t102 => ((cracknellaw04_cut.f l1 12).bind fun t105 => ((shape_Apart.f k t102 t105 a2_0 a2_1).bind fun bt108 => ((cracknellaw04_convex.f k t102).bind fun t110 => (if t110 = 0 then ((cracknellaw04_convex.f k t105).bind fun t111 => (cracknellaw04_ShapeAparts.j0 k t102 t105 bt108.1 bt108.2 t111 a2_0 a2_1)) else (cracknellaw04_ShapeAparts.j0 k t102 t105 bt108.1 bt108.2 t110 a2_0 a2_1)))))) = some r := h
 clear h
 replace H := Option.bind_eq_some_iff.mp H
 obtain ⟨t102, A40, H⟩ := H
 replace H : ((cracknellaw04_cut.f l1 12).bind fun t105 => ((shape_Apart.f k t102 t105 a2_0 a2_1).bind fun bt108 => ((cracknellaw04_convex.f k t102).bind fun t110 => (if t110 = 0 then ((cracknellaw04_convex.f k t105).bind fun t111 => (cracknellaw04_ShapeAparts.j0 k t102 t105 bt108.1 bt108.2 t111 a2_0 a2_1)) else (cracknellaw04_ShapeAparts.j0 k t102 t105 bt108.1 bt108.2 t110 a2_0 a2_1))))) = some r := H
 have A4 := Aside0.mk A40
 clear A40
 replace H := Option.bind_eq_some_iff.mp H
 obtain ⟨t105, A50, H⟩ := H
 replace H : ((shape_Apart.f k t102 t105 a2_0 a2_1).bind fun bt108 => ((cracknellaw04_convex.f k t102).bind fun t110 => (if t110 = 0 then ((cracknellaw04_convex.f k t105).bind fun t111 => (cracknellaw04_ShapeAparts.j0 k t102 t105 bt108.1 bt108.2 t111 a2_0 a2_1)) else (cracknellaw04_ShapeAparts.j0 k t102 t105 bt108.1 bt108.2 t110 a2_0 a2_1)))) = some r := H
 have A5 := Aside0.mk A50
 clear A50
 replace H := Option.bind_eq_some_iff.mp H
 obtain ⟨⟨t108, t109⟩, A60, H⟩ := H
 replace H : ((cracknellaw04_convex.f k t102).bind fun t110 => (if t110 = 0 then ((cracknellaw04_convex.f k t105).bind fun t111 => (cracknellaw04_ShapeAparts.j0 k t102 t105 t108 t109 t111 a2_0 a2_1)) else (cracknellaw04_ShapeAparts.j0 k t102 t105 t108 t109 t110 a2_0 a2_1))) = some r := H
 have A6 := Aside0.mk A60
 clear A60
 replace H := Option.bind_eq_some_iff.mp H
 obtain ⟨t110, A70, H⟩ := H
 replace H : (if t110 = 0 then ((cracknellaw04_convex.f k t105).bind fun t111 => (cracknellaw04_ShapeAparts.j0 k t102 t105 t108 t109 t111 a2_0 a2_1)) else (cracknellaw04_ShapeAparts.j0 k t102 t105 t108 t109 t110 a2_0 a2_1)) = some r := H
 have A7 := Aside0.mk A70
 clear A70
 have HC8 := Aside0.mk H
 clear H
 go_enter Try.func7, Try.ntmps7
 go_upto_if 26 with (first | ((with_reducible refine gate_dst (N := 5) rfl ?_); refine bxe 5 #[.int .i64 a2_0, .int .i64 a2_1] 29 ?_; intro gb101 hg w9 hbox hb; have n0_ := Aside0.mk (below_step bh hb); have n1_ := Aside0.mk (hbox); have n2_ := Aside0.mk (gs hg : w.heap.size ≤ gb101); have n3_ := Aside0.mk (gs hg : w.heap.size ≤ gb101); clear HB; have HB := n0_; have BK101 := n1_; have GW101 := n2_; have GE101 := n3_; clear n0_ n1_ n2_ n3_; clear hb hbox hg) | ((with_reducible refine gate_callee (f := 15) rfl ?_); refine goesL_ (some 13) rfl rfl Try.func15 (by kernel_rfl) rfl #[.slice A0 l0.length c0, .int .i64 12] rfl sg ?_; (with_reducible refine (cracknellaw04_cut.calls _ _ l0 12 t102 _ ?side1 ?side2 A4.out).mono ?_); (case side1 => exact cs (Kd.C_below HR0.out HB.out)); (case side2 => exact HC0.out); rintro e w10 ⟨v103, rfl, ho0, hb⟩; refine ⟨_, rfl, ?_⟩; have n0_ := Aside0.mk (Kd.R_lower (Kd.R_newB ho0 (g := gb101) (o := .cells #[.int .i64 a2_0, .int .i64 a2_1] 29 (0, 0)) (bk BK101)) (below_size bh)); have n1_ := kb BK101 hb; have n2_ := Aside0.mk (below_step bh hb); clear BK101; clear HB; have HO104 := n0_; have BK101 := n1_; have HB := n2_; clear n0_ n1_ n2_; (try clear hb); (try clear hb2); (try clear hk); (try clear hi); (try clear ho0)) | ((with_reducible refine gate_callee (f := 15) rfl ?_); refine goesL_ (some 15) rfl rfl Try.func15 (by kernel_rfl) rfl #[.slice A1 l1.length c1, .int .i64 12] rfl sg ?_; (with_reducible refine (cracknellaw04_cut.calls _ _ l1 12 t105 _ ?side1 ?side2 A5.out).mono ?_); (case side1 => exact cs (Kd.C_below HR1.out HB.out)); (case side2 => exact HC1.out); rintro e w11 ⟨v106, rfl, ho0, hb⟩; refine ⟨_, rfl, ?_⟩; have n0_ := Aside0.mk (Kd.R_elder' (ro HO104) (Kd.R_base ho0) hb); have n1_ := Aside0.mk (Kd.R_lower (Kd.R_newB (Kd.R_new' ho0 (Kd.R_lt (ro HO104))) (g := gb101) (o := .cells #[.int .i64 a2_0, .int .i64 a2_1] 29 (0, 0)) (bk BK101)) (below_size bh)); have n2_ := kb BK101 hb; have n3_ := Aside0.mk (below_step bh hb); clear HO104; clear BK101; clear HB; have HO104 := n0_; have HO107 := n1_; have BK101 := n2_; have HB := n3_; clear n0_ n1_ n2_ n3_; (try clear hb); (try clear hb2); (try clear hk); (try clear hi); (try clear ho0); have hcz12_0 : w11.cell? ⟨gb101, 0, none⟩ = some (.int .i64 a2_0) := bc BK101 0; have hcz12_1 : w11.cell? ⟨gb101, 1, none⟩ = some (.int .i64 a2_1) := bc BK101 1; have hfz12_0 := blk_frozen BK101.out 0; have hfz12_1 := blk_frozen BK101.out 1; obtain ⟨Ao13, co13, eo13⟩ := Kd.R_slice HO104.out; subst eo13; obtain ⟨Ao14, co14, eo14⟩ := Kd.R_slice HO107.out; subst eo14) | ((with_reducible refine gate_callee (f := 35) rfl ?_); refine goesL_ (some 20) rfl rfl Try.func35 (by kernel_rfl) rfl #[.slice Ao13 t102.length co13, .slice Ao14 t105.length co14, .agg #[.int .i64 a2_0, .int .i64 a2_1]] rfl sg ?_; (with_reducible refine (shape_Apart.calls k (fun k_ => some k_ = (.slice Ao13 t102.length co13 : Value).ownBlock) _ _ t102 (fun k_ => some k_ = (.slice Ao14 t105.length co14 : Value).ownBlock) _ _ t105 a2_0 a2_1 t108 t109 _ ?side1 ?side2 A6.out).mono ?_); (case side1 => exact Kd.R_V (Kd.R_tight rfl (HO104.out))); (case side2 => exact Kd.R_V (Kd.R_tight rfl (HO107.out))); rintro e w15 ⟨rfl, hb⟩; refine ⟨_, rfl, ?_⟩; have n0_ := Aside0.mk (Kd.R_below (ro HO104) hb); have n1_ := Aside0.mk (Kd.R_below (ro HO107) hb); have n2_ := kb BK101 hb; have n3_ := Aside0.mk (below_step bh hb); clear HO104; clear HO107; clear BK101; clear HB; have HO104 := n0_; have HO107 := n1_; have BK101 := n2_; have HB := n3_; clear n0_ n1_ n2_ n3_; (try clear hb); (try clear hb2); (try clear hk); (try clear hi)) | ((with_reducible refine gate_callee (f := 36) rfl ?_); refine goesL_ (some 24) rfl rfl Try.func36 (by kernel_rfl) rfl #[.slice Ao13 t102.length co13] rfl sg ?_; (with_reducible refine (cracknellaw04_convex.calls k _ _ t102 t110 _ ?side1 ?side2 A7.out).mono ?_); (case side1 => exact cs (Kd.R_reads' HO104.out).2.2); (case side2 => exact (Kd.R_reads' HO104.out).2.1); rintro e w16 ⟨rfl, hb⟩; refine ⟨_, rfl, ?_⟩; have n0_ := Aside0.mk (Kd.R_below (ro HO104) hb); have n1_ := Aside0.mk (Kd.R_below (ro HO107) hb); have n2_ := kb BK101 hb; have n3_ := Aside0.mk (below_step bh hb); clear HO104; clear HO107; clear BK101; clear HB; have HO104 := n0_; have HO107 := n1_; have BK101 := n2_; have HB := n3_; clear n0_ n1_ n2_ n3_; (try clear hb); (try clear hb2); (try clear hk); (try clear hi)))
 (try simp only [Act.put, List.setIfInBounds_toArray, List.set_cons_zero, List.set_cons_succ])
 go_cut [11] (fun v11 wc => ∃ (kq : Nat) (x11_7 : Int), v11 = .int .i64 x11_7 ∧ Aside0 (cracknellaw04_ShapeAparts.j0 kq t102 t105 t108 t109 x11_7 a2_0 a2_1 = some r) ∧ Aside0 (kq ≤ k) ∧ Aside0 (Kd.R k29 29 wc w.heap.size (fun k_ => some k_ ≠ ((.slice Ao14 t105.length co14) : Value).ownBlock ∧ k_ ≠ gb101) (.slice Ao13 t102.length co13) t102) ∧ Aside0 (Kd.R k29 29 wc w.heap.size (fun k_ => some k_ ≠ ((.slice Ao13 t102.length co13) : Value).ownBlock ∧ k_ ≠ gb101) (.slice Ao14 t105.length co14) t105) ∧ Aside0 (wc.heap[gb101]? = some (.cells #[.int .i64 a2_0, .int .i64 a2_1] 29 (0, 0))) ∧ Aside0 (Below w.heap.size w wc))
 case first =>
  have H := HC8.out
  clear HC8
  by_cases c17 : t110 = 0
  ·rw [if_pos c17] at H
   have c17b0 : (t110 == 0) = true := beq_iff_eq.mpr c17
   have c17b1 : (t110 != 0) = false := bne_eq_false_iff_eq.mpr c17
   clear c17
   (first | rw [c17b0] | (simp only [i64_w, i32_w]; rw [c17b0]) | skip)
   replace H := Option.bind_eq_some_iff.mp H
   obtain ⟨t111, A180, H⟩ := H
   replace H : (cracknellaw04_ShapeAparts.j0 k t102 t105 t108 t109 t111 a2_0 a2_1) = some r := H
   have A18 := Aside0.mk A180
   clear A180
   have H' := Aside0.mk H
   clear H
   go_wp2_with (first | ((with_reducible refine gate_callee (f := 36) rfl ?_); refine goesL_ (some 28) rfl rfl Try.func36 (by kernel_rfl) rfl #[.slice Ao14 t105.length co14] rfl sg ?_; (with_reducible refine (cracknellaw04_convex.calls k _ _ t105 t111 _ ?side1 ?side2 A18.out).mono ?_); (case side1 => exact cs (Kd.R_reads' HO107.out).2.2); (case side2 => exact (Kd.R_reads' HO107.out).2.1); rintro e w19 ⟨rfl, hb⟩; refine ⟨_, rfl, ?_⟩; have n0_ := Aside0.mk (Kd.R_below (ro HO104) hb); have n1_ := Aside0.mk (Kd.R_below (ro HO107) hb); have n2_ := kb BK101 hb; have n3_ := Aside0.mk (below_step bh hb); clear HO104; clear HO107; clear BK101; clear HB; have HO104 := n0_; have HO107 := n1_; have BK101 := n2_; have HB := n3_; clear n0_ n1_ n2_ n3_; (try clear hb); (try clear hb2); (try clear hk); (try clear hi)))
   go_meet
   case rel => exact ⟨_, (t111), sd, H', ⟨om⟩, ⟨by (with_reducible repeat (first | apply Kd.R_alloc | apply Kd.R_drewN | apply Kd.R_drew)); exact Kd.R_mono HO104.out (fun _ hk => ⟨hk.2, hk.1.2⟩)⟩, ⟨by (with_reducible repeat (first | apply Kd.R_alloc | apply Kd.R_drewN | apply Kd.R_drew)); exact Kd.R_mono HO107.out (fun _ hk => ⟨hk.1.2, hk.2⟩)⟩, ⟨bk BK101⟩, ⟨bh⟩⟩
  ·rw [if_neg c17] at H
   have c17b0 : (t110 == 0) = false := beq_eq_false_iff_ne.mpr c17
   have c17b1 : (t110 != 0) = true := bne_iff_ne.mpr c17
   (first | rw [c17b0] | (simp only [i64_w, i32_w]; rw [c17b0]) | skip)
   have H' := Aside0.mk H
   clear H
   go_wp2
   go_meet
   case rel => exact ⟨_, (t110), sd, H', ⟨om⟩, ⟨by (with_reducible repeat (first | apply Kd.R_alloc | apply Kd.R_drewN | apply Kd.R_drew)); exact Kd.R_mono HO104.out (fun _ hk => ⟨hk.2, hk.1.2⟩)⟩, ⟨by (with_reducible repeat (first | apply Kd.R_alloc | apply Kd.R_drewN | apply Kd.R_drew)); exact Kd.R_mono HO107.out (fun _ hk => ⟨hk.1.2, hk.2⟩)⟩, ⟨bk BK101⟩, ⟨bh⟩⟩
 case rest =>
  clear HC8
  try clear c1
  try clear p2
  try clear c3
  try clear c7
  try clear c15
  try clear c17
  try clear c17b0
  try clear c17b1
  try clear hcz12_0
  try clear hcz12_1
  try clear hfz12_0
  try clear hfz12_1
  obtain ⟨kq, x11_7, rfl, HA, HJ7, HO_7, HO_8, BK101, HB⟩ := hcut
  cases kq with
  | zero => exact absurd HA.out (by simp [cracknellaw04_ShapeAparts.j0])
  | succ kj7 =>
   have H := HA.out
   clear HA
   simp only [cracknellaw04_ShapeAparts.j0] at H
   have HC20 := Aside0.mk H
   clear H
   go_upto_region 6 with (fail)
   go_cut [35] (fun v35 wc => ∃ (kq : Nat) (x35_19 : Bool), v35 = .bool x35_19 ∧ Aside0 (cracknellaw04_ShapeAparts.j1 kq t102 t105 t108 t109 x11_7 x35_19 a2_0 a2_1 = some r) ∧ Aside0 (kq ≤ kj7) ∧ Aside0 (Kd.R k29 29 wc w.heap.size (fun k_ => some k_ ≠ ((.slice Ao14 t105.length co14) : Value).ownBlock ∧ k_ ≠ gb101) (.slice Ao13 t102.length co13) t102) ∧ Aside0 (Kd.R k29 29 wc w.heap.size (fun k_ => some k_ ≠ ((.slice Ao13 t102.length co13) : Value).ownBlock ∧ k_ ≠ gb101) (.slice Ao14 t105.length co14) t105) ∧ Aside0 (wc.heap[gb101]? = some (.cells #[.int .i64 a2_0, .int .i64 a2_1] 29 (0, 0))) ∧ Aside0 (Below w.heap.size w wc))
   case first =>
    have H := HC20.out
    clear HC20
    by_cases c21 : x11_7 = 0
    ·rw [if_pos c21] at H
     have c21b0 : (x11_7 == 0) = true := beq_iff_eq.mpr c21
     have c21b1 : (x11_7 != 0) = false := bne_eq_false_iff_eq.mpr c21
     clear c21
     (first | rw [c21b0] | (simp only [i64_w, i32_w]; rw [c21b0]) | skip)
     replace H := Option.bind_eq_some_iff.mp H
     obtain ⟨t112, A220, H⟩ := H
     replace H : (cracknellaw04_ShapeAparts.j1 kj7 t102 t105 t108 t109 x11_7 (!t112) a2_0 a2_1) = some r := H
     have A22 := Aside0.mk A220
     clear A220
     have H' := Aside0.mk H
     clear H
     obtain ⟨hcz23_0, hcz23_1, hfz23_0, hfz23_1⟩ := b2 BK101
     go_wp2_with (first | (go_at_call 17; (with_reducible refine (cracknelref04_Valid.calls a2_0 a2_1 20000 t112 _ A22.out).mono ?_); rintro e w24 ⟨rfl, hb⟩; have n0_ := Aside0.mk (Kd.R_below (ro HO_7) hb); have n1_ := Aside0.mk (Kd.R_below (ro HO_8) hb); have n2_ := kb BK101 hb; have n3_ := Aside0.mk (below_step bh hb); clear HO_7; clear HO_8; clear BK101; clear HB; have HO_7 := n0_; have HO_8 := n1_; have BK101 := n2_; have HB := n3_; clear n0_ n1_ n2_ n3_; (try clear hb); (try clear hb2); (try clear hk); (try clear hi)))
     go_meet
     case rel => exact ⟨_, (!t112), sd, H', ⟨by have := HJ7.out; first | omega | exact Nat.le_refl _⟩, ⟨by (with_reducible repeat (first | apply Kd.R_alloc | apply Kd.R_drewN | apply Kd.R_drew)); exact HO_7.out⟩, ⟨by (with_reducible repeat (first | apply Kd.R_alloc | apply Kd.R_drewN | apply Kd.R_drew)); exact HO_8.out⟩, ⟨bk BK101⟩, ⟨bh⟩⟩
    ·rw [if_neg c21] at H
     have c21b0 : (x11_7 == 0) = false := beq_eq_false_iff_ne.mpr c21
     have c21b1 : (x11_7 != 0) = true := bne_iff_ne.mpr c21
     (first | rw [c21b0] | (simp only [i64_w, i32_w]; rw [c21b0]) | skip)
     have H' := Aside0.mk H
     clear H
     go_wp2
     go_meet
     case rel => exact ⟨_, (false), sd, H', ⟨by have := HJ7.out; first | omega | exact Nat.le_refl _⟩, ⟨by (with_reducible repeat (first | apply Kd.R_alloc | apply Kd.R_drewN | apply Kd.R_drew)); exact HO_7.out⟩, ⟨by (with_reducible repeat (first | apply Kd.R_alloc | apply Kd.R_drewN | apply Kd.R_drew)); exact HO_8.out⟩, ⟨bk BK101⟩, ⟨bh⟩⟩
   case rest =>
    clear HC20
    try clear c1
    try clear c2
    try clear p2
    try clear c3
    try clear c7
    try clear c15
    try clear c17
    try clear c17b0
    try clear c17b1
    try clear c21
    try clear c21b0
    try clear c21b1
    try clear hcz12_0
    try clear hcz12_1
    try clear hcz23_0
    try clear hcz23_1
    try clear hfz12_0
    try clear hfz12_1
    try clear hfz23_0
    try clear hfz23_1
    try clear p2
    obtain ⟨kq, x35_19, rfl, HA, HJ19, HO_7, HO_8, BK101, HB⟩ := hcut
    cases kq with
    | zero => exact absurd HA.out (by simp [cracknellaw04_ShapeAparts.j1])
    | succ kj19 =>
     have H := HA.out
     clear HA
     simp only [cracknellaw04_ShapeAparts.j1] at H
     have HC25 := Aside0.mk H
     clear H
     go_upto_if 35 with (fail)
     go_cut [11] (fun v11 wc => ∃ (kq : Nat) (x11_24 : Int), v11 = .int .i64 x11_24 ∧ Aside0 (cracknellaw04_ShapeAparts.j2 kq t102 t105 t108 t109 x11_24 a2_0 a2_1 = some r) ∧ Aside0 (kq ≤ kj19) ∧ Aside0 (Kd.R k29 29 wc w.heap.size (fun k_ => some k_ ≠ ((.slice Ao14 t105.length co14) : Value).ownBlock ∧ k_ ≠ gb101) (.slice Ao13 t102.length co13) t102) ∧ Aside0 (Kd.R k29 29 wc w.heap.size (fun k_ => some k_ ≠ ((.slice Ao13 t102.length co13) : Value).ownBlock ∧ k_ ≠ gb101) (.slice Ao14 t105.length co14) t105) ∧ Aside0 (wc.heap[gb101]? = some (.cells #[.int .i64 a2_0, .int .i64 a2_1] 29 (0, 0))) ∧ Aside0 (Below w.heap.size w wc))
     case first =>
      have H := HC25.out
      clear HC25
      by_cases c26 : x35_19 = true
      ·subst c26
       rw [if_pos rfl] at H
       have H' := Aside0.mk H
       clear H
       go_wp2
       go_meet
       case rel => exact ⟨_, (1), sd, H', ⟨by have := HJ7.out; have := HJ19.out; first | omega | exact Nat.le_refl _⟩, ⟨by (with_reducible repeat (first | apply Kd.R_alloc | apply Kd.R_drewN | apply Kd.R_drew)); exact HO_7.out⟩, ⟨by (with_reducible repeat (first | apply Kd.R_alloc | apply Kd.R_drewN | apply Kd.R_drew)); exact HO_8.out⟩, ⟨bk BK101⟩, ⟨bh⟩⟩
      ·replace c26 := Bool.eq_false_iff.mpr c26
       subst c26
       rw [if_neg (show ¬ (false = true) by decide)] at H
       have H' := Aside0.mk H
       clear H
       go_wp2
       go_meet
       case rel => exact ⟨_, (x11_7), sd, H', ⟨by have := HJ7.out; have := HJ19.out; first | omega | exact Nat.le_refl _⟩, ⟨by (with_reducible repeat (first | apply Kd.R_alloc | apply Kd.R_drewN | apply Kd.R_drew)); exact HO_7.out⟩, ⟨by (with_reducible repeat (first | apply Kd.R_alloc | apply Kd.R_drewN | apply Kd.R_drew)); exact HO_8.out⟩, ⟨bk BK101⟩, ⟨bh⟩⟩
     case rest =>
      clear HC25
      try clear c1
      try clear c2
      try clear p2
      try clear c3
      try clear c7
      try clear c15
      try clear c17
      try clear c17b0
      try clear c17b1
      try clear c21
      try clear c21b0
      try clear c21b1
      try clear c26
      try clear hcz12_0
      try clear hcz12_1
      try clear hcz23_0
      try clear hcz23_1
      try clear hfz12_0
      try clear hfz12_1
      try clear hfz23_0
      try clear hfz23_1
      try clear p2
      obtain ⟨kq, x11_24, rfl, HA, HJ24, HO_7, HO_8, BK101, HB⟩ := hcut
      cases kq with
      | zero => exact absurd HA.out (by simp [cracknellaw04_ShapeAparts.j2])
      | succ kj24 =>
       have H := HA.out
       clear HA
       simp only [cracknellaw04_ShapeAparts.j2] at H
       by_cases c27 : x11_24 = 0
       ·rw [if_pos c27] at H
        have c27b0 : (x11_24 == 0) = true := beq_iff_eq.mpr c27
        have c27b1 : (x11_24 != 0) = false := bne_eq_false_iff_eq.mpr c27
        clear c27
        replace H := Option.bind_eq_some_iff.mp H
        obtain ⟨t114, A280, H⟩ := H
        replace H : ((cracknelref04_Apart.f kj24 t102 t114).bind fun t117 => (if (t108 == t117) = true then (if t109 = 0 then ((cracknellaw04_lives.f kj24).bind fun t118 => (some t118)) else (some false)) else (some false))) = some r := H
        have A28 := Aside0.mk A280
        clear A280
        replace H := Option.bind_eq_some_iff.mp H
        obtain ⟨t117, A290, H⟩ := H
        replace H : (if (t108 == t117) = true then (if t109 = 0 then ((cracknellaw04_lives.f kj24).bind fun t118 => (some t118)) else (some false)) else (some false)) = some r := H
        have A29 := Aside0.mk A290
        clear A290
        by_cases c30 : (t108 == t117) = true
        ·rw [if_pos c30] at H
         have c30b0 : (t108 == t117) = true := c30
         (try (have c30b1 : decide (t108 = t117) = true := by simpa using c30))
         (try (have c30b2 : (t108 == t117) = true := by simpa using c30))
         clear c30
         by_cases c31 : t109 = 0
         ·rw [if_pos c31] at H
          have c31b0 : (t109 == 0) = true := beq_iff_eq.mpr c31
          have c31b1 : (t109 != 0) = false := bne_eq_false_iff_eq.mpr c31
          clear c31
          replace H := Option.bind_eq_some_iff.mp H
          obtain ⟨t118, A320, H⟩ := H
          replace H : (some t118) = some r := H
          have A32 := Aside0.mk A320
          clear A320
          obtain rfl := Option.some.inj H
          obtain ⟨hcz33_0, hcz33_1, hfz33_0, hfz33_1⟩ := b2 BK101
          go_wp2_with (first | ((with_reducible refine gate_callee (f := 26) rfl ?_); refine goesL_ (some 52) rfl rfl Try.func26 (by kernel_rfl) rfl #[.slice Ao14 t105.length co14, .agg #[.int .i64 a2_0, .int .i64 a2_1]] rfl sg ?_; (with_reducible refine (cracknelref04_Moved.calls kj24 _ _ t105 a2_0 a2_1 t114 _ ?side1 ?side2 A28.out).mono ?_); (case side1 => exact cs (Kd.R_reads' HO_8.out).2.2); (case side2 => exact (Kd.R_reads' HO_8.out).2.1); rintro e w34 ⟨v115, rfl, ho0, hb⟩; refine ⟨_, rfl, ?_⟩; have n0_ := Aside0.mk (Kd.R_elder' (ro HO_7) (Kd.R_base ho0) hb); have n1_ := Aside0.mk (Kd.R_elder' (ro HO_8) (Kd.R_base ho0) hb); have n2_ := Aside0.mk (Kd.R_lower (Kd.R_newB (Kd.R_new' (Kd.R_new' ho0 (Kd.R_lt (ro HO_7))) (Kd.R_lt (ro HO_8))) (g := gb101) (o := .cells #[.int .i64 a2_0, .int .i64 a2_1] 29 (0, 0)) (bk BK101)) (below_size bh)); have n3_ := kb BK101 hb; have n4_ := Aside0.mk (below_step bh hb); clear HO_7; clear HO_8; clear BK101; clear HB; have HO_7 := n0_; have HO_8 := n1_; have HO116 := n2_; have BK101 := n3_; have HB := n4_; clear n0_ n1_ n2_ n3_ n4_; (try clear hb); (try clear hb2); (try clear hk); (try clear hi); (try clear ho0); obtain ⟨Ao35, co35, eo35⟩ := Kd.R_slice HO116.out; subst eo35) | ((with_reducible refine gate_callee (f := 37) rfl ?_); refine goesL_ (some 53) rfl rfl Try.func37 (by kernel_rfl) rfl #[.slice Ao13 t102.length co13, .slice Ao35 t114.length co35] rfl sg ?_; (with_reducible refine (cracknelref04_Apart.calls kj24 _ _ t102 _ _ t114 t117 _ ?side1 ?side2 ?side3 ?side4 A29.out).mono ?_); (case side1 => exact cs (Kd.R_reads' HO_7.out).2.2); (case side2 => exact (Kd.R_reads' HO_7.out).2.1); (case side3 => exact cs (Kd.R_reads' HO116.out).2.2); (case side4 => exact (Kd.R_reads' HO116.out).2.1); rintro e w36 ⟨rfl, hb⟩; refine ⟨_, rfl, ?_⟩; have n0_ := Aside0.mk (Kd.R_below (ro HO_7) hb); have n1_ := Aside0.mk (Kd.R_below (ro HO_8) hb); have n2_ := Aside0.mk (Kd.R_below (ro HO116) hb); have n3_ := kb BK101 hb; have n4_ := Aside0.mk (below_step bh hb); clear HO_7; clear HO_8; clear HO116; clear BK101; clear HB; have HO_7 := n0_; have HO_8 := n1_; have HO116 := n2_; have BK101 := n3_; have HB := n4_; clear n0_ n1_ n2_ n3_ n4_; (try clear hb); (try clear hb2); (try clear hk); (try clear hi)) | (go_at_call 18; (with_reducible refine (cracknellaw04_lives.calls kj24  t118 _ A32.out).mono ?_); rintro e w37 ⟨rfl, hb⟩; have n0_ := Aside0.mk (Kd.R_below (ro HO_7) hb); have n1_ := Aside0.mk (Kd.R_below (ro HO_8) hb); have n2_ := Aside0.mk (Kd.R_below (ro HO116) hb); have n3_ := kb BK101 hb; have n4_ := Aside0.mk (below_step bh hb); clear HO_7; clear HO_8; clear HO116; clear BK101; clear HB; have HO_7 := n0_; have HO_8 := n1_; have HO116 := n2_; have BK101 := n3_; have HB := n4_; clear n0_ n1_ n2_ n3_ n4_; (try clear hb); (try clear hb2); (try clear hk); (try clear hi)))
          go_ret
          exact ⟨by exact er, bh⟩
         ·rw [if_neg c31] at H
          have c31b0 : (t109 == 0) = false := beq_eq_false_iff_ne.mpr c31
          have c31b1 : (t109 != 0) = true := bne_iff_ne.mpr c31
          obtain rfl := Option.some.inj H
          obtain ⟨hcz38_0, hcz38_1, hfz38_0, hfz38_1⟩ := b2 BK101
          go_wp2_with (first | ((with_reducible refine gate_callee (f := 26) rfl ?_); refine goesL_ (some 52) rfl rfl Try.func26 (by kernel_rfl) rfl #[.slice Ao14 t105.length co14, .agg #[.int .i64 a2_0, .int .i64 a2_1]] rfl sg ?_; (with_reducible refine (cracknelref04_Moved.calls kj24 _ _ t105 a2_0 a2_1 t114 _ ?side1 ?side2 A28.out).mono ?_); (case side1 => exact cs (Kd.R_reads' HO_8.out).2.2); (case side2 => exact (Kd.R_reads' HO_8.out).2.1); rintro e w39 ⟨v115, rfl, ho0, hb⟩; refine ⟨_, rfl, ?_⟩; have n0_ := Aside0.mk (Kd.R_elder' (ro HO_7) (Kd.R_base ho0) hb); have n1_ := Aside0.mk (Kd.R_elder' (ro HO_8) (Kd.R_base ho0) hb); have n2_ := Aside0.mk (Kd.R_lower (Kd.R_newB (Kd.R_new' (Kd.R_new' ho0 (Kd.R_lt (ro HO_7))) (Kd.R_lt (ro HO_8))) (g := gb101) (o := .cells #[.int .i64 a2_0, .int .i64 a2_1] 29 (0, 0)) (bk BK101)) (below_size bh)); have n3_ := kb BK101 hb; have n4_ := Aside0.mk (below_step bh hb); clear HO_7; clear HO_8; clear BK101; clear HB; have HO_7 := n0_; have HO_8 := n1_; have HO116 := n2_; have BK101 := n3_; have HB := n4_; clear n0_ n1_ n2_ n3_ n4_; (try clear hb); (try clear hb2); (try clear hk); (try clear hi); (try clear ho0); obtain ⟨Ao40, co40, eo40⟩ := Kd.R_slice HO116.out; subst eo40) | ((with_reducible refine gate_callee (f := 37) rfl ?_); refine goesL_ (some 53) rfl rfl Try.func37 (by kernel_rfl) rfl #[.slice Ao13 t102.length co13, .slice Ao40 t114.length co40] rfl sg ?_; (with_reducible refine (cracknelref04_Apart.calls kj24 _ _ t102 _ _ t114 t117 _ ?side1 ?side2 ?side3 ?side4 A29.out).mono ?_); (case side1 => exact cs (Kd.R_reads' HO_7.out).2.2); (case side2 => exact (Kd.R_reads' HO_7.out).2.1); (case side3 => exact cs (Kd.R_reads' HO116.out).2.2); (case side4 => exact (Kd.R_reads' HO116.out).2.1); rintro e w41 ⟨rfl, hb⟩; refine ⟨_, rfl, ?_⟩; have n0_ := Aside0.mk (Kd.R_below (ro HO_7) hb); have n1_ := Aside0.mk (Kd.R_below (ro HO_8) hb); have n2_ := Aside0.mk (Kd.R_below (ro HO116) hb); have n3_ := kb BK101 hb; have n4_ := Aside0.mk (below_step bh hb); clear HO_7; clear HO_8; clear HO116; clear BK101; clear HB; have HO_7 := n0_; have HO_8 := n1_; have HO116 := n2_; have BK101 := n3_; have HB := n4_; clear n0_ n1_ n2_ n3_ n4_; (try clear hb); (try clear hb2); (try clear hk); (try clear hi)))
          go_ret
          exact ⟨by exact er, bh⟩
        ·rw [if_neg c30] at H
         have c30b0 : (t108 == t117) = false := by simpa using c30
         (try (have c30b1 : decide (t108 = t117) = false := by simpa using c30))
         (try (have c30b2 : (t108 == t117) = false := by simpa using c30))
         (try (have c30b3 : ¬ (t108 = t117) := by simpa using c30))
         clear c30
         obtain rfl := Option.some.inj H
         obtain ⟨hcz42_0, hcz42_1, hfz42_0, hfz42_1⟩ := b2 BK101
         go_wp2_with (first | ((with_reducible refine gate_callee (f := 26) rfl ?_); refine goesL_ (some 52) rfl rfl Try.func26 (by kernel_rfl) rfl #[.slice Ao14 t105.length co14, .agg #[.int .i64 a2_0, .int .i64 a2_1]] rfl sg ?_; (with_reducible refine (cracknelref04_Moved.calls kj24 _ _ t105 a2_0 a2_1 t114 _ ?side1 ?side2 A28.out).mono ?_); (case side1 => exact cs (Kd.R_reads' HO_8.out).2.2); (case side2 => exact (Kd.R_reads' HO_8.out).2.1); rintro e w43 ⟨v115, rfl, ho0, hb⟩; refine ⟨_, rfl, ?_⟩; have n0_ := Aside0.mk (Kd.R_elder' (ro HO_7) (Kd.R_base ho0) hb); have n1_ := Aside0.mk (Kd.R_elder' (ro HO_8) (Kd.R_base ho0) hb); have n2_ := Aside0.mk (Kd.R_lower (Kd.R_newB (Kd.R_new' (Kd.R_new' ho0 (Kd.R_lt (ro HO_7))) (Kd.R_lt (ro HO_8))) (g := gb101) (o := .cells #[.int .i64 a2_0, .int .i64 a2_1] 29 (0, 0)) (bk BK101)) (below_size bh)); have n3_ := kb BK101 hb; have n4_ := Aside0.mk (below_step bh hb); clear HO_7; clear HO_8; clear BK101; clear HB; have HO_7 := n0_; have HO_8 := n1_; have HO116 := n2_; have BK101 := n3_; have HB := n4_; clear n0_ n1_ n2_ n3_ n4_; (try clear hb); (try clear hb2); (try clear hk); (try clear hi); (try clear ho0); obtain ⟨Ao44, co44, eo44⟩ := Kd.R_slice HO116.out; subst eo44) | ((with_reducible refine gate_callee (f := 37) rfl ?_); refine goesL_ (some 53) rfl rfl Try.func37 (by kernel_rfl) rfl #[.slice Ao13 t102.length co13, .slice Ao44 t114.length co44] rfl sg ?_; (with_reducible refine (cracknelref04_Apart.calls kj24 _ _ t102 _ _ t114 t117 _ ?side1 ?side2 ?side3 ?side4 A29.out).mono ?_); (case side1 => exact cs (Kd.R_reads' HO_7.out).2.2); (case side2 => exact (Kd.R_reads' HO_7.out).2.1); (case side3 => exact cs (Kd.R_reads' HO116.out).2.2); (case side4 => exact (Kd.R_reads' HO116.out).2.1); rintro e w45 ⟨rfl, hb⟩; refine ⟨_, rfl, ?_⟩; have n0_ := Aside0.mk (Kd.R_below (ro HO_7) hb); have n1_ := Aside0.mk (Kd.R_below (ro HO_8) hb); have n2_ := Aside0.mk (Kd.R_below (ro HO116) hb); have n3_ := kb BK101 hb; have n4_ := Aside0.mk (below_step bh hb); clear HO_7; clear HO_8; clear HO116; clear BK101; clear HB; have HO_7 := n0_; have HO_8 := n1_; have HO116 := n2_; have BK101 := n3_; have HB := n4_; clear n0_ n1_ n2_ n3_ n4_; (try clear hb); (try clear hb2); (try clear hk); (try clear hi)))
         go_ret
         exact ⟨by exact er, bh⟩
       ·rw [if_neg c27] at H
        have c27b0 : (x11_24 == 0) = false := beq_eq_false_iff_ne.mpr c27
        have c27b1 : (x11_24 != 0) = true := bne_iff_ne.mpr c27
        by_cases c46 : t108 = true
        ·subst c46
         rw [if_pos rfl] at H
         obtain rfl := Option.some.inj H
         go_wp2
         go_ret
         exact ⟨by exact er, bh⟩
        ·replace c46 := Bool.eq_false_iff.mpr c46
         subst c46
         rw [if_neg (show ¬ (false = true) by decide)] at H
         by_cases c47 : t109 = x11_24
         ·rw [if_pos c47] at H
          have c47b0 : (t109 == x11_24) = true := beq_iff_eq.mpr c47
          have c47b1 : (t109 != x11_24) = false := bne_eq_false_iff_eq.mpr c47
          clear c47
          replace H := Option.bind_eq_some_iff.mp H
          obtain ⟨t113, A480, H⟩ := H
          replace H : (some t113) = some r := H
          have A48 := Aside0.mk A480
          clear A480
          obtain rfl := Option.some.inj H
          go_wp2_with (first | (go_at_call 18; (with_reducible refine (cracknellaw04_lives.calls kj24  t113 _ A48.out).mono ?_); rintro e w49 ⟨rfl, hb⟩; have n0_ := Aside0.mk (Kd.R_below (ro HO_7) hb); have n1_ := Aside0.mk (Kd.R_below (ro HO_8) hb); have n2_ := kb BK101 hb; have n3_ := Aside0.mk (below_step bh hb); clear HO_7; clear HO_8; clear BK101; clear HB; have HO_7 := n0_; have HO_8 := n1_; have BK101 := n2_; have HB := n3_; clear n0_ n1_ n2_ n3_; (try clear hb); (try clear hb2); (try clear hk); (try clear hi)))
          go_ret
          exact ⟨by exact er, bh⟩
         ·rw [if_neg c47] at H
          have c47b0 : (t109 == x11_24) = false := beq_eq_false_iff_ne.mpr c47
          have c47b1 : (t109 != x11_24) = true := bne_iff_ne.mpr c47
          obtain rfl := Option.some.inj H
          go_wp2
          go_ret
          exact ⟨by exact er, bh⟩
end Go.Proofs.Ytoffmpkgickfhaa.PG
end
section
namespace Go.Proofs.Ytoffmpkgickfhaa.M
open Go.RowKit Go.Proofs.Ytoffmpkgickfhaa.PG Go.Proofs.YtoffmpkgickfhaaW.PrintMore Go.Proofs.YtoffmpkgickfhaaW.PrintWords
/-- what stands against a convex polygon in normal form, in both programs: one error -/
theorem bad_convex (r : List Pt) (hl : r.length ≤ 1000000) : ∃ c : Int, Rt (fun k => shape_refused_normal.f k r) c ∧ Rt (fun k => cracknellaw04_convex.f k r) c ∧ (c = 0 ↔ Poly r ∧ Convex r) := by
 obtain ⟨K1, h1⟩ := refPolygon_run r hl
 by_cases hp : Poly r
 ·have hb : ∀ p ∈ r, Bd p := fun p h => in_bd (hp.2.2 p h)
  obtain ⟨b4, ⟨K4, h4⟩, i4⟩ := normal_run hb hp.1 hl
  obtain ⟨b5, ⟨K5, h5⟩, i5⟩ := refConvex_run hb hp.1 hl
  have e1 : b4 = b5 := by rw [Bool.eq_iff_iff, i4, i5]
  subst e1
  refine ⟨if b4 = true then 0 else 2, ⟨K4, fun k hk => ?_⟩, ⟨K1 + K5, fun k hk => ?_⟩, ?_⟩
  ·have a4 := h4 k hk
   dsimp only at a4 ⊢
   unfold shape_refused_normal.f
   rw [polygon_f, Option.bind_some, if_pos (by simpa using hp), a4, Option.bind_some]
   cases b4 <;> rfl
  ·have a1 := h1 k (by omega)
   have a5 := h5 k (by omega)
   dsimp only at a1 a5 ⊢
   unfold cracknellaw04_convex.f
   rw [a1, Option.bind_some, if_pos (by simpa using hp), a5, Option.bind_some]
   cases b4 <;> rfl
  ·rw [← i4]; cases b4 <;> simp [hp]
 ·refine ⟨1, ⟨0, fun k hk => ?_⟩, ⟨K1, fun k hk => ?_⟩, ?_⟩
  ·dsimp only
   unfold shape_refused_normal.f
   rw [polygon_f, Option.bind_some, if_neg (by simpa using hp)]
  ·have a1 := h1 k (by omega)
   dsimp only at a1 ⊢
   unfold cracknellaw04_convex.f
   rw [a1, Option.bind_some, if_neg (by simpa using hp)]
  ·simp [hp]
def shift (v p : Pt) : Pt := ⟨p.f0 + v.f0, p.f1 + v.f1⟩
def shifted (v : Pt) (l : List Pt) : List Pt := l.map (shift v)
theorem take_snoc {l : List Pt} {i : Nat} (h : i < l.length) : l.take (i + 1) = l.take i ++ [at_ l i] := by
 rw [at_eq h, List.take_append_getElem]
theorem moved_run {l : List Pt} {v : Pt} (hb : ∀ p ∈ l, Bd p) (hv : Bd v) (hN : l.length ≤ 1000000) : Rt (fun k => shape_moved.f k l v.f0 v.f1) (shifted v l) := by
 have H : ∀ d i, l.length = i + d → Rt (fun k => shape_moved.l0 k (shifted v (l.take i)) l (l.length : Int) (i : Int) v.f0 v.f1) (shifted v l) := by
  intro d
  induction d with
  | zero =>
   intro i hi
   refine rt_ret fun k => ?_
   rw [shape_moved.l0, if_neg (by omega), List.take_of_length_le (by omega)]
  | succ d ih =>
   intro i hi
   have hlt : i < l.length := by omega
   obtain ⟨b0, b1, b2, b3⟩ := at_bd hb hlt
   obtain ⟨v0, v1, v2, v3⟩ := hv
   have e : shifted v (l.take (i + 1)) = shifted v (l.take i) ++ [shift v (at_ l i)] := by rw [take_snoc hlt]; unfold shifted; rw [List.map_append]; rfl
   refine rt_step (fun k => ?_) (ih (i + 1) (by omega))
   rw [e, shape_moved.l0, if_pos (by omega), if_pos (by omega), if_pos (by omega), rd_at]
   unfold shape_add.f
   rw [Option.bind_some, wz ((at_ l i).f0 + _) (by omega) (by omega), wz ((at_ l i).f1 + _) (by omega) (by omega), if_pos (by unfold shifted; rw [List.length_map, List.length_take]; omega), wrap_succ i (by omega)]
   rfl
 obtain ⟨K, hK⟩ := H l.length 0 (by omega)
 exact ⟨K, fun k hk => hK k hk⟩
theorem refMoved_run {l : List Pt} {v : Pt} (hb : ∀ p ∈ l, Bd p) (hv : Bd v) (hN : l.length ≤ 1000000) : Rt (fun k => cracknelref04_Moved.f k l v.f0 v.f1) (shifted v l) := by
 have H : ∀ d i, l.length = i + d → Rt (fun k => cracknelref04_Moved.l0 k l (shifted v (l.take i)) (i : Int) v.f0 v.f1) (shifted v l) := by
  intro d
  induction d with
  | zero =>
   intro i hi
   refine rt_ret fun k => ?_
   rw [cracknelref04_Moved.l0, if_neg (by omega), List.take_of_length_le (by omega)]
  | succ d ih =>
   intro i hi
   have hlt : i < l.length := by omega
   obtain ⟨b0, b1, b2, b3⟩ := at_bd hb hlt
   obtain ⟨v0, v1, v2, v3⟩ := hv
   have e : shifted v (l.take (i + 1)) = shifted v (l.take i) ++ [shift v (at_ l i)] := by rw [take_snoc hlt]; unfold shifted; rw [List.map_append]; rfl
   refine rt_step (fun k => ?_) (ih (i + 1) (by omega))
   rw [e, cracknelref04_Moved.l0, if_pos (by omega), if_pos (by omega), rd_at]
   rw [wz ((at_ l i).f0 + _) (by omega) (by omega), wz ((at_ l i).f1 + _) (by omega) (by omega), if_pos (by unfold shifted; rw [List.length_map, List.length_take]; omega), wrap_succ i (by omega)]
   rfl
 obtain ⟨K, hK⟩ := H l.length 0 (by omega)
 exact ⟨K, fun k hk => hK k hk⟩
/-- an edge of a has all of b on its right side, or on it -/
def SepAt (a b : List Pt) (i : Nat) : Prop := ∀ q ∈ b, cr (at_ a i) (at_ a ((i + 1) % a.length)) q ≤ 0
def Sep (a b : List Pt) : Prop := ∃ i, i < a.length ∧ SepAt a b i
theorem ex_split {n i : Nat} (hi : i < n) (P : Nat → Prop) : (∃ i', i ≤ i' ∧ i' < n ∧ P i') ↔ (P i ∨ ∃ i', i + 1 ≤ i' ∧ i' < n ∧ P i') := by
 constructor
 ·rintro ⟨j, h1, h2, h3⟩
  rcases Nat.eq_or_lt_of_le h1 with rfl | h4
  ·exact Or.inl h3
  ·exact Or.inr ⟨j, h4, h2, h3⟩
 ·rintro (h | ⟨j, h1, h2, h3⟩)
  ·exact ⟨i, Nat.le_refl _, hi, h⟩
  ·exact ⟨j, by omega, h2, h3⟩
theorem left_f {a b : Pt} {l : List Pt} (ha : Bd a) (hb : Bd b) (hl : ∀ q ∈ l, Bd q) : ∃ c, left_any.f l a.f0 a.f1 b.f0 b.f1 = some c ∧ (c = true ↔ ¬ ∀ q ∈ l, cr a b q ≤ 0) := by
 refine ⟨_, rfl, ?_⟩
 rw [List.any_eq_true]
 constructor
 ·rintro ⟨q, hq, h⟩ hn
  unfold PG.leftOf at h
  rw [side_f ha hb (hl q hq), decide_eq_true_eq, Option.getD_some] at h
  have := hn q hq; omega
 ·intro hn
  apply Classical.byContradiction
  intro h
  apply hn
  intro q hq
  apply Classical.byContradiction
  intro h2
  apply h
  refine ⟨q, hq, ?_⟩
  unfold PG.leftOf
  rw [side_f ha hb (hl q hq), decide_eq_true_eq, Option.getD_some]; omega
theorem parted_run {a b : List Pt} (ha : ∀ p ∈ a, Bd p) (hb : ∀ p ∈ b, Bd p) (hN : a.length ≤ 1000000) : ∃ c, Rt (fun k => shape_parted.f k a b) c ∧ (c = true ↔ Sep a b) := by
 have H : ∀ d i, a.length = i + d → ∃ c, Rt (fun k => shape_parted.l0 k a b (a.length : Int) (i : Int)) c ∧ (c = true ↔ ∃ i', i ≤ i' ∧ i' < a.length ∧ SepAt a b i') := by
  intro d
  induction d with
  | zero =>
   intro i hi
   refine ⟨false, rt_ret fun k => ?_, ⟨fun h => by simp at h, fun ⟨j, h1, h2, _⟩ => by omega⟩⟩
   rw [shape_parted.l0, if_neg (by omega)]
  | succ d ih =>
   intro i hi
   have hlt : i < a.length := by omega
   have t1 := tmod_in (i + 1) a.length (by omega)
   obtain ⟨c1, hc1, hc2⟩ := ih (i + 1) (by omega)
   obtain ⟨e, he1, he2⟩ := left_f (at_bd ha hlt) (at_bd ha (show (i + 1) % a.length < a.length from Nat.mod_lt _ (by omega))) hb
   rw [ex_split hlt]
   have st : ∀ k, shape_parted.l0 (k + 1) a b (a.length : Int) (i : Int) = if e = true then shape_parted.l0 k a b (a.length : Int) ((i + 1 : Nat) : Int) else some true := by
    intro k
    rw [shape_parted.l0, if_pos (by omega), if_pos (by omega), if_pos (by omega), if_neg (by omega), tmod_nat i _ (by omega), if_pos (by omega), if_pos (by omega), rd_at, rd_at, he1, Option.bind_some, wrap_succ i (by omega)]
   cases e with
   | true =>
    refine ⟨c1, rt_step (fun k => by rw [st, if_pos rfl]) hc1, ?_⟩
    rw [hc2]
    exact ⟨Or.inr, fun h => h.resolve_left (he2.mp rfl)⟩
   | false =>
    refine ⟨true, rt_ret (fun k => by rw [st, if_neg (by simp)]), ⟨fun _ => Or.inl ?_, fun _ => rfl⟩⟩
    apply Classical.byContradiction
    intro h
    have := he2.mpr h
    simp at this
 obtain ⟨c, ⟨K, hK⟩, h⟩ := H a.length 0 (by omega)
 refine ⟨c, ⟨K, fun k hk => hK k hk⟩, ?_⟩
 rw [h]
 exact ⟨fun ⟨i, _, h1, h2⟩ => ⟨i, h1, h2⟩, fun ⟨i, h1, h2⟩ => ⟨i, Nat.zero_le _, h1, h2⟩⟩
theorem parts_run {a b : List Pt} (ha : ∀ p ∈ a, Bd p) (hb : ∀ p ∈ b, Bd p) (hN : a.length ≤ 1000000) (hM : b.length ≤ 1000000) : ∃ c, Rt (fun k => cracknelref04_parts.f k a b) c ∧ (c = true ↔ Sep a b) := by
 have H1 : ∀ i, i < a.length → ∀ c1, Rt (fun k => cracknelref04_parts.l0 k a b ((i + 1 : Nat) : Int)) c1 → ∀ d j (s : Bool), b.length = j + d → ∃ c, Rt (fun k => cracknelref04_parts.l1 k a b (i : Int) s (j : Int)) c ∧ (c = true ↔ (s = true ∧ ∀ j', j ≤ j' → j' < b.length → cr (at_ a i) (at_ a ((i + 1) % a.length)) (at_ b j') ≤ 0) ∨ c1 = true) := by
  intro i hlt c1 hc1 d
  induction d with
  | zero =>
   intro j s hj
   cases s with
   | true =>
    refine ⟨true, rt_ret fun k => ?_, ⟨fun _ => Or.inl ⟨rfl, fun j' h1 h2 => by omega⟩, fun _ => rfl⟩⟩
    rw [cracknelref04_parts.l1, if_neg (by omega), if_pos rfl]
   | false =>
    refine ⟨c1, rt_step (fun k => ?_) hc1, ⟨Or.inr, fun h => h.resolve_left (by simp)⟩⟩
    rw [cracknelref04_parts.l1, if_neg (by omega), if_neg (by simp), wrap_succ i (by omega)]
  | succ d ih =>
   intro j s hj
   have hltj : j < b.length := by omega
   cases s with
   | true =>
    obtain ⟨c, hr, hc⟩ := ih (j + 1) (decide (cr (at_ a i) (at_ a ((i + 1) % a.length)) (at_ b j) ≤ 0)) (by omega)
    refine ⟨c, rt_step (fun k => ?_) hr, ?_⟩
    ·rw [cracknelref04_parts.l1, if_pos (by omega), if_pos rfl, if_pos (by omega), if_pos (by omega), next_f (by omega) (by omega), Option.bind_some, if_pos (by omega), rd_at, rd_at, Cross_f (at_bd ha hlt) (at_bd ha (show (i + 1) % a.length < a.length from Nat.mod_lt _ (by omega))) (at_bd hb hltj), Option.bind_some, wrap_succ j (by omega)]
    ·rw [hc, decide_eq_true_eq, from_split hltj]
     exact ⟨fun h => h.imp (fun h => ⟨rfl, h⟩) id, fun h => h.imp (fun h => h.2) id⟩
   | false =>
    obtain ⟨c, hr, hc⟩ := ih (j + 1) false (by omega)
    refine ⟨c, rt_step (fun k => ?_) hr, ?_⟩
    ·rw [cracknelref04_parts.l1, if_pos (by omega), if_neg (by simp), wrap_succ j (by omega)]
    ·rw [hc]; simp
 have H : ∀ d i, a.length = i + d → ∃ c, Rt (fun k => cracknelref04_parts.l0 k a b (i : Int)) c ∧ (c = true ↔ ∃ i', i ≤ i' ∧ i' < a.length ∧ SepAt a b i') := by
  intro d
  induction d with
  | zero =>
   intro i hi
   refine ⟨false, rt_ret fun k => ?_, ⟨fun h => by simp at h, fun ⟨j, h1, h2, _⟩ => by omega⟩⟩
   rw [cracknelref04_parts.l0, if_neg (by omega)]
  | succ d ih =>
   intro i hi
   have hlt : i < a.length := by omega
   obtain ⟨c1, hc1, hc2⟩ := ih (i + 1) (by omega)
   obtain ⟨c, hr, hc⟩ := H1 i hlt c1 hc1 b.length 0 true (by omega)
   rw [ex_split hlt]
   refine ⟨c, rt_step (fun k => ?_) hr, ?_⟩
   ·rw [cracknelref04_parts.l0, if_pos (by omega)]; rfl
   ·rw [hc, hc2]
    unfold SepAt
    constructor
    ·rintro (⟨_, h⟩ | h)
     ·left
      intro q hq
      obtain ⟨j, hj, rfl⟩ := List.mem_iff_getElem.mp hq
      rw [← at_eq hj]; exact h j (Nat.zero_le _) hj
     ·exact Or.inr h
    ·rintro (h | h)
     ·exact Or.inl ⟨rfl, fun j _ hj => h _ (at_mem hj)⟩
     ·exact Or.inr h
 obtain ⟨c, ⟨K, hK⟩, h⟩ := H a.length 0 (by omega)
 refine ⟨c, ⟨K, fun k hk => hK k hk⟩, ?_⟩
 rw [h]
 exact ⟨fun ⟨i, _, h1, h2⟩ => ⟨i, h1, h2⟩, fun ⟨i, h1, h2⟩ => ⟨i, Nat.zero_le _, h1, h2⟩⟩
theorem apart_run {a b : List Pt} (ha : ∀ p ∈ a, Bd p) (hb : ∀ p ∈ b, Bd p) (hN : a.length ≤ 1000000) (hM : b.length ≤ 1000000) : ∃ c, Rt (fun k => shape_apart.f k a b) c ∧ Rt (fun k => cracknelref04_Apart.f k a b) c ∧ (c = true ↔ Sep a b ∨ Sep b a) := by
 obtain ⟨c1, ⟨K1, h1⟩, i1⟩ := parted_run ha hb hN
 obtain ⟨c2, ⟨K2, h2⟩, i2⟩ := parted_run hb ha hM
 obtain ⟨c3, ⟨K3, h3⟩, i3⟩ := parts_run ha hb hN hM
 obtain ⟨c4, ⟨K4, h4⟩, i4⟩ := parts_run hb ha hM hN
 have e1 : c1 = c3 := by rw [Bool.eq_iff_iff, i1, i3]
 have e2 : c2 = c4 := by rw [Bool.eq_iff_iff, i2, i4]
 subst e1 e2
 refine ⟨c1 || c2, ⟨K1 + K2, fun k hk => ?_⟩, ⟨K3 + K4, fun k hk => ?_⟩, ?_⟩
 ·have a1 := h1 k (by omega)
  have a2 := h2 k (by omega)
  dsimp only at a1 a2 ⊢
  unfold shape_apart.f
  rw [a1, Option.bind_some]
  cases c1
  ·rw [if_neg (by simp), a2, Option.bind_some]; rfl
  ·rw [if_pos rfl]; rfl
 ·have a1 := h3 k (by omega)
  have a2 := h4 k (by omega)
  dsimp only at a1 a2 ⊢
  unfold cracknelref04_Apart.f
  rw [a1, Option.bind_some]
  cases c1
  ·rw [if_neg (by simp), a2, Option.bind_some]; rfl
  ·rw [if_pos rfl]; rfl
 ·rw [Bool.or_eq_true, i1, i2]
/-- Apart of two convex polygons, or its error -/
theorem Apart_run {a b : List Pt} {v : Pt} {c1 c2 : Int} (h1 : Rt (fun k => shape_refused_normal.f k a) c1) (h2 : Rt (fun k => shape_refused_normal.f k b) c2) :
  (c1 ≠ 0 → Rt (fun k => shape_Apart.f k a b v.f0 v.f1) (false, c1)) ∧ (c1 = 0 → c2 ≠ 0 → Rt (fun k => shape_Apart.f k a b v.f0 v.f1) (false, c2)) ∧ (c1 = 0 → c2 = 0 → ¬ In 20000 v → Rt (fun k => shape_Apart.f k a b v.f0 v.f1) (false, 1)) ∧
  (c1 = 0 → c2 = 0 → In 20000 v → ∀ m c, Rt (fun k => shape_moved.f k b v.f0 v.f1) m → Rt (fun k => shape_apart.f k a m) c → Rt (fun k => shape_Apart.f k a b v.f0 v.f1) (c, 0)) := by
 obtain ⟨K1, g1⟩ := h1
 obtain ⟨K2, g2⟩ := h2
 have r0 : rd_L2 [a, b] 0 = a := rfl
 have r1 : rd_L2 [a, b] 1 = b := rfl
 have w1 : wrap64 (0 + 1) = 1 := by unfold wrap64; omega
 have w2 : wrap64 (1 + 1) = 2 := by unfold wrap64; omega
 have ln : (([a, b] : List (List S29)).length : Int) = 2 := rfl
 have st : ∀ k, shape_Apart.f k a b v.f0 v.f1 = shape_Apart.l0 k a b [a, b] 2 0 v.f0 v.f1 := by
  intro k; unfold shape_Apart.f; rw [Option.bind_some, ln]
 have s0 : ∀ k, K1 ≤ k → shape_Apart.l0 (k + 1) a b [a, b] 2 0 v.f0 v.f1 = if c1 = 0 then shape_Apart.l0 k a b [a, b] 2 1 v.f0 v.f1 else some (false, c1) := by
  intro k hk
  have := g1 k hk
  dsimp only at this
  rw [shape_Apart.l0, ln, if_pos (by omega), if_pos (by omega), if_pos (by omega), r0, this, Option.bind_some, w1]
 have s1 : ∀ k, K2 ≤ k → shape_Apart.l0 (k + 1) a b [a, b] 2 1 v.f0 v.f1 = if c2 = 0 then shape_Apart.l0 k a b [a, b] 2 2 v.f0 v.f1 else some (false, c2) := by
  intro k hk
  have := g2 k hk
  dsimp only at this
  rw [shape_Apart.l0, ln, if_pos (by omega), if_pos (by omega), if_pos (by omega), r1, this, Option.bind_some, w2]
 have hin : (∀ q ∈ [v], In 20000 q) ↔ In 20000 v := by simp
 refine ⟨fun e => ⟨K1 + 1, fun k hk => ?_⟩, fun e1 e2 => ⟨K1 + K2 + 2, fun k hk => ?_⟩, fun e1 e2 hv => ⟨K1 + K2 + 3, fun k hk => ?_⟩, fun e1 e2 hv m c ⟨K3, g3⟩ ⟨K4, g4⟩ => ⟨K1 + K2 + K3 + K4 + 3, fun k hk => ?_⟩⟩
 ·obtain ⟨k, rfl⟩ := fuel1 hk
  dsimp only; rw [st, s0 k (by omega), if_neg e]
 ·obtain ⟨k, rfl⟩ := fuel2 hk
  dsimp only; rw [st, s0 _ (by omega), if_pos e1, s1 k (by omega), if_neg e2]
 ·obtain ⟨k, rfl⟩ : ∃ m, k = m + 1 + 1 + 1 := ⟨k - 3, by omega⟩
  dsimp only; rw [st, s0 _ (by omega), if_pos e1, s1 _ (by omega), if_pos e2, shape_Apart.l0, if_neg (by omega), within_f _ _ (by omega) (by omega), Option.bind_some, if_neg (by rw [decide_eq_true_eq, hin]; exact hv)]
 ·obtain ⟨k, rfl⟩ : ∃ m, k = m + 1 + 1 + 1 := ⟨k - 3, by omega⟩
  have a3 := g3 k (by omega)
  have a4 := g4 k (by omega)
  dsimp only at a3 a4 ⊢
  rw [st, s0 _ (by omega), if_pos e1, s1 _ (by omega), if_pos e2, shape_Apart.l0, if_neg (by omega), within_f _ _ (by omega) (by omega), Option.bind_some, if_pos (by rw [decide_eq_true_eq, hin]; exact hv), a3, Option.bind_some, a4, Option.bind_some]
end Go.Proofs.Ytoffmpkgickfhaa.M
end
section
namespace Go.Proofs.Ytoffmpkgickfhaa.M
open Go.RowKit Go.Proofs.Ytoffmpkgickfhaa.PG Go.Proofs.YtoffmpkgickfhaaW.PrintMore Go.Proofs.YtoffmpkgickfhaaW.PrintWords
theorem aparts_plain (x y : List S29) (v : S29) (_ : (Lit.int .i64 v.f0).wf = true) (_ : (Lit.int .i64 v.f1).wf = true) : ∃ k, cracknellaw04_ShapeAparts.f k x y v.f0 v.f1 = some true := by
 obtain ⟨a, ha, la⟩ := cut_f x 12 (by omega)
 obtain ⟨b, hb, lb⟩ := cut_f y 12 (by omega)
 obtain ⟨c1, r1, ⟨K1, h1⟩, i1⟩ := bad_convex a (by omega)
 obtain ⟨c2, r2, ⟨K2, h2⟩, i2⟩ := bad_convex b (by omega)
 obtain ⟨q1, q2, q3, q4⟩ := Apart_run (v := v) r1 r2
 have start : ∀ is e, Rt (fun k => shape_Apart.f k a b v.f0 v.f1) (is, e) → Rt (fun k => cracknellaw04_ShapeAparts.j0 k a b is e (if c1 = 0 then c2 else c1) v.f0 v.f1) true → ∃ k, cracknellaw04_ShapeAparts.f k x y v.f0 v.f1 = some true := by
  rintro is e ⟨K3, h3⟩ ⟨K4, h4⟩
  refine ⟨K1 + K2 + K3 + K4, ?_⟩
  have a1 := h1 (K1 + K2 + K3 + K4) (by omega)
  have a2 := h2 (K1 + K2 + K3 + K4) (by omega)
  have a3 := h3 (K1 + K2 + K3 + K4) (by omega)
  have a4 := h4 (K1 + K2 + K3 + K4) (by omega)
  dsimp only at a1 a2 a3 a4
  unfold cracknellaw04_ShapeAparts.f
  rw [show (12 : Int) = ((12 : Nat) : Int) from rfl, ha, Option.bind_some, hb, Option.bind_some, a3, Option.bind_some, a1, Option.bind_some]
  by_cases h0 : c1 = 0
  ·rw [if_pos h0] at a4 ⊢; rw [a2, Option.bind_some]; exact a4
  ·rw [if_neg h0] at a4 ⊢; exact a4
 have fail_ : ∀ e : Int, e ≠ 0 → Rt (fun k => cracknellaw04_ShapeAparts.j2 k a b false e e v.f0 v.f1) true := by
  intro e he
  refine ⟨62, fun k hk => ?_⟩
  obtain ⟨k, rfl⟩ : ∃ m, k = m + 1 := ⟨k - 1, by omega⟩
  dsimp only
  rw [cracknellaw04_ShapeAparts.j2, if_neg he, if_neg (by simp), if_pos rfl, lives_ok k (by omega), Option.bind_some]
 by_cases h0 : c1 = 0
 ·by_cases h00 : c2 = 0
  ·by_cases hv : In 20000 v
   ·obtain ⟨⟨_, _, pa⟩, _⟩ := i1.mp h0
    obtain ⟨⟨_, _, pb⟩, _⟩ := i2.mp h00
    have hba : ∀ p ∈ a, Bd p := fun p h => in_bd (pa p h)
    have hbb : ∀ p ∈ b, Bd p := fun p h => in_bd (pb p h)
    have hbv : Bd v := by unfold In at hv; unfold Bd; omega
    have hbm : ∀ p ∈ shifted v b, Bd p := by
     intro p hp
     obtain ⟨q, hq, rfl⟩ := List.mem_map.mp hp
     have := pb q hq
     unfold In at this hv; unfold Bd shift; dsimp only; omega
    have m1 := moved_run hbb hbv (by omega)
    obtain ⟨K5, m2⟩ := refMoved_run hbb hbv (by omega)
    obtain ⟨c, p1, ⟨K6, p2⟩, _⟩ := apart_run hba hbm (by omega) (by unfold shifted; rw [List.length_map]; omega)
    refine start c 0 (q4 h0 h00 hv _ c m1 p1) ⟨K5 + K6 + 63, fun k hk => ?_⟩
    obtain ⟨k, rfl⟩ : ∃ m, k = m + 1 + 1 + 1 := ⟨k - 3, by omega⟩
    have a5 := m2 k (by omega)
    have a6 := p2 k (by omega)
    dsimp only at a5 a6 ⊢
    rw [if_pos h0, cracknellaw04_ShapeAparts.j0, if_pos h00, valid_f _ _ (by omega) (by omega), Option.bind_some, cracknellaw04_ShapeAparts.j1, if_neg (by simpa using hv), cracknellaw04_ShapeAparts.j2, if_pos h00, a5, Option.bind_some, a6, Option.bind_some, if_pos (by simp), if_pos rfl, lives_ok k (by omega), Option.bind_some]
   ·refine start false 1 (q3 h0 h00 hv) ?_
    rw [if_pos h0]
    refine rt_step (h := fun k => cracknellaw04_ShapeAparts.j1 k a b false 1 c2 true v.f0 v.f1) (fun k => ?_) (rt_step (fun k => ?_) (fail_ 1 (by omega)))
    ·rw [cracknellaw04_ShapeAparts.j0, if_pos h00, valid_f _ _ (by omega) (by omega), Option.bind_some, decide_eq_false hv]; rfl
    ·rw [cracknellaw04_ShapeAparts.j1, if_pos rfl]
  ·refine start false c2 (q2 h0 h00) ?_
   rw [if_pos h0]
   refine rt_step (h := fun k => cracknellaw04_ShapeAparts.j1 k a b false c2 c2 false v.f0 v.f1) (fun k => ?_) (rt_step (fun k => ?_) (fail_ c2 h00))
   ·rw [cracknellaw04_ShapeAparts.j0, if_neg h00]
   ·rw [cracknellaw04_ShapeAparts.j1, if_neg (by simp)]
 ·refine start false c1 (q1 h0) ?_
  rw [if_neg h0]
  refine rt_step (h := fun k => cracknellaw04_ShapeAparts.j1 k a b false c1 c1 false v.f0 v.f1) (fun k => ?_) (rt_step (fun k => ?_) (fail_ c1 h0))
  ·rw [cracknellaw04_ShapeAparts.j0, if_neg h0]
  ·rw [cracknellaw04_ShapeAparts.j1, if_neg (by simp)]
end Go.Proofs.Ytoffmpkgickfhaa.M
end
