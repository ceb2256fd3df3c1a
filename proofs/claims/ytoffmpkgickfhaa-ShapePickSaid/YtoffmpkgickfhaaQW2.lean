/- Parts of the proof of YtoffmpkgickfhaaLawShapePick: printed walks, their words, and plain laws. -/
import Derived.Test.YtoffmpkgickfhaaQW1
section
namespace Go.Proofs.Ytoffmpkgickfhaa.PG
open Go.RowKit Go.Proofs.YtoffmpkgickfhaaW.PrintWords Go.Proofs.YtoffmpkgickfhaaW.PrintLast Go.Proofs.YtoffmpkgickfhaaW.PrintMore
attribute [local go_sem] max2_int min2_int max_two min_two max_three min_three max_four min_four
set_option linter.unusedVariables false
set_option linter.unusedSimpArgs false
def cracknellaw04_star.T9 : Bool × List (List Nat × List Nat) := (true, [([], []), ([], []), ([1], [1]), ([0, 2], [0, 2]), ([3], [3]), ([4], [4]), ([5, 4], [4, 5]), ([6, 4], [4, 6]), ([4], [4]), ([4], [4]), ([8, 9, 4], [4, 8, 9]), ([10, 4], [4, 10]), ([4], [4]), ([4], [4]), ([12, 13, 4], [4, 12, 13]), ([14, 4], [4, 14]), ([7, 11, 15, 4, 4], [4, 7, 11, 15]), ([16, 4], [4, 16]), ([4, 17], [4, 17])])
def cracknellaw04_star.B9 : List Nat := [0, 0, 2, 7, 15, 31, 63, 127, 31, 31, 799, 1823, 31, 31, 12319, 28703, 65535, 131071, 262143]
theorem cracknellaw04_star.tab9 : rtab .any (opsOf Try.f21 9) = cracknellaw04_star.T9 := by kernel_rfl
theorem cracknellaw04_star.bits9 : waitsOk cracknellaw04_star.T9.2 cracknellaw04_star.B9 = true := by kernel_rfl
set_option maxHeartbeats 8000000 in
set_option maxRecDepth 100000 in
theorem cracknellaw04_star.calls (k : Nat) (A0 : Option Addr) (c0 : Nat) (l0 : List (S29)) (a1 : Int) (r : List (S29)) (w : World) (hr0 : Kd.C k29 w A0 l0.length l0) (hc0 : l0.length ≤ c0) (h : cracknellaw04_star.f k l0 a1 = some r) :
  Calls Try.prog 21 #[.slice A0 l0.length c0, .int .i64 a1] w fun e w' => ∃ v0_ : Value, e = .returned (v0_) ∧ Kd.R k29 29 w' w.heap.size (fun _ => True) v0_ r ∧ Below w.heap.size w w' := by
 have hu29 := Try.underlying29
 have HR0 := Aside0.mk hr0
 have HC0 := Aside0.mk hc0
 clear hr0 hc0
 have HB := Aside0.mk (Below.refl w.heap.size w)
 have H : ((cracknellaw04_points.f k l0 a1 10).bind fun t101 => (if (t101.length : Int) < 3 then (some (([(⟨0, 0⟩ : S29), (⟨2, 0⟩ : S29), (⟨0, 2⟩ : S29)] : List (S29)))) else (cracknellaw04_star.l0 k t101 (([] : List (S29))) 1))) = some r := h
 clear h
 replace H := Option.bind_eq_some_iff.mp H
 obtain ⟨t101, A30, H⟩ := H
 try dsimp only at H
 have A3 := Aside0.mk A30
 clear A30
 by_cases c4 : (t101.length : Int) < 3
 ·rw [if_pos c4] at H
  have c4b0 := decide_eq_true c4
  have c4b1 : decide (t101.length < 3) = true := decide_eq_true (by omega)
  clear c4
  obtain ⟨y104, hy104⟩ : ∃ y_ : List (S29), y_ = (([(⟨0, 0⟩ : S29), (⟨2, 0⟩ : S29), (⟨0, 2⟩ : S29)] : List (S29))) := ⟨_, rfl⟩
  replace H : (some y104) = some r := by first | (rw [hy104]; with_reducible exact H) | (have H2_ := (Option.bind_some _ _).symm.trans H; rw [hy104]; with_reducible exact H2_) | (have H2_ := (Option.bind_some _ _).symm.trans H; with_reducible exact H2_) | with_reducible exact H | (rw [hy104]; exact H) | exact H
  have Ny104 := Aside0.mk hy104
  clear hy104
  obtain rfl := Option.some.inj H
  go_enter Try.func21, Try.ntmps21
  go_wp2_with (first | ((with_reducible refine gc 38 rfl ?_); refine goesL_ (some 12) rfl rfl Try.func38 (by kernel_rfl) rfl #[.slice A0 l0.length c0, .int .i64 a1, .int .i64 10] rfl sg ?_; (with_reducible refine (cracknellaw04_points.calls k _ _ l0 a1 10 t101 _ ?side1 ?side2 A3.out).mono ?_); (case side1 => repeat (first | exact HR0.out | (with_reducible refine Kd.C_alloc ?_ _) | (with_reducible refine Kd.C_drewN ?_ _) | (with_reducible refine Kd.C_drew ?_))); (case side2 => exact HC0.out); rintro e w5 ⟨v102, rfl, ho0, hb⟩; refine ⟨_, rfl, ?_⟩; have HO103 := Aside0.mk (Kd.R_lower ho0 (below_size bh)); replace HB := Aside0.mk (below_step bh hb); (try clear hb); (try clear hb2); (try clear hk); (try clear hi); (try clear ho0); obtain ⟨Ao6, co6, eo6⟩ := Kd.R_slice HO103.out; subst eo6) | ((with_reducible refine gate_dst (N := 19) rfl ?_); refine Kd.R_lit k29 _ 29 ?hg (N := 19) ?hd (xs := ([(⟨0, 0⟩ : S29), (⟨2, 0⟩ : S29), (⟨0, 2⟩ : S29)] : List (S29))) (inner := [.int .i64 0, .int .i64 0, .int .i64 2, .int .i64 0, .int .i64 0, .int .i64 2]) (ok := fun _ => True) (okp := fun _ => True) ?hr ?hp (fun _ hk => hk) trivial (Below.refl _ _) (Nat.le_refl _) (by simp) ?_; (case hd => rfl); (case hg => rfl); (case hr => first | (go_simp; done) | (go_simp; rfl)); (case hp => exact (Reps.c2 (k29_mkM _ _ _ (⟨0, 0⟩ : S29)) (Reps.c2 (k29_mkM _ _ _ (⟨2, 0⟩ : S29)) (Reps.c2 (k29_mkM _ _ _ (⟨0, 2⟩ : S29)) (Reps.none _ _))))); intro v105 w7 ho8 hb hg_ hnew_; clear hg_ hnew_; (first | rw [← Ny104.out] at ho8 | (simp only [Int.reduceToNat] at ho8; rw [← Ny104.out] at ho8)); have HO106 := Aside0.mk (Kd.R_lower (Kd.R_new' ho8 (Kd.R_lt (ro HO103))) (below_size bh)); replace HO103 := Aside0.mk (Kd.R_elder' (ro HO103) (Kd.R_base ho8) hb); replace HB := Aside0.mk (below_step bh hb); clear hb ho8))
  go_ret
  exact ⟨_, by exact er, by (with_reducible repeat (first | apply Kd.R_alloc | apply Kd.R_drewN | apply Kd.R_drew)); exact Kd.R_mono HO106.out (fun _ hk => trivial), bh⟩
 ·rw [if_neg c4] at H
  have c4b0 := decide_eq_false c4
  have c4b1 : decide (t101.length < 3) = false := decide_eq_false (by omega)
  clear c4
  obtain ⟨y107, hy107⟩ : ∃ y_ : List (S29), y_ = (([] : List (S29))) := ⟨_, rfl⟩
  replace H : (cracknellaw04_star.l0 k t101 y107 1) = some r := by first | (rw [hy107]; with_reducible exact H) | (have H2_ := (Option.bind_some _ _).symm.trans H; rw [hy107]; with_reducible exact H2_) | (have H2_ := (Option.bind_some _ _).symm.trans H; with_reducible exact H2_) | with_reducible exact H | (rw [hy107]; exact H) | exact H
  have Ny107 := Aside0.mk hy107
  clear hy107
  have H' := Aside0.mk H
  clear H
  go_enter Try.func21, Try.ntmps21
  go_wp2_with (first | ((with_reducible refine gc 38 rfl ?_); refine goesL_ (some 12) rfl rfl Try.func38 (by kernel_rfl) rfl #[.slice A0 l0.length c0, .int .i64 a1, .int .i64 10] rfl sg ?_; (with_reducible refine (cracknellaw04_points.calls k _ _ l0 a1 10 t101 _ ?side1 ?side2 A3.out).mono ?_); (case side1 => repeat (first | exact HR0.out | (with_reducible refine Kd.C_alloc ?_ _) | (with_reducible refine Kd.C_drewN ?_ _) | (with_reducible refine Kd.C_drew ?_))); (case side2 => exact HC0.out); rintro e w9 ⟨v102, rfl, ho0, hb⟩; refine ⟨_, rfl, ?_⟩; have HO103 := Aside0.mk (Kd.R_lower ho0 (below_size bh)); replace HB := Aside0.mk (below_step bh hb); (try clear hb); (try clear hb2); (try clear hk); (try clear hi); (try clear ho0); obtain ⟨Ao10, co10, eo10⟩ := Kd.R_slice HO103.out; subst eo10) | ((with_reducible refine gate_dst (N := 20) rfl ?_); refine Kd.R_lit k29 _ 29 ?hg (N := 20) ?hd (xs := ([] : List (S29))) (inner := []) (ok := fun _ => True) (okp := fun _ => True) ?hr ?hp (fun _ hk => hk) trivial (Below.refl _ _) (Nat.le_refl _) (by simp) ?_; (case hd => rfl); (case hg => rfl); (case hr => first | (go_simp; done) | (go_simp; rfl)); (case hp => exact (Reps.none _ _)); intro v108 w11 ho12 hb hg_ hnew_; clear hg_ hnew_; (first | rw [← Ny107.out] at ho12 | (simp only [Int.reduceToNat] at ho12; rw [← Ny107.out] at ho12)); have HO109 := Aside0.mk (Kd.R_lower (Kd.R_new' ho12 (Kd.R_lt (ro HO103))) (below_size bh)); replace HO103 := Aside0.mk (Kd.R_elder' (ro HO103) (Kd.R_base ho12) hb); replace HB := Aside0.mk (below_step bh hb); clear hb ho12))
  go_loopg [6, 7] k (fun kq v6 v7 w' => ∃ (x6_1 : List (S29)) (x7_1 : Int), v7 = .int .i64 x7_1 ∧ Aside0 (cracknellaw04_star.l0 kq t101 x6_1 x7_1 = some r) ∧ Aside0 (kq ≤ k) ∧ Aside0 (Kd.R k29 29 w' w.heap.size (fun k_ => some k_ ≠ (v6 : Value).ownBlock) (.slice Ao10 t101.length co10) t101) ∧ Aside0 (Kd.R k29 29 w' w.heap.size (fun k_ => some k_ ≠ ((.slice Ao10 t101.length co10) : Value).ownBlock) v6 x6_1) ∧ Aside0 (Below w.heap.size w w'))
  case atStart => exact ⟨(y107), (1), sd, H', ⟨Nat.le_refl _⟩, ⟨by (with_reducible repeat (first | apply Kd.R_alloc | apply Kd.R_drewN | apply Kd.R_drew)); exact Kd.R_mono HO103.out (fun _ hk => hk.2)⟩, ⟨by (with_reducible repeat (first | apply Kd.R_alloc | apply Kd.R_drewN | apply Kd.R_drew)); exact Kd.R_mono HO109.out (fun _ hk => hk.2)⟩, ⟨bh⟩⟩
  case round =>
   clear H'
   (try clear c2); (try clear p2); (try clear c3); (try clear c4); (try clear c4b0); (try clear c4b1)
   obtain ⟨x6_1, x7_1, rfl, HA, HK1, HO_5, HO_6, HB⟩ := hrel
   cases gk with
   | zero => exact absurd HA.out (by simp [cracknellaw04_star.l0])
   | succ k1 =>
    have H := HA.out
    clear HA
    simp only [cracknellaw04_star.l0] at H
    by_cases c13 : x7_1 < (t101.length : Int)
    ·rw [if_pos c13] at H
     have c13b0 := decide_eq_true c13
     clear c13
     have H' := Aside0.mk H
     clear H
     go_wp2
     go_loopg [8] k1 (fun kq v8 w' => ∃ (x8_2 : Int), v8 = .int .i64 x8_2 ∧ Aside0 (cracknellaw04_star.l1 kq t101 x6_1 x7_1 x8_2 = some r) ∧ Aside0 (kq ≤ k1) ∧ Aside0 (Kd.R k29 29 w' w.heap.size (fun k_ => some k_ ≠ (u6 : Value).ownBlock) (.slice Ao10 t101.length co10) t101) ∧ Aside0 (Kd.R k29 29 w' w.heap.size (fun k_ => some k_ ≠ ((.slice Ao10 t101.length co10) : Value).ownBlock) u6 x6_1) ∧ Aside0 (Below w.heap.size w w'))
     case atStart => exact ⟨(0), sd, H', ⟨Nat.le_refl _⟩, ⟨by (with_reducible repeat (first | apply Kd.R_alloc | apply Kd.R_drewN | apply Kd.R_drew)); exact HO_5.out⟩, ⟨by (with_reducible repeat (first | apply Kd.R_alloc | apply Kd.R_drewN | apply Kd.R_drew)); exact HO_6.out⟩, ⟨bh⟩⟩
     case round =>
      clear H'
      (try clear c1); (try clear c2); (try clear p2); (try clear c3); (try clear c4); (try clear c4b0); (try clear c4b1); (try clear c13); (try clear c13b0); (try clear p2)
      obtain ⟨x8_2, rfl, HA, HK2, HO_5, HO_6, HB⟩ := hrel
      cases gk with
      | zero => exact absurd HA.out (by simp [cracknellaw04_star.l1])
      | succ k2 =>
       have H := HA.out
       clear HA
       simp only [cracknellaw04_star.l1] at H
       by_cases c14 : x8_2 < (x6_1.length : Int)
       ·rw [if_pos c14] at H
        have c14b0 := decide_eq_true c14
        clear c14
        replace H := oi H
        obtain ⟨c15, H⟩ := H
        have c15b0 := decide_eq_true c15
        have c15b1 : decide (0 < t101.length) = true := decide_eq_true (by omega)
        clear c15
        replace H := oi H
        obtain ⟨c16, H⟩ := H
        have c16b0 := decide_eq_true c16
        clear c16
        replace H := oi H
        obtain ⟨c17, H⟩ := H
        have c17b0 := decide_eq_true c17
        clear c17
        replace H := oi H
        obtain ⟨c18, H⟩ := H
        have c18b0 := decide_eq_true c18
        clear c18
        replace H := Option.bind_eq_some_iff.mp H
        obtain ⟨t120, A190, H⟩ := H
        try dsimp only at H
        have A19 := Aside0.mk A190
        clear A190
        by_cases c20 : t120 = true
        ·subst c20
         rw [if_pos rfl] at H
         obtain ⟨y121, hy121⟩ : ∃ y_ : List (S29), y_ = (([] : List (S29))) := ⟨_, rfl⟩
         replace H : (if x8_2 ≤ (x6_1.length : Int) then ((some (x6_1.take (x8_2 : Int).toNat : List (S29))).bind fun y124 => (if y121.length + y124.length < 8796093022208 then ((some (y121 ++ y124 : List (S29))).bind fun y128 => (if y128.length < 8796093022208 then ((some (y128 ++ [(⟨(rd_T29 t101 x7_1).f0, (rd_T29 t101 x7_1).f1⟩ : S29)] : List (S29))).bind fun y132 => ((some (x6_1.drop (x8_2 : Int).toNat : List (S29))).bind fun y135 => (if y132.length + y135.length < 8796093022208 then (cracknellaw04_star.l0 k2 t101 (y132 ++ y135) (wrap64 (x7_1 + 1))) else (none)))) else (none))) else (none))) else (none)) = some r := by first | (rw [hy121]; with_reducible exact H) | (have H2_ := (Option.bind_some _ _).symm.trans H; rw [hy121]; with_reducible exact H2_) | (have H2_ := (Option.bind_some _ _).symm.trans H; with_reducible exact H2_) | with_reducible exact H | (rw [hy121]; exact H) | exact H
         have Ny121 := Aside0.mk hy121
         clear hy121
         have c21b0 := eq_true (dt : 0 ≤ x8_2)
         replace H := oi H
         obtain ⟨c22, H⟩ := H
         have c22b0 := eq_true c22
         have c22b1 := decide_eq_true c22
         clear c22
         obtain ⟨y124, hy124⟩ : ∃ y_ : List (S29), y_ = (x6_1.take (x8_2 : Int).toNat) := ⟨_, rfl⟩
         replace H : (if y121.length + y124.length < 8796093022208 then ((some (y121 ++ y124 : List (S29))).bind fun y128 => (if y128.length < 8796093022208 then ((some (y128 ++ [(⟨(rd_T29 t101 x7_1).f0, (rd_T29 t101 x7_1).f1⟩ : S29)] : List (S29))).bind fun y132 => ((some (x6_1.drop (x8_2 : Int).toNat : List (S29))).bind fun y135 => (if y132.length + y135.length < 8796093022208 then (cracknellaw04_star.l0 k2 t101 (y132 ++ y135) (wrap64 (x7_1 + 1))) else (none)))) else (none))) else (none)) = some r := by first | (rw [hy124]; with_reducible exact H) | (have H2_ := (Option.bind_some _ _).symm.trans H; rw [hy124]; with_reducible exact H2_) | (have H2_ := (Option.bind_some _ _).symm.trans H; with_reducible exact H2_) | with_reducible exact H | (rw [hy124]; exact H) | exact H
         have Ny124 := Aside0.mk hy124
         clear hy124
         replace H := oi H
         obtain ⟨c23, H⟩ := H
         have LMc23 := Aside0.mk c23
         clear c23
         obtain ⟨y128, hy128⟩ : ∃ y_ : List (S29), y_ = (y121 ++ y124) := ⟨_, rfl⟩
         replace H : (if y128.length < 8796093022208 then ((some (y128 ++ [(⟨(rd_T29 t101 x7_1).f0, (rd_T29 t101 x7_1).f1⟩ : S29)] : List (S29))).bind fun y132 => ((some (x6_1.drop (x8_2 : Int).toNat : List (S29))).bind fun y135 => (if y132.length + y135.length < 8796093022208 then (cracknellaw04_star.l0 k2 t101 (y132 ++ y135) (wrap64 (x7_1 + 1))) else (none)))) else (none)) = some r := by first | (rw [hy128]; with_reducible exact H) | (have H2_ := (Option.bind_some _ _).symm.trans H; rw [hy128]; with_reducible exact H2_) | (have H2_ := (Option.bind_some _ _).symm.trans H; with_reducible exact H2_) | with_reducible exact H | (rw [hy128]; exact H) | exact H
         have Ny128 := Aside0.mk hy128
         clear hy128
         replace H := oi H
         obtain ⟨c24, H⟩ := H
         have LMc24 := Aside0.mk c24
         clear c24
         obtain ⟨y132, hy132⟩ : ∃ y_ : List (S29), y_ = (y128 ++ [(⟨(rd_T29 t101 x7_1).f0, (rd_T29 t101 x7_1).f1⟩ : S29)]) := ⟨_, rfl⟩
         replace H : ((some (x6_1.drop (x8_2 : Int).toNat : List (S29))).bind fun y135 => (if y132.length + y135.length < 8796093022208 then (cracknellaw04_star.l0 k2 t101 (y132 ++ y135) (wrap64 (x7_1 + 1))) else (none))) = some r := by first | (rw [hy132]; with_reducible exact H) | (have H2_ := (Option.bind_some _ _).symm.trans H; rw [hy132]; with_reducible exact H2_) | (have H2_ := (Option.bind_some _ _).symm.trans H; with_reducible exact H2_) | with_reducible exact H | (rw [hy132]; exact H) | exact H
         have Ny132 := Aside0.mk hy132
         clear hy132
         have c25b0 := eq_true (dt : 0 ≤ x8_2)
         have c26b0 := eq_true (dt : x8_2 ≤ (x6_1.length : Int))
         obtain ⟨y135, hy135⟩ : ∃ y_ : List (S29), y_ = (x6_1.drop (x8_2 : Int).toNat) := ⟨_, rfl⟩
         replace H : (if y132.length + y135.length < 8796093022208 then (cracknellaw04_star.l0 k2 t101 (y132 ++ y135) (wrap64 (x7_1 + 1))) else (none)) = some r := by first | (rw [hy135]; with_reducible exact H) | (have H2_ := (Option.bind_some _ _).symm.trans H; rw [hy135]; with_reducible exact H2_) | (have H2_ := (Option.bind_some _ _).symm.trans H; with_reducible exact H2_) | with_reducible exact H | (rw [hy135]; exact H) | exact H
         have Ny135 := Aside0.mk hy135
         clear hy135
         replace H := oi H
         obtain ⟨c27, H⟩ := H
         have LMc27 := Aside0.mk c27
         clear c27
         obtain ⟨y139, hy139⟩ : ∃ y_ : List (S29), y_ = (y132 ++ y135) := ⟨_, rfl⟩
         replace H : (cracknellaw04_star.l0 k2 t101 y139 (wrap64 (x7_1 + 1))) = some r := by first | (rw [hy139]; with_reducible exact H) | (have H2_ := (Option.bind_some _ _).symm.trans H; rw [hy139]; with_reducible exact H2_) | (have H2_ := (Option.bind_some _ _).symm.trans H; with_reducible exact H2_) | with_reducible exact H | (rw [hy139]; exact H) | exact H
         have Ny139 := Aside0.mk hy139
         clear hy139
         have H' := Aside0.mk H
         clear H
         try go_wp2
         replace HO_5 := Aside0.mk (Kd.R_drew HO_5.out)
         replace HO_6 := Aside0.mk (Kd.R_drew HO_6.out)
         replace HB := Aside0.mk (below_drew1 HB.out)
         obtain ⟨Ao29, co29, eo29⟩ := Kd.R_slice HO_6.out
         (first | subst eo29 | (injection eo29 with f1_ f2_ f3_; have f4_ := f1_.symm; have f5_ := f3_.symm; clear f1_ f2_ f3_; subst f4_; subst f5_))
         have p117 : 0 ≤ (0 : Int) := (by omega)
         have q117 : 0 < (t101.length : Int) := dt
         obtain ⟨ad117, e117, hx117_0, hx117_1⟩ := at_T29 (Kd.R_reads' HO_5.out).2.2 0 p117 q117
         cases e117
         have qi117 : (0 < t101.length) = True := eq_true (by omega)
         (try rw [show ((0 : Int)).toNat = 0 from rfl] at hx117_0)
         (try rw [show 0 * 2 = 0 from rfl] at hx117_0)
         (try rw [Addr.add_zero'] at hx117_0)
         (try rw [show ((0 : Int)).toNat = 0 from rfl] at hx117_1)
         (try rw [show 0 * 2 = 0 from rfl] at hx117_1)
         (try rw [Addr.add_zero'] at hx117_1)
         replace p117 := eq_true p117
         replace q117 := eq_true q117
         have p118 : 0 ≤ (x7_1 : Int) := dt
         have q118 : x7_1 < (t101.length : Int) := dt
         obtain ⟨ad118, e118, hx118_0, hx118_1⟩ := at_T29 (Kd.R_reads' HO_5.out).2.2 x7_1 p118 q118
         obtain rfl : ad117 = ad118 := (by injection e118)
         replace p118 := eq_true p118
         replace q118 := eq_true q118
         have p119 : 0 ≤ (x8_2 : Int) := dt
         have q119 : x8_2 < (x6_1.length : Int) := dt
         obtain ⟨ad119, e119, hx119_0, hx119_1⟩ := at_T29 (Kd.R_reads' HO_6.out).2.2 x8_2 p119 q119
         cases e119
         replace p119 := eq_true p119
         replace q119 := eq_true q119
         refine start_ (n := 19) (S := fun w' => w'.cell? ad117 = some (.int .i64 ((rd_T29 t101 0).f0)) ∧ w'.cell? ⟨ad117.block, ad117.off + 1, none⟩ = some (.int .i64 ((rd_T29 t101 0).f1)) ∧ w'.cell? (ad117.add ((x7_1).toNat * 2)) = some (.int .i64 ((rd_T29 t101 x7_1).f0)) ∧ w'.cell? ⟨(ad117.add ((x7_1).toNat * 2)).block, (ad117.add ((x7_1).toNat * 2)).off + 1, none⟩ = some (.int .i64 ((rd_T29 t101 x7_1).f1)) ∧ w'.cell? (ad119.add ((x8_2).toNat * 2)) = some (.int .i64 ((rd_T29 x6_1 x8_2).f0)) ∧ w'.cell? ⟨(ad119.add ((x8_2).toNat * 2)).block, (ad119.add ((x8_2).toNat * 2)).off + 1, none⟩ = some (.int .i64 ((rd_T29 x6_1 x8_2).f1))) (ds := []) #[N,N,N,N,N,N,N,N,N,N,N,N,N,N,N,N,N,N,N] (by kernel_rfl) rfl rfl ⟨hx117_0, hx117_1, hx118_0, hx118_1, hx119_0, hx119_1⟩ (fun hHeld => ?_); refine with_tabW cracknellaw04_star.tab9 cracknellaw04_star.bits9 (fun HT_ HW_ => ?_)
         generalize wr.drew = w28 at HO_5 HO_6 HB hx117_0 hx117_1 hx118_0 hx118_1 hx119_0 hx119_1 hHeld ⊢
         refine pu 0 27 HT_ ?_
         refine pu 1 28 HT_ ?_
         refine pu 2 29 HT_ ?_
         refine pu 3 30 HT_ ?_
         refine pu 4 31 HT_ ?_
         refine pu 5 32 HT_ ?_
         refine pu 6 33 HT_ ?_
         refine pu 8 35 HT_ ?_
         refine pu 9 36 HT_ ?_
         refine pu 10 37 HT_ ?_
         refine pu 12 39 HT_ ?_
         refine pu 13 40 HT_ ?_
         refine pu 14 41 HT_ ?_
         refine tk6 7 34 hHeld HT_ HW_ ?_
         refine tk6 11 38 hHeld HT_ HW_ ?_
         refine tk6 15 42 hHeld HT_ HW_ ?_
         refine one_ (i := 16) (N := some 43) #[T,T,T,T,T,T,T,T,T,T,T,T,T,T,T,T,T,N,N] rfl rfl (on1 HT_) (by decide) (fun K hK => ?_)
         refine goes_ Try.func63 (by kernel_rfl) rfl #[.agg #[.int .i64 ((rd_T29 t101 0).f0), .int .i64 ((rd_T29 t101 0).f1)], .agg #[.int .i64 ((rd_T29 t101 x7_1).f0), .int .i64 ((rd_T29 t101 x7_1).f1)], .agg #[.int .i64 ((rd_T29 x6_1 x8_2).f0), .int .i64 ((rd_T29 x6_1 x8_2).f1)]] (by rfl) rfl rfl sg ?_
         with_reducible refine (cracknellaw04_before.calls ((rd_T29 t101 0).f0) ((rd_T29 t101 0).f1) ((rd_T29 t101 x7_1).f0) ((rd_T29 t101 x7_1).f1) ((rd_T29 x6_1 x8_2).f0) ((rd_T29 x6_1 x8_2).f1) true _ A19.out).mono ?_
         rintro e w30 ⟨rfl, hb⟩
         have HS0_ := (hb.cell (World.block_lt_of_cell? _ _ (hHeld.1))).trans (hHeld.1)
         have HS1_ := (hb.cell (World.block_lt_of_cell? _ _ (hHeld.2.1))).trans (hHeld.2.1)
         have HS2_ := (hb.cell (World.block_lt_of_cell? _ _ (hHeld.2.2.1))).trans (hHeld.2.2.1)
         have HS3_ := (hb.cell (World.block_lt_of_cell? _ _ (hHeld.2.2.2.1))).trans (hHeld.2.2.2.1)
         have HS4_ := (hb.cell (World.block_lt_of_cell? _ _ (hHeld.2.2.2.2.1))).trans (hHeld.2.2.2.2.1)
         have HS5_ := (hb.cell (World.block_lt_of_cell? _ _ (hHeld.2.2.2.2.2))).trans (hHeld.2.2.2.2.2)
         refine ⟨_, rfl, ?_⟩
         replace HO_5 := Aside0.mk (Kd.R_below (ro HO_5) hb)
         replace HO_6 := Aside0.mk (Kd.R_below (ro HO_6) hb)
         replace HB := Aside0.mk (below_step bh hb)
         (try clear hb); (try clear hb2); (try clear hk); (try clear hi)
         refine hK.out _ _ ⟨HS0_, HS1_, HS2_, HS3_, HS4_, HS5_⟩ (fun hHeld => ?_)
         clear hK K
         refine nm 43 ?_
         refine pu 17 44 HT_ ?_
         refine pu 18 45 HT_ ?_
         refine done_ (done_of HT_.out (by kernel_rfl)) ?_
         try go_wp2_with (first | ((with_reducible refine gate_dst (N := 48) rfl ?_); refine Kd.R_lit k29 _ 29 ?hg (N := 48) ?hd (xs := ([] : List (S29))) (inner := []) (ok := fun _ => True) (okp := fun _ => True) ?hr ?hp (fun _ hk => hk) trivial (Below.refl _ _) (Nat.le_refl _) (by simp) ?_; (case hd => rfl); (case hg => rfl); (case hr => first | (go_simp; done) | (go_simp; rfl)); (case hp => exact (Reps.none _ _)); intro v122 w31 ho32 hb hg_ hnew_; clear hg_ hnew_; (first | rw [← Ny121.out] at ho32 | (simp only [Int.reduceToNat] at ho32; rw [← Ny121.out] at ho32)); have HO123 := Aside0.mk (Kd.R_lower (Kd.R_new' (Kd.R_new' ho32 (Kd.R_lt (ro HO_5))) (Kd.R_lt (ro HO_6))) (below_size bh)); replace HO_5 := Aside0.mk (Kd.R_elder' (ro HO_5) (Kd.R_base ho32) hb); replace HO_6 := Aside0.mk (Kd.R_elder' (ro HO_6) (Kd.R_base ho32) hb); replace HB := Aside0.mk (below_step bh hb); clear hb ho32; have q33 : (x8_2 : Int) ≤ ((x6_1.length : Int) : Int) := dt; obtain ⟨i033, hi033, _, hsz33, _⟩ := info_parts info29; have hroom33 : x6_1.length ≤ co29 := (Kd.R_reads' HO_6.out).2.1; have hC33 : Kd.C k29 _ (some ad119) x6_1.length x6_1 := (Kd.R_reads' HO_6.out).2.2; have hcut33 := cut_to (P := Try.prog) 22 29 .i64 Try.underlying22 hi033 (some ad119) x6_1.length co29 x8_2 (dt) q33 hroom33; have hr33 := Kd.C_take (m := (x8_2 : Int).toNat) hC33 (by omega); have hy33 : y124.length = (x8_2 : Int).toNat := (by rw [Ny124.out, List.length_take]; omega); rw [← Ny124.out] at hr33; rw [← hy33] at hcut33; have HR127 := Aside0.mk hr33; have HC127 := Aside0.mk (show y124.length ≤ co29 from by omega); clear hr33 hC33 hroom33 hi033 hsz33; have KY33 := Aside0.mk hy33; clear hy33; have KL33 := Aside0.mk (show (x8_2 : Int).toNat ≤ x6_1.length from by omega); replace q33 := eq_true q33) | ((with_reducible refine gate_builtin (b := .append) (xs := #[.tmp 48, .tmp 51]) rfl ?_); at_builtin; refine Kd.R_append_rows k29 (w0 := w) w.heap.size rfl (.tmp 48) (.tmp 51) 22 29 (.agg #[(.int .i64 0), (.int .i64 0)]) 16 rfl Try.underlying22 info29 rfl (by decide) (by omega) v122 y121 y124 _ _ _ (fun k_ => some k_ ≠ (.slice (some ad117) t101.length co10 : Value).ownBlock ∧ some k_ ≠ (.slice (some ad119) x6_1.length co29 : Value).ownBlock) (fun _ => False) rfl rfl ?aO ?aR (fun _ _ h => h) (fun _ h => h.elim) ?aF ?aB ?aS ?aL ?_; (case aR => repeat (first | exact (by repeat (first | (with_reducible exact HR127.out) | (with_reducible refine Kd.C_alloc ?_ _) | (with_reducible refine Kd.C_drewN ?_ _) | (with_reducible refine Kd.C_drew ?_) | exact HR127.out)) | (with_reducible refine Kd.C_alloc ?_ _) | (with_reducible refine Kd.C_drewN ?_ _) | (with_reducible refine Kd.C_drew ?_))); (case aB => exact bh); (case aF => exact (fun k_ hk => ⟨Kd.fresh' (Kd.R_lt (ro HO_5)) k_ hk, Kd.fresh' (Kd.R_lt (ro HO_6)) k_ hk⟩)); (case aO => exact (by (with_reducible repeat (first | apply Kd.R_alloc | apply Kd.R_drewN | apply Kd.R_drew)); exact Kd.R_mono HO123.out (fun _ hk => ⟨hk.1.2, hk.2⟩))); (case aS => exact (below_size bh)); (case aL => have := LMc23.out; omega); intro v129 w34 ho hb hg hat; rw [← Ny128.out] at ho; have HO130 := Aside0.mk (ho); replace HO_5 := Aside0.mk (Kd.R_after (ok := (fun k_ => some k_ ≠ (.slice (some ad119) x6_1.length co29 : Value).ownBlock)) (ro HO_5) hg hat); replace HB := Aside0.mk (hb); replace HR127 := Aside0.mk ((show Kd.C k29 w34 (some ad119) y124.length y124 from by rw [Ny124.out]; exact Kd.C_take (m := (x8_2 : Int).toNat) ((Kd.R_reads' (Kd.R_after (ok := (fun k_ => some k_ ≠ (.slice (some ad117) t101.length co10 : Value).ownBlock)) (ro HO_6) hg hat)).2.2) KL33.out)); replace HO_6 := Aside0.mk (Kd.R_after (ok := (fun k_ => some k_ ≠ (.slice (some ad117) t101.length co10 : Value).ownBlock)) (ro HO_6) hg hat); clear HO123; clear ho hb hg hat; have p131 : 0 ≤ (x7_1 : Int) := dt; have q131 : x7_1 < (t101.length : Int) := dt; obtain ⟨ad131, e131, hx131_0, hx131_1⟩ := at_T29 (Kd.R_reads' HO_5.out).2.2 x7_1 p131 q131; obtain rfl : ad117 = ad131 := (by injection e131); replace p131 := eq_true p131; replace q131 := eq_true q131) | ((with_reducible refine gate_builtin (b := .append) (xs := #[.tmp 53, .tmp 58]) rfl ?_); at_builtin; refine Kd.R_append k29 (w0 := w) w.heap.size rfl (.tmp 53) (.tmp 58) 22 29 (.agg #[(.int .i64 0), (.int .i64 0)]) 16 rfl Try.underlying22 info29 rfl (by decide) (by omega) v129 y128 (⟨(rd_T29 t101 x7_1).f0, (rd_T29 t101 x7_1).f1⟩ : S29) [.int .i64 ((rd_T29 t101 x7_1).f0), .int .i64 ((rd_T29 t101 x7_1).f1)] (fun k_ => some k_ ≠ (.slice (some ad117) t101.length co10 : Value).ownBlock ∧ some k_ ≠ (.slice (some ad119) x6_1.length co29 : Value).ownBlock) (fun _ => False) rfl rfl ?aP (fun _ hk => hk.elim) ?aF ?aO ?aB ?aS ?aL ?_; (case aP => exact k29_mkM _ _ _ (⟨(rd_T29 t101 x7_1).f0, (rd_T29 t101 x7_1).f1⟩ : S29)); (case aB => exact bh); (case aF => exact (fun k_ hk => ⟨Kd.fresh' (Kd.R_lt (ro HO_5)) k_ hk, Kd.fresh' (Kd.R_lt (ro HO_6)) k_ hk⟩)); (case aO => exact (ro HO130)); (case aS => exact (below_size bh)); (case aL => have := LMc24.out; omega); intro v133 w35 ho hb hg hat; rw [← Ny132.out] at ho; have HO134 := Aside0.mk (ho); replace HO_5 := Aside0.mk (Kd.R_after (ok := (fun k_ => some k_ ≠ (.slice (some ad119) x6_1.length co29 : Value).ownBlock)) (ro HO_5) hg hat); replace HB := Aside0.mk (hb); replace HR127 := Aside0.mk ((show Kd.C k29 w35 (some ad119) y124.length y124 from by rw [Ny124.out]; exact Kd.C_take (m := (x8_2 : Int).toNat) ((Kd.R_reads' (Kd.R_after (ok := (fun k_ => some k_ ≠ (.slice (some ad117) t101.length co10 : Value).ownBlock)) (ro HO_6) hg hat)).2.2) KL33.out)); replace HO_6 := Aside0.mk (Kd.R_after (ok := (fun k_ => some k_ ≠ (.slice (some ad117) t101.length co10 : Value).ownBlock)) (ro HO_6) hg hat); clear HO130; clear ho hb hg hat; have q36 : (x8_2 : Int) ≤ ((x6_1.length : Int) : Int) := dt; obtain ⟨i036, hi036, _, hsz36, _⟩ := info_parts info29; have hroom36 : x6_1.length ≤ co29 := (Kd.R_reads' HO_6.out).2.1; have hC36 : Kd.C k29 _ (some ad119) x6_1.length x6_1 := (Kd.R_reads' HO_6.out).2.2; have q036 : (0 : Int) ≤ (x8_2 : Int) := dt; have hcut36 := cut_from (P := Try.prog) 22 29 .i64 Try.underlying22 hi036 2 hsz36 (some ad119) x6_1.length co29 x8_2 q036 q36; have hr36 := Kd.C_drop (m := (x8_2 : Int).toNat) (c := co29) hC36 (by omega) hroom36; obtain ⟨A36, hA36⟩ : ∃ A1, A1 = (if co29 = (x8_2 : Int).toNat then (some ad119) else ((some ad119) : Option Addr).map (·.add ((x8_2 : Int).toNat * 2))) := ⟨_, rfl⟩; obtain ⟨c36, hc36⟩ : ∃ c1, c1 = co29 - (x8_2 : Int).toNat := ⟨_, rfl⟩; have hy36 : y135.length = x6_1.length - (x8_2 : Int).toNat := (by rw [Ny135.out, List.length_drop] <;> omega); rw [show (x6_1).drop (x8_2 : Int).toNat = y135 from Ny135.out.symm] at hr36; replace hr36 : Kd.C k29 _ A36 y135.length y135 := (by rw [hA36]; exact hr36); rw [← hy36, ← hA36, ← hc36] at hcut36; have HR138 := Aside0.mk hr36; have HC138 := Aside0.mk (show y135.length ≤ c36 from by rw [hy36, hc36]; exact Nat.sub_le_sub_right hroom36 _); clear hr36 hC36 hroom36 hi036 hsz36 hc36; have KY36 := Aside0.mk hy36; have KA36 := Aside0.mk hA36; clear hy36 hA36; have KL36 := Aside0.mk (show (x8_2 : Int).toNat ≤ x6_1.length from by omega); replace q36 := eq_true q36) | ((with_reducible refine gate_builtin (b := .append) (xs := #[.tmp 60, .tmp 63]) rfl ?_); at_builtin; refine Kd.R_append_rows k29 (w0 := w) w.heap.size rfl (.tmp 60) (.tmp 63) 22 29 (.agg #[(.int .i64 0), (.int .i64 0)]) 16 rfl Try.underlying22 info29 rfl (by decide) (by omega) v133 y132 y135 _ _ _ (fun k_ => some k_ ≠ (.slice (some ad117) t101.length co10 : Value).ownBlock ∧ some k_ ≠ (.slice (some ad119) x6_1.length co29 : Value).ownBlock) (fun _ => False) rfl rfl ?aO ?aR (fun _ _ h => h) (fun _ h => h.elim) ?aF ?aB ?aS ?aL ?_; (case aR => repeat (first | exact (by repeat (first | (with_reducible exact HR138.out) | (with_reducible refine Kd.C_alloc ?_ _) | (with_reducible refine Kd.C_drewN ?_ _) | (with_reducible refine Kd.C_drew ?_) | exact HR138.out)) | (with_reducible refine Kd.C_alloc ?_ _) | (with_reducible refine Kd.C_drewN ?_ _) | (with_reducible refine Kd.C_drew ?_))); (case aB => exact bh); (case aF => exact (fun k_ hk => ⟨Kd.fresh' (Kd.R_lt (ro HO_5)) k_ hk, Kd.fresh' (Kd.R_lt (ro HO_6)) k_ hk⟩)); (case aO => exact (ro HO134)); (case aS => exact (below_size bh)); (case aL => have := LMc27.out; omega); intro v140 w37 ho hb hg hat; rw [← Ny139.out] at ho; have HO141 := Aside0.mk (ho); replace HO_5 := Aside0.mk (Kd.R_after (ok := (fun k_ => some k_ ≠ (.slice (some ad119) x6_1.length co29 : Value).ownBlock)) (ro HO_5) hg hat); replace HB := Aside0.mk (hb); replace HR127 := Aside0.mk ((show Kd.C k29 w37 (some ad119) y124.length y124 from by rw [Ny124.out]; exact Kd.C_take (m := (x8_2 : Int).toNat) ((Kd.R_reads' (Kd.R_after (ok := (fun k_ => some k_ ≠ (.slice (some ad117) t101.length co10 : Value).ownBlock)) (ro HO_6) hg hat)).2.2) KL33.out)); replace HR138 := Aside0.mk ((show Kd.C k29 w37 A36 y135.length y135 from by rw [Ny135.out, KA36.out]; exact Kd.C_drop (m := (x8_2 : Int).toNat) (c := co29) ((Kd.R_reads' (Kd.R_after (ok := (fun k_ => some k_ ≠ (.slice (some ad117) t101.length co10 : Value).ownBlock)) (ro HO_6) hg hat)).2.2) KL36.out ((Kd.R_reads' (Kd.R_after (ok := (fun k_ => some k_ ≠ (.slice (some ad117) t101.length co10 : Value).ownBlock)) (ro HO_6) hg hat)).2.1))); replace HO_6 := Aside0.mk (Kd.R_after (ok := (fun k_ => some k_ ≠ (.slice (some ad117) t101.length co10 : Value).ownBlock)) (ro HO_6) hg hat); clear HO134; clear ho hb hg hat))
         go_roundg k2
         case measure => have := HK1.out; have := HK2.out; omega
         case rel => exact ⟨(y139), (wrap64 (x7_1 + 1)), sd, H', ⟨by have := HK1.out; have := HK2.out; omega⟩, ⟨by (with_reducible repeat (first | apply Kd.R_alloc | apply Kd.R_drewN | apply Kd.R_drew)); exact Kd.R_mono HO_5.out (fun _ hk => hk.2)⟩, ⟨by (with_reducible repeat (first | apply Kd.R_alloc | apply Kd.R_drewN | apply Kd.R_drew)); exact Kd.R_mono HO141.out (fun _ hk => hk.1)⟩, ⟨bh⟩⟩
        ·replace c20 := Bool.eq_false_iff.mpr c20
         subst c20
         rw [if_neg (show ¬ (false = true) by decide)] at H
         have H' := Aside0.mk H
         clear H
         try go_wp2
         replace HO_5 := Aside0.mk (Kd.R_drew HO_5.out)
         replace HO_6 := Aside0.mk (Kd.R_drew HO_6.out)
         replace HB := Aside0.mk (below_drew1 HB.out)
         obtain ⟨Ao39, co39, eo39⟩ := Kd.R_slice HO_6.out
         (first | subst eo39 | (injection eo39 with f1_ f2_ f3_; have f4_ := f1_.symm; have f5_ := f3_.symm; clear f1_ f2_ f3_; subst f4_; subst f5_))
         have p117 : 0 ≤ (0 : Int) := (by omega)
         have q117 : 0 < (t101.length : Int) := dt
         obtain ⟨ad117, e117, hx117_0, hx117_1⟩ := at_T29 (Kd.R_reads' HO_5.out).2.2 0 p117 q117
         cases e117
         have qi117 : (0 < t101.length) = True := eq_true (by omega)
         (try rw [show ((0 : Int)).toNat = 0 from rfl] at hx117_0)
         (try rw [show 0 * 2 = 0 from rfl] at hx117_0)
         (try rw [Addr.add_zero'] at hx117_0)
         (try rw [show ((0 : Int)).toNat = 0 from rfl] at hx117_1)
         (try rw [show 0 * 2 = 0 from rfl] at hx117_1)
         (try rw [Addr.add_zero'] at hx117_1)
         replace p117 := eq_true p117
         replace q117 := eq_true q117
         have p118 : 0 ≤ (x7_1 : Int) := dt
         have q118 : x7_1 < (t101.length : Int) := dt
         obtain ⟨ad118, e118, hx118_0, hx118_1⟩ := at_T29 (Kd.R_reads' HO_5.out).2.2 x7_1 p118 q118
         obtain rfl : ad117 = ad118 := (by injection e118)
         replace p118 := eq_true p118
         replace q118 := eq_true q118
         have p119 : 0 ≤ (x8_2 : Int) := dt
         have q119 : x8_2 < (x6_1.length : Int) := dt
         obtain ⟨ad119, e119, hx119_0, hx119_1⟩ := at_T29 (Kd.R_reads' HO_6.out).2.2 x8_2 p119 q119
         cases e119
         replace p119 := eq_true p119
         replace q119 := eq_true q119
         refine start_ (n := 19) (S := fun w' => w'.cell? ad117 = some (.int .i64 ((rd_T29 t101 0).f0)) ∧ w'.cell? ⟨ad117.block, ad117.off + 1, none⟩ = some (.int .i64 ((rd_T29 t101 0).f1)) ∧ w'.cell? (ad117.add ((x7_1).toNat * 2)) = some (.int .i64 ((rd_T29 t101 x7_1).f0)) ∧ w'.cell? ⟨(ad117.add ((x7_1).toNat * 2)).block, (ad117.add ((x7_1).toNat * 2)).off + 1, none⟩ = some (.int .i64 ((rd_T29 t101 x7_1).f1)) ∧ w'.cell? (ad119.add ((x8_2).toNat * 2)) = some (.int .i64 ((rd_T29 x6_1 x8_2).f0)) ∧ w'.cell? ⟨(ad119.add ((x8_2).toNat * 2)).block, (ad119.add ((x8_2).toNat * 2)).off + 1, none⟩ = some (.int .i64 ((rd_T29 x6_1 x8_2).f1))) (ds := []) #[N,N,N,N,N,N,N,N,N,N,N,N,N,N,N,N,N,N,N] (by kernel_rfl) rfl rfl ⟨hx117_0, hx117_1, hx118_0, hx118_1, hx119_0, hx119_1⟩ (fun hHeld => ?_); refine with_tabW cracknellaw04_star.tab9 cracknellaw04_star.bits9 (fun HT_ HW_ => ?_)
         generalize wr.drew = w38 at HO_5 HO_6 HB hx117_0 hx117_1 hx118_0 hx118_1 hx119_0 hx119_1 hHeld ⊢
         refine pu 0 27 HT_ ?_
         refine pu 1 28 HT_ ?_
         refine pu 2 29 HT_ ?_
         refine pu 3 30 HT_ ?_
         refine pu 4 31 HT_ ?_
         refine pu 5 32 HT_ ?_
         refine pu 6 33 HT_ ?_
         refine pu 8 35 HT_ ?_
         refine pu 9 36 HT_ ?_
         refine pu 10 37 HT_ ?_
         refine pu 12 39 HT_ ?_
         refine pu 13 40 HT_ ?_
         refine pu 14 41 HT_ ?_
         refine tk6 7 34 hHeld HT_ HW_ ?_
         refine tk6 11 38 hHeld HT_ HW_ ?_
         refine tk6 15 42 hHeld HT_ HW_ ?_
         refine one_ (i := 16) (N := some 43) #[T,T,T,T,T,T,T,T,T,T,T,T,T,T,T,T,T,N,N] rfl rfl (on1 HT_) (by decide) (fun K hK => ?_)
         refine goes_ Try.func63 (by kernel_rfl) rfl #[.agg #[.int .i64 ((rd_T29 t101 0).f0), .int .i64 ((rd_T29 t101 0).f1)], .agg #[.int .i64 ((rd_T29 t101 x7_1).f0), .int .i64 ((rd_T29 t101 x7_1).f1)], .agg #[.int .i64 ((rd_T29 x6_1 x8_2).f0), .int .i64 ((rd_T29 x6_1 x8_2).f1)]] (by rfl) rfl rfl sg ?_
         with_reducible refine (cracknellaw04_before.calls ((rd_T29 t101 0).f0) ((rd_T29 t101 0).f1) ((rd_T29 t101 x7_1).f0) ((rd_T29 t101 x7_1).f1) ((rd_T29 x6_1 x8_2).f0) ((rd_T29 x6_1 x8_2).f1) false _ A19.out).mono ?_
         rintro e w40 ⟨rfl, hb⟩
         have HS0_ := (hb.cell (World.block_lt_of_cell? _ _ (hHeld.1))).trans (hHeld.1)
         have HS1_ := (hb.cell (World.block_lt_of_cell? _ _ (hHeld.2.1))).trans (hHeld.2.1)
         have HS2_ := (hb.cell (World.block_lt_of_cell? _ _ (hHeld.2.2.1))).trans (hHeld.2.2.1)
         have HS3_ := (hb.cell (World.block_lt_of_cell? _ _ (hHeld.2.2.2.1))).trans (hHeld.2.2.2.1)
         have HS4_ := (hb.cell (World.block_lt_of_cell? _ _ (hHeld.2.2.2.2.1))).trans (hHeld.2.2.2.2.1)
         have HS5_ := (hb.cell (World.block_lt_of_cell? _ _ (hHeld.2.2.2.2.2))).trans (hHeld.2.2.2.2.2)
         refine ⟨_, rfl, ?_⟩
         replace HO_5 := Aside0.mk (Kd.R_below (ro HO_5) hb)
         replace HO_6 := Aside0.mk (Kd.R_below (ro HO_6) hb)
         replace HB := Aside0.mk (below_step bh hb)
         (try clear hb); (try clear hb2); (try clear hk); (try clear hi)
         refine hK.out _ _ ⟨HS0_, HS1_, HS2_, HS3_, HS4_, HS5_⟩ (fun hHeld => ?_)
         clear hK K
         refine nm 43 ?_
         refine pu 17 44 HT_ ?_
         refine pu 18 45 HT_ ?_
         refine done_ (done_of HT_.out (by kernel_rfl)) ?_
         try go_wp2
         go_roundg k2
         case measure => have := HK1.out; have := HK2.out; omega
         case rel => exact ⟨(wrap64 (x8_2 + 1)), sd, H', ⟨by have := HK1.out; have := HK2.out; omega⟩, ⟨by (with_reducible repeat (first | apply Kd.R_alloc | apply Kd.R_drewN | apply Kd.R_drew)); exact HO_5.out⟩, ⟨by (with_reducible repeat (first | apply Kd.R_alloc | apply Kd.R_drewN | apply Kd.R_drew)); exact HO_6.out⟩, ⟨bh⟩⟩
       ·rw [if_neg c14] at H
        have c14b0 := decide_eq_false c14
        clear c14
        obtain ⟨y142, hy142⟩ : ∃ y_ : List (S29), y_ = (([] : List (S29))) := ⟨_, rfl⟩
        replace H : (if 0 ≤ x8_2 then (if x8_2 ≤ (x6_1.length : Int) then ((some (x6_1.take (x8_2 : Int).toNat : List (S29))).bind fun y145 => (if y142.length + y145.length < 8796093022208 then ((some (y142 ++ y145 : List (S29))).bind fun y149 => (if 0 ≤ x7_1 then (if x7_1 < (t101.length : Int) then (if y149.length < 8796093022208 then ((some (y149 ++ [(⟨(rd_T29 t101 x7_1).f0, (rd_T29 t101 x7_1).f1⟩ : S29)] : List (S29))).bind fun y153 => ((some (x6_1.drop (x8_2 : Int).toNat : List (S29))).bind fun y156 => (if y153.length + y156.length < 8796093022208 then (cracknellaw04_star.l0 k2 t101 (y153 ++ y156) (wrap64 (x7_1 + 1))) else (none)))) else (none)) else (none)) else (none))) else (none))) else (none)) else (none)) = some r := by first | (rw [hy142]; with_reducible exact H) | (have H2_ := (Option.bind_some _ _).symm.trans H; rw [hy142]; with_reducible exact H2_) | (have H2_ := (Option.bind_some _ _).symm.trans H; with_reducible exact H2_) | with_reducible exact H | (rw [hy142]; exact H) | exact H
        have Ny142 := Aside0.mk hy142
        clear hy142
        replace H := oi H
        obtain ⟨c41, H⟩ := H
        have c41b0 := eq_true c41
        have c41b1 := decide_eq_true c41
        clear c41
        replace H := oi H
        obtain ⟨c42, H⟩ := H
        have c42b0 := eq_true c42
        have c42b1 := decide_eq_true c42
        clear c42
        obtain ⟨y145, hy145⟩ : ∃ y_ : List (S29), y_ = (x6_1.take (x8_2 : Int).toNat) := ⟨_, rfl⟩
        replace H : (if y142.length + y145.length < 8796093022208 then ((some (y142 ++ y145 : List (S29))).bind fun y149 => (if 0 ≤ x7_1 then (if x7_1 < (t101.length : Int) then (if y149.length < 8796093022208 then ((some (y149 ++ [(⟨(rd_T29 t101 x7_1).f0, (rd_T29 t101 x7_1).f1⟩ : S29)] : List (S29))).bind fun y153 => ((some (x6_1.drop (x8_2 : Int).toNat : List (S29))).bind fun y156 => (if y153.length + y156.length < 8796093022208 then (cracknellaw04_star.l0 k2 t101 (y153 ++ y156) (wrap64 (x7_1 + 1))) else (none)))) else (none)) else (none)) else (none))) else (none)) = some r := by first | (rw [hy145]; with_reducible exact H) | (have H2_ := (Option.bind_some _ _).symm.trans H; rw [hy145]; with_reducible exact H2_) | (have H2_ := (Option.bind_some _ _).symm.trans H; with_reducible exact H2_) | with_reducible exact H | (rw [hy145]; exact H) | exact H
        have Ny145 := Aside0.mk hy145
        clear hy145
        replace H := oi H
        obtain ⟨c43, H⟩ := H
        have LMc43 := Aside0.mk c43
        clear c43
        obtain ⟨y149, hy149⟩ : ∃ y_ : List (S29), y_ = (y142 ++ y145) := ⟨_, rfl⟩
        replace H : (if 0 ≤ x7_1 then (if x7_1 < (t101.length : Int) then (if y149.length < 8796093022208 then ((some (y149 ++ [(⟨(rd_T29 t101 x7_1).f0, (rd_T29 t101 x7_1).f1⟩ : S29)] : List (S29))).bind fun y153 => ((some (x6_1.drop (x8_2 : Int).toNat : List (S29))).bind fun y156 => (if y153.length + y156.length < 8796093022208 then (cracknellaw04_star.l0 k2 t101 (y153 ++ y156) (wrap64 (x7_1 + 1))) else (none)))) else (none)) else (none)) else (none)) = some r := by first | (rw [hy149]; with_reducible exact H) | (have H2_ := (Option.bind_some _ _).symm.trans H; rw [hy149]; with_reducible exact H2_) | (have H2_ := (Option.bind_some _ _).symm.trans H; with_reducible exact H2_) | with_reducible exact H | (rw [hy149]; exact H) | exact H
        have Ny149 := Aside0.mk hy149
        clear hy149
        replace H := oi H
        obtain ⟨c44, H⟩ := H
        have c44b0 := decide_eq_true c44
        clear c44
        replace H := oi H
        obtain ⟨c45, H⟩ := H
        have c45b0 := decide_eq_true c45
        clear c45
        replace H := oi H
        obtain ⟨c46, H⟩ := H
        have LMc46 := Aside0.mk c46
        clear c46
        obtain ⟨y153, hy153⟩ : ∃ y_ : List (S29), y_ = (y149 ++ [(⟨(rd_T29 t101 x7_1).f0, (rd_T29 t101 x7_1).f1⟩ : S29)]) := ⟨_, rfl⟩
        replace H : ((some (x6_1.drop (x8_2 : Int).toNat : List (S29))).bind fun y156 => (if y153.length + y156.length < 8796093022208 then (cracknellaw04_star.l0 k2 t101 (y153 ++ y156) (wrap64 (x7_1 + 1))) else (none))) = some r := by first | (rw [hy153]; with_reducible exact H) | (have H2_ := (Option.bind_some _ _).symm.trans H; rw [hy153]; with_reducible exact H2_) | (have H2_ := (Option.bind_some _ _).symm.trans H; with_reducible exact H2_) | with_reducible exact H | (rw [hy153]; exact H) | exact H
        have Ny153 := Aside0.mk hy153
        clear hy153
        have c47b0 := eq_true (dt : 0 ≤ x8_2)
        have c48b0 := eq_true (dt : x8_2 ≤ (x6_1.length : Int))
        obtain ⟨y156, hy156⟩ : ∃ y_ : List (S29), y_ = (x6_1.drop (x8_2 : Int).toNat) := ⟨_, rfl⟩
        replace H : (if y153.length + y156.length < 8796093022208 then (cracknellaw04_star.l0 k2 t101 (y153 ++ y156) (wrap64 (x7_1 + 1))) else (none)) = some r := by first | (rw [hy156]; with_reducible exact H) | (have H2_ := (Option.bind_some _ _).symm.trans H; rw [hy156]; with_reducible exact H2_) | (have H2_ := (Option.bind_some _ _).symm.trans H; with_reducible exact H2_) | with_reducible exact H | (rw [hy156]; exact H) | exact H
        have Ny156 := Aside0.mk hy156
        clear hy156
        replace H := oi H
        obtain ⟨c49, H⟩ := H
        have LMc49 := Aside0.mk c49
        clear c49
        obtain ⟨y160, hy160⟩ : ∃ y_ : List (S29), y_ = (y153 ++ y156) := ⟨_, rfl⟩
        replace H : (cracknellaw04_star.l0 k2 t101 y160 (wrap64 (x7_1 + 1))) = some r := by first | (rw [hy160]; with_reducible exact H) | (have H2_ := (Option.bind_some _ _).symm.trans H; rw [hy160]; with_reducible exact H2_) | (have H2_ := (Option.bind_some _ _).symm.trans H; with_reducible exact H2_) | with_reducible exact H | (rw [hy160]; exact H) | exact H
        have Ny160 := Aside0.mk hy160
        clear hy160
        have H' := Aside0.mk H
        clear H
        try go_wp2
        replace HO_5 := Aside0.mk (Kd.R_drew HO_5.out)
        replace HO_6 := Aside0.mk (Kd.R_drew HO_6.out)
        replace HB := Aside0.mk (below_drew1 HB.out)
        obtain ⟨Ao51, co51, eo51⟩ := Kd.R_slice HO_6.out
        (first | subst eo51 | (injection eo51 with f1_ f2_ f3_; have f4_ := f1_.symm; have f5_ := f3_.symm; clear f1_ f2_ f3_; subst f4_; subst f5_))
        refine start_ (n := 19) (S := fun w' => True) (ds := []) #[N,N,N,N,N,N,N,N,N,N,N,N,N,N,N,N,N,N,N] (by kernel_rfl) rfl rfl trivial (fun hHeld => ?_); refine with_tabW cracknellaw04_star.tab9 cracknellaw04_star.bits9 (fun HT_ HW_ => ?_)
        generalize wr.drew = w50 at HO_5 HO_6 HB hHeld ⊢
        refine pu 0 27 HT_ ?_
        refine pu 1 28 HT_ ?_
        refine pu 2 29 HT_ ?_
        refine pu 3 30 HT_ ?_
        refine pu 4 31 HT_ ?_
        refine pz 5 32 HT_ ?_
        refine pz 6 33 HT_ ?_
        refine pz 7 34 HT_ ?_
        refine pz 8 35 HT_ ?_
        refine pz 9 36 HT_ ?_
        refine pz 10 37 HT_ ?_
        refine pz 11 38 HT_ ?_
        refine pz 12 39 HT_ ?_
        refine pz 13 40 HT_ ?_
        refine pz 14 41 HT_ ?_
        refine pz 15 42 HT_ ?_
        refine pz 16 43 HT_ ?_
        refine pz 17 44 HT_ ?_
        refine pu 18 45 HT_ ?_
        refine done_ (done_of HT_.out (by kernel_rfl)) ?_
        try go_wp2_with (first | ((with_reducible refine gate_dst (N := 48) rfl ?_); refine Kd.R_lit k29 _ 29 ?hg (N := 48) ?hd (xs := ([] : List (S29))) (inner := []) (ok := fun _ => True) (okp := fun _ => True) ?hr ?hp (fun _ hk => hk) trivial (Below.refl _ _) (Nat.le_refl _) (by simp) ?_; (case hd => rfl); (case hg => rfl); (case hr => first | (go_simp; done) | (go_simp; rfl)); (case hp => exact (Reps.none _ _)); intro v143 w52 ho53 hb hg_ hnew_; clear hg_ hnew_; (first | rw [← Ny142.out] at ho53 | (simp only [Int.reduceToNat] at ho53; rw [← Ny142.out] at ho53)); have HO144 := Aside0.mk (Kd.R_lower (Kd.R_new' (Kd.R_new' ho53 (Kd.R_lt (ro HO_5))) (Kd.R_lt (ro HO_6))) (below_size bh)); replace HO_5 := Aside0.mk (Kd.R_elder' (ro HO_5) (Kd.R_base ho53) hb); replace HO_6 := Aside0.mk (Kd.R_elder' (ro HO_6) (Kd.R_base ho53) hb); replace HB := Aside0.mk (below_step bh hb); clear hb ho53; have q54 : (x8_2 : Int) ≤ ((x6_1.length : Int) : Int) := dt; obtain ⟨i054, hi054, _, hsz54, _⟩ := info_parts info29; have hroom54 : x6_1.length ≤ co51 := (Kd.R_reads' HO_6.out).2.1; have hC54 : Kd.C k29 _ Ao51 x6_1.length x6_1 := (Kd.R_reads' HO_6.out).2.2; have hcut54 := cut_to (P := Try.prog) 22 29 .i64 Try.underlying22 hi054 Ao51 x6_1.length co51 x8_2 (dt) q54 hroom54; have hr54 := Kd.C_take (m := (x8_2 : Int).toNat) hC54 (by omega); have hy54 : y145.length = (x8_2 : Int).toNat := (by rw [Ny145.out, List.length_take]; omega); rw [← Ny145.out] at hr54; rw [← hy54] at hcut54; have HR148 := Aside0.mk hr54; have HC148 := Aside0.mk (show y145.length ≤ co51 from by omega); clear hr54 hC54 hroom54 hi054 hsz54; have KY54 := Aside0.mk hy54; clear hy54; have KL54 := Aside0.mk (show (x8_2 : Int).toNat ≤ x6_1.length from by omega); replace q54 := eq_true q54) | ((with_reducible refine gate_builtin (b := .append) (xs := #[.tmp 48, .tmp 51]) rfl ?_); at_builtin; refine Kd.R_append_rows k29 (w0 := w) w.heap.size rfl (.tmp 48) (.tmp 51) 22 29 (.agg #[(.int .i64 0), (.int .i64 0)]) 16 rfl Try.underlying22 info29 rfl (by decide) (by omega) v143 y142 y145 _ _ _ (fun k_ => some k_ ≠ (.slice Ao10 t101.length co10 : Value).ownBlock ∧ some k_ ≠ (.slice Ao51 x6_1.length co51 : Value).ownBlock) (fun _ => False) rfl rfl ?aO ?aR (fun _ _ h => h) (fun _ h => h.elim) ?aF ?aB ?aS ?aL ?_; (case aR => repeat (first | exact (by repeat (first | (with_reducible exact HR148.out) | (with_reducible refine Kd.C_alloc ?_ _) | (with_reducible refine Kd.C_drewN ?_ _) | (with_reducible refine Kd.C_drew ?_) | exact HR148.out)) | (with_reducible refine Kd.C_alloc ?_ _) | (with_reducible refine Kd.C_drewN ?_ _) | (with_reducible refine Kd.C_drew ?_))); (case aB => exact bh); (case aF => exact (fun k_ hk => ⟨Kd.fresh' (Kd.R_lt (ro HO_5)) k_ hk, Kd.fresh' (Kd.R_lt (ro HO_6)) k_ hk⟩)); (case aO => exact (by (with_reducible repeat (first | apply Kd.R_alloc | apply Kd.R_drewN | apply Kd.R_drew)); exact Kd.R_mono HO144.out (fun _ hk => ⟨hk.1.2, hk.2⟩))); (case aS => exact (below_size bh)); (case aL => have := LMc43.out; omega); intro v150 w55 ho hb hg hat; rw [← Ny149.out] at ho; have HO151 := Aside0.mk (ho); replace HO_5 := Aside0.mk (Kd.R_after (ok := (fun k_ => some k_ ≠ (.slice Ao51 x6_1.length co51 : Value).ownBlock)) (ro HO_5) hg hat); replace HB := Aside0.mk (hb); replace HR148 := Aside0.mk ((show Kd.C k29 w55 Ao51 y145.length y145 from by rw [Ny145.out]; exact Kd.C_take (m := (x8_2 : Int).toNat) ((Kd.R_reads' (Kd.R_after (ok := (fun k_ => some k_ ≠ (.slice Ao10 t101.length co10 : Value).ownBlock)) (ro HO_6) hg hat)).2.2) KL54.out)); replace HO_6 := Aside0.mk (Kd.R_after (ok := (fun k_ => some k_ ≠ (.slice Ao10 t101.length co10 : Value).ownBlock)) (ro HO_6) hg hat); clear HO144; clear ho hb hg hat; have p152 : 0 ≤ (x7_1 : Int) := dt; have q152 : x7_1 < (t101.length : Int) := dt; obtain ⟨ad152, e152, hx152_0, hx152_1⟩ := at_T29 (Kd.R_reads' HO_5.out).2.2 x7_1 p152 q152; cases e152; replace p152 := eq_true p152; replace q152 := eq_true q152) | ((with_reducible refine gate_builtin (b := .append) (xs := #[.tmp 53, .tmp 58]) rfl ?_); at_builtin; refine Kd.R_append k29 (w0 := w) w.heap.size rfl (.tmp 53) (.tmp 58) 22 29 (.agg #[(.int .i64 0), (.int .i64 0)]) 16 rfl Try.underlying22 info29 rfl (by decide) (by omega) v150 y149 (⟨(rd_T29 t101 x7_1).f0, (rd_T29 t101 x7_1).f1⟩ : S29) [.int .i64 ((rd_T29 t101 x7_1).f0), .int .i64 ((rd_T29 t101 x7_1).f1)] (fun k_ => some k_ ≠ (.slice (some ad152) t101.length co10 : Value).ownBlock ∧ some k_ ≠ (.slice Ao51 x6_1.length co51 : Value).ownBlock) (fun _ => False) rfl rfl ?aP (fun _ hk => hk.elim) ?aF ?aO ?aB ?aS ?aL ?_; (case aP => exact k29_mkM _ _ _ (⟨(rd_T29 t101 x7_1).f0, (rd_T29 t101 x7_1).f1⟩ : S29)); (case aB => exact bh); (case aF => exact (fun k_ hk => ⟨Kd.fresh' (Kd.R_lt (ro HO_5)) k_ hk, Kd.fresh' (Kd.R_lt (ro HO_6)) k_ hk⟩)); (case aO => exact (ro HO151)); (case aS => exact (below_size bh)); (case aL => have := LMc46.out; omega); intro v154 w56 ho hb hg hat; rw [← Ny153.out] at ho; have HO155 := Aside0.mk (ho); replace HO_5 := Aside0.mk (Kd.R_after (ok := (fun k_ => some k_ ≠ (.slice Ao51 x6_1.length co51 : Value).ownBlock)) (ro HO_5) hg hat); replace HB := Aside0.mk (hb); replace HR148 := Aside0.mk ((show Kd.C k29 w56 Ao51 y145.length y145 from by rw [Ny145.out]; exact Kd.C_take (m := (x8_2 : Int).toNat) ((Kd.R_reads' (Kd.R_after (ok := (fun k_ => some k_ ≠ (.slice (some ad152) t101.length co10 : Value).ownBlock)) (ro HO_6) hg hat)).2.2) KL54.out)); replace HO_6 := Aside0.mk (Kd.R_after (ok := (fun k_ => some k_ ≠ (.slice (some ad152) t101.length co10 : Value).ownBlock)) (ro HO_6) hg hat); clear HO151; clear ho hb hg hat; have q57 : (x8_2 : Int) ≤ ((x6_1.length : Int) : Int) := dt; obtain ⟨i057, hi057, _, hsz57, _⟩ := info_parts info29; have hroom57 : x6_1.length ≤ co51 := (Kd.R_reads' HO_6.out).2.1; have hC57 : Kd.C k29 _ Ao51 x6_1.length x6_1 := (Kd.R_reads' HO_6.out).2.2; have q057 : (0 : Int) ≤ (x8_2 : Int) := dt; have hcut57 := cut_from (P := Try.prog) 22 29 .i64 Try.underlying22 hi057 2 hsz57 Ao51 x6_1.length co51 x8_2 q057 q57; have hr57 := Kd.C_drop (m := (x8_2 : Int).toNat) (c := co51) hC57 (by omega) hroom57; obtain ⟨A57, hA57⟩ : ∃ A1, A1 = (if co51 = (x8_2 : Int).toNat then Ao51 else (Ao51 : Option Addr).map (·.add ((x8_2 : Int).toNat * 2))) := ⟨_, rfl⟩; obtain ⟨c57, hc57⟩ : ∃ c1, c1 = co51 - (x8_2 : Int).toNat := ⟨_, rfl⟩; have hy57 : y156.length = x6_1.length - (x8_2 : Int).toNat := (by rw [Ny156.out, List.length_drop] <;> omega); rw [show (x6_1).drop (x8_2 : Int).toNat = y156 from Ny156.out.symm] at hr57; replace hr57 : Kd.C k29 _ A57 y156.length y156 := (by rw [hA57]; exact hr57); rw [← hy57, ← hA57, ← hc57] at hcut57; have HR159 := Aside0.mk hr57; have HC159 := Aside0.mk (show y156.length ≤ c57 from by rw [hy57, hc57]; exact Nat.sub_le_sub_right hroom57 _); clear hr57 hC57 hroom57 hi057 hsz57 hc57; have KY57 := Aside0.mk hy57; have KA57 := Aside0.mk hA57; clear hy57 hA57; have KL57 := Aside0.mk (show (x8_2 : Int).toNat ≤ x6_1.length from by omega); replace q57 := eq_true q57) | ((with_reducible refine gate_builtin (b := .append) (xs := #[.tmp 60, .tmp 63]) rfl ?_); at_builtin; refine Kd.R_append_rows k29 (w0 := w) w.heap.size rfl (.tmp 60) (.tmp 63) 22 29 (.agg #[(.int .i64 0), (.int .i64 0)]) 16 rfl Try.underlying22 info29 rfl (by decide) (by omega) v154 y153 y156 _ _ _ (fun k_ => some k_ ≠ (.slice (some ad152) t101.length co10 : Value).ownBlock ∧ some k_ ≠ (.slice Ao51 x6_1.length co51 : Value).ownBlock) (fun _ => False) rfl rfl ?aO ?aR (fun _ _ h => h) (fun _ h => h.elim) ?aF ?aB ?aS ?aL ?_; (case aR => repeat (first | exact (by repeat (first | (with_reducible exact HR159.out) | (with_reducible refine Kd.C_alloc ?_ _) | (with_reducible refine Kd.C_drewN ?_ _) | (with_reducible refine Kd.C_drew ?_) | exact HR159.out)) | (with_reducible refine Kd.C_alloc ?_ _) | (with_reducible refine Kd.C_drewN ?_ _) | (with_reducible refine Kd.C_drew ?_))); (case aB => exact bh); (case aF => exact (fun k_ hk => ⟨Kd.fresh' (Kd.R_lt (ro HO_5)) k_ hk, Kd.fresh' (Kd.R_lt (ro HO_6)) k_ hk⟩)); (case aO => exact (ro HO155)); (case aS => exact (below_size bh)); (case aL => have := LMc49.out; omega); intro v161 w58 ho hb hg hat; rw [← Ny160.out] at ho; have HO162 := Aside0.mk (ho); replace HO_5 := Aside0.mk (Kd.R_after (ok := (fun k_ => some k_ ≠ (.slice Ao51 x6_1.length co51 : Value).ownBlock)) (ro HO_5) hg hat); replace HB := Aside0.mk (hb); replace HR148 := Aside0.mk ((show Kd.C k29 w58 Ao51 y145.length y145 from by rw [Ny145.out]; exact Kd.C_take (m := (x8_2 : Int).toNat) ((Kd.R_reads' (Kd.R_after (ok := (fun k_ => some k_ ≠ (.slice (some ad152) t101.length co10 : Value).ownBlock)) (ro HO_6) hg hat)).2.2) KL54.out)); replace HR159 := Aside0.mk ((show Kd.C k29 w58 A57 y156.length y156 from by rw [Ny156.out, KA57.out]; exact Kd.C_drop (m := (x8_2 : Int).toNat) (c := co51) ((Kd.R_reads' (Kd.R_after (ok := (fun k_ => some k_ ≠ (.slice (some ad152) t101.length co10 : Value).ownBlock)) (ro HO_6) hg hat)).2.2) KL57.out ((Kd.R_reads' (Kd.R_after (ok := (fun k_ => some k_ ≠ (.slice (some ad152) t101.length co10 : Value).ownBlock)) (ro HO_6) hg hat)).2.1))); replace HO_6 := Aside0.mk (Kd.R_after (ok := (fun k_ => some k_ ≠ (.slice (some ad152) t101.length co10 : Value).ownBlock)) (ro HO_6) hg hat); clear HO155; clear ho hb hg hat))
        go_roundg k2
        case measure => have := HK1.out; have := HK2.out; omega
        case rel => exact ⟨(y160), (wrap64 (x7_1 + 1)), sd, H', ⟨by have := HK1.out; have := HK2.out; omega⟩, ⟨by (with_reducible repeat (first | apply Kd.R_alloc | apply Kd.R_drewN | apply Kd.R_drew)); exact Kd.R_mono HO_5.out (fun _ hk => hk.2)⟩, ⟨by (with_reducible repeat (first | apply Kd.R_alloc | apply Kd.R_drewN | apply Kd.R_drew)); exact Kd.R_mono HO162.out (fun _ hk => hk.1)⟩, ⟨bh⟩⟩
    ·rw [if_neg c13] at H
     have c13b0 := decide_eq_false c13
     clear c13
     replace H := oi H
     obtain ⟨c59, H⟩ := H
     have c59b0 := decide_eq_true c59
     have c59b1 : decide (0 < t101.length) = true := decide_eq_true (by omega)
     clear c59
     obtain ⟨y111, hy111⟩ : ∃ y_ : List (S29), y_ = (([(⟨(rd_T29 t101 0).f0, (rd_T29 t101 0).f1⟩ : S29)] : List (S29))) := ⟨_, rfl⟩
     replace H : (if y111.length + x6_1.length < 8796093022208 then (some (y111 ++ x6_1)) else (none)) = some r := by first | (rw [hy111]; with_reducible exact H) | (have H2_ := (Option.bind_some _ _).symm.trans H; rw [hy111]; with_reducible exact H2_) | (have H2_ := (Option.bind_some _ _).symm.trans H; with_reducible exact H2_) | with_reducible exact H | (rw [hy111]; exact H) | exact H
     have Ny111 := Aside0.mk hy111
     clear hy111
     replace H := oi H
     obtain ⟨c60, H⟩ := H
     have LMc60 := Aside0.mk c60
     clear c60
     obtain ⟨y114, hy114⟩ : ∃ y_ : List (S29), y_ = (y111 ++ x6_1) := ⟨_, rfl⟩
     replace H : (some y114) = some r := by first | (rw [hy114]; with_reducible exact H) | (have H2_ := (Option.bind_some _ _).symm.trans H; rw [hy114]; with_reducible exact H2_) | (have H2_ := (Option.bind_some _ _).symm.trans H; with_reducible exact H2_) | with_reducible exact H | (rw [hy114]; exact H) | exact H
     have Ny114 := Aside0.mk hy114
     clear hy114
     obtain rfl := Option.some.inj H
     have p110 : 0 ≤ (0 : Int) := (by omega)
     have q110 : 0 < (t101.length : Int) := dt
     obtain ⟨ad110, e110, hx110_0, hx110_1⟩ := at_T29 (Kd.R_reads' HO_5.out).2.2 0 p110 q110
     cases e110
     have qi110 : (0 < t101.length) = True := eq_true (by omega)
     (try rw [show ((0 : Int)).toNat = 0 from rfl] at hx110_0)
     (try rw [show 0 * 2 = 0 from rfl] at hx110_0)
     (try rw [Addr.add_zero'] at hx110_0)
     (try rw [show ((0 : Int)).toNat = 0 from rfl] at hx110_1)
     (try rw [show 0 * 2 = 0 from rfl] at hx110_1)
     (try rw [Addr.add_zero'] at hx110_1)
     replace p110 := eq_true p110
     replace q110 := eq_true q110
     go_wp2_with (first | ((with_reducible refine gate_dst (N := 68) rfl ?_); refine Kd.R_lit k29 _ 29 ?hg (N := 68) ?hd (xs := ([(⟨(rd_T29 t101 0).f0, (rd_T29 t101 0).f1⟩ : S29)] : List (S29))) (inner := [.int .i64 ((rd_T29 t101 0).f0), .int .i64 ((rd_T29 t101 0).f1)]) (ok := fun _ => True) (okp := fun _ => True) ?hr ?hp (fun _ hk => hk) trivial (Below.refl _ _) (Nat.le_refl _) (by simp) ?_; (case hd => rfl); (case hg => rfl); (case hr => first | (go_simp; done) | (go_simp; rfl)); (case hp => exact (Reps.c2 (show Kd.M k29 _ _ _ (⟨(rd_T29 t101 0).f0, (rd_T29 t101 0).f1⟩ : S29) [.int .i64 ((rd_T29 t101 0).f0), .int .i64 ((rd_T29 t101 0).f1)] from (k29_mkM _ _ _ (⟨(rd_T29 t101 0).f0, (rd_T29 t101 0).f1⟩ : S29) )) (Reps.none _ _))); intro v112 w61 ho62 hb hg_ hnew_; clear hg_ hnew_; (first | rw [← Ny111.out] at ho62 | (simp only [Int.reduceToNat] at ho62; rw [← Ny111.out] at ho62)); have HO113 := Aside0.mk (Kd.R_lower (Kd.R_new' (Kd.R_new' ho62 (Kd.R_lt (ro HO_5))) (Kd.R_lt (ro HO_6))) (below_size bh)); replace HO_5 := Aside0.mk (Kd.R_elder' (ro HO_5) (Kd.R_base ho62) hb); replace HO_6 := Aside0.mk (Kd.R_elder' (ro HO_6) (Kd.R_base ho62) hb); replace HB := Aside0.mk (below_step bh hb); clear hb ho62; obtain ⟨Ao64, co64, eo64⟩ := Kd.R_slice HO_6.out; subst eo64) | ((with_reducible refine gate_builtin (b := .append) (xs := #[.tmp 68, .tmp 69]) rfl ?_); at_builtin; refine Kd.R_append_rows k29 (w0 := w) w.heap.size rfl (.tmp 68) (.tmp 69) 22 29 (.agg #[(.int .i64 0), (.int .i64 0)]) 16 rfl Try.underlying22 info29 rfl (by decide) (by omega) v112 y111 x6_1 _ _ _ (fun k_ => some k_ ≠ (.slice (some ad110) t101.length co10 : Value).ownBlock ∧ some k_ ≠ (.slice Ao64 x6_1.length co64 : Value).ownBlock) (fun _ => False) rfl rfl ?aO ?aR (fun _ _ h => h) (fun _ h => h.elim) ?aF ?aB ?aS ?aL ?_; (case aR => repeat (first | exact (Kd.R_reads' HO_6.out).2.2 | (with_reducible refine Kd.C_alloc ?_ _) | (with_reducible refine Kd.C_drewN ?_ _) | (with_reducible refine Kd.C_drew ?_))); (case aB => exact bh); (case aF => exact (fun k_ hk => ⟨Kd.fresh' (Kd.R_lt (ro HO_5)) k_ hk, Kd.fresh' (Kd.R_lt (ro HO_6)) k_ hk⟩)); (case aO => exact (by (with_reducible repeat (first | apply Kd.R_alloc | apply Kd.R_drewN | apply Kd.R_drew)); exact Kd.R_mono HO113.out (fun _ hk => ⟨hk.1.2, hk.2⟩))); (case aS => exact (below_size bh)); (case aL => have := LMc60.out; omega); intro v115 w63 ho hb hg hat; rw [← Ny114.out] at ho; have HO116 := Aside0.mk (ho); replace HO_5 := Aside0.mk (Kd.R_after (ok := (fun k_ => some k_ ≠ (.slice Ao64 x6_1.length co64 : Value).ownBlock)) (ro HO_5) hg hat); replace HO_6 := Aside0.mk (Kd.R_after (ok := (fun k_ => some k_ ≠ (.slice (some ad110) t101.length co10 : Value).ownBlock)) (ro HO_6) hg hat); replace HB := Aside0.mk (hb); clear HO113; clear ho hb hg hat))
     go_ret
     exact ⟨_, by exact er, by (with_reducible repeat (first | apply Kd.R_alloc | apply Kd.R_drewN | apply Kd.R_drew)); exact Kd.R_mono HO116.out (fun _ hk => trivial), bh⟩
theorem eqA29 (d : Nat) (w : World) (x0 y0 : Int) (x1 y1 : Int) :
  (Op.equalIn (d + 2) 29 (.agg #[.int .i64 x0, .int .i64 x1]) (.agg #[.int .i64 y0, .int .i64 y1])).run Try.prog w = .ok (x0 == y0 && (x1 == y1)) w := by
 refine eqA_of Try.underlying29 (by kernel_rfl) ?_
 refine eqf_cons (by rfl) (by go_simp; rfl) (by go_simp; rfl) (by go_simp) ?_
 exact eqf_last (by rfl) (by go_simp; rfl) (by go_simp; rfl) (by go_simp)
/-! ### cracknelref04_in: function 59 -/
def cracknelref04_in.f (a0 : Int) (a1 : Int) (a2 : Int) : Option (Bool) := if a0 ≥ a1 then (some (decide (a0 ≤ a2))) else (some false)
set_option maxHeartbeats 8000000 in
set_option maxRecDepth 100000 in
theorem cracknelref04_in.calls (a0 : Int) (a1 : Int) (a2 : Int) (r : Bool) (w : World) (h : cracknelref04_in.f a0 a1 a2 = some r) :
  Calls Try.prog 59 #[.int .i64 a0, .int .i64 a1, .int .i64 a2] w fun e w' => e = .returned (.bool r) ∧ Drawn0 w w' := by
 have H : (if a0 ≥ a1 then (some (decide (a0 ≤ a2))) else (some false)) = some r := h
 clear h
 by_cases c4 : a0 ≥ a1
 ·rw [if_pos c4] at H
  have c4b0 := decide_eq_true c4
  clear c4
  obtain rfl := Option.some.inj H
  go_enter Try.func59, Try.ntmps59
  go_wp2
  go_ret
  exact ⟨by first | rfl | (simp; done) | (simp [*]; done), by repeat (first | exact Drawn0.refl _ | apply Drawn0.step)⟩
 ·rw [if_neg c4] at H
  have c4b0 := decide_eq_false c4
  clear c4
  obtain rfl := Option.some.inj H
  go_enter Try.func59, Try.ntmps59
  go_wp2
  go_ret
  exact ⟨by first | rfl | (simp; done) | (simp [*]; done), by repeat (first | exact Drawn0.refl _ | apply Drawn0.step)⟩
/-! ### cracknelref04_On: function 62 -/
def cracknelref04_On.f (a0_0 : Int) (a0_1 : Int) (a1_0 : Int) (a1_1 : Int) (a2_0 : Int) (a2_1 : Int) : Option (Bool) := (cracknelref04_Cross.f a0_0 a0_1 a1_0 a1_1 a2_0 a2_1).bind fun t104 => (if t104 = 0 then ((cracknelref04_in.f a2_0 (mn a0_0 a1_0) (mx a0_0 a1_0)).bind fun t105 => (if t105 = true then ((cracknelref04_in.f a2_1 (mn a0_1 a1_1) (mx a0_1 a1_1)).bind fun t106 => (some t106)) else (some false))) else (some false))
set_option maxHeartbeats 8000000 in
set_option maxRecDepth 100000 in
theorem cracknelref04_On.calls (a0_0 : Int) (a0_1 : Int) (a1_0 : Int) (a1_1 : Int) (a2_0 : Int) (a2_1 : Int) (r : Bool) (w : World) (h : cracknelref04_On.f a0_0 a0_1 a1_0 a1_1 a2_0 a2_1 = some r) :
  Calls Try.prog 62 #[.agg #[.int .i64 a0_0, .int .i64 a0_1], .agg #[.int .i64 a1_0, .int .i64 a1_1], .agg #[.int .i64 a2_0, .int .i64 a2_1]] w fun e w' => e = .returned (.bool r) ∧ Below w.heap.size w w' := by
 have hu29 := Try.underlying29
 have HB := Aside0.mk (Below.refl w.heap.size w)
 have H : ((cracknelref04_Cross.f a0_0 a0_1 a1_0 a1_1 a2_0 a2_1).bind fun t104 => (if t104 = 0 then ((cracknelref04_in.f a2_0 (mn a0_0 a1_0) (mx a0_0 a1_0)).bind fun t105 => (if t105 = true then ((cracknelref04_in.f a2_1 (mn a0_1 a1_1) (mx a0_1 a1_1)).bind fun t106 => (some t106)) else (some false))) else (some false))) = some r := h
 clear h
 replace H := Option.bind_eq_some_iff.mp H
 obtain ⟨t104, A40, H⟩ := H
 try dsimp only at H
 have A4 := Aside0.mk A40
 clear A40
 by_cases c5 : t104 = 0
 ·rw [if_pos c5] at H
  have c5b0 : (t104 == 0) = true := beq_iff_eq.mpr c5
  have c5b1 : (t104 != 0) = false := bne_eq_false_iff_eq.mpr c5
  clear c5
  obtain ⟨ji6, hji6⟩ : ∃ j_ : Int, (mn a0_0 a1_0) = j_ := ⟨_, rfl⟩
  first | rw [hji6] at H | simp only [hji6] at H
  (try rw [hji6] at A4)
  have hji6_ : (if a1_0 < a0_0 then a1_0 else a0_0) = ji6 := hji6
  obtain ⟨ji7, hji7⟩ : ∃ j_ : Int, (mx a0_0 a1_0) = j_ := ⟨_, rfl⟩
  first | rw [hji7] at H | simp only [hji7] at H
  (try rw [hji7] at A4)
  have hji7_ : (if a0_0 < a1_0 then a1_0 else a0_0) = ji7 := hji7
  replace H := Option.bind_eq_some_iff.mp H
  obtain ⟨t105, A80, H⟩ := H
  try dsimp only at H
  have A8 := Aside0.mk A80
  clear A80
  by_cases c9 : t105 = true
  ·subst c9
   rw [if_pos rfl] at H
   obtain ⟨ji10, hji10⟩ : ∃ j_ : Int, (mn a0_1 a1_1) = j_ := ⟨_, rfl⟩
   first | rw [hji10] at H | simp only [hji10] at H
   (try rw [hji10] at A4)
   (try rw [hji10] at A8)
   have hji10_ : (if a1_1 < a0_1 then a1_1 else a0_1) = ji10 := hji10
   obtain ⟨ji11, hji11⟩ : ∃ j_ : Int, (mx a0_1 a1_1) = j_ := ⟨_, rfl⟩
   first | rw [hji11] at H | simp only [hji11] at H
   (try rw [hji11] at A4)
   (try rw [hji11] at A8)
   have hji11_ : (if a0_1 < a1_1 then a1_1 else a0_1) = ji11 := hji11
   replace H := Option.bind_eq_some_iff.mp H
   obtain ⟨t106, A120, H⟩ := H
   try dsimp only at H
   have A12 := Aside0.mk A120
   clear A120
   obtain rfl := Option.some.inj H
   go_enter Try.func62, Try.ntmps62
   go_wp2_with (first | ((with_reducible refine gate_dst (N := 3) rfl ?_); (try (refine gate_guard (by rfl) ?_; dsimp only)); refine bxe 3 #[.int .i64 a0_0, .int .i64 a0_1] 29 ?_; intro gb101 hg w13 hbox hb; have BK101 := Aside0.mk (hbox); have GW101 := Aside0.mk (gs hg : w.heap.size ≤ gb101); have GE101 := Aside0.mk (gs hg : w.heap.size ≤ gb101); replace HB := Aside0.mk (below_step bh hb); clear hb hbox hg) | ((with_reducible refine gate_dst (N := 4) rfl ?_); (try (refine gate_guard (by rfl) ?_; dsimp only)); refine bxe 4 #[.int .i64 a1_0, .int .i64 a1_1] 29 ?_; intro gb102 hg w14 hbox hb; have BK102 := Aside0.mk (hbox); have GW102 := Aside0.mk (gs hg : w.heap.size ≤ gb102); have GE102 := Aside0.mk (gs hg : w.heap.size ≤ gb102); have NB101_102 := Aside0.mk ((by rw [hg]; exact Nat.ne_of_lt (kl BK101) : gb101 ≠ gb102)); have NB102_101 := Aside0.mk ((by rw [hg]; exact Nat.ne_of_gt (kl BK101) : gb102 ≠ gb101)); replace BK101 := kb BK101 hb; replace HB := Aside0.mk (below_step bh hb); clear hb hbox hg) | ((with_reducible refine gate_dst (N := 5) rfl ?_); (try (refine gate_guard (by rfl) ?_; dsimp only)); refine bxe 5 #[.int .i64 a2_0, .int .i64 a2_1] 29 ?_; intro gb103 hg w15 hbox hb; have BK103 := Aside0.mk (hbox); have GW103 := Aside0.mk (gs hg : w.heap.size ≤ gb103); have GE103 := Aside0.mk (gs hg : w.heap.size ≤ gb103); have NB101_103 := Aside0.mk ((by rw [hg]; exact Nat.ne_of_lt (kl BK101) : gb101 ≠ gb103)); have NB103_101 := Aside0.mk ((by rw [hg]; exact Nat.ne_of_gt (kl BK101) : gb103 ≠ gb101)); have NB102_103 := Aside0.mk ((by rw [hg]; exact Nat.ne_of_lt (kl BK102) : gb102 ≠ gb103)); have NB103_102 := Aside0.mk ((by rw [hg]; exact Nat.ne_of_gt (kl BK102) : gb103 ≠ gb102)); replace BK101 := kb BK101 hb; replace BK102 := kb BK102 hb; replace HB := Aside0.mk (below_step bh hb); clear hb hbox hg; have hnb16 := NB101_102.out; have hnc16 := NB102_101.out; have hnb17 := NB101_103.out; have hnc17 := NB103_101.out; have hcz18_0 : w15.cell? ⟨gb101, 0, none⟩ = some (.int .i64 a0_0) := bc BK101 0; have hcz18_1 : w15.cell? ⟨gb101, 1, none⟩ = some (.int .i64 a0_1) := bc BK101 1; have hfz18_0 := blk_frozen BK101.out 0; have hfz18_1 := blk_frozen BK101.out 1; have hnb19 := NB102_103.out; have hnc19 := NB103_102.out; have hcz20_0 : w15.cell? ⟨gb102, 0, none⟩ = some (.int .i64 a1_0) := bc BK102 0; have hcz20_1 : w15.cell? ⟨gb102, 1, none⟩ = some (.int .i64 a1_1) := bc BK102 1; have hfz20_0 := blk_frozen BK102.out 0; have hfz20_1 := blk_frozen BK102.out 1; have hcz21_0 : w15.cell? ⟨gb103, 0, none⟩ = some (.int .i64 a2_0) := bc BK103 0; have hcz21_1 : w15.cell? ⟨gb103, 1, none⟩ = some (.int .i64 a2_1) := bc BK103 1; have hfz21_0 := blk_frozen BK103.out 0; have hfz21_1 := blk_frozen BK103.out 1) | ((with_reducible refine gc 61 rfl ?_); refine goesL_ (some 10) rfl rfl Try.func61 (by kernel_rfl) rfl #[.agg #[.int .i64 a0_0, .int .i64 a0_1], .agg #[.int .i64 a1_0, .int .i64 a1_1], .agg #[.int .i64 a2_0, .int .i64 a2_1]] rfl sg ?_; (with_reducible refine (cracknelref04_Cross.calls a0_0 a0_1 a1_0 a1_1 a2_0 a2_1 t104 _ A4.out).mono ?_); rintro e w22 ⟨rfl, hb⟩; refine ⟨_, rfl, ?_⟩; replace BK101 := kb BK101 hb; replace BK102 := kb BK102 hb; replace BK103 := kb BK103 hb; replace HB := Aside0.mk (below_step bh hb); (try clear hb); (try clear hb2); (try clear hk); (try clear hi); have hcz23_0 : w22.cell? ⟨gb103, 0, none⟩ = some (.int .i64 a2_0) := bc BK103 0; have hcz23_1 : w22.cell? ⟨gb103, 1, none⟩ = some (.int .i64 a2_1) := bc BK103 1; have hfz23_0 := blk_frozen BK103.out 0; have hfz23_1 := blk_frozen BK103.out 1; have hcz24_0 : w22.cell? ⟨gb101, 0, none⟩ = some (.int .i64 a0_0) := bc BK101 0; have hcz24_1 : w22.cell? ⟨gb101, 1, none⟩ = some (.int .i64 a0_1) := bc BK101 1; have hfz24_0 := blk_frozen BK101.out 0; have hfz24_1 := blk_frozen BK101.out 1; have hcz25_0 : w22.cell? ⟨gb102, 0, none⟩ = some (.int .i64 a1_0) := bc BK102 0; have hcz25_1 : w22.cell? ⟨gb102, 1, none⟩ = some (.int .i64 a1_1) := bc BK102 1; have hfz25_0 := blk_frozen BK102.out 0; have hfz25_1 := blk_frozen BK102.out 1) | (go_at_call 59; (with_reducible refine (cracknelref04_in.calls a2_0 ji6 ji7 true _ A8.out).mono ?_); rintro e w' ⟨rfl, ⟨nd, rfl⟩⟩) | (go_at_call 59; (with_reducible refine (cracknelref04_in.calls a2_1 ji10 ji11 t106 _ A12.out).mono ?_); rintro e w' ⟨rfl, ⟨nd, rfl⟩⟩))
   go_ret
   exact ⟨by first | rfl | (simp [errW_none, errW_some] <;> rfl) | (simp only [← hji6, ← hji7, ← hji10, ← hji11]; first | rfl | (simp [errW_none, errW_some] <;> rfl)) | (simp [*, errW_none, errW_some] <;> rfl), bh⟩
  ·replace c9 := Bool.eq_false_iff.mpr c9
   subst c9
   rw [if_neg (show ¬ (false = true) by decide)] at H
   obtain rfl := Option.some.inj H
   go_enter Try.func62, Try.ntmps62
   go_wp2_with (first | ((with_reducible refine gate_dst (N := 3) rfl ?_); (try (refine gate_guard (by rfl) ?_; dsimp only)); refine bxe 3 #[.int .i64 a0_0, .int .i64 a0_1] 29 ?_; intro gb101 hg w26 hbox hb; have BK101 := Aside0.mk (hbox); have GW101 := Aside0.mk (gs hg : w.heap.size ≤ gb101); have GE101 := Aside0.mk (gs hg : w.heap.size ≤ gb101); replace HB := Aside0.mk (below_step bh hb); clear hb hbox hg) | ((with_reducible refine gate_dst (N := 4) rfl ?_); (try (refine gate_guard (by rfl) ?_; dsimp only)); refine bxe 4 #[.int .i64 a1_0, .int .i64 a1_1] 29 ?_; intro gb102 hg w27 hbox hb; have BK102 := Aside0.mk (hbox); have GW102 := Aside0.mk (gs hg : w.heap.size ≤ gb102); have GE102 := Aside0.mk (gs hg : w.heap.size ≤ gb102); have NB101_102 := Aside0.mk ((by rw [hg]; exact Nat.ne_of_lt (kl BK101) : gb101 ≠ gb102)); have NB102_101 := Aside0.mk ((by rw [hg]; exact Nat.ne_of_gt (kl BK101) : gb102 ≠ gb101)); replace BK101 := kb BK101 hb; replace HB := Aside0.mk (below_step bh hb); clear hb hbox hg) | ((with_reducible refine gate_dst (N := 5) rfl ?_); (try (refine gate_guard (by rfl) ?_; dsimp only)); refine bxe 5 #[.int .i64 a2_0, .int .i64 a2_1] 29 ?_; intro gb103 hg w28 hbox hb; have BK103 := Aside0.mk (hbox); have GW103 := Aside0.mk (gs hg : w.heap.size ≤ gb103); have GE103 := Aside0.mk (gs hg : w.heap.size ≤ gb103); have NB101_103 := Aside0.mk ((by rw [hg]; exact Nat.ne_of_lt (kl BK101) : gb101 ≠ gb103)); have NB103_101 := Aside0.mk ((by rw [hg]; exact Nat.ne_of_gt (kl BK101) : gb103 ≠ gb101)); have NB102_103 := Aside0.mk ((by rw [hg]; exact Nat.ne_of_lt (kl BK102) : gb102 ≠ gb103)); have NB103_102 := Aside0.mk ((by rw [hg]; exact Nat.ne_of_gt (kl BK102) : gb103 ≠ gb102)); replace BK101 := kb BK101 hb; replace BK102 := kb BK102 hb; replace HB := Aside0.mk (below_step bh hb); clear hb hbox hg; have hnb29 := NB101_102.out; have hnc29 := NB102_101.out; have hnb30 := NB101_103.out; have hnc30 := NB103_101.out; have hcz31_0 : w28.cell? ⟨gb101, 0, none⟩ = some (.int .i64 a0_0) := bc BK101 0; have hcz31_1 : w28.cell? ⟨gb101, 1, none⟩ = some (.int .i64 a0_1) := bc BK101 1; have hfz31_0 := blk_frozen BK101.out 0; have hfz31_1 := blk_frozen BK101.out 1; have hnb32 := NB102_103.out; have hnc32 := NB103_102.out; have hcz33_0 : w28.cell? ⟨gb102, 0, none⟩ = some (.int .i64 a1_0) := bc BK102 0; have hcz33_1 : w28.cell? ⟨gb102, 1, none⟩ = some (.int .i64 a1_1) := bc BK102 1; have hfz33_0 := blk_frozen BK102.out 0; have hfz33_1 := blk_frozen BK102.out 1; have hcz34_0 : w28.cell? ⟨gb103, 0, none⟩ = some (.int .i64 a2_0) := bc BK103 0; have hcz34_1 : w28.cell? ⟨gb103, 1, none⟩ = some (.int .i64 a2_1) := bc BK103 1; have hfz34_0 := blk_frozen BK103.out 0; have hfz34_1 := blk_frozen BK103.out 1) | ((with_reducible refine gc 61 rfl ?_); refine goesL_ (some 10) rfl rfl Try.func61 (by kernel_rfl) rfl #[.agg #[.int .i64 a0_0, .int .i64 a0_1], .agg #[.int .i64 a1_0, .int .i64 a1_1], .agg #[.int .i64 a2_0, .int .i64 a2_1]] rfl sg ?_; (with_reducible refine (cracknelref04_Cross.calls a0_0 a0_1 a1_0 a1_1 a2_0 a2_1 t104 _ A4.out).mono ?_); rintro e w35 ⟨rfl, hb⟩; refine ⟨_, rfl, ?_⟩; replace BK101 := kb BK101 hb; replace BK102 := kb BK102 hb; replace BK103 := kb BK103 hb; replace HB := Aside0.mk (below_step bh hb); (try clear hb); (try clear hb2); (try clear hk); (try clear hi); have hcz36_0 : w35.cell? ⟨gb103, 0, none⟩ = some (.int .i64 a2_0) := bc BK103 0; have hcz36_1 : w35.cell? ⟨gb103, 1, none⟩ = some (.int .i64 a2_1) := bc BK103 1; have hfz36_0 := blk_frozen BK103.out 0; have hfz36_1 := blk_frozen BK103.out 1; have hcz37_0 : w35.cell? ⟨gb101, 0, none⟩ = some (.int .i64 a0_0) := bc BK101 0; have hcz37_1 : w35.cell? ⟨gb101, 1, none⟩ = some (.int .i64 a0_1) := bc BK101 1; have hfz37_0 := blk_frozen BK101.out 0; have hfz37_1 := blk_frozen BK101.out 1; have hcz38_0 : w35.cell? ⟨gb102, 0, none⟩ = some (.int .i64 a1_0) := bc BK102 0; have hcz38_1 : w35.cell? ⟨gb102, 1, none⟩ = some (.int .i64 a1_1) := bc BK102 1; have hfz38_0 := blk_frozen BK102.out 0; have hfz38_1 := blk_frozen BK102.out 1) | (go_at_call 59; (with_reducible refine (cracknelref04_in.calls a2_0 ji6 ji7 false _ A8.out).mono ?_); rintro e w' ⟨rfl, ⟨nd, rfl⟩⟩))
   go_ret
   exact ⟨by first | rfl | (simp [errW_none, errW_some] <;> rfl) | (simp only [← hji6, ← hji7]; first | rfl | (simp [errW_none, errW_some] <;> rfl)) | (simp [*, errW_none, errW_some] <;> rfl), bh⟩
 ·rw [if_neg c5] at H
  have c5b0 : (t104 == 0) = false := beq_eq_false_iff_ne.mpr c5
  have c5b1 : (t104 != 0) = true := bne_iff_ne.mpr c5
  obtain rfl := Option.some.inj H
  go_enter Try.func62, Try.ntmps62
  go_wp2_with (first | ((with_reducible refine gate_dst (N := 3) rfl ?_); (try (refine gate_guard (by rfl) ?_; dsimp only)); refine bxe 3 #[.int .i64 a0_0, .int .i64 a0_1] 29 ?_; intro gb101 hg w39 hbox hb; have BK101 := Aside0.mk (hbox); have GW101 := Aside0.mk (gs hg : w.heap.size ≤ gb101); have GE101 := Aside0.mk (gs hg : w.heap.size ≤ gb101); replace HB := Aside0.mk (below_step bh hb); clear hb hbox hg) | ((with_reducible refine gate_dst (N := 4) rfl ?_); (try (refine gate_guard (by rfl) ?_; dsimp only)); refine bxe 4 #[.int .i64 a1_0, .int .i64 a1_1] 29 ?_; intro gb102 hg w40 hbox hb; have BK102 := Aside0.mk (hbox); have GW102 := Aside0.mk (gs hg : w.heap.size ≤ gb102); have GE102 := Aside0.mk (gs hg : w.heap.size ≤ gb102); have NB101_102 := Aside0.mk ((by rw [hg]; exact Nat.ne_of_lt (kl BK101) : gb101 ≠ gb102)); have NB102_101 := Aside0.mk ((by rw [hg]; exact Nat.ne_of_gt (kl BK101) : gb102 ≠ gb101)); replace BK101 := kb BK101 hb; replace HB := Aside0.mk (below_step bh hb); clear hb hbox hg) | ((with_reducible refine gate_dst (N := 5) rfl ?_); (try (refine gate_guard (by rfl) ?_; dsimp only)); refine bxe 5 #[.int .i64 a2_0, .int .i64 a2_1] 29 ?_; intro gb103 hg w41 hbox hb; have BK103 := Aside0.mk (hbox); have GW103 := Aside0.mk (gs hg : w.heap.size ≤ gb103); have GE103 := Aside0.mk (gs hg : w.heap.size ≤ gb103); have NB101_103 := Aside0.mk ((by rw [hg]; exact Nat.ne_of_lt (kl BK101) : gb101 ≠ gb103)); have NB103_101 := Aside0.mk ((by rw [hg]; exact Nat.ne_of_gt (kl BK101) : gb103 ≠ gb101)); have NB102_103 := Aside0.mk ((by rw [hg]; exact Nat.ne_of_lt (kl BK102) : gb102 ≠ gb103)); have NB103_102 := Aside0.mk ((by rw [hg]; exact Nat.ne_of_gt (kl BK102) : gb103 ≠ gb102)); replace BK101 := kb BK101 hb; replace BK102 := kb BK102 hb; replace HB := Aside0.mk (below_step bh hb); clear hb hbox hg; have hnb42 := NB101_102.out; have hnc42 := NB102_101.out; have hnb43 := NB101_103.out; have hnc43 := NB103_101.out; have hcz44_0 : w41.cell? ⟨gb101, 0, none⟩ = some (.int .i64 a0_0) := bc BK101 0; have hcz44_1 : w41.cell? ⟨gb101, 1, none⟩ = some (.int .i64 a0_1) := bc BK101 1; have hfz44_0 := blk_frozen BK101.out 0; have hfz44_1 := blk_frozen BK101.out 1; have hnb45 := NB102_103.out; have hnc45 := NB103_102.out; have hcz46_0 : w41.cell? ⟨gb102, 0, none⟩ = some (.int .i64 a1_0) := bc BK102 0; have hcz46_1 : w41.cell? ⟨gb102, 1, none⟩ = some (.int .i64 a1_1) := bc BK102 1; have hfz46_0 := blk_frozen BK102.out 0; have hfz46_1 := blk_frozen BK102.out 1; have hcz47_0 : w41.cell? ⟨gb103, 0, none⟩ = some (.int .i64 a2_0) := bc BK103 0; have hcz47_1 : w41.cell? ⟨gb103, 1, none⟩ = some (.int .i64 a2_1) := bc BK103 1; have hfz47_0 := blk_frozen BK103.out 0; have hfz47_1 := blk_frozen BK103.out 1) | ((with_reducible refine gc 61 rfl ?_); refine goesL_ (some 10) rfl rfl Try.func61 (by kernel_rfl) rfl #[.agg #[.int .i64 a0_0, .int .i64 a0_1], .agg #[.int .i64 a1_0, .int .i64 a1_1], .agg #[.int .i64 a2_0, .int .i64 a2_1]] rfl sg ?_; (with_reducible refine (cracknelref04_Cross.calls a0_0 a0_1 a1_0 a1_1 a2_0 a2_1 t104 _ A4.out).mono ?_); rintro e w48 ⟨rfl, hb⟩; refine ⟨_, rfl, ?_⟩; replace BK101 := kb BK101 hb; replace BK102 := kb BK102 hb; replace BK103 := kb BK103 hb; replace HB := Aside0.mk (below_step bh hb); (try clear hb); (try clear hb2); (try clear hk); (try clear hi)))
  go_ret
  exact ⟨by exact er, bh⟩
/-! ### cracknelref04_next: function 64 -/
def cracknelref04_next.f (l0 : List (S29)) (a1 : Int) : Option (Int × Int) := if (l0.length : Int) = 0 then (none) else (if 0 ≤ (Int.tmod (wrap64 (a1 + 1)) (l0.length : Int)) then (if (Int.tmod (wrap64 (a1 + 1)) (l0.length : Int)) < (l0.length : Int) then (some ((rd_T29 l0 (Int.tmod (wrap64 (a1 + 1)) (l0.length : Int))).f0, (rd_T29 l0 (Int.tmod (wrap64 (a1 + 1)) (l0.length : Int))).f1)) else (none)) else (none))
set_option maxHeartbeats 8000000 in
set_option maxRecDepth 100000 in
theorem cracknelref04_next.calls (A0 : Option Addr) (c0 : Nat) (l0 : List (S29)) (a1 : Int) (r1 : Int) (r2 : Int) (w : World) (hr0 : Kd.C k29 w A0 l0.length l0) (hc0 : l0.length ≤ c0) (h : cracknelref04_next.f l0 a1 = some (r1, r2)) :
  Calls Try.prog 64 #[.slice A0 l0.length c0, .int .i64 a1] w fun e w' => e = .returned (.agg #[.int .i64 r1, .int .i64 r2]) ∧ Below w.heap.size w w' := by
 have hu29 := Try.underlying29
 have HR0 := Aside0.mk hr0
 have HC0 := Aside0.mk hc0
 clear hr0 hc0
 have HB := Aside0.mk (Below.refl w.heap.size w)
 have H : (if (l0.length : Int) = 0 then (none) else (if 0 ≤ (Int.tmod (wrap64 (a1 + 1)) (l0.length : Int)) then (if (Int.tmod (wrap64 (a1 + 1)) (l0.length : Int)) < (l0.length : Int) then (some ((rd_T29 l0 (Int.tmod (wrap64 (a1 + 1)) (l0.length : Int))).f0, (rd_T29 l0 (Int.tmod (wrap64 (a1 + 1)) (l0.length : Int))).f1)) else (none)) else (none))) = some (r1, r2) := h
 clear h
 replace H := oj H
 obtain ⟨c3, H⟩ := H
 have c3b0 : ((l0.length : Int) == 0) = false := beq_eq_false_iff_ne.mpr c3
 have c3b1 : ((l0.length : Int) != 0) = true := bne_iff_ne.mpr c3
 have c3b2 : ¬ (l0 = []) := fun h_ => c3 (by rw [h_]; rfl)
 obtain ⟨ji4, hji4⟩ : ∃ j_ : Int, (Int.tmod (wrap64 (a1 + 1)) (l0.length : Int)) = j_ := ⟨_, rfl⟩
 replace H : (if 0 ≤ (ji4) then (if (ji4) < (l0.length : Int) then (some ((rd_T29 l0 (ji4)).f0, (rd_T29 l0 (ji4)).f1)) else (none)) else (none)) = some (r1, r2) := by first | (rw [hji4] at H; exact H) | (simp only [hji4] at H ⊢; exact H)
 replace H := oi H
 obtain ⟨c5, H⟩ := H
 have c5b0 := decide_eq_true c5
 clear c5
 replace H := oi H
 obtain ⟨c6, H⟩ := H
 have c6b0 := decide_eq_true c6
 clear c6
 simp only [Option.some.injEq, Prod.mk.injEq] at H
 obtain ⟨rfl, rfl⟩ := H
 go_enter Try.func64, Try.ntmps64
 go_wp2_with (first | ((with_reducible refine gate_dst (N := 4) rfl ?_); refine bxe 4 #[.int .i64 0, .int .i64 0] 29 ?_; intro gb101 hg w7 hbox hb; have BK101 := Aside0.mk (hbox); have GW101 := Aside0.mk (gs hg : w.heap.size ≤ gb101); have GE101 := Aside0.mk (gs hg : w.heap.size ≤ gb101); replace HB := Aside0.mk (below_step bh hb); clear hb hbox hg; have p102 : 0 ≤ ((ji4) : Int) := dt; have q102 : (ji4) < (l0.length : Int) := dt; obtain ⟨ad102, e102, hx102_0, hx102_1⟩ := at_T29 HR0.out (ji4) p102 q102; cases e102; replace hx102_0 := (HB.out.cell (World.block_lt_of_cell? w _ hx102_0)).trans hx102_0; replace hx102_1 := (HB.out.cell (World.block_lt_of_cell? w _ hx102_1)).trans hx102_1; replace p102 := eq_true p102; replace q102 := eq_true q102; have hcz8_0 : w7.cell? ⟨gb101, 0, none⟩ = some (.int .i64 0) := bc BK101 0; have hcz8_1 : w7.cell? ⟨gb101, 1, none⟩ = some (.int .i64 0) := bc BK101 1; have hfz8_0 := blk_frozen BK101.out 0; have hfz8_1 := blk_frozen BK101.out 1))
 refine bodyPost_ret (results_cell_row rfl _ _ gb101 29 #[.int .i64 ((rd_T29 l0 (ji4)).f0), .int .i64 ((rd_T29 l0 (ji4)).f1)] (0, 0) _ rfl (by refine bd ?_; refine blk_put (cs := #[.int .i64 ((rd_T29 l0 (ji4)).f0), .int .i64 0]) ?_ 1 _ rfl; refine bd ?_; refine blk_put (cs := #[.int .i64 0, .int .i64 0]) ?_ 0 _ rfl; refine bd ?_; exact BK101.out) Try.underlying29 rfl (by kernel_rfl)) rfl ?_
 exact ⟨by first | rfl | (simp [errW_none, errW_some] <;> rfl) | (simp only [← hji4]; first | rfl | (simp [errW_none, errW_some] <;> rfl)) | (simp [*, errW_none, errW_some] <;> rfl), bh⟩
/-! ### cracknelref04_sign: function 97 -/
def cracknelref04_sign.f (a0 : Int) : Option (Int) := if a0 > 0 then (some 1) else (if a0 < 0 then (some (-1)) else (some 0))
set_option maxHeartbeats 8000000 in
set_option maxRecDepth 100000 in
theorem cracknelref04_sign.calls (a0 : Int) (r : Int) (w : World) (h : cracknelref04_sign.f a0 = some r) :
  Calls Try.prog 97 #[.int .i64 a0] w fun e w' => e = .returned (.int .i64 r) ∧ Drawn0 w w' := by
 have H : (if a0 > 0 then (some 1) else (if a0 < 0 then (some (-1)) else (some 0))) = some r := h
 clear h
 by_cases c2 : a0 > 0
 ·rw [if_pos c2] at H
  have c2b0 := decide_eq_true c2
  clear c2
  obtain rfl := Option.some.inj H
  go_enter Try.func97, Try.ntmps97
  go_wp2
  go_ret
  exact ⟨by first | rfl | (simp; done) | (simp [*]; done), by repeat (first | exact Drawn0.refl _ | apply Drawn0.step)⟩
 ·rw [if_neg c2] at H
  have c2b0 := decide_eq_false c2
  clear c2
  by_cases c3 : a0 < 0
  ·rw [if_pos c3] at H
   have c3b0 := decide_eq_true c3
   clear c3
   obtain rfl := Option.some.inj H
   go_enter Try.func97, Try.ntmps97
   go_wp2
   go_ret
   exact ⟨by first | rfl | (simp; done) | (simp [*]; done), by repeat (first | exact Drawn0.refl _ | apply Drawn0.step)⟩
  ·rw [if_neg c3] at H
   have c3b0 := decide_eq_false c3
   clear c3
   obtain rfl := Option.some.inj H
   go_enter Try.func97, Try.ntmps97
   go_wp2
   go_ret
   exact ⟨by first | rfl | (simp; done) | (simp [*]; done), by repeat (first | exact Drawn0.refl _ | apply Drawn0.step)⟩
/-! ### cracknelref04_Meet: function 65 -/
def cracknelref04_Meet.j0 : Nat → Bool → Int → Int → Int → Int → Int → Int → Int → Int → Option (Bool)
 | 0, _, _, _, _, _, _, _, _, _ => none
 | k + 1, x30, x102000, x102001, x103000, x103001, x104000, x104001, x105000, x105001 => if x30 = true then (some true) else ((cracknelref04_Cross.f x102000 x102001 x103000 x103001 x104000 x104001).bind fun t109 => ((cracknelref04_sign.f t109).bind fun t110 => ((cracknelref04_Cross.f x102000 x102001 x103000 x103001 x105000 x105001).bind fun t111 => ((cracknelref04_sign.f t111).bind fun t112 => (if (wrap64 (t110 * t112)) < 0 then ((cracknelref04_Cross.f x104000 x104001 x105000 x105001 x102000 x102001).bind fun t113 => ((cracknelref04_sign.f t113).bind fun t114 => ((cracknelref04_Cross.f x104000 x104001 x105000 x105001 x103000 x103001).bind fun t115 => ((cracknelref04_sign.f t115).bind fun t116 => (some (decide ((wrap64 (t114 * t116)) < 0))))))) else (some false))))))
def cracknelref04_Meet.f (k : Nat) (a0_0 : Int) (a0_1 : Int) (a1_0 : Int) (a1_1 : Int) (a2_0 : Int) (a2_1 : Int) (a3_0 : Int) (a3_1 : Int) : Option (Bool) := (cracknelref04_On.f a0_0 a0_1 a1_0 a1_1 a2_0 a2_1).bind fun t105 => (if t105 = true then (cracknelref04_Meet.j0 k true a0_0 a0_1 a1_0 a1_1 a2_0 a2_1 a3_0 a3_1) else ((cracknelref04_On.f a0_0 a0_1 a1_0 a1_1 a3_0 a3_1).bind fun t106 => (if t106 = true then (cracknelref04_Meet.j0 k true a0_0 a0_1 a1_0 a1_1 a2_0 a2_1 a3_0 a3_1) else ((cracknelref04_On.f a2_0 a2_1 a3_0 a3_1 a0_0 a0_1).bind fun t107 => (if t107 = true then (cracknelref04_Meet.j0 k true a0_0 a0_1 a1_0 a1_1 a2_0 a2_1 a3_0 a3_1) else ((cracknelref04_On.f a2_0 a2_1 a3_0 a3_1 a1_0 a1_1).bind fun t108 => (cracknelref04_Meet.j0 k t108 a0_0 a0_1 a1_0 a1_1 a2_0 a2_1 a3_0 a3_1)))))))
def cracknelref04_Meet.T3 : Bool × List (List Nat × List Nat) := (true, [([], []), ([], []), ([], []), ([0, 1, 2], [0, 1, 2]), ([3, 3], [3]), ([], []), ([], []), ([], []), ([5, 6, 7, 4], [5, 6, 7]), ([8, 8], [8]), ([4, 9], [4, 9]), ([10], [10]), ([11, 9], [11]), ([12], [12]), ([12], [12]), ([12], [12]), ([13, 14, 15, 12, 12], [12, 13, 14, 15]), ([16, 16, 12], [12, 16]), ([12], [12]), ([12], [12]), ([12], [12]), ([18, 19, 20, 17, 12], [12, 18, 19, 20]), ([21, 21, 12], [12, 21]), ([17, 22, 12], [12, 17, 22]), ([23, 12], [12, 23]), ([12, 24], [12, 24]), ([25, 22, 0, 1, 2, 3, 4, 5, 6, 7, 8, 9, 10, 11, 12, 13, 14, 15, 16, 17, 18, 19, 20, 21, 22, 23, 24, 25], [25])])
def cracknelref04_Meet.B3 : List Nat := [0, 0, 0, 7, 15, 0, 0, 0, 255, 511, 1023, 2047, 4095, 8191, 8191, 8191, 65535, 131071, 8191, 8191, 8191, 2097151, 4194303, 8388607, 16777215, 33554431, 67108863]
theorem cracknelref04_Meet.tab3 : rtab .any (opsOf Try.f65 3) = cracknelref04_Meet.T3 := by kernel_rfl
theorem cracknelref04_Meet.bits3 : waitsOk cracknelref04_Meet.T3.2 cracknelref04_Meet.B3 = true := by kernel_rfl
set_option maxHeartbeats 8000000 in
set_option maxRecDepth 100000 in
theorem cracknelref04_Meet.calls (k : Nat) (a0_0 : Int) (a0_1 : Int) (a1_0 : Int) (a1_1 : Int) (a2_0 : Int) (a2_1 : Int) (a3_0 : Int) (a3_1 : Int) (r : Bool) (w : World) (h : cracknelref04_Meet.f k a0_0 a0_1 a1_0 a1_1 a2_0 a2_1 a3_0 a3_1 = some r) :
  Calls Try.prog 65 #[.agg #[.int .i64 a0_0, .int .i64 a0_1], .agg #[.int .i64 a1_0, .int .i64 a1_1], .agg #[.int .i64 a2_0, .int .i64 a2_1], .agg #[.int .i64 a3_0, .int .i64 a3_1]] w fun e w' => e = .returned (.bool r) ∧ Below w.heap.size w w' := by
 have hu29 := Try.underlying29
 have HB := Aside0.mk (Below.refl w.heap.size w)
 have H : ((cracknelref04_On.f a0_0 a0_1 a1_0 a1_1 a2_0 a2_1).bind fun t105 => (if t105 = true then (cracknelref04_Meet.j0 k true a0_0 a0_1 a1_0 a1_1 a2_0 a2_1 a3_0 a3_1) else ((cracknelref04_On.f a0_0 a0_1 a1_0 a1_1 a3_0 a3_1).bind fun t106 => (if t106 = true then (cracknelref04_Meet.j0 k true a0_0 a0_1 a1_0 a1_1 a2_0 a2_1 a3_0 a3_1) else ((cracknelref04_On.f a2_0 a2_1 a3_0 a3_1 a0_0 a0_1).bind fun t107 => (if t107 = true then (cracknelref04_Meet.j0 k true a0_0 a0_1 a1_0 a1_1 a2_0 a2_1 a3_0 a3_1) else ((cracknelref04_On.f a2_0 a2_1 a3_0 a3_1 a1_0 a1_1).bind fun t108 => (cracknelref04_Meet.j0 k t108 a0_0 a0_1 a1_0 a1_1 a2_0 a2_1 a3_0 a3_1)))))))) = some r := h
 clear h
 have HC5 := Aside0.mk H
 clear H
 go_enter Try.func65, Try.ntmps65
 go_upto_region 1 with (first | ((with_reducible refine gate_dst (N := 4) rfl ?_); refine bxe 4 #[.int .i64 a0_0, .int .i64 a0_1] 29 ?_; intro gb101 hg w6 hbox hb; have BK101 := Aside0.mk (hbox); have GW101 := Aside0.mk (gs hg : w.heap.size ≤ gb101); have GE101 := Aside0.mk (gs hg : w.heap.size ≤ gb101); replace HB := Aside0.mk (below_step bh hb); clear hb hbox hg) | ((with_reducible refine gate_dst (N := 5) rfl ?_); refine bxe 5 #[.int .i64 a1_0, .int .i64 a1_1] 29 ?_; intro gb102 hg w7 hbox hb; have BK102 := Aside0.mk (hbox); have GW102 := Aside0.mk (gs hg : w.heap.size ≤ gb102); have GE102 := Aside0.mk (gs hg : w.heap.size ≤ gb102); have NB101_102 := Aside0.mk ((by rw [hg]; exact Nat.ne_of_lt (kl BK101) : gb101 ≠ gb102)); have NB102_101 := Aside0.mk ((by rw [hg]; exact Nat.ne_of_gt (kl BK101) : gb102 ≠ gb101)); replace BK101 := kb BK101 hb; replace HB := Aside0.mk (below_step bh hb); clear hb hbox hg) | ((with_reducible refine gate_dst (N := 6) rfl ?_); refine bxe 6 #[.int .i64 a2_0, .int .i64 a2_1] 29 ?_; intro gb103 hg w8 hbox hb; have BK103 := Aside0.mk (hbox); have GW103 := Aside0.mk (gs hg : w.heap.size ≤ gb103); have GE103 := Aside0.mk (gs hg : w.heap.size ≤ gb103); have NB101_103 := Aside0.mk ((by rw [hg]; exact Nat.ne_of_lt (kl BK101) : gb101 ≠ gb103)); have NB103_101 := Aside0.mk ((by rw [hg]; exact Nat.ne_of_gt (kl BK101) : gb103 ≠ gb101)); have NB102_103 := Aside0.mk ((by rw [hg]; exact Nat.ne_of_lt (kl BK102) : gb102 ≠ gb103)); have NB103_102 := Aside0.mk ((by rw [hg]; exact Nat.ne_of_gt (kl BK102) : gb103 ≠ gb102)); replace BK101 := kb BK101 hb; replace BK102 := kb BK102 hb; replace HB := Aside0.mk (below_step bh hb); clear hb hbox hg) | ((with_reducible refine gate_dst (N := 7) rfl ?_); refine bxe 7 #[.int .i64 a3_0, .int .i64 a3_1] 29 ?_; intro gb104 hg w9 hbox hb; have BK104 := Aside0.mk (hbox); have GW104 := Aside0.mk (gs hg : w.heap.size ≤ gb104); have GE104 := Aside0.mk (gs hg : w.heap.size ≤ gb104); have NB101_104 := Aside0.mk ((by rw [hg]; exact Nat.ne_of_lt (kl BK101) : gb101 ≠ gb104)); have NB104_101 := Aside0.mk ((by rw [hg]; exact Nat.ne_of_gt (kl BK101) : gb104 ≠ gb101)); have NB102_104 := Aside0.mk ((by rw [hg]; exact Nat.ne_of_lt (kl BK102) : gb102 ≠ gb104)); have NB104_102 := Aside0.mk ((by rw [hg]; exact Nat.ne_of_gt (kl BK102) : gb104 ≠ gb102)); have NB103_104 := Aside0.mk ((by rw [hg]; exact Nat.ne_of_lt (kl BK103) : gb103 ≠ gb104)); have NB104_103 := Aside0.mk ((by rw [hg]; exact Nat.ne_of_gt (kl BK103) : gb104 ≠ gb103)); replace BK101 := kb BK101 hb; replace BK102 := kb BK102 hb; replace BK103 := kb BK103 hb; replace HB := Aside0.mk (below_step bh hb); clear hb hbox hg))
 (try simp only [Act.put, List.setIfInBounds_toArray, List.set_cons_zero, List.set_cons_succ])
 go_cut [30] (fun v30 wc => ∃ (kq : Nat) (x30_4 : Bool), v30 = .bool x30_4 ∧ Aside0 (cracknelref04_Meet.j0 kq x30_4 a0_0 a0_1 a1_0 a1_1 a2_0 a2_1 a3_0 a3_1 = some r) ∧ Aside0 (kq ≤ k) ∧ Aside0 (wc.heap[gb101]? = some (.cells #[.int .i64 a0_0, .int .i64 a0_1] 29 (0, 0))) ∧ Aside0 (wc.heap[gb102]? = some (.cells #[.int .i64 a1_0, .int .i64 a1_1] 29 (0, 0))) ∧ Aside0 (wc.heap[gb103]? = some (.cells #[.int .i64 a2_0, .int .i64 a2_1] 29 (0, 0))) ∧ Aside0 (wc.heap[gb104]? = some (.cells #[.int .i64 a3_0, .int .i64 a3_1] 29 (0, 0))) ∧ Aside0 (Below w.heap.size w wc))
 case first =>
  have H := HC5.out
  clear HC5
  replace H := Option.bind_eq_some_iff.mp H
  obtain ⟨t105, A100, H⟩ := H
  try dsimp only at H
  have A10 := Aside0.mk A100
  clear A100
  by_cases c11 : t105 = true
  ·subst c11
   rw [if_pos rfl] at H
   have H' := Aside0.mk H
   clear H
   have hnb12 := NB101_102.out
   have hnc12 := NB102_101.out
   have hnb13 := NB101_103.out
   have hnc13 := NB103_101.out
   have hnb14 := NB101_104.out
   have hnc14 := NB104_101.out
   obtain ⟨hcz15_0, hcz15_1, hfz15_0, hfz15_1⟩ := b2 BK101
   have hnb16 := NB102_103.out
   have hnc16 := NB103_102.out
   have hnb17 := NB102_104.out
   have hnc17 := NB104_102.out
   obtain ⟨hcz18_0, hcz18_1, hfz18_0, hfz18_1⟩ := b2 BK102
   have hnb19 := NB103_104.out
   have hnc19 := NB104_103.out
   obtain ⟨hcz20_0, hcz20_1, hfz20_0, hfz20_1⟩ := b2 BK103
   go_wp2_with (first | ((with_reducible refine gc 62 rfl ?_); refine goesL_ (some 12) rfl rfl Try.func62 (by kernel_rfl) rfl #[.agg #[.int .i64 a0_0, .int .i64 a0_1], .agg #[.int .i64 a1_0, .int .i64 a1_1], .agg #[.int .i64 a2_0, .int .i64 a2_1]] rfl sg ?_; (with_reducible refine (cracknelref04_On.calls a0_0 a0_1 a1_0 a1_1 a2_0 a2_1 true _ A10.out).mono ?_); rintro e w21 ⟨rfl, hb⟩; refine ⟨_, rfl, ?_⟩; replace BK101 := kb BK101 hb; replace BK102 := kb BK102 hb; replace BK103 := kb BK103 hb; replace BK104 := kb BK104 hb; replace HB := Aside0.mk (below_step bh hb); (try clear hb); (try clear hb2); (try clear hk); (try clear hi)))
   go_meet
   case rel => exact ⟨_, (true), sd, H', ⟨om⟩, ⟨bk BK101⟩, ⟨bk BK102⟩, ⟨bk BK103⟩, ⟨bk BK104⟩, ⟨bh⟩⟩
  ·replace c11 := Bool.eq_false_iff.mpr c11
   subst c11
   rw [if_neg (show ¬ (false = true) by decide)] at H
   replace H := Option.bind_eq_some_iff.mp H
   obtain ⟨t106, A220, H⟩ := H
   try dsimp only at H
   have A22 := Aside0.mk A220
   clear A220
   by_cases c23 : t106 = true
   ·subst c23
    rw [if_pos rfl] at H
    have H' := Aside0.mk H
    clear H
    have hnb24 := NB101_102.out
    have hnc24 := NB102_101.out
    have hnb25 := NB101_103.out
    have hnc25 := NB103_101.out
    have hnb26 := NB101_104.out
    have hnc26 := NB104_101.out
    obtain ⟨hcz27_0, hcz27_1, hfz27_0, hfz27_1⟩ := b2 BK101
    have hnb28 := NB102_103.out
    have hnc28 := NB103_102.out
    have hnb29 := NB102_104.out
    have hnc29 := NB104_102.out
    obtain ⟨hcz30_0, hcz30_1, hfz30_0, hfz30_1⟩ := b2 BK102
    have hnb31 := NB103_104.out
    have hnc31 := NB104_103.out
    obtain ⟨hcz32_0, hcz32_1, hfz32_0, hfz32_1⟩ := b2 BK103
    go_wp2_with (first | ((with_reducible refine gc 62 rfl ?_); refine goesL_ (some 12) rfl rfl Try.func62 (by kernel_rfl) rfl #[.agg #[.int .i64 a0_0, .int .i64 a0_1], .agg #[.int .i64 a1_0, .int .i64 a1_1], .agg #[.int .i64 a2_0, .int .i64 a2_1]] rfl sg ?_; (with_reducible refine (cracknelref04_On.calls a0_0 a0_1 a1_0 a1_1 a2_0 a2_1 false _ A10.out).mono ?_); rintro e w33 ⟨rfl, hb⟩; refine ⟨_, rfl, ?_⟩; replace BK101 := kb BK101 hb; replace BK102 := kb BK102 hb; replace BK103 := kb BK103 hb; replace BK104 := kb BK104 hb; replace HB := Aside0.mk (below_step bh hb); (try clear hb); (try clear hb2); (try clear hk); (try clear hi); have hcz34_0 : w33.cell? ⟨gb101, 0, none⟩ = some (.int .i64 a0_0) := bc BK101 0; have hcz34_1 : w33.cell? ⟨gb101, 1, none⟩ = some (.int .i64 a0_1) := bc BK101 1; have hfz34_0 := blk_frozen BK101.out 0; have hfz34_1 := blk_frozen BK101.out 1; have hcz35_0 : w33.cell? ⟨gb102, 0, none⟩ = some (.int .i64 a1_0) := bc BK102 0; have hcz35_1 : w33.cell? ⟨gb102, 1, none⟩ = some (.int .i64 a1_1) := bc BK102 1; have hfz35_0 := blk_frozen BK102.out 0; have hfz35_1 := blk_frozen BK102.out 1; have hcz36_0 : w33.cell? ⟨gb104, 0, none⟩ = some (.int .i64 a3_0) := bc BK104 0; have hcz36_1 : w33.cell? ⟨gb104, 1, none⟩ = some (.int .i64 a3_1) := bc BK104 1; have hfz36_0 := blk_frozen BK104.out 0; have hfz36_1 := blk_frozen BK104.out 1) | (go_at_call 62; (with_reducible refine (cracknelref04_On.calls a0_0 a0_1 a1_0 a1_1 a3_0 a3_1 true _ A22.out).mono ?_); rintro e w37 ⟨rfl, hb⟩; replace BK101 := kb BK101 hb; replace BK102 := kb BK102 hb; replace BK103 := kb BK103 hb; replace BK104 := kb BK104 hb; replace HB := Aside0.mk (below_step bh hb); (try clear hb); (try clear hb2); (try clear hk); (try clear hi)))
    go_meet
    case rel => exact ⟨_, (true), sd, H', ⟨om⟩, ⟨bk BK101⟩, ⟨bk BK102⟩, ⟨bk BK103⟩, ⟨bk BK104⟩, ⟨bh⟩⟩
   ·replace c23 := Bool.eq_false_iff.mpr c23
    subst c23
    rw [if_neg (show ¬ (false = true) by decide)] at H
    replace H := Option.bind_eq_some_iff.mp H
    obtain ⟨t107, A380, H⟩ := H
    try dsimp only at H
    have A38 := Aside0.mk A380
    clear A380
    by_cases c39 : t107 = true
    ·subst c39
     rw [if_pos rfl] at H
     have H' := Aside0.mk H
     clear H
     have hnb40 := NB101_102.out
     have hnc40 := NB102_101.out
     have hnb41 := NB101_103.out
     have hnc41 := NB103_101.out
     have hnb42 := NB101_104.out
     have hnc42 := NB104_101.out
     obtain ⟨hcz43_0, hcz43_1, hfz43_0, hfz43_1⟩ := b2 BK101
     have hnb44 := NB102_103.out
     have hnc44 := NB103_102.out
     have hnb45 := NB102_104.out
     have hnc45 := NB104_102.out
     obtain ⟨hcz46_0, hcz46_1, hfz46_0, hfz46_1⟩ := b2 BK102
     have hnb47 := NB103_104.out
     have hnc47 := NB104_103.out
     obtain ⟨hcz48_0, hcz48_1, hfz48_0, hfz48_1⟩ := b2 BK103
     go_wp2_with (first | ((with_reducible refine gc 62 rfl ?_); refine goesL_ (some 12) rfl rfl Try.func62 (by kernel_rfl) rfl #[.agg #[.int .i64 a0_0, .int .i64 a0_1], .agg #[.int .i64 a1_0, .int .i64 a1_1], .agg #[.int .i64 a2_0, .int .i64 a2_1]] rfl sg ?_; (with_reducible refine (cracknelref04_On.calls a0_0 a0_1 a1_0 a1_1 a2_0 a2_1 false _ A10.out).mono ?_); rintro e w49 ⟨rfl, hb⟩; refine ⟨_, rfl, ?_⟩; replace BK101 := kb BK101 hb; replace BK102 := kb BK102 hb; replace BK103 := kb BK103 hb; replace BK104 := kb BK104 hb; replace HB := Aside0.mk (below_step bh hb); (try clear hb); (try clear hb2); (try clear hk); (try clear hi); have hcz50_0 : w49.cell? ⟨gb101, 0, none⟩ = some (.int .i64 a0_0) := bc BK101 0; have hcz50_1 : w49.cell? ⟨gb101, 1, none⟩ = some (.int .i64 a0_1) := bc BK101 1; have hfz50_0 := blk_frozen BK101.out 0; have hfz50_1 := blk_frozen BK101.out 1; have hcz51_0 : w49.cell? ⟨gb102, 0, none⟩ = some (.int .i64 a1_0) := bc BK102 0; have hcz51_1 : w49.cell? ⟨gb102, 1, none⟩ = some (.int .i64 a1_1) := bc BK102 1; have hfz51_0 := blk_frozen BK102.out 0; have hfz51_1 := blk_frozen BK102.out 1; have hcz52_0 : w49.cell? ⟨gb104, 0, none⟩ = some (.int .i64 a3_0) := bc BK104 0; have hcz52_1 : w49.cell? ⟨gb104, 1, none⟩ = some (.int .i64 a3_1) := bc BK104 1; have hfz52_0 := blk_frozen BK104.out 0; have hfz52_1 := blk_frozen BK104.out 1) | (go_at_call 62; (with_reducible refine (cracknelref04_On.calls a0_0 a0_1 a1_0 a1_1 a3_0 a3_1 false _ A22.out).mono ?_); rintro e w53 ⟨rfl, hb⟩; replace BK101 := kb BK101 hb; replace BK102 := kb BK102 hb; replace BK103 := kb BK103 hb; replace BK104 := kb BK104 hb; replace HB := Aside0.mk (below_step bh hb); (try clear hb); (try clear hb2); (try clear hk); (try clear hi); have hcz54_0 : w53.cell? ⟨gb103, 0, none⟩ = some (.int .i64 a2_0) := bc BK103 0; have hcz54_1 : w53.cell? ⟨gb103, 1, none⟩ = some (.int .i64 a2_1) := bc BK103 1; have hfz54_0 := blk_frozen BK103.out 0; have hfz54_1 := blk_frozen BK103.out 1; have hcz55_0 : w53.cell? ⟨gb104, 0, none⟩ = some (.int .i64 a3_0) := bc BK104 0; have hcz55_1 : w53.cell? ⟨gb104, 1, none⟩ = some (.int .i64 a3_1) := bc BK104 1; have hfz55_0 := blk_frozen BK104.out 0; have hfz55_1 := blk_frozen BK104.out 1; have hcz56_0 : w53.cell? ⟨gb101, 0, none⟩ = some (.int .i64 a0_0) := bc BK101 0; have hcz56_1 : w53.cell? ⟨gb101, 1, none⟩ = some (.int .i64 a0_1) := bc BK101 1; have hfz56_0 := blk_frozen BK101.out 0; have hfz56_1 := blk_frozen BK101.out 1) | (go_at_call 62; (with_reducible refine (cracknelref04_On.calls a2_0 a2_1 a3_0 a3_1 a0_0 a0_1 true _ A38.out).mono ?_); rintro e w57 ⟨rfl, hb⟩; replace BK101 := kb BK101 hb; replace BK102 := kb BK102 hb; replace BK103 := kb BK103 hb; replace BK104 := kb BK104 hb; replace HB := Aside0.mk (below_step bh hb); (try clear hb); (try clear hb2); (try clear hk); (try clear hi)))
     go_meet
     case rel => exact ⟨_, (true), sd, H', ⟨om⟩, ⟨bk BK101⟩, ⟨bk BK102⟩, ⟨bk BK103⟩, ⟨bk BK104⟩, ⟨bh⟩⟩
    ·replace c39 := Bool.eq_false_iff.mpr c39
     subst c39
     rw [if_neg (show ¬ (false = true) by decide)] at H
     replace H := Option.bind_eq_some_iff.mp H
     obtain ⟨t108, A580, H⟩ := H
     try dsimp only at H
     have A58 := Aside0.mk A580
     clear A580
     have H' := Aside0.mk H
     clear H
     have hnb59 := NB101_102.out
     have hnc59 := NB102_101.out
     have hnb60 := NB101_103.out
     have hnc60 := NB103_101.out
     have hnb61 := NB101_104.out
     have hnc61 := NB104_101.out
     obtain ⟨hcz62_0, hcz62_1, hfz62_0, hfz62_1⟩ := b2 BK101
     have hnb63 := NB102_103.out
     have hnc63 := NB103_102.out
     have hnb64 := NB102_104.out
     have hnc64 := NB104_102.out
     obtain ⟨hcz65_0, hcz65_1, hfz65_0, hfz65_1⟩ := b2 BK102
     have hnb66 := NB103_104.out
     have hnc66 := NB104_103.out
     obtain ⟨hcz67_0, hcz67_1, hfz67_0, hfz67_1⟩ := b2 BK103
     go_wp2_with (first | ((with_reducible refine gc 62 rfl ?_); refine goesL_ (some 12) rfl rfl Try.func62 (by kernel_rfl) rfl #[.agg #[.int .i64 a0_0, .int .i64 a0_1], .agg #[.int .i64 a1_0, .int .i64 a1_1], .agg #[.int .i64 a2_0, .int .i64 a2_1]] rfl sg ?_; (with_reducible refine (cracknelref04_On.calls a0_0 a0_1 a1_0 a1_1 a2_0 a2_1 false _ A10.out).mono ?_); rintro e w68 ⟨rfl, hb⟩; refine ⟨_, rfl, ?_⟩; replace BK101 := kb BK101 hb; replace BK102 := kb BK102 hb; replace BK103 := kb BK103 hb; replace BK104 := kb BK104 hb; replace HB := Aside0.mk (below_step bh hb); (try clear hb); (try clear hb2); (try clear hk); (try clear hi); have hcz69_0 : w68.cell? ⟨gb101, 0, none⟩ = some (.int .i64 a0_0) := bc BK101 0; have hcz69_1 : w68.cell? ⟨gb101, 1, none⟩ = some (.int .i64 a0_1) := bc BK101 1; have hfz69_0 := blk_frozen BK101.out 0; have hfz69_1 := blk_frozen BK101.out 1; have hcz70_0 : w68.cell? ⟨gb102, 0, none⟩ = some (.int .i64 a1_0) := bc BK102 0; have hcz70_1 : w68.cell? ⟨gb102, 1, none⟩ = some (.int .i64 a1_1) := bc BK102 1; have hfz70_0 := blk_frozen BK102.out 0; have hfz70_1 := blk_frozen BK102.out 1; have hcz71_0 : w68.cell? ⟨gb104, 0, none⟩ = some (.int .i64 a3_0) := bc BK104 0; have hcz71_1 : w68.cell? ⟨gb104, 1, none⟩ = some (.int .i64 a3_1) := bc BK104 1; have hfz71_0 := blk_frozen BK104.out 0; have hfz71_1 := blk_frozen BK104.out 1) | (go_at_call 62; (with_reducible refine (cracknelref04_On.calls a0_0 a0_1 a1_0 a1_1 a3_0 a3_1 false _ A22.out).mono ?_); rintro e w72 ⟨rfl, hb⟩; replace BK101 := kb BK101 hb; replace BK102 := kb BK102 hb; replace BK103 := kb BK103 hb; replace BK104 := kb BK104 hb; replace HB := Aside0.mk (below_step bh hb); (try clear hb); (try clear hb2); (try clear hk); (try clear hi); have hcz73_0 : w72.cell? ⟨gb103, 0, none⟩ = some (.int .i64 a2_0) := bc BK103 0; have hcz73_1 : w72.cell? ⟨gb103, 1, none⟩ = some (.int .i64 a2_1) := bc BK103 1; have hfz73_0 := blk_frozen BK103.out 0; have hfz73_1 := blk_frozen BK103.out 1; have hcz74_0 : w72.cell? ⟨gb104, 0, none⟩ = some (.int .i64 a3_0) := bc BK104 0; have hcz74_1 : w72.cell? ⟨gb104, 1, none⟩ = some (.int .i64 a3_1) := bc BK104 1; have hfz74_0 := blk_frozen BK104.out 0; have hfz74_1 := blk_frozen BK104.out 1; have hcz75_0 : w72.cell? ⟨gb101, 0, none⟩ = some (.int .i64 a0_0) := bc BK101 0; have hcz75_1 : w72.cell? ⟨gb101, 1, none⟩ = some (.int .i64 a0_1) := bc BK101 1; have hfz75_0 := blk_frozen BK101.out 0; have hfz75_1 := blk_frozen BK101.out 1) | (go_at_call 62; (with_reducible refine (cracknelref04_On.calls a2_0 a2_1 a3_0 a3_1 a0_0 a0_1 false _ A38.out).mono ?_); rintro e w76 ⟨rfl, hb⟩; replace BK101 := kb BK101 hb; replace BK102 := kb BK102 hb; replace BK103 := kb BK103 hb; replace BK104 := kb BK104 hb; replace HB := Aside0.mk (below_step bh hb); (try clear hb); (try clear hb2); (try clear hk); (try clear hi); have hcz77_0 : w76.cell? ⟨gb103, 0, none⟩ = some (.int .i64 a2_0) := bc BK103 0; have hcz77_1 : w76.cell? ⟨gb103, 1, none⟩ = some (.int .i64 a2_1) := bc BK103 1; have hfz77_0 := blk_frozen BK103.out 0; have hfz77_1 := blk_frozen BK103.out 1; have hcz78_0 : w76.cell? ⟨gb104, 0, none⟩ = some (.int .i64 a3_0) := bc BK104 0; have hcz78_1 : w76.cell? ⟨gb104, 1, none⟩ = some (.int .i64 a3_1) := bc BK104 1; have hfz78_0 := blk_frozen BK104.out 0; have hfz78_1 := blk_frozen BK104.out 1; have hcz79_0 : w76.cell? ⟨gb102, 0, none⟩ = some (.int .i64 a1_0) := bc BK102 0; have hcz79_1 : w76.cell? ⟨gb102, 1, none⟩ = some (.int .i64 a1_1) := bc BK102 1; have hfz79_0 := blk_frozen BK102.out 0; have hfz79_1 := blk_frozen BK102.out 1) | (go_at_call 62; (with_reducible refine (cracknelref04_On.calls a2_0 a2_1 a3_0 a3_1 a1_0 a1_1 t108 _ A58.out).mono ?_); rintro e w80 ⟨rfl, hb⟩; replace BK101 := kb BK101 hb; replace BK102 := kb BK102 hb; replace BK103 := kb BK103 hb; replace BK104 := kb BK104 hb; replace HB := Aside0.mk (below_step bh hb); (try clear hb); (try clear hb2); (try clear hk); (try clear hi)))
     go_meet
     case rel => exact ⟨_, (t108), sd, H', ⟨om⟩, ⟨bk BK101⟩, ⟨bk BK102⟩, ⟨bk BK103⟩, ⟨bk BK104⟩, ⟨bh⟩⟩
 case rest =>
  clear HC5
  (try clear c1); (try clear c2); (try clear p2); (try clear c3); (try clear c4); (try clear c5); (try clear c6); (try clear c11); (try clear c12); (try clear c13); (try clear c14); (try clear c16); (try clear c17); (try clear c19); (try clear c23); (try clear c24); (try clear c25); (try clear c26); (try clear c28); (try clear c29); (try clear c31); (try clear c39); (try clear c40); (try clear c41); (try clear c42); (try clear c44); (try clear c45); (try clear c47); (try clear c59); (try clear c60); (try clear c61); (try clear c62); (try clear c63); (try clear c64); (try clear c65); (try clear c66); (try clear hcz15_0); (try clear hcz15_1); (try clear hcz18_0); (try clear hcz18_1); (try clear hcz20_0); (try clear hcz20_1); (try clear hcz27_0); (try clear hcz27_1); (try clear hcz30_0); (try clear hcz30_1); (try clear hcz32_0); (try clear hcz32_1); (try clear hcz34_0); (try clear hcz34_1); (try clear hcz35_0); (try clear hcz35_1); (try clear hcz36_0); (try clear hcz36_1); (try clear hcz43_0); (try clear hcz43_1); (try clear hcz46_0); (try clear hcz46_1); (try clear hcz48_0); (try clear hcz48_1); (try clear hcz50_0); (try clear hcz50_1); (try clear hcz51_0); (try clear hcz51_1); (try clear hcz52_0); (try clear hcz52_1); (try clear hcz54_0); (try clear hcz54_1); (try clear hcz55_0); (try clear hcz55_1); (try clear hcz56_0); (try clear hcz56_1); (try clear hcz62_0); (try clear hcz62_1); (try clear hcz65_0); (try clear hcz65_1); (try clear hcz67_0); (try clear hcz67_1); (try clear hcz69_0); (try clear hcz69_1); (try clear hcz70_0); (try clear hcz70_1); (try clear hcz71_0); (try clear hcz71_1); (try clear hcz73_0); (try clear hcz73_1); (try clear hcz74_0); (try clear hcz74_1); (try clear hcz75_0); (try clear hcz75_1); (try clear hcz77_0); (try clear hcz77_1); (try clear hcz78_0); (try clear hcz78_1); (try clear hcz79_0); (try clear hcz79_1); (try clear hfz15_0); (try clear hfz15_1); (try clear hfz18_0); (try clear hfz18_1); (try clear hfz20_0); (try clear hfz20_1); (try clear hfz27_0); (try clear hfz27_1); (try clear hfz30_0); (try clear hfz30_1); (try clear hfz32_0); (try clear hfz32_1); (try clear hfz34_0); (try clear hfz34_1); (try clear hfz35_0); (try clear hfz35_1); (try clear hfz36_0); (try clear hfz36_1); (try clear hfz43_0); (try clear hfz43_1); (try clear hfz46_0); (try clear hfz46_1); (try clear hfz48_0); (try clear hfz48_1); (try clear hfz50_0); (try clear hfz50_1); (try clear hfz51_0); (try clear hfz51_1); (try clear hfz52_0); (try clear hfz52_1); (try clear hfz54_0); (try clear hfz54_1); (try clear hfz55_0); (try clear hfz55_1); (try clear hfz56_0); (try clear hfz56_1); (try clear hfz62_0); (try clear hfz62_1); (try clear hfz65_0); (try clear hfz65_1); (try clear hfz67_0); (try clear hfz67_1); (try clear hfz69_0); (try clear hfz69_1); (try clear hfz70_0); (try clear hfz70_1); (try clear hfz71_0); (try clear hfz71_1); (try clear hfz73_0); (try clear hfz73_1); (try clear hfz74_0); (try clear hfz74_1); (try clear hfz75_0); (try clear hfz75_1); (try clear hfz77_0); (try clear hfz77_1); (try clear hfz78_0); (try clear hfz78_1); (try clear hfz79_0); (try clear hfz79_1)
  obtain ⟨kq, x30_4, rfl, HA, HJ4, BK101, BK102, BK103, BK104, HB⟩ := hcut
  cases kq with
  | zero => exact absurd HA.out (by simp [cracknelref04_Meet.j0])
  | succ kj4 =>
   have H := HA.out
   clear HA
   simp only [cracknelref04_Meet.j0] at H
   by_cases c81 : x30_4 = true
   ·subst c81
    rw [if_pos rfl] at H
    obtain rfl := Option.some.inj H
    go_wp2
    go_ret
    exact ⟨by exact er, bh⟩
   ·replace c81 := Bool.eq_false_iff.mpr c81
    subst c81
    rw [if_neg (show ¬ (false = true) by decide)] at H
    replace H := Option.bind_eq_some_iff.mp H
    obtain ⟨t109, A820, H⟩ := H
    try dsimp only at H
    have A82 := Aside0.mk A820
    clear A820
    replace H := Option.bind_eq_some_iff.mp H
    obtain ⟨t110, A830, H⟩ := H
    try dsimp only at H
    have A83 := Aside0.mk A830
    clear A830
    replace H := Option.bind_eq_some_iff.mp H
    obtain ⟨t111, A840, H⟩ := H
    try dsimp only at H
    have A84 := Aside0.mk A840
    clear A840
    replace H := Option.bind_eq_some_iff.mp H
    obtain ⟨t112, A850, H⟩ := H
    try dsimp only at H
    have A85 := Aside0.mk A850
    clear A850
    by_cases c86 : (wrap64 (t110 * t112)) < 0
    ·rw [if_pos c86] at H
     have c86b0 := decide_eq_true c86
     clear c86
     replace H := Option.bind_eq_some_iff.mp H
     obtain ⟨t113, A870, H⟩ := H
     try dsimp only at H
     have A87 := Aside0.mk A870
     clear A870
     replace H := Option.bind_eq_some_iff.mp H
     obtain ⟨t114, A880, H⟩ := H
     try dsimp only at H
     have A88 := Aside0.mk A880
     clear A880
     replace H := Option.bind_eq_some_iff.mp H
     obtain ⟨t115, A890, H⟩ := H
     try dsimp only at H
     have A89 := Aside0.mk A890
     clear A890
     replace H := Option.bind_eq_some_iff.mp H
     obtain ⟨t116, A900, H⟩ := H
     try dsimp only at H
     have A90 := Aside0.mk A900
     clear A900
     obtain rfl := Option.some.inj H
     try go_wp2
     replace BK101 := Aside0.mk (blk_drew BK101.out)
     replace BK102 := Aside0.mk (blk_drew BK102.out)
     replace BK103 := Aside0.mk (blk_drew BK103.out)
     replace BK104 := Aside0.mk (blk_drew BK104.out)
     replace HB := Aside0.mk (below_drew1 HB.out)
     refine start_ (n := 27) (S := fun w' => w'.cell? ⟨gb101, 0, none⟩ = some (.int .i64 a0_0) ∧ w'.cell? ⟨gb101, 1, none⟩ = some (.int .i64 a0_1) ∧ w'.cell? ⟨gb102, 0, none⟩ = some (.int .i64 a1_0) ∧ w'.cell? ⟨gb102, 1, none⟩ = some (.int .i64 a1_1) ∧ w'.cell? ⟨gb103, 0, none⟩ = some (.int .i64 a2_0) ∧ w'.cell? ⟨gb103, 1, none⟩ = some (.int .i64 a2_1) ∧ w'.cell? ⟨gb104, 0, none⟩ = some (.int .i64 a3_0) ∧ w'.cell? ⟨gb104, 1, none⟩ = some (.int .i64 a3_1)) (ds := []) #[N,N,N,N,N,N,N,N,N,N,N,N,N,N,N,N,N,N,N,N,N,N,N,N,N,N,N] (by kernel_rfl) rfl rfl ⟨bc BK101 0, bc BK101 1, bc BK102 0, bc BK102 1, bc BK103 0, bc BK103 1, bc BK104 0, bc BK104 1⟩ (fun hHeld => ?_); refine with_tabW cracknelref04_Meet.tab3 cracknelref04_Meet.bits3 (fun HT_ HW_ => ?_)
     generalize wc.drew = w91 at BK101 BK102 BK103 BK104 HB hHeld ⊢
     refine tk8 0 31 hHeld HT_ HW_ ?_
     refine tk8 1 32 hHeld HT_ HW_ ?_
     refine tk8 2 33 hHeld HT_ HW_ ?_
     refine tk8 5 36 hHeld HT_ HW_ ?_
     refine tk8 6 37 hHeld HT_ HW_ ?_
     refine tk8 7 38 hHeld HT_ HW_ ?_
     refine one_ (i := 3) (N := some 34) #[T,T,T,T,N,T,T,T,N,N,N,N,N,N,N,N,N,N,N,N,N,N,N,N,N,N,N] rfl rfl (on1 HT_) (by decide) (fun K hK => ?_)
     refine goes_ Try.func61 (by kernel_rfl) rfl #[.agg #[.int .i64 a0_0, .int .i64 a0_1], .agg #[.int .i64 a1_0, .int .i64 a1_1], .agg #[.int .i64 a2_0, .int .i64 a2_1]] (by rfl) rfl rfl sg ?_
     with_reducible refine (cracknelref04_Cross.calls a0_0 a0_1 a1_0 a1_1 a2_0 a2_1 t109 _ A82.out).mono ?_
     rintro e w92 ⟨rfl, hb⟩
     refine ⟨_, rfl, ?_⟩
     replace BK101 := kb BK101 hb
     replace BK102 := kb BK102 hb
     replace BK103 := kb BK103 hb
     replace BK104 := kb BK104 hb
     replace HB := Aside0.mk (below_step bh hb)
     (try clear hb); (try clear hb2); (try clear hk); (try clear hi)
     refine hK.out _ _ ⟨bc BK101 0, bc BK101 1, bc BK102 0, bc BK102 1, bc BK103 0, bc BK103 1, bc BK104 0, bc BK104 1⟩ (fun hHeld => ?_)
     clear hK K
     refine nm 34 ?_
     refine one_ (i := 4) (N := some 35) #[T,T,T,T,T,T,T,T,N,N,N,N,N,N,N,N,N,N,N,N,N,N,N,N,N,N,N] rfl rfl (on1 HT_) (by decide) (fun K hK => ?_)
     refine goes_ Try.func97 (by kernel_rfl) rfl #[.int .i64 t109] (by rfl) rfl rfl sg ?_
     with_reducible refine (cracknelref04_sign.calls t109 t110 _ A83.out).mono ?_
     rintro e w' ⟨rfl, ⟨nd, rfl⟩⟩
     refine ⟨_, rfl, ?_⟩
     refine hK.out _ _ ⟨bc BK101 0, bc BK101 1, bc BK102 0, bc BK102 1, bc BK103 0, bc BK103 1, bc BK104 0, bc BK104 1⟩ (fun hHeld => ?_)
     clear hK K
     refine nm 35 ?_
     refine one_ (i := 8) (N := some 39) #[T,T,T,T,T,T,T,T,T,N,N,N,N,N,N,N,N,N,N,N,N,N,N,N,N,N,N] rfl rfl (on1 HT_) (by decide) (fun K hK => ?_)
     refine goes_ Try.func61 (by kernel_rfl) rfl #[.agg #[.int .i64 a0_0, .int .i64 a0_1], .agg #[.int .i64 a1_0, .int .i64 a1_1], .agg #[.int .i64 a3_0, .int .i64 a3_1]] (by rfl) rfl rfl sg ?_
     with_reducible refine (cracknelref04_Cross.calls a0_0 a0_1 a1_0 a1_1 a3_0 a3_1 t111 _ A84.out).mono ?_
     rintro e w93 ⟨rfl, hb⟩
     refine ⟨_, rfl, ?_⟩
     replace BK101 := kb BK101 hb
     replace BK102 := kb BK102 hb
     replace BK103 := kb BK103 hb
     replace BK104 := kb BK104 hb
     replace HB := Aside0.mk (below_step bh hb)
     (try clear hb); (try clear hb2); (try clear hk); (try clear hi)
     refine hK.out _ _ ⟨bc BK101 0, bc BK101 1, bc BK102 0, bc BK102 1, bc BK103 0, bc BK103 1, bc BK104 0, bc BK104 1⟩ (fun hHeld => ?_)
     clear hK K
     refine nm 39 ?_
     refine one_ (i := 9) (N := some 40) #[T,T,T,T,T,T,T,T,T,T,N,N,N,N,N,N,N,N,N,N,N,N,N,N,N,N,N] rfl rfl (on1 HT_) (by decide) (fun K hK => ?_)
     refine goes_ Try.func97 (by kernel_rfl) rfl #[.int .i64 t111] (by rfl) rfl rfl sg ?_
     with_reducible refine (cracknelref04_sign.calls t111 t112 _ A85.out).mono ?_
     rintro e w' ⟨rfl, ⟨nd, rfl⟩⟩
     refine ⟨_, rfl, ?_⟩
     refine hK.out _ _ ⟨bc BK101 0, bc BK101 1, bc BK102 0, bc BK102 1, bc BK103 0, bc BK103 1, bc BK104 0, bc BK104 1⟩ (fun hHeld => ?_)
     clear hK K
     refine nm 40 ?_
     refine pu 10 41 HT_ ?_
     refine pu 11 42 HT_ ?_
     refine pu 12 43 HT_ ?_
     refine tk8 13 44 hHeld HT_ HW_ ?_
     refine tk8 14 45 hHeld HT_ HW_ ?_
     refine tk8 15 46 hHeld HT_ HW_ ?_
     refine tk8 18 49 hHeld HT_ HW_ ?_
     refine tk8 19 50 hHeld HT_ HW_ ?_
     refine tk8 20 51 hHeld HT_ HW_ ?_
     refine one_ (i := 16) (N := some 47) #[T,T,T,T,T,T,T,T,T,T,T,T,T,T,T,T,T,N,T,T,T,N,N,N,N,N,N] rfl rfl (on1 HT_) (by decide) (fun K hK => ?_)
     refine goes_ Try.func61 (by kernel_rfl) rfl #[.agg #[.int .i64 a2_0, .int .i64 a2_1], .agg #[.int .i64 a3_0, .int .i64 a3_1], .agg #[.int .i64 a0_0, .int .i64 a0_1]] (by rfl) rfl rfl sg ?_
     with_reducible refine (cracknelref04_Cross.calls a2_0 a2_1 a3_0 a3_1 a0_0 a0_1 t113 _ A87.out).mono ?_
     rintro e w94 ⟨rfl, hb⟩
     refine ⟨_, rfl, ?_⟩
     replace BK101 := kb BK101 hb
     replace BK102 := kb BK102 hb
     replace BK103 := kb BK103 hb
     replace BK104 := kb BK104 hb
     replace HB := Aside0.mk (below_step bh hb)
     (try clear hb); (try clear hb2); (try clear hk); (try clear hi)
     refine hK.out _ _ ⟨bc BK101 0, bc BK101 1, bc BK102 0, bc BK102 1, bc BK103 0, bc BK103 1, bc BK104 0, bc BK104 1⟩ (fun hHeld => ?_)
     clear hK K
     refine nm 47 ?_
     refine one_ (i := 17) (N := some 48) #[T,T,T,T,T,T,T,T,T,T,T,T,T,T,T,T,T,T,T,T,T,N,N,N,N,N,N] rfl rfl (on1 HT_) (by decide) (fun K hK => ?_)
     refine goes_ Try.func97 (by kernel_rfl) rfl #[.int .i64 t113] (by rfl) rfl rfl sg ?_
     with_reducible refine (cracknelref04_sign.calls t113 t114 _ A88.out).mono ?_
     rintro e w' ⟨rfl, ⟨nd, rfl⟩⟩
     refine ⟨_, rfl, ?_⟩
     refine hK.out _ _ ⟨bc BK101 0, bc BK101 1, bc BK102 0, bc BK102 1, bc BK103 0, bc BK103 1, bc BK104 0, bc BK104 1⟩ (fun hHeld => ?_)
     clear hK K
     refine nm 48 ?_
     refine one_ (i := 21) (N := some 52) #[T,T,T,T,T,T,T,T,T,T,T,T,T,T,T,T,T,T,T,T,T,T,N,N,N,N,N] rfl rfl (on1 HT_) (by decide) (fun K hK => ?_)
     refine goes_ Try.func61 (by kernel_rfl) rfl #[.agg #[.int .i64 a2_0, .int .i64 a2_1], .agg #[.int .i64 a3_0, .int .i64 a3_1], .agg #[.int .i64 a1_0, .int .i64 a1_1]] (by rfl) rfl rfl sg ?_
     with_reducible refine (cracknelref04_Cross.calls a2_0 a2_1 a3_0 a3_1 a1_0 a1_1 t115 _ A89.out).mono ?_
     rintro e w95 ⟨rfl, hb⟩
     refine ⟨_, rfl, ?_⟩
     replace BK101 := kb BK101 hb
     replace BK102 := kb BK102 hb
     replace BK103 := kb BK103 hb
     replace BK104 := kb BK104 hb
     replace HB := Aside0.mk (below_step bh hb)
     (try clear hb); (try clear hb2); (try clear hk); (try clear hi)
     refine hK.out _ _ ⟨bc BK101 0, bc BK101 1, bc BK102 0, bc BK102 1, bc BK103 0, bc BK103 1, bc BK104 0, bc BK104 1⟩ (fun hHeld => ?_)
     clear hK K
     refine nm 52 ?_
     refine one_ (i := 22) (N := some 53) #[T,T,T,T,T,T,T,T,T,T,T,T,T,T,T,T,T,T,T,T,T,T,T,N,N,N,N] rfl rfl (on1 HT_) (by decide) (fun K hK => ?_)
     refine goes_ Try.func97 (by kernel_rfl) rfl #[.int .i64 t115] (by rfl) rfl rfl sg ?_
     with_reducible refine (cracknelref04_sign.calls t115 t116 _ A90.out).mono ?_
     rintro e w' ⟨rfl, ⟨nd, rfl⟩⟩
     refine ⟨_, rfl, ?_⟩
     refine hK.out _ _ ⟨bc BK101 0, bc BK101 1, bc BK102 0, bc BK102 1, bc BK103 0, bc BK103 1, bc BK104 0, bc BK104 1⟩ (fun hHeld => ?_)
     clear hK K
     refine nm 53 ?_
     refine pu 23 54 HT_ ?_
     refine pu 24 55 HT_ ?_
     refine pu 25 56 HT_ ?_
     refine pu 26 8 HT_ ?_
     refine done_ (done_of HT_.out (by kernel_rfl)) ?_
     try go_wp2
     go_ret
     exact ⟨by exact er, bh⟩
    ·rw [if_neg c86] at H
     have c86b0 := decide_eq_false c86
     clear c86
     obtain rfl := Option.some.inj H
     try go_wp2
     replace BK101 := Aside0.mk (blk_drew BK101.out)
     replace BK102 := Aside0.mk (blk_drew BK102.out)
     replace BK103 := Aside0.mk (blk_drew BK103.out)
     replace BK104 := Aside0.mk (blk_drew BK104.out)
     replace HB := Aside0.mk (below_drew1 HB.out)
     refine start_ (n := 27) (S := fun w' => w'.cell? ⟨gb101, 0, none⟩ = some (.int .i64 a0_0) ∧ w'.cell? ⟨gb101, 1, none⟩ = some (.int .i64 a0_1) ∧ w'.cell? ⟨gb102, 0, none⟩ = some (.int .i64 a1_0) ∧ w'.cell? ⟨gb102, 1, none⟩ = some (.int .i64 a1_1) ∧ w'.cell? ⟨gb103, 0, none⟩ = some (.int .i64 a2_0) ∧ w'.cell? ⟨gb103, 1, none⟩ = some (.int .i64 a2_1) ∧ w'.cell? ⟨gb104, 0, none⟩ = some (.int .i64 a3_0) ∧ w'.cell? ⟨gb104, 1, none⟩ = some (.int .i64 a3_1)) (ds := []) #[N,N,N,N,N,N,N,N,N,N,N,N,N,N,N,N,N,N,N,N,N,N,N,N,N,N,N] (by kernel_rfl) rfl rfl ⟨bc BK101 0, bc BK101 1, bc BK102 0, bc BK102 1, bc BK103 0, bc BK103 1, bc BK104 0, bc BK104 1⟩ (fun hHeld => ?_); refine with_tabW cracknelref04_Meet.tab3 cracknelref04_Meet.bits3 (fun HT_ HW_ => ?_)
     generalize wc.drew = w96 at BK101 BK102 BK103 BK104 HB hHeld ⊢
     refine tk8 0 31 hHeld HT_ HW_ ?_
     refine tk8 1 32 hHeld HT_ HW_ ?_
     refine tk8 2 33 hHeld HT_ HW_ ?_
     refine tk8 5 36 hHeld HT_ HW_ ?_
     refine tk8 6 37 hHeld HT_ HW_ ?_
     refine tk8 7 38 hHeld HT_ HW_ ?_
     refine one_ (i := 3) (N := some 34) #[T,T,T,T,N,T,T,T,N,N,N,N,N,N,N,N,N,N,N,N,N,N,N,N,N,N,N] rfl rfl (on1 HT_) (by decide) (fun K hK => ?_)
     refine goes_ Try.func61 (by kernel_rfl) rfl #[.agg #[.int .i64 a0_0, .int .i64 a0_1], .agg #[.int .i64 a1_0, .int .i64 a1_1], .agg #[.int .i64 a2_0, .int .i64 a2_1]] (by rfl) rfl rfl sg ?_
     with_reducible refine (cracknelref04_Cross.calls a0_0 a0_1 a1_0 a1_1 a2_0 a2_1 t109 _ A82.out).mono ?_
     rintro e w97 ⟨rfl, hb⟩
     refine ⟨_, rfl, ?_⟩
     replace BK101 := kb BK101 hb
     replace BK102 := kb BK102 hb
     replace BK103 := kb BK103 hb
     replace BK104 := kb BK104 hb
     replace HB := Aside0.mk (below_step bh hb)
     (try clear hb); (try clear hb2); (try clear hk); (try clear hi)
     refine hK.out _ _ ⟨bc BK101 0, bc BK101 1, bc BK102 0, bc BK102 1, bc BK103 0, bc BK103 1, bc BK104 0, bc BK104 1⟩ (fun hHeld => ?_)
     clear hK K
     refine nm 34 ?_
     refine one_ (i := 4) (N := some 35) #[T,T,T,T,T,T,T,T,N,N,N,N,N,N,N,N,N,N,N,N,N,N,N,N,N,N,N] rfl rfl (on1 HT_) (by decide) (fun K hK => ?_)
     refine goes_ Try.func97 (by kernel_rfl) rfl #[.int .i64 t109] (by rfl) rfl rfl sg ?_
     with_reducible refine (cracknelref04_sign.calls t109 t110 _ A83.out).mono ?_
     rintro e w' ⟨rfl, ⟨nd, rfl⟩⟩
     refine ⟨_, rfl, ?_⟩
     refine hK.out _ _ ⟨bc BK101 0, bc BK101 1, bc BK102 0, bc BK102 1, bc BK103 0, bc BK103 1, bc BK104 0, bc BK104 1⟩ (fun hHeld => ?_)
     clear hK K
     refine nm 35 ?_
     refine one_ (i := 8) (N := some 39) #[T,T,T,T,T,T,T,T,T,N,N,N,N,N,N,N,N,N,N,N,N,N,N,N,N,N,N] rfl rfl (on1 HT_) (by decide) (fun K hK => ?_)
     refine goes_ Try.func61 (by kernel_rfl) rfl #[.agg #[.int .i64 a0_0, .int .i64 a0_1], .agg #[.int .i64 a1_0, .int .i64 a1_1], .agg #[.int .i64 a3_0, .int .i64 a3_1]] (by rfl) rfl rfl sg ?_
     with_reducible refine (cracknelref04_Cross.calls a0_0 a0_1 a1_0 a1_1 a3_0 a3_1 t111 _ A84.out).mono ?_
     rintro e w98 ⟨rfl, hb⟩
     refine ⟨_, rfl, ?_⟩
     replace BK101 := kb BK101 hb
     replace BK102 := kb BK102 hb
     replace BK103 := kb BK103 hb
     replace BK104 := kb BK104 hb
     replace HB := Aside0.mk (below_step bh hb)
     (try clear hb); (try clear hb2); (try clear hk); (try clear hi)
     refine hK.out _ _ ⟨bc BK101 0, bc BK101 1, bc BK102 0, bc BK102 1, bc BK103 0, bc BK103 1, bc BK104 0, bc BK104 1⟩ (fun hHeld => ?_)
     clear hK K
     refine nm 39 ?_
     refine one_ (i := 9) (N := some 40) #[T,T,T,T,T,T,T,T,T,T,N,N,N,N,N,N,N,N,N,N,N,N,N,N,N,N,N] rfl rfl (on1 HT_) (by decide) (fun K hK => ?_)
     refine goes_ Try.func97 (by kernel_rfl) rfl #[.int .i64 t111] (by rfl) rfl rfl sg ?_
     with_reducible refine (cracknelref04_sign.calls t111 t112 _ A85.out).mono ?_
     rintro e w' ⟨rfl, ⟨nd, rfl⟩⟩
     refine ⟨_, rfl, ?_⟩
     refine hK.out _ _ ⟨bc BK101 0, bc BK101 1, bc BK102 0, bc BK102 1, bc BK103 0, bc BK103 1, bc BK104 0, bc BK104 1⟩ (fun hHeld => ?_)
     clear hK K
     refine nm 40 ?_
     refine pu 10 41 HT_ ?_
     refine pu 11 42 HT_ ?_
     refine pu 12 43 HT_ ?_
     refine pz 13 44 HT_ ?_
     refine pz 14 45 HT_ ?_
     refine pz 15 46 HT_ ?_
     refine pz 16 47 HT_ ?_
     refine pz 17 48 HT_ ?_
     refine pz 18 49 HT_ ?_
     refine pz 19 50 HT_ ?_
     refine pz 20 51 HT_ ?_
     refine pz 21 52 HT_ ?_
     refine pz 22 53 HT_ ?_
     refine pz 23 54 HT_ ?_
     refine pz 24 55 HT_ ?_
     refine pu 25 56 HT_ ?_
     refine pu 26 8 HT_ ?_
     refine done_ (done_of HT_.out (by kernel_rfl)) ?_
     try go_wp2
     go_ret
     exact ⟨by exact er, bh⟩
attribute [local go_sem high] eqA29
/-! ### cracknelref04_Simple: function 22 -/
mutual
def cracknelref04_Simple.l0 : Nat → List (S29) → Int → Int → Option (Bool)
 | 0, _, _, _ => none
 | k + 1, x0, x3, x4 => if x4 < x3 then (if 0 ≤ x4 then (if x4 < (x0.length : Int) then ((cracknelref04_next.f x0 x4).bind fun bt102 => (if (((rd_T29 x0 x4).f0) == bt102.1 && (((rd_T29 x0 x4).f1) == bt102.2)) = true then (some false) else (cracknelref04_Simple.l0 k x0 x3 (wrap64 (x4 + 1))))) else (none)) else (none)) else (cracknelref04_Simple.l1 k x0 x3 0)
def cracknelref04_Simple.l1 : Nat → List (S29) → Int → Int → Option (Bool)
 | 0, _, _, _ => none
 | k + 1, x0, x3, x5 => if x5 < x3 then (if 0 ≤ x5 then (if x5 < (x0.length : Int) then ((cracknelref04_next.f x0 x5).bind fun bt105 => ((cracknelref04_next.f x0 (wrap64 (x5 + 1))).bind fun bt109 => ((cracknelref04_On.f ((rd_T29 x0 x5).f0) ((rd_T29 x0 x5).f1) bt105.1 bt105.2 bt109.1 bt109.2).bind fun t112 => (if t112 = true then (cracknelref04_Simple.j2 k x0 x3 x5 true ((rd_T29 x0 x5).f0) ((rd_T29 x0 x5).f1) bt105.1 bt105.2) else ((cracknelref04_On.f bt105.1 bt105.2 bt109.1 bt109.2 ((rd_T29 x0 x5).f0) ((rd_T29 x0 x5).f1)).bind fun t113 => (cracknelref04_Simple.j2 k x0 x3 x5 t113 ((rd_T29 x0 x5).f0) ((rd_T29 x0 x5).f1) bt105.1 bt105.2)))))) else (none)) else (none)) else (some true)
def cracknelref04_Simple.j2 : Nat → List (S29) → Int → Int → Bool → Int → Int → Int → Int → Option (Bool)
 | 0, _, _, _, _, _, _, _, _ => none
 | k + 1, x0, x3, x5, x50, x108000, x108001, x109000, x109001 => if x50 = true then (some false) else (cracknelref04_Simple.l2 k x0 x3 x5 (wrap64 (x5 + 2)) x108000 x108001 x109000 x109001)
def cracknelref04_Simple.l2 : Nat → List (S29) → Int → Int → Int → Int → Int → Int → Int → Option (Bool)
 | 0, _, _, _, _, _, _, _, _ => none
 | k + 1, x0, x3, x5, x9, x108000, x108001, x109000, x109001 => if x9 < x3 then (if x3 = 0 then (none) else (if (Int.tmod (wrap64 (x9 + 1)) x3) = x5 then (cracknelref04_Simple.l2 k x0 x3 x5 (wrap64 (x9 + 1)) x108000 x108001 x109000 x109001) else (if 0 ≤ x9 then (if x9 < (x0.length : Int) then ((cracknelref04_next.f x0 x9).bind fun bt115 => ((cracknelref04_Meet.f k x108000 x108001 x109000 x109001 ((rd_T29 x0 x9).f0) ((rd_T29 x0 x9).f1) bt115.1 bt115.2).bind fun t117 => (if t117 = true then (some false) else (cracknelref04_Simple.l2 k x0 x3 x5 (wrap64 (x9 + 1)) x108000 x108001 x109000 x109001)))) else (none)) else (none)))) else (cracknelref04_Simple.l1 k x0 x3 (wrap64 (x5 + 1)))
end
def cracknelref04_Simple.f (k : Nat) (l0 : List (S29)) : Option (Bool) := cracknelref04_Simple.l0 k l0 (l0.length : Int) 0
def cracknelref04_Simple.T5 : Bool × List (List Nat × List Nat) := (true, [([], []), ([], []), ([0, 1], [0, 1]), ([2], [2]), ([], []), ([], []), ([4, 5], [4, 5]), ([3, 6], [3, 6])])
def cracknelref04_Simple.B5 : List Nat := [0, 0, 3, 7, 0, 0, 48, 127]
theorem cracknelref04_Simple.tab5 : rtab .any (opsOf Try.f22 5) = cracknelref04_Simple.T5 := by kernel_rfl
theorem cracknelref04_Simple.bits5 : waitsOk cracknelref04_Simple.T5.2 cracknelref04_Simple.B5 = true := by kernel_rfl
def cracknelref04_Simple.T10 : Bool × List (List Nat × List Nat) := (true, [([], []), ([], []), ([0, 1], [0, 1]), ([2], [2]), ([], []), ([], []), ([4, 5], [4, 5]), ([], []), ([], []), ([7, 3, 6, 0, 1, 2, 3, 7, 8], [3, 7]), ([8, 6, 9, 0, 1, 2, 3, 4, 5, 6, 7, 8, 9], [6, 8])])
def cracknelref04_Simple.B10 : List Nat := [0, 0, 3, 7, 0, 0, 48, 0, 0, 511, 1023]
theorem cracknelref04_Simple.tab10 : rtab .any (opsOf Try.f22 10) = cracknelref04_Simple.T10 := by kernel_rfl
theorem cracknelref04_Simple.bits10 : waitsOk cracknelref04_Simple.T10.2 cracknelref04_Simple.B10 = true := by kernel_rfl
def cracknelref04_Simple.T17 : Bool × List (List Nat × List Nat) := (true, [([], []), ([0], [0]), ([], []), ([1, 2], [1, 2]), ([], []), ([3, 4], [3, 4]), ([5], [5]), ([6], [6]), ([6], [6]), ([6], [6]), ([6], [6]), ([9, 10, 6], [6, 9, 10]), ([11, 6], [6, 11]), ([6], [6]), ([6], [6]), ([13, 14, 6, 6], [6, 13, 14]), ([7, 8, 12, 15, 15, 6], [6, 7, 8, 12, 15]), ([6, 16], [6, 16])])
def cracknelref04_Simple.B17 : List Nat := [0, 1, 0, 7, 0, 31, 63, 127, 127, 127, 127, 1663, 3711, 127, 127, 24703, 65535, 131071]
theorem cracknelref04_Simple.tab17 : rtab .any (opsOf Try.f22 17) = cracknelref04_Simple.T17 := by kernel_rfl
theorem cracknelref04_Simple.bits17 : waitsOk cracknelref04_Simple.T17.2 cracknelref04_Simple.B17 = true := by kernel_rfl
set_option maxHeartbeats 8000000 in
set_option maxRecDepth 100000 in
theorem cracknelref04_Simple.calls (k : Nat) (A0 : Option Addr) (c0 : Nat) (l0 : List (S29)) (r : Bool) (w : World) (hr0 : Kd.C k29 w A0 l0.length l0) (hc0 : l0.length ≤ c0) (h : cracknelref04_Simple.f k l0 = some r) :
  Calls Try.prog 22 #[.slice A0 l0.length c0] w fun e w' => e = .returned (.bool r) ∧ Below w.heap.size w w' := by
 have hu29 := Try.underlying29
 have HR0 := Aside0.mk hr0
 have HC0 := Aside0.mk hc0
 clear hr0 hc0
 have HB := Aside0.mk (Below.refl w.heap.size w)
 have H : (cracknelref04_Simple.l0 k l0 (l0.length : Int) 0) = some r := h
 clear h
 have H' := Aside0.mk H
 clear H
 go_enter Try.func22, Try.ntmps22
 go_wp2
 go_loopg [4] k (fun kq v4 w' => ∃ (x4_1 : Int), v4 = .int .i64 x4_1 ∧ Aside0 (cracknelref04_Simple.l0 kq l0 (l0.length : Int) x4_1 = some r) ∧ Aside0 (kq ≤ k) ∧ Aside0 (Below w.heap.size w w'))
 case atStart => exact ⟨(0), sd, H', ⟨Nat.le_refl _⟩, ⟨bh⟩⟩
 case round =>
  clear H'
  obtain ⟨x4_1, rfl, HA, HK1, HB⟩ := hrel
  cases gk with
  | zero => exact absurd HA.out (by simp [cracknelref04_Simple.l0])
  | succ k1 =>
   have H := HA.out
   clear HA
   simp only [cracknelref04_Simple.l0] at H
   by_cases c2 : x4_1 < (l0.length : Int)
   ·rw [if_pos c2] at H
    have c2b0 := decide_eq_true c2
    clear c2
    replace H := oi H
    obtain ⟨c3, H⟩ := H
    have c3b0 := decide_eq_true c3
    clear c3
    replace H := oi H
    obtain ⟨c4, H⟩ := H
    have c4b0 := decide_eq_true c4
    clear c4
    replace H := Option.bind_eq_some_iff.mp H
    obtain ⟨⟨t102, t103⟩, A50, H⟩ := H
    try dsimp only at H
    have A5 := Aside0.mk A50
    clear A50
    by_cases c6 : (((rd_T29 l0 x4_1).f0) == t102 && (((rd_T29 l0 x4_1).f1) == t103)) = true
    ·rw [if_pos c6] at H
     have c6b0 : (((rd_T29 l0 x4_1).f0) == t102 && (((rd_T29 l0 x4_1).f1) == t103)) = true := c6
     (try (have c6b1 : decide (((rd_T29 l0 x4_1).f0) = t102 && (((rd_T29 l0 x4_1).f1) == t103)) = true := by simpa using c6))
     (try (have c6b2 : (((rd_T29 l0 x4_1).f0) == t102 && (((rd_T29 l0 x4_1).f1) == t103)) = true := by simpa using c6))
     clear c6
     obtain rfl := Option.some.inj H
     try go_wp2
     replace HB := Aside0.mk (below_drew1 HB.out)
     have p101 : 0 ≤ (x4_1 : Int) := dt
     have q101 : x4_1 < (l0.length : Int) := dt
     obtain ⟨ad101, e101, hx101_0, hx101_1⟩ := at_T29 HR0.out x4_1 p101 q101
     have hw101_1 := hx101_1
     have hw101_0 := hx101_0
     cases e101
     replace hx101_0 := hc HB hx101_0
     replace hx101_1 := hc HB hx101_1
     replace p101 := eq_true p101
     replace q101 := eq_true q101
     refine start_ (n := 8) (S := fun w' => w'.cell? (ad101.add ((x4_1).toNat * 2)) = some (.int .i64 ((rd_T29 l0 x4_1).f0)) ∧ w'.cell? ⟨(ad101.add ((x4_1).toNat * 2)).block, (ad101.add ((x4_1).toNat * 2)).off + 1, none⟩ = some (.int .i64 ((rd_T29 l0 x4_1).f1))) (ds := []) #[N,N,N,N,N,N,N,N] (by kernel_rfl) rfl rfl ⟨(hc HB hw101_0), (hc HB hw101_1)⟩ (fun hHeld => ?_); refine with_tabW cracknelref04_Simple.tab5 cracknelref04_Simple.bits5 (fun HT_ HW_ => ?_)
     generalize wr.drew = w7 at HB hx101_0 hx101_1 hHeld ⊢
     refine pu 0 17 HT_ ?_
     refine pu 1 18 HT_ ?_
     refine pu 2 19 HT_ ?_
     refine pu 4 21 HT_ ?_
     refine pu 5 22 HT_ ?_
     refine tk2 3 20 hHeld HT_ HW_ ?_
     refine one_ (i := 6) (N := some 23) #[T,T,T,T,T,T,T,N] rfl rfl (on1 HT_) (by decide) (fun K hK => ?_)
     refine goes_ Try.func64 (by kernel_rfl) rfl #[.slice (some ad101) l0.length c0, .int .i64 x4_1] (by rfl) rfl rfl sg ?_
     with_reducible refine (cracknelref04_next.calls _ _ l0 x4_1 t102 t103 _ ?side1 ?side2 A5.out).mono ?_
     (case side1 => exact cs (Kd.C_below HR0.out HB.out))
     (case side2 => exact HC0.out)
     rintro e w8 ⟨rfl, hb⟩
     refine ⟨_, rfl, ?_⟩
     replace HB := Aside0.mk (below_step bh hb)
     (try clear hb); (try clear hb2); (try clear hk); (try clear hi)
     refine hK.out _ _ ⟨(hc HB hw101_0), (hc HB hw101_1)⟩ (fun hHeld => ?_)
     clear hK K
     refine nm 23 ?_
     refine pu 7 24 HT_ ?_
     refine done_ (done_of HT_.out (by kernel_rfl)) ?_
     try go_wp2
     go_ret
     exact ⟨by exact er, bh⟩
    ·rw [if_neg c6] at H
     have c6b0 : (((rd_T29 l0 x4_1).f0) == t102 && (((rd_T29 l0 x4_1).f1) == t103)) = false := by simpa using c6
     (try (have c6b1 : decide (((rd_T29 l0 x4_1).f0) = t102 && (((rd_T29 l0 x4_1).f1) == t103)) = false := by simpa using c6))
     (try (have c6b2 : (((rd_T29 l0 x4_1).f0) == t102 && (((rd_T29 l0 x4_1).f1) == t103)) = false := by simpa using c6))
     (try (have c6b3 : ¬ (((rd_T29 l0 x4_1).f0) = t102 && (((rd_T29 l0 x4_1).f1) == t103)) := by simpa using c6))
     clear c6
     have H' := Aside0.mk H
     clear H
     try go_wp2
     replace HB := Aside0.mk (below_drew1 HB.out)
     have p101 : 0 ≤ (x4_1 : Int) := dt
     have q101 : x4_1 < (l0.length : Int) := dt
     obtain ⟨ad101, e101, hx101_0, hx101_1⟩ := at_T29 HR0.out x4_1 p101 q101
     have hw101_1 := hx101_1
     have hw101_0 := hx101_0
     cases e101
     replace hx101_0 := hc HB hx101_0
     replace hx101_1 := hc HB hx101_1
     replace p101 := eq_true p101
     replace q101 := eq_true q101
     refine start_ (n := 8) (S := fun w' => w'.cell? (ad101.add ((x4_1).toNat * 2)) = some (.int .i64 ((rd_T29 l0 x4_1).f0)) ∧ w'.cell? ⟨(ad101.add ((x4_1).toNat * 2)).block, (ad101.add ((x4_1).toNat * 2)).off + 1, none⟩ = some (.int .i64 ((rd_T29 l0 x4_1).f1))) (ds := []) #[N,N,N,N,N,N,N,N] (by kernel_rfl) rfl rfl ⟨(hc HB hw101_0), (hc HB hw101_1)⟩ (fun hHeld => ?_); refine with_tabW cracknelref04_Simple.tab5 cracknelref04_Simple.bits5 (fun HT_ HW_ => ?_)
     generalize wr.drew = w9 at HB hx101_0 hx101_1 hHeld ⊢
     refine pu 0 17 HT_ ?_
     refine pu 1 18 HT_ ?_
     refine pu 2 19 HT_ ?_
     refine pu 4 21 HT_ ?_
     refine pu 5 22 HT_ ?_
     refine tk2 3 20 hHeld HT_ HW_ ?_
     refine one_ (i := 6) (N := some 23) #[T,T,T,T,T,T,T,N] rfl rfl (on1 HT_) (by decide) (fun K hK => ?_)
     refine goes_ Try.func64 (by kernel_rfl) rfl #[.slice (some ad101) l0.length c0, .int .i64 x4_1] (by rfl) rfl rfl sg ?_
     with_reducible refine (cracknelref04_next.calls _ _ l0 x4_1 t102 t103 _ ?side1 ?side2 A5.out).mono ?_
     (case side1 => exact cs (Kd.C_below HR0.out HB.out))
     (case side2 => exact HC0.out)
     rintro e w10 ⟨rfl, hb⟩
     refine ⟨_, rfl, ?_⟩
     replace HB := Aside0.mk (below_step bh hb)
     (try clear hb); (try clear hb2); (try clear hk); (try clear hi)
     refine hK.out _ _ ⟨(hc HB hw101_0), (hc HB hw101_1)⟩ (fun hHeld => ?_)
     clear hK K
     refine nm 23 ?_
     refine pu 7 24 HT_ ?_
     refine done_ (done_of HT_.out (by kernel_rfl)) ?_
     try go_wp2
     go_roundg k1
     case measure => have := HK1.out; omega
     case rel => exact ⟨(wrap64 (x4_1 + 1)), sd, H', ⟨by have := HK1.out; omega⟩, ⟨bh⟩⟩
   ·rw [if_neg c2] at H
    have c2b0 := decide_eq_false c2
    clear c2
    have H' := Aside0.mk H
    clear H
    go_wp2
    go_loopg [5] k1 (fun kq v5 w' => ∃ (x5_2 : Int), v5 = .int .i64 x5_2 ∧ Aside0 (cracknelref04_Simple.l1 kq l0 (l0.length : Int) x5_2 = some r) ∧ Aside0 (kq ≤ k1) ∧ Aside0 (Below w.heap.size w w'))
    case atStart => exact ⟨(0), sd, H', ⟨Nat.le_refl _⟩, ⟨bh⟩⟩
    case round =>
     clear H'
     (try clear p1); (try clear q1); (try clear hx1); (try clear c2); (try clear c2b0); (try clear p2); (try clear c3); (try clear c3b0); (try clear c4); (try clear c4b0); (try clear c6); (try clear c6b0); (try clear c6b1); (try clear c6b2); (try clear p6); (try clear p10); (try clear q10); (try clear hx10); (try clear hx101_0); (try clear hx101_1); (try clear p101); (try clear q101)
     obtain ⟨x5_2, rfl, HA, HK2, HB⟩ := hrel
     cases gk with
     | zero => exact absurd HA.out (by simp [cracknelref04_Simple.l1])
     | succ k2 =>
      have H := HA.out
      clear HA
      simp only [cracknelref04_Simple.l1] at H
      by_cases c11 : x5_2 < (l0.length : Int)
      ·rw [if_pos c11] at H
       have c11b0 := decide_eq_true c11
       clear c11
       replace H := oi H
       obtain ⟨c12, H⟩ := H
       have c12b0 := decide_eq_true c12
       clear c12
       replace H := oi H
       obtain ⟨c13, H⟩ := H
       have c13b0 := decide_eq_true c13
       clear c13
       replace H := Option.bind_eq_some_iff.mp H
       obtain ⟨⟨t105, t106⟩, A140, H⟩ := H
       try dsimp only at H
       have A14 := Aside0.mk A140
       clear A140
       replace H := Option.bind_eq_some_iff.mp H
       obtain ⟨⟨t109, t110⟩, A150, H⟩ := H
       try dsimp only at H
       have A15 := Aside0.mk A150
       clear A150
       have HC16 := Aside0.mk H
       clear H
       try go_wp2
       replace HB := Aside0.mk (below_drew1 HB.out)
       have p104 : 0 ≤ (x5_2 : Int) := dt
       have q104 : x5_2 < (l0.length : Int) := dt
       obtain ⟨ad104, e104, hx104_0, hx104_1⟩ := at_T29 HR0.out x5_2 p104 q104
       have hw104_1 := hx104_1
       have hw104_0 := hx104_0
       cases e104
       replace hx104_0 := hc HB hx104_0
       replace hx104_1 := hc HB hx104_1
       replace p104 := eq_true p104
       replace q104 := eq_true q104
       refine start_ (n := 11) (S := fun w' => w'.cell? (ad104.add ((x5_2).toNat * 2)) = some (.int .i64 ((rd_T29 l0 x5_2).f0)) ∧ w'.cell? ⟨(ad104.add ((x5_2).toNat * 2)).block, (ad104.add ((x5_2).toNat * 2)).off + 1, none⟩ = some (.int .i64 ((rd_T29 l0 x5_2).f1))) (ds := []) #[N,N,N,N,N,N,N,N,N,N,N] (by kernel_rfl) rfl rfl ⟨(hc HB hw104_0), (hc HB hw104_1)⟩ (fun hHeld => ?_); refine with_tabW cracknelref04_Simple.tab10 cracknelref04_Simple.bits10 (fun HT_ HW_ => ?_)
       generalize wr.drew = w17 at HB hx104_0 hx104_1 hHeld ⊢
       refine pu 0 30 HT_ ?_
       refine pu 1 31 HT_ ?_
       refine pu 2 32 HT_ ?_
       refine pu 4 34 HT_ ?_
       refine pu 5 35 HT_ ?_
       refine tk2 3 33 hHeld HT_ HW_ ?_
       refine join_ (σ := Nat × Nat) 2 #[T,T,T,T,T,T,T,T,T,N,N] (fun s_ => [(36, .agg #[.int .i64 t105, .int .i64 t106]), (6, .pointer (some ⟨s_.1, 0, none⟩)), (7, .pointer (some ⟨s_.2, 0, none⟩))]) (fun s_ w' => (w'.cell? (ad104.add ((x5_2).toNat * 2)) = some (.int .i64 ((rd_T29 l0 x5_2).f0)) ∧ w'.cell? ⟨(ad104.add ((x5_2).toNat * 2)).block, (ad104.add ((x5_2).toNat * 2)).off + 1, none⟩ = some (.int .i64 ((rd_T29 l0 x5_2).f1))) ∧ (w'.heap[s_.1]? = some (.cells #[.int .i64 0, .int .i64 0] 29 (0, 0))) ∧ (w'.heap[s_.2]? = some (.cells #[.int .i64 0, .int .i64 0] 29 (0, 0))) ∧ (w.heap.size ≤ s_.1) ∧ (w.heap.size ≤ s_.1) ∧ (s_.2 ≠ s_.1) ∧ (s_.1 ≠ s_.2) ∧ (w.heap.size ≤ s_.2) ∧ (w.heap.size ≤ s_.2) ∧ (Below w.heap.size w w')) ?_ ?_
       rotate_left
       ·intro hJ6_7_8
        refine join_ (σ := Nat) 3 #[T,T,T,T,T,T,T,T,N,N,N] (fun s_ => [(36, .agg #[.int .i64 t105, .int .i64 t106]), (6, .pointer (some ⟨s_, 0, none⟩))]) (fun s_ w' => (w'.cell? (ad104.add ((x5_2).toNat * 2)) = some (.int .i64 ((rd_T29 l0 x5_2).f0)) ∧ w'.cell? ⟨(ad104.add ((x5_2).toNat * 2)).block, (ad104.add ((x5_2).toNat * 2)).off + 1, none⟩ = some (.int .i64 ((rd_T29 l0 x5_2).f1))) ∧ (w'.heap[s_]? = some (.cells #[.int .i64 0, .int .i64 0] 29 (0, 0))) ∧ (w.heap.size ≤ s_) ∧ (w.heap.size ≤ s_) ∧ (Below w.heap.size w w')) ?_ ?_
        rotate_left
        ·intro hJ6_7
         refine join_ (σ := Nat) 3 #[T,T,T,T,T,T,T,N,T,N,N] (fun s_ => [(36, .agg #[.int .i64 t105, .int .i64 t106]), (7, .pointer (some ⟨s_, 0, none⟩))]) (fun s_ w' => (w'.cell? (ad104.add ((x5_2).toNat * 2)) = some (.int .i64 ((rd_T29 l0 x5_2).f0)) ∧ w'.cell? ⟨(ad104.add ((x5_2).toNat * 2)).block, (ad104.add ((x5_2).toNat * 2)).off + 1, none⟩ = some (.int .i64 ((rd_T29 l0 x5_2).f1))) ∧ (w'.heap[s_]? = some (.cells #[.int .i64 0, .int .i64 0] 29 (0, 0))) ∧ (w.heap.size ≤ s_) ∧ (w.heap.size ≤ s_) ∧ (Below w.heap.size w w')) ?_ ?_
         rotate_left
         ·intro hJ6_8
          refine join_ (σ := Nat × Nat) 3 #[T,T,T,T,T,T,N,T,T,N,N] (fun s_ => [(6, .pointer (some ⟨s_.1, 0, none⟩)), (7, .pointer (some ⟨s_.2, 0, none⟩))]) (fun s_ w' => (w'.cell? (ad104.add ((x5_2).toNat * 2)) = some (.int .i64 ((rd_T29 l0 x5_2).f0)) ∧ w'.cell? ⟨(ad104.add ((x5_2).toNat * 2)).block, (ad104.add ((x5_2).toNat * 2)).off + 1, none⟩ = some (.int .i64 ((rd_T29 l0 x5_2).f1))) ∧ (w'.heap[s_.1]? = some (.cells #[.int .i64 0, .int .i64 0] 29 (0, 0))) ∧ (w'.heap[s_.2]? = some (.cells #[.int .i64 0, .int .i64 0] 29 (0, 0))) ∧ (w.heap.size ≤ s_.1) ∧ (w.heap.size ≤ s_.1) ∧ (s_.2 ≠ s_.1) ∧ (s_.1 ≠ s_.2) ∧ (w.heap.size ≤ s_.2) ∧ (w.heap.size ≤ s_.2) ∧ (Below w.heap.size w w')) ?_ ?_
          rotate_left
          ·intro hJ7_8
           refine join_ (σ := Unit) 4 #[T,T,T,T,T,T,T,N,N,N,N] (fun s_ => [(36, .agg #[.int .i64 t105, .int .i64 t106])]) (fun s_ w' => (w'.cell? (ad104.add ((x5_2).toNat * 2)) = some (.int .i64 ((rd_T29 l0 x5_2).f0)) ∧ w'.cell? ⟨(ad104.add ((x5_2).toNat * 2)).block, (ad104.add ((x5_2).toNat * 2)).off + 1, none⟩ = some (.int .i64 ((rd_T29 l0 x5_2).f1))) ∧ (Below w.heap.size w w')) ?_ ?_
           rotate_left
           ·intro hJ6
            refine join_ (σ := Nat) 4 #[T,T,T,T,T,T,N,T,N,N,N] (fun s_ => [(6, .pointer (some ⟨s_, 0, none⟩))]) (fun s_ w' => (w'.cell? (ad104.add ((x5_2).toNat * 2)) = some (.int .i64 ((rd_T29 l0 x5_2).f0)) ∧ w'.cell? ⟨(ad104.add ((x5_2).toNat * 2)).block, (ad104.add ((x5_2).toNat * 2)).off + 1, none⟩ = some (.int .i64 ((rd_T29 l0 x5_2).f1))) ∧ (w'.heap[s_]? = some (.cells #[.int .i64 0, .int .i64 0] 29 (0, 0))) ∧ (w.heap.size ≤ s_) ∧ (w.heap.size ≤ s_) ∧ (Below w.heap.size w w')) ?_ ?_
            rotate_left
            ·intro hJ7
             refine join_ (σ := Nat) 4 #[T,T,T,T,T,T,N,N,T,N,N] (fun s_ => [(7, .pointer (some ⟨s_, 0, none⟩))]) (fun s_ w' => (w'.cell? (ad104.add ((x5_2).toNat * 2)) = some (.int .i64 ((rd_T29 l0 x5_2).f0)) ∧ w'.cell? ⟨(ad104.add ((x5_2).toNat * 2)).block, (ad104.add ((x5_2).toNat * 2)).off + 1, none⟩ = some (.int .i64 ((rd_T29 l0 x5_2).f1))) ∧ (w'.heap[s_]? = some (.cells #[.int .i64 0, .int .i64 0] 29 (0, 0))) ∧ (w.heap.size ≤ s_) ∧ (w.heap.size ≤ s_) ∧ (Below w.heap.size w w')) ?_ ?_
             rotate_left
             ·intro hJ8
              refine three_ (i := 6) (j := 7) (k := 8) (Ni := some 36) (Nj := some 6) (Nk := some 7) #[T,T,T,T,T,T,T,N,N,N,N] #[T,T,T,T,T,T,N,T,N,N,N] #[T,T,T,T,T,T,N,N,T,N,N] rfl rfl rfl rfl rfl rfl (on3 HT_) (by decide) (by decide) (by decide) (fun K hK => ?_) (fun K hK => ?_) (fun K hK => ?_)
              ·skip
               refine goes_ Try.func64 (by kernel_rfl) rfl #[.slice (some ad104) l0.length c0, .int .i64 x5_2] (by rfl) rfl rfl sg ?_
               with_reducible refine (cracknelref04_next.calls _ _ l0 x5_2 t105 t106 _ ?side1 ?side2 A14.out).mono ?_
               (case side1 => exact cs (Kd.C_below HR0.out HB.out))
               (case side2 => exact HC0.out)
               rintro e w18 ⟨rfl, hb⟩
               refine ⟨_, rfl, ?_⟩
               replace HB := Aside0.mk (below_step bh hb)
               (try clear hb); (try clear hb2); (try clear hk); (try clear hi)
               refine hK.out _ _ ⟨(hc HB hw104_0), (hc HB hw104_1)⟩ (fun hHeld => ?_)
               clear hK K
               refine nm 36 ?_
               exact norm_ pa (hJ6 () _ ⟨hHeld, bh⟩)
              ·skip
               refine bxs 6 #[.int .i64 0, .int .i64 0] 29 ?_
               intro gb107 hg w18 hbox hb
               have BK107 := Aside0.mk (hbox)
               have GW107 := Aside0.mk (gs hg : w.heap.size ≤ gb107)
               have GE107 := Aside0.mk (gs hg : w.heap.size ≤ gb107)
               replace HB := Aside0.mk (below_step bh hb)
               clear hb hbox hg
               refine hK.out _ _ ⟨(hc HB hw104_0), (hc HB hw104_1)⟩ (fun hHeld => ?_)
               clear hK K
               refine nm 6 ?_
               exact norm_ pa (hJ7 (gb107) _ ⟨hHeld, bk BK107, GW107.out, GE107.out, bh⟩)
              ·skip
               refine bxs 7 #[.int .i64 0, .int .i64 0] 29 ?_
               intro gb108 hg w18 hbox hb
               have BK108 := Aside0.mk (hbox)
               have GW108 := Aside0.mk (gs hg : w.heap.size ≤ gb108)
               have GE108 := Aside0.mk (gs hg : w.heap.size ≤ gb108)
               replace HB := Aside0.mk (below_step bh hb)
               clear hb hbox hg
               refine hK.out _ _ ⟨(hc HB hw104_0), (hc HB hw104_1)⟩ (fun hHeld => ?_)
               clear hK K
               refine nm 7 ?_
               exact norm_ pa (hJ8 (gb108) _ ⟨hHeld, bk BK108, GW108.out, GE108.out, bh⟩)
             ·skip
              rintro gb108 w19 ⟨hS_, h0_, h1_, h2_, h3_⟩
              have BK108 := Aside0.mk h0_
              have GW108 := Aside0.mk h1_
              have GE108 := Aside0.mk h2_
              replace HB := Aside0.mk h3_
              clear h0_ h1_ h2_ h3_
              have hHeld := hS_
              refine nn ?_
              refine two_ (i := 6) (j := 7) (Ni := some 36) (Nj := some 6) #[T,T,T,T,T,T,T,N,T,N,N] #[T,T,T,T,T,T,N,T,T,N,N] rfl rfl rfl rfl (on2 HT_) (by decide) (by decide) (fun K hK => ?_) (fun K hK => ?_)
              ·skip
               refine goes_ Try.func64 (by kernel_rfl) rfl #[.slice (some ad104) l0.length c0, .int .i64 x5_2] (by rfl) rfl rfl sg ?_
               with_reducible refine (cracknelref04_next.calls _ _ l0 x5_2 t105 t106 _ ?side1 ?side2 A14.out).mono ?_
               (case side1 => exact cs (Kd.C_below HR0.out HB.out))
               (case side2 => exact HC0.out)
               rintro e w20 ⟨rfl, hb⟩
               refine ⟨_, rfl, ?_⟩
               replace BK108 := kb BK108 hb
               replace HB := Aside0.mk (below_step bh hb)
               (try clear hb); (try clear hb2); (try clear hk); (try clear hi)
               refine hK.out _ _ ⟨(hc HB hw104_0), (hc HB hw104_1)⟩ (fun hHeld => ?_)
               clear hK K
               refine nm 36 ?_
               exact norm_ pa (hJ6_8 (gb108) _ ⟨hHeld, bk BK108, GW108.out, GE108.out, bh⟩)
              ·skip
               refine bxs 6 #[.int .i64 0, .int .i64 0] 29 ?_
               intro gb107 hg w20 hbox hb
               have BK107 := Aside0.mk (hbox)
               have GW107 := Aside0.mk (gs hg : w.heap.size ≤ gb107)
               have GE107 := Aside0.mk (gs hg : w.heap.size ≤ gb107)
               have NB108_107 := Aside0.mk ((by rw [hg]; exact Nat.ne_of_lt (kl BK108) : gb108 ≠ gb107))
               have NB107_108 := Aside0.mk ((by rw [hg]; exact Nat.ne_of_gt (kl BK108) : gb107 ≠ gb108))
               replace BK108 := kb BK108 hb
               replace HB := Aside0.mk (below_step bh hb)
               clear hb hbox hg
               refine hK.out _ _ ⟨(hc HB hw104_0), (hc HB hw104_1)⟩ (fun hHeld => ?_)
               clear hK K
               refine nm 6 ?_
               exact norm_ pa (hJ7_8 (gb107, gb108) _ ⟨hHeld, bk BK107, bk BK108, GW107.out, GE107.out, NB108_107.out, NB107_108.out, GW108.out, GE108.out, bh⟩)
            ·skip
             rintro gb107 w19 ⟨hS_, h0_, h1_, h2_, h3_⟩
             have BK107 := Aside0.mk h0_
             have GW107 := Aside0.mk h1_
             have GE107 := Aside0.mk h2_
             replace HB := Aside0.mk h3_
             clear h0_ h1_ h2_ h3_
             have hHeld := hS_
             refine nn ?_
             refine two_ (i := 6) (j := 8) (Ni := some 36) (Nj := some 7) #[T,T,T,T,T,T,T,T,N,N,N] #[T,T,T,T,T,T,N,T,T,N,N] rfl rfl rfl rfl (on2 HT_) (by decide) (by decide) (fun K hK => ?_) (fun K hK => ?_)
             ·skip
              refine goes_ Try.func64 (by kernel_rfl) rfl #[.slice (some ad104) l0.length c0, .int .i64 x5_2] (by rfl) rfl rfl sg ?_
              with_reducible refine (cracknelref04_next.calls _ _ l0 x5_2 t105 t106 _ ?side1 ?side2 A14.out).mono ?_
              (case side1 => exact cs (Kd.C_below HR0.out HB.out))
              (case side2 => exact HC0.out)
              rintro e w20 ⟨rfl, hb⟩
              refine ⟨_, rfl, ?_⟩
              replace BK107 := kb BK107 hb
              replace HB := Aside0.mk (below_step bh hb)
              (try clear hb); (try clear hb2); (try clear hk); (try clear hi)
              refine hK.out _ _ ⟨(hc HB hw104_0), (hc HB hw104_1)⟩ (fun hHeld => ?_)
              clear hK K
              refine nm 36 ?_
              exact norm_ pa (hJ6_7 (gb107) _ ⟨hHeld, bk BK107, GW107.out, GE107.out, bh⟩)
             ·skip
              refine bxs 7 #[.int .i64 0, .int .i64 0] 29 ?_
              intro gb108 hg w20 hbox hb
              have BK108 := Aside0.mk (hbox)
              have GW108 := Aside0.mk (gs hg : w.heap.size ≤ gb108)
              have GE108 := Aside0.mk (gs hg : w.heap.size ≤ gb108)
              have NB107_108 := Aside0.mk ((by rw [hg]; exact Nat.ne_of_lt (kl BK107) : gb107 ≠ gb108))
              have NB108_107 := Aside0.mk ((by rw [hg]; exact Nat.ne_of_gt (kl BK107) : gb108 ≠ gb107))
              replace BK107 := kb BK107 hb
              replace HB := Aside0.mk (below_step bh hb)
              clear hb hbox hg
              refine hK.out _ _ ⟨(hc HB hw104_0), (hc HB hw104_1)⟩ (fun hHeld => ?_)
              clear hK K
              refine nm 7 ?_
              exact norm_ pa (hJ7_8 (gb107, gb108) _ ⟨hHeld, bk BK107, bk BK108, GW107.out, GE107.out, NB108_107.out, NB107_108.out, GW108.out, GE108.out, bh⟩)
           ·skip
            rintro _ w19 ⟨hS_, h0_⟩
            replace HB := Aside0.mk h0_
            clear h0_
            have hHeld := hS_
            refine nn ?_
            refine two_ (i := 7) (j := 8) (Ni := some 6) (Nj := some 7) #[T,T,T,T,T,T,T,T,N,N,N] #[T,T,T,T,T,T,T,N,T,N,N] rfl rfl rfl rfl (on2 HT_) (by decide) (by decide) (fun K hK => ?_) (fun K hK => ?_)
            ·skip
             refine bxs 6 #[.int .i64 0, .int .i64 0] 29 ?_
             intro gb107 hg w20 hbox hb
             have BK107 := Aside0.mk (hbox)
             have GW107 := Aside0.mk (gs hg : w.heap.size ≤ gb107)
             have GE107 := Aside0.mk (gs hg : w.heap.size ≤ gb107)
             replace HB := Aside0.mk (below_step bh hb)
             clear hb hbox hg
             refine hK.out _ _ ⟨(hc HB hw104_0), (hc HB hw104_1)⟩ (fun hHeld => ?_)
             clear hK K
             refine nm 6 ?_
             exact norm_ pa (hJ6_7 (gb107) _ ⟨hHeld, bk BK107, GW107.out, GE107.out, bh⟩)
            ·skip
             refine bxs 7 #[.int .i64 0, .int .i64 0] 29 ?_
             intro gb108 hg w20 hbox hb
             have BK108 := Aside0.mk (hbox)
             have GW108 := Aside0.mk (gs hg : w.heap.size ≤ gb108)
             have GE108 := Aside0.mk (gs hg : w.heap.size ≤ gb108)
             replace HB := Aside0.mk (below_step bh hb)
             clear hb hbox hg
             refine hK.out _ _ ⟨(hc HB hw104_0), (hc HB hw104_1)⟩ (fun hHeld => ?_)
             clear hK K
             refine nm 7 ?_
             exact norm_ pa (hJ6_8 (gb108) _ ⟨hHeld, bk BK108, GW108.out, GE108.out, bh⟩)
          ·skip
           rintro ⟨gb107, gb108⟩ w20 ⟨hS_, h0_, h1_, h2_, h3_, h4_, h5_, h6_, h7_, h8_⟩
           have BK107 := Aside0.mk h0_
           have BK108 := Aside0.mk h1_
           have GW107 := Aside0.mk h2_
           have GE107 := Aside0.mk h3_
           have NB108_107 := Aside0.mk h4_
           have NB107_108 := Aside0.mk h5_
           have GW108 := Aside0.mk h6_
           have GE108 := Aside0.mk h7_
           replace HB := Aside0.mk h8_
           clear h0_ h1_ h2_ h3_ h4_ h5_ h6_ h7_ h8_
           have hHeld := hS_
           refine nn ?_
           refine one_ (i := 6) (N := some 36) #[T,T,T,T,T,T,T,T,T,N,N] rfl rfl (on1 HT_) (by decide) (fun K hK => ?_)
           refine goes_ Try.func64 (by kernel_rfl) rfl #[.slice (some ad104) l0.length c0, .int .i64 x5_2] (by rfl) rfl rfl sg ?_
           with_reducible refine (cracknelref04_next.calls _ _ l0 x5_2 t105 t106 _ ?side1 ?side2 A14.out).mono ?_
           (case side1 => exact cs (Kd.C_below HR0.out HB.out))
           (case side2 => exact HC0.out)
           rintro e w21 ⟨rfl, hb⟩
           refine ⟨_, rfl, ?_⟩
           replace BK107 := kb BK107 hb
           replace BK108 := kb BK108 hb
           replace HB := Aside0.mk (below_step bh hb)
           (try clear hb); (try clear hb2); (try clear hk); (try clear hi)
           refine hK.out _ _ ⟨(hc HB hw104_0), (hc HB hw104_1)⟩ (fun hHeld => ?_)
           clear hK K
           refine nm 36 ?_
           exact norm_ pa (hJ6_7_8 (gb107, gb108) _ ⟨hHeld, bk BK107, bk BK108, GW107.out, GE107.out, NB108_107.out, NB107_108.out, GW108.out, GE108.out, bh⟩)
         ·skip
          rintro gb108 w20 ⟨hS_, h0_, h1_, h2_, h3_⟩
          have BK108 := Aside0.mk h0_
          have GW108 := Aside0.mk h1_
          have GE108 := Aside0.mk h2_
          replace HB := Aside0.mk h3_
          clear h0_ h1_ h2_ h3_
          have hHeld := hS_
          refine nn ?_
          refine one_ (i := 7) (N := some 6) #[T,T,T,T,T,T,T,T,T,N,N] rfl rfl (on1 HT_) (by decide) (fun K hK => ?_)
          refine bxs 6 #[.int .i64 0, .int .i64 0] 29 ?_
          intro gb107 hg w21 hbox hb
          have BK107 := Aside0.mk (hbox)
          have GW107 := Aside0.mk (gs hg : w.heap.size ≤ gb107)
          have GE107 := Aside0.mk (gs hg : w.heap.size ≤ gb107)
          have NB108_107 := Aside0.mk ((by rw [hg]; exact Nat.ne_of_lt (kl BK108) : gb108 ≠ gb107))
          have NB107_108 := Aside0.mk ((by rw [hg]; exact Nat.ne_of_gt (kl BK108) : gb107 ≠ gb108))
          replace BK108 := kb BK108 hb
          replace HB := Aside0.mk (below_step bh hb)
          clear hb hbox hg
          refine hK.out _ _ ⟨(hc HB hw104_0), (hc HB hw104_1)⟩ (fun hHeld => ?_)
          clear hK K
          refine nm 6 ?_
          exact norm_ pa (hJ6_7_8 (gb107, gb108) _ ⟨hHeld, bk BK107, bk BK108, GW107.out, GE107.out, NB108_107.out, NB107_108.out, GW108.out, GE108.out, bh⟩)
        ·skip
         rintro gb107 w20 ⟨hS_, h0_, h1_, h2_, h3_⟩
         have BK107 := Aside0.mk h0_
         have GW107 := Aside0.mk h1_
         have GE107 := Aside0.mk h2_
         replace HB := Aside0.mk h3_
         clear h0_ h1_ h2_ h3_
         have hHeld := hS_
         refine nn ?_
         refine one_ (i := 8) (N := some 7) #[T,T,T,T,T,T,T,T,T,N,N] rfl rfl (on1 HT_) (by decide) (fun K hK => ?_)
         refine bxs 7 #[.int .i64 0, .int .i64 0] 29 ?_
         intro gb108 hg w21 hbox hb
         have BK108 := Aside0.mk (hbox)
         have GW108 := Aside0.mk (gs hg : w.heap.size ≤ gb108)
         have GE108 := Aside0.mk (gs hg : w.heap.size ≤ gb108)
         have NB107_108 := Aside0.mk ((by rw [hg]; exact Nat.ne_of_lt (kl BK107) : gb107 ≠ gb108))
         have NB108_107 := Aside0.mk ((by rw [hg]; exact Nat.ne_of_gt (kl BK107) : gb108 ≠ gb107))
         replace BK107 := kb BK107 hb
         replace HB := Aside0.mk (below_step bh hb)
         clear hb hbox hg
         refine hK.out _ _ ⟨(hc HB hw104_0), (hc HB hw104_1)⟩ (fun hHeld => ?_)
         clear hK K
         refine nm 7 ?_
         exact norm_ pa (hJ6_7_8 (gb107, gb108) _ ⟨hHeld, bk BK107, bk BK108, GW107.out, GE107.out, NB108_107.out, NB107_108.out, GW108.out, GE108.out, bh⟩)
       rintro ⟨gb107, gb108⟩ w21 ⟨hS_, h0_, h1_, h2_, h3_, h4_, h5_, h6_, h7_, h8_⟩
       have BK107 := Aside0.mk h0_
       have BK108 := Aside0.mk h1_
       have GW107 := Aside0.mk h2_
       have GE107 := Aside0.mk h3_
       have NB108_107 := Aside0.mk h4_
       have NB107_108 := Aside0.mk h5_
       have GW108 := Aside0.mk h6_
       have GE108 := Aside0.mk h7_
       replace HB := Aside0.mk h8_
       clear h0_ h1_ h2_ h3_ h4_ h5_ h6_ h7_ h8_
       have hHeld := hS_
       refine nn ?_
       refine one_ (i := 9) (N := none) #[T,T,T,T,T,T,T,T,T,T,N] rfl rfl (on1 HT_) (by decide) (fun K hK => ?_)
       have hs22 : w21.cell? ⟨gb107, 0, none⟩ = some (.int .i64 0) := bc BK107 0
       have hfs22 := blk_frozen BK107.out 0
       have hns22_1 := NB108_107.out
       have hms22_1 := NB107_108.out
       have hs23 : w21.cell? ⟨gb107, 1, none⟩ = some (.int .i64 0) := bc BK107 1
       have hfs23 := blk_frozen BK107.out 1
       have hns23_1 := NB108_107.out
       have hms23_1 := NB107_108.out
       refine skip_ (w1 := ?_) (by rfl) rfl ?_ ?_
       rotate_left
       ·go_simp
        rfl
       refine hK.out _ _ ⟨((cell_far (p := ⟨gb107, _, none⟩) (fr hw104_0 GW107) _).trans (((cell_far (p := ⟨gb107, _, none⟩) (fr hw104_0 GW107) _).trans (hHeld.1)))), ((cell_far (p := ⟨gb107, _, none⟩) (fr hw104_1 GW107) _).trans (((cell_far (p := ⟨gb107, _, none⟩) (fr hw104_1 GW107) _).trans (hHeld.2))))⟩ (fun hHeld => ?_)
       clear hK K
       refine one_ (i := 10) (N := none) #[T,T,T,T,T,T,T,T,T,T,T] rfl rfl (on1 HT_) (by decide) (fun K hK => ?_)
       have hs24 : w21.cell? ⟨gb108, 0, none⟩ = some (.int .i64 0) := bc BK108 0
       have hfs24 := blk_frozen BK108.out 0
       have hns24_0 := NB107_108.out
       have hms24_0 := NB108_107.out
       have hs25 : w21.cell? ⟨gb108, 1, none⟩ = some (.int .i64 0) := bc BK108 1
       have hfs25 := blk_frozen BK108.out 1
       have hns25_0 := NB107_108.out
       have hms25_0 := NB108_107.out
       refine skip_ (w1 := ?_) (by rfl) rfl ?_ ?_
       rotate_left
       ·go_simp
        rfl
       refine hK.out _ _ ⟨((cell_far (p := ⟨gb108, _, none⟩) (fr hw104_0 GW108) _).trans (((cell_far (p := ⟨gb108, _, none⟩) (fr hw104_0 GW108) _).trans (hHeld.1)))), ((cell_far (p := ⟨gb108, _, none⟩) (fr hw104_1 GW108) _).trans (((cell_far (p := ⟨gb108, _, none⟩) (fr hw104_1 GW108) _).trans (hHeld.2))))⟩ (fun hHeld => ?_)
       clear hK K
       refine done_ (done_of HT_.out (by kernel_rfl)) ?_
       go_upto_region 12 with (first | ((with_reducible refine gc 64 rfl ?_); refine goesL_ (some 40) rfl rfl Try.func64 (by kernel_rfl) rfl #[.slice (some ad104) l0.length c0, .int .i64 (wrap64 (x5_2 + 1))] rfl sg ?_; (with_reducible refine (cracknelref04_next.calls _ _ l0 (wrap64 (x5_2 + 1)) t109 t110 _ ?side1 ?side2 A15.out).mono ?_); (case side1 => exact Kd.C_below HR0.out bh); (case side2 => exact HC0.out); rintro e w26 ⟨rfl, hb⟩; refine ⟨_, rfl, ?_⟩; replace BK107 := Aside0.mk (blk_below (g := gb107) (o := .cells #[.int .i64 ((rd_T29 l0 x5_2).f0), .int .i64 ((rd_T29 l0 x5_2).f1)] 29 (0, 0)) (by refine bd ?_; refine blk_far ?_ NB107_108.out _; refine bd ?_; refine blk_far ?_ NB107_108.out _; refine bd ?_; refine blk_put (cs := #[.int .i64 ((rd_T29 l0 x5_2).f0), .int .i64 0]) ?_ 1 _ rfl; refine bd ?_; refine blk_put (cs := #[.int .i64 0, .int .i64 0]) ?_ 0 _ rfl; refine bd ?_; exact BK107.out) hb); replace BK108 := Aside0.mk (blk_below (g := gb108) (o := .cells #[.int .i64 t105, .int .i64 t106] 29 (0, 0)) (by refine bd ?_; refine blk_put (cs := #[.int .i64 t105, .int .i64 0]) ?_ 1 _ rfl; refine bd ?_; refine blk_put (cs := #[.int .i64 0, .int .i64 0]) ?_ 0 _ rfl; refine bd ?_; refine blk_far ?_ NB108_107.out _; refine bd ?_; refine blk_far ?_ NB108_107.out _; refine bd ?_; exact BK108.out) hb); replace HB := Aside0.mk (below_step bh hb); (try clear hb); (try clear hb2); (try clear hk); (try clear hi)) | ((with_reducible refine gate_dst (N := 8) rfl ?_); refine bxe 8 #[.int .i64 0, .int .i64 0] 29 ?_; intro gb111 hg w27 hbox hb; have BK111 := Aside0.mk (hbox); have GW111 := Aside0.mk (gs hg : w.heap.size ≤ gb111); have GE111 := Aside0.mk (gs hg : w.heap.size ≤ gb111); have NB107_111 := Aside0.mk ((by rw [hg]; exact Nat.ne_of_lt (kl BK107) : gb107 ≠ gb111)); have NB111_107 := Aside0.mk ((by rw [hg]; exact Nat.ne_of_gt (kl BK107) : gb111 ≠ gb107)); have NB108_111 := Aside0.mk ((by rw [hg]; exact Nat.ne_of_lt (kl BK108) : gb108 ≠ gb111)); have NB111_108 := Aside0.mk ((by rw [hg]; exact Nat.ne_of_gt (kl BK108) : gb111 ≠ gb108)); replace BK107 := kb BK107 hb; replace BK108 := kb BK108 hb; replace HB := Aside0.mk (below_step bh hb); clear hb hbox hg; have hnb28 := NB111_107.out; have hnc28 := NB107_111.out; have hnb29 := NB111_108.out; have hnc29 := NB108_111.out; have hcz30_0 : w27.cell? ⟨gb111, 0, none⟩ = some (.int .i64 0) := bc BK111 0; have hcz30_1 : w27.cell? ⟨gb111, 1, none⟩ = some (.int .i64 0) := bc BK111 1; have hfz30_0 := blk_frozen BK111.out 0; have hfz30_1 := blk_frozen BK111.out 1))
       (try simp only [Act.put, List.setIfInBounds_toArray, List.set_cons_zero, List.set_cons_succ])
       go_cut [50] (fun v50 wc => ∃ (kq : Nat) (x50_15 : Bool), v50 = .bool x50_15 ∧ Aside0 (cracknelref04_Simple.j2 kq l0 (l0.length : Int) x5_2 x50_15 ((rd_T29 l0 x5_2).f0) ((rd_T29 l0 x5_2).f1) t105 t106 = some r) ∧ Aside0 (kq ≤ k2) ∧ Aside0 (wc.heap[gb107]? = some (.cells #[.int .i64 ((rd_T29 l0 x5_2).f0), .int .i64 ((rd_T29 l0 x5_2).f1)] 29 (0, 0))) ∧ Aside0 (wc.heap[gb108]? = some (.cells #[.int .i64 t105, .int .i64 t106] 29 (0, 0))) ∧ Aside0 (wc.heap[gb111]? = some (.cells #[.int .i64 t109, .int .i64 t110] 29 (0, 0))) ∧ Aside0 (Below w.heap.size w wc))
       case first =>
        have H := HC16.out
        clear HC16
        replace H := Option.bind_eq_some_iff.mp H
        obtain ⟨t112, A310, H⟩ := H
        try dsimp only at H
        have A31 := Aside0.mk A310
        clear A310
        by_cases c32 : t112 = true
        ·subst c32
         rw [if_pos rfl] at H
         have H' := Aside0.mk H
         clear H
         have hnb33 := NB107_108.out
         have hnc33 := NB108_107.out
         have hnb34 := NB107_111.out
         have hnc34 := NB111_107.out
         obtain ⟨hcz35_0, hcz35_1, hfz35_0, hfz35_1⟩ := b2 BK107
         have hnb36 := NB108_111.out
         have hnc36 := NB111_108.out
         obtain ⟨hcz37_0, hcz37_1, hfz37_0, hfz37_1⟩ := b2 BK108
         obtain ⟨hcz38_0, hcz38_1, hfz38_0, hfz38_1⟩ := b2 BK111
         go_wp2_with (first | ((with_reducible refine gc 62 rfl ?_); refine goesL_ (some 44) rfl rfl Try.func62 (by kernel_rfl) rfl #[.agg #[.int .i64 ((rd_T29 l0 x5_2).f0), .int .i64 ((rd_T29 l0 x5_2).f1)], .agg #[.int .i64 t105, .int .i64 t106], .agg #[.int .i64 t109, .int .i64 t110]] rfl sg ?_; (with_reducible refine (cracknelref04_On.calls ((rd_T29 l0 x5_2).f0) ((rd_T29 l0 x5_2).f1) t105 t106 t109 t110 true _ A31.out).mono ?_); rintro e w39 ⟨rfl, hb⟩; refine ⟨_, rfl, ?_⟩; replace BK107 := Aside0.mk (blk_below (g := gb107) (o := .cells #[.int .i64 ((rd_T29 l0 x5_2).f0), .int .i64 ((rd_T29 l0 x5_2).f1)] 29 (0, 0)) (by refine bd ?_; refine blk_far ?_ NB107_111.out _; refine bd ?_; refine blk_far ?_ NB107_111.out _; refine bd ?_; exact BK107.out) hb); replace BK108 := Aside0.mk (blk_below (g := gb108) (o := .cells #[.int .i64 t105, .int .i64 t106] 29 (0, 0)) (by refine bd ?_; refine blk_far ?_ NB108_111.out _; refine bd ?_; refine blk_far ?_ NB108_111.out _; refine bd ?_; exact BK108.out) hb); replace BK111 := Aside0.mk (blk_below (g := gb111) (o := .cells #[.int .i64 t109, .int .i64 t110] 29 (0, 0)) (by refine bd ?_; refine blk_put (cs := #[.int .i64 t109, .int .i64 0]) ?_ 1 _ rfl; refine bd ?_; refine blk_put (cs := #[.int .i64 0, .int .i64 0]) ?_ 0 _ rfl; refine bd ?_; exact BK111.out) hb); replace HB := Aside0.mk (below_step bh hb); (try clear hb); (try clear hb2); (try clear hk); (try clear hi)))
         go_meet
         case rel => exact ⟨_, (true), sd, H', ⟨by have := HK1.out; have := HK2.out; first | omega | exact Nat.le_refl _⟩, ⟨bk BK107⟩, ⟨bk BK108⟩, ⟨bk BK111⟩, ⟨bh⟩⟩
        ·replace c32 := Bool.eq_false_iff.mpr c32
         subst c32
         rw [if_neg (show ¬ (false = true) by decide)] at H
         replace H := Option.bind_eq_some_iff.mp H
         obtain ⟨t113, A400, H⟩ := H
         try dsimp only at H
         have A40 := Aside0.mk A400
         clear A400
         have H' := Aside0.mk H
         clear H
         have hnb41 := NB107_108.out
         have hnc41 := NB108_107.out
         have hnb42 := NB107_111.out
         have hnc42 := NB111_107.out
         obtain ⟨hcz43_0, hcz43_1, hfz43_0, hfz43_1⟩ := b2 BK107
         have hnb44 := NB108_111.out
         have hnc44 := NB111_108.out
         obtain ⟨hcz45_0, hcz45_1, hfz45_0, hfz45_1⟩ := b2 BK108
         obtain ⟨hcz46_0, hcz46_1, hfz46_0, hfz46_1⟩ := b2 BK111
         go_wp2_with (first | ((with_reducible refine gc 62 rfl ?_); refine goesL_ (some 44) rfl rfl Try.func62 (by kernel_rfl) rfl #[.agg #[.int .i64 ((rd_T29 l0 x5_2).f0), .int .i64 ((rd_T29 l0 x5_2).f1)], .agg #[.int .i64 t105, .int .i64 t106], .agg #[.int .i64 t109, .int .i64 t110]] rfl sg ?_; (with_reducible refine (cracknelref04_On.calls ((rd_T29 l0 x5_2).f0) ((rd_T29 l0 x5_2).f1) t105 t106 t109 t110 false _ A31.out).mono ?_); rintro e w47 ⟨rfl, hb⟩; refine ⟨_, rfl, ?_⟩; replace BK107 := Aside0.mk (blk_below (g := gb107) (o := .cells #[.int .i64 ((rd_T29 l0 x5_2).f0), .int .i64 ((rd_T29 l0 x5_2).f1)] 29 (0, 0)) (by refine bd ?_; refine blk_far ?_ NB107_111.out _; refine bd ?_; refine blk_far ?_ NB107_111.out _; refine bd ?_; exact BK107.out) hb); replace BK108 := Aside0.mk (blk_below (g := gb108) (o := .cells #[.int .i64 t105, .int .i64 t106] 29 (0, 0)) (by refine bd ?_; refine blk_far ?_ NB108_111.out _; refine bd ?_; refine blk_far ?_ NB108_111.out _; refine bd ?_; exact BK108.out) hb); replace BK111 := Aside0.mk (blk_below (g := gb111) (o := .cells #[.int .i64 t109, .int .i64 t110] 29 (0, 0)) (by refine bd ?_; refine blk_put (cs := #[.int .i64 t109, .int .i64 0]) ?_ 1 _ rfl; refine bd ?_; refine blk_put (cs := #[.int .i64 0, .int .i64 0]) ?_ 0 _ rfl; refine bd ?_; exact BK111.out) hb); replace HB := Aside0.mk (below_step bh hb); (try clear hb); (try clear hb2); (try clear hk); (try clear hi); have hcz48_0 : w47.cell? ⟨gb108, 0, none⟩ = some (.int .i64 t105) := bc BK108 0; have hcz48_1 : w47.cell? ⟨gb108, 1, none⟩ = some (.int .i64 t106) := bc BK108 1; have hfz48_0 := blk_frozen BK108.out 0; have hfz48_1 := blk_frozen BK108.out 1; have hcz49_0 : w47.cell? ⟨gb111, 0, none⟩ = some (.int .i64 t109) := bc BK111 0; have hcz49_1 : w47.cell? ⟨gb111, 1, none⟩ = some (.int .i64 t110) := bc BK111 1; have hfz49_0 := blk_frozen BK111.out 0; have hfz49_1 := blk_frozen BK111.out 1; have hcz50_0 : w47.cell? ⟨gb107, 0, none⟩ = some (.int .i64 ((rd_T29 l0 x5_2).f0)) := bc BK107 0; have hcz50_1 : w47.cell? ⟨gb107, 1, none⟩ = some (.int .i64 ((rd_T29 l0 x5_2).f1)) := bc BK107 1; have hfz50_0 := blk_frozen BK107.out 0; have hfz50_1 := blk_frozen BK107.out 1) | (go_at_call 62; (with_reducible refine (cracknelref04_On.calls t105 t106 t109 t110 ((rd_T29 l0 x5_2).f0) ((rd_T29 l0 x5_2).f1) t113 _ A40.out).mono ?_); rintro e w51 ⟨rfl, hb⟩; replace BK107 := kb BK107 hb; replace BK108 := kb BK108 hb; replace BK111 := kb BK111 hb; replace HB := Aside0.mk (below_step bh hb); (try clear hb); (try clear hb2); (try clear hk); (try clear hi)))
         go_meet
         case rel => exact ⟨_, (t113), sd, H', ⟨by have := HK1.out; have := HK2.out; first | omega | exact Nat.le_refl _⟩, ⟨bk BK107⟩, ⟨bk BK108⟩, ⟨bk BK111⟩, ⟨bh⟩⟩
       case rest =>
        clear HC16
        (try clear c2); (try clear p2); (try clear c3); (try clear c4); (try clear c6); (try clear p6); (try clear c28); (try clear c29); (try clear c32); (try clear c33); (try clear c34); (try clear c36); (try clear c41); (try clear c42); (try clear c44); (try clear hcz30_0); (try clear hcz30_1); (try clear hcz35_0); (try clear hcz35_1); (try clear hcz37_0); (try clear hcz37_1); (try clear hcz38_0); (try clear hcz38_1); (try clear hcz43_0); (try clear hcz43_1); (try clear hcz45_0); (try clear hcz45_1); (try clear hcz46_0); (try clear hcz46_1); (try clear hcz48_0); (try clear hcz48_1); (try clear hcz49_0); (try clear hcz49_1); (try clear hcz50_0); (try clear hcz50_1); (try clear hfz30_0); (try clear hfz30_1); (try clear hfz35_0); (try clear hfz35_1); (try clear hfz37_0); (try clear hfz37_1); (try clear hfz38_0); (try clear hfz38_1); (try clear hfz43_0); (try clear hfz43_1); (try clear hfz45_0); (try clear hfz45_1); (try clear hfz46_0); (try clear hfz46_1); (try clear hfz48_0); (try clear hfz48_1); (try clear hfz49_0); (try clear hfz49_1); (try clear hfz50_0); (try clear hfz50_1)
        obtain ⟨kq, x50_15, rfl, HA, HJ15, BK107, BK108, BK111, HB⟩ := hcut
        cases kq with
        | zero => exact absurd HA.out (by simp [cracknelref04_Simple.j2])
        | succ kj15 =>
         have H := HA.out
         clear HA
         simp only [cracknelref04_Simple.j2] at H
         by_cases c52 : x50_15 = true
         ·subst c52
          rw [if_pos rfl] at H
          obtain rfl := Option.some.inj H
          go_wp2
          go_ret
          exact ⟨by exact er, bh⟩
         ·replace c52 := Bool.eq_false_iff.mpr c52
          subst c52
          rw [if_neg (show ¬ (false = true) by decide)] at H
          have H' := Aside0.mk H
          clear H
          go_wp2
          go_loopg [9] kj15 (fun kq v9 w' => ∃ (x9_4 : Int), v9 = .int .i64 x9_4 ∧ Aside0 (cracknelref04_Simple.l2 kq l0 (l0.length : Int) x5_2 x9_4 ((rd_T29 l0 x5_2).f0) ((rd_T29 l0 x5_2).f1) t105 t106 = some r) ∧ Aside0 (kq ≤ kj15) ∧ Aside0 (w'.heap[gb107]? = some (.cells #[.int .i64 ((rd_T29 l0 x5_2).f0), .int .i64 ((rd_T29 l0 x5_2).f1)] 29 (0, 0))) ∧ Aside0 (w'.heap[gb108]? = some (.cells #[.int .i64 t105, .int .i64 t106] 29 (0, 0))) ∧ Aside0 (w'.heap[gb111]? = some (.cells #[.int .i64 t109, .int .i64 t110] 29 (0, 0))) ∧ Aside0 (Below w.heap.size w w'))
          case atStart => exact ⟨(wrap64 (x5_2 + 2)), sd, H', ⟨Nat.le_refl _⟩, ⟨bk BK107⟩, ⟨bk BK108⟩, ⟨bk BK111⟩, ⟨bh⟩⟩
          case round =>
           clear H'
           (try clear c2); (try clear p2); (try clear c3); (try clear c4); (try clear c5); (try clear c6); (try clear p6); (try clear c28); (try clear c29); (try clear c32); (try clear c33); (try clear c34); (try clear c36); (try clear c41); (try clear c42); (try clear c44); (try clear c52); (try clear hcz30_0); (try clear hcz30_1); (try clear hcz35_0); (try clear hcz35_1); (try clear hcz37_0); (try clear hcz37_1); (try clear hcz38_0); (try clear hcz38_1); (try clear hcz43_0); (try clear hcz43_1); (try clear hcz45_0); (try clear hcz45_1); (try clear hcz46_0); (try clear hcz46_1); (try clear hcz48_0); (try clear hcz48_1); (try clear hcz49_0); (try clear hcz49_1); (try clear hcz50_0); (try clear hcz50_1); (try clear hfz30_0); (try clear hfz30_1); (try clear hfz35_0); (try clear hfz35_1); (try clear hfz37_0); (try clear hfz37_1); (try clear hfz38_0); (try clear hfz38_1); (try clear hfz43_0); (try clear hfz43_1); (try clear hfz45_0); (try clear hfz45_1); (try clear hfz46_0); (try clear hfz46_1); (try clear hfz48_0); (try clear hfz48_1); (try clear hfz49_0); (try clear hfz49_1); (try clear hfz50_0); (try clear hfz50_1); (try clear p2); (try clear p6)
           obtain ⟨x9_4, rfl, HA, HK4, BK107, BK108, BK111, HB⟩ := hrel
           cases gk with
           | zero => exact absurd HA.out (by simp [cracknelref04_Simple.l2])
           | succ k4 =>
            have H := HA.out
            clear HA
            simp only [cracknelref04_Simple.l2] at H
            by_cases c53 : x9_4 < (l0.length : Int)
            ·rw [if_pos c53] at H
             have c53b0 := decide_eq_true c53
             clear c53
             replace H := oj H
             obtain ⟨c54, H⟩ := H
             have c54b0 : ((l0.length : Int) == 0) = false := beq_eq_false_iff_ne.mpr c54
             have c54b1 : ((l0.length : Int) != 0) = true := bne_iff_ne.mpr c54
             have c54b2 : ¬ (l0 = []) := fun h_ => c54 (by rw [h_]; rfl)
             by_cases c55 : (Int.tmod (wrap64 (x9_4 + 1)) (l0.length : Int)) = x5_2
             ·rw [if_pos c55] at H
              have c55b0 : ((Int.tmod (wrap64 (x9_4 + 1)) (l0.length : Int)) == x5_2) = true := beq_iff_eq.mpr c55
              have c55b1 : ((Int.tmod (wrap64 (x9_4 + 1)) (l0.length : Int)) != x5_2) = false := bne_eq_false_iff_eq.mpr c55
              clear c55
              have H' := Aside0.mk H
              clear H
              try go_wp2
              replace BK107 := Aside0.mk (blk_drew BK107.out)
              replace BK108 := Aside0.mk (blk_drew BK108.out)
              replace BK111 := Aside0.mk (blk_drew BK111.out)
              replace HB := Aside0.mk (below_drew1 HB.out)
              refine start_ (n := 18) (S := fun w' => True) (ds := []) #[N,N,N,N,N,N,N,N,N,N,N,N,N,N,N,N,N,N] (by kernel_rfl) rfl rfl trivial (fun hHeld => ?_); refine with_tabW cracknelref04_Simple.tab17 cracknelref04_Simple.bits17 (fun HT_ HW_ => ?_)
              generalize wr.drew = w56 at BK107 BK108 BK111 HB hHeld ⊢
              refine pu 0 58 HT_ ?_
              refine pu 1 59 HT_ ?_
              refine pu 2 60 HT_ ?_
              refine pu 3 61 HT_ ?_
              refine pu 4 62 HT_ ?_
              refine pu 5 63 HT_ ?_
              refine pu 6 64 HT_ ?_
              refine pz 7 65 HT_ ?_
              refine pz 8 66 HT_ ?_
              refine pz 9 67 HT_ ?_
              refine pz 10 68 HT_ ?_
              refine pz 11 69 HT_ ?_
              refine pz 12 70 HT_ ?_
              refine pz 13 71 HT_ ?_
              refine pz 14 72 HT_ ?_
              refine pz 15 73 HT_ ?_
              refine pz 16 74 HT_ ?_
              refine pu 17 75 HT_ ?_
              refine done_ (done_of HT_.out (by kernel_rfl)) ?_
              try go_wp2
              go_roundg k4
              case measure => have := HK1.out; have := HK2.out; have := HJ15.out; have := HK4.out; omega
              case rel => exact ⟨(wrap64 (x9_4 + 1)), sd, H', ⟨by have := HK1.out; have := HK2.out; have := HJ15.out; have := HK4.out; omega⟩, ⟨bk BK107⟩, ⟨bk BK108⟩, ⟨bk BK111⟩, ⟨bh⟩⟩
             ·rw [if_neg c55] at H
              have c55b0 : ((Int.tmod (wrap64 (x9_4 + 1)) (l0.length : Int)) == x5_2) = false := beq_eq_false_iff_ne.mpr c55
              have c55b1 : ((Int.tmod (wrap64 (x9_4 + 1)) (l0.length : Int)) != x5_2) = true := bne_iff_ne.mpr c55
              replace H := oi H
              obtain ⟨c57, H⟩ := H
              have c57b0 := decide_eq_true c57
              clear c57
              replace H := oi H
              obtain ⟨c58, H⟩ := H
              have c58b0 := decide_eq_true c58
              clear c58
              replace H := Option.bind_eq_some_iff.mp H
              obtain ⟨⟨t115, t116⟩, A590, H⟩ := H
              try dsimp only at H
              have A59 := Aside0.mk A590
              clear A590
              replace H := Option.bind_eq_some_iff.mp H
              obtain ⟨t117, A600, H⟩ := H
              try dsimp only at H
              have A60 := Aside0.mk A600
              clear A600
              by_cases c61 : t117 = true
              ·subst c61
               rw [if_pos rfl] at H
               obtain rfl := Option.some.inj H
               try go_wp2
               replace BK107 := Aside0.mk (blk_drew BK107.out)
               replace BK108 := Aside0.mk (blk_drew BK108.out)
               replace BK111 := Aside0.mk (blk_drew BK111.out)
               replace HB := Aside0.mk (below_drew1 HB.out)
               have p114 : 0 ≤ (x9_4 : Int) := dt
               have q114 : x9_4 < (l0.length : Int) := dt
               obtain ⟨ad114, e114, hx114_0, hx114_1⟩ := at_T29 HR0.out x9_4 p114 q114
               have hw114_1 := hx114_1
               have hw114_0 := hx114_0
               obtain rfl : ad104 = ad114 := (by injection e114)
               replace hx114_0 := hc HB hx114_0
               replace hx114_1 := hc HB hx114_1
               replace p114 := eq_true p114
               replace q114 := eq_true q114
               refine start_ (n := 18) (S := fun w' => w'.cell? ⟨gb107, 0, none⟩ = some (.int .i64 ((rd_T29 l0 x5_2).f0)) ∧ w'.cell? ⟨gb107, 1, none⟩ = some (.int .i64 ((rd_T29 l0 x5_2).f1)) ∧ w'.cell? ⟨gb108, 0, none⟩ = some (.int .i64 t105) ∧ w'.cell? ⟨gb108, 1, none⟩ = some (.int .i64 t106) ∧ w'.cell? (ad104.add ((x9_4).toNat * 2)) = some (.int .i64 ((rd_T29 l0 x9_4).f0)) ∧ w'.cell? ⟨(ad104.add ((x9_4).toNat * 2)).block, (ad104.add ((x9_4).toNat * 2)).off + 1, none⟩ = some (.int .i64 ((rd_T29 l0 x9_4).f1))) (ds := []) #[N,N,N,N,N,N,N,N,N,N,N,N,N,N,N,N,N,N] (by kernel_rfl) rfl rfl ⟨bc BK107 0, bc BK107 1, bc BK108 0, bc BK108 1, (hc HB hw114_0), (hc HB hw114_1)⟩ (fun hHeld => ?_); refine with_tabW cracknelref04_Simple.tab17 cracknelref04_Simple.bits17 (fun HT_ HW_ => ?_)
               generalize wr.drew = w62 at BK107 BK108 BK111 HB hx114_0 hx114_1 hHeld ⊢
               refine pu 0 58 HT_ ?_
               refine pu 1 59 HT_ ?_
               refine pu 2 60 HT_ ?_
               refine pu 3 61 HT_ ?_
               refine pu 4 62 HT_ ?_
               refine pu 5 63 HT_ ?_
               refine pu 6 64 HT_ ?_
               refine pu 9 67 HT_ ?_
               refine pu 10 68 HT_ ?_
               refine pu 11 69 HT_ ?_
               refine pu 13 71 HT_ ?_
               refine pu 14 72 HT_ ?_
               refine tk6 7 65 hHeld HT_ HW_ ?_
               refine tk6 8 66 hHeld HT_ HW_ ?_
               refine tk6 12 70 hHeld HT_ HW_ ?_
               refine one_ (i := 15) (N := some 73) #[T,T,T,T,T,T,T,T,T,T,T,T,T,T,T,T,N,N] rfl rfl (on1 HT_) (by decide) (fun K hK => ?_)
               refine goes_ Try.func64 (by kernel_rfl) rfl #[.slice (some ad104) l0.length c0, .int .i64 x9_4] (by rfl) rfl rfl sg ?_
               with_reducible refine (cracknelref04_next.calls _ _ l0 x9_4 t115 t116 _ ?side1 ?side2 A59.out).mono ?_
               (case side1 => exact cs (Kd.C_below HR0.out HB.out))
               (case side2 => exact HC0.out)
               rintro e w63 ⟨rfl, hb⟩
               refine ⟨_, rfl, ?_⟩
               replace BK107 := kb BK107 hb
               replace BK108 := kb BK108 hb
               replace BK111 := kb BK111 hb
               replace HB := Aside0.mk (below_step bh hb)
               (try clear hb); (try clear hb2); (try clear hk); (try clear hi)
               refine hK.out _ _ ⟨bc BK107 0, bc BK107 1, bc BK108 0, bc BK108 1, (hc HB hw114_0), (hc HB hw114_1)⟩ (fun hHeld => ?_)
               clear hK K
               refine nm 73 ?_
               refine one_ (i := 16) (N := some 74) #[T,T,T,T,T,T,T,T,T,T,T,T,T,T,T,T,T,N] rfl rfl (on1 HT_) (by decide) (fun K hK => ?_)
               refine goes_ Try.func65 (by kernel_rfl) rfl #[.agg #[.int .i64 ((rd_T29 l0 x5_2).f0), .int .i64 ((rd_T29 l0 x5_2).f1)], .agg #[.int .i64 t105, .int .i64 t106], .agg #[.int .i64 ((rd_T29 l0 x9_4).f0), .int .i64 ((rd_T29 l0 x9_4).f1)], .agg #[.int .i64 t115, .int .i64 t116]] (by rfl) rfl rfl sg ?_
               with_reducible refine (cracknelref04_Meet.calls k4 ((rd_T29 l0 x5_2).f0) ((rd_T29 l0 x5_2).f1) t105 t106 ((rd_T29 l0 x9_4).f0) ((rd_T29 l0 x9_4).f1) t115 t116 true _ A60.out).mono ?_
               rintro e w64 ⟨rfl, hb⟩
               refine ⟨_, rfl, ?_⟩
               replace BK107 := kb BK107 hb
               replace BK108 := kb BK108 hb
               replace BK111 := kb BK111 hb
               replace HB := Aside0.mk (below_step bh hb)
               (try clear hb); (try clear hb2); (try clear hk); (try clear hi)
               refine hK.out _ _ ⟨bc BK107 0, bc BK107 1, bc BK108 0, bc BK108 1, (hc HB hw114_0), (hc HB hw114_1)⟩ (fun hHeld => ?_)
               clear hK K
               refine nm 74 ?_
               refine pu 17 75 HT_ ?_
               refine done_ (done_of HT_.out (by kernel_rfl)) ?_
               try go_wp2
               go_ret
               exact ⟨by exact er, bh⟩
              ·replace c61 := Bool.eq_false_iff.mpr c61
               subst c61
               rw [if_neg (show ¬ (false = true) by decide)] at H
               have H' := Aside0.mk H
               clear H
               try go_wp2
               replace BK107 := Aside0.mk (blk_drew BK107.out)
               replace BK108 := Aside0.mk (blk_drew BK108.out)
               replace BK111 := Aside0.mk (blk_drew BK111.out)
               replace HB := Aside0.mk (below_drew1 HB.out)
               have p114 : 0 ≤ (x9_4 : Int) := dt
               have q114 : x9_4 < (l0.length : Int) := dt
               obtain ⟨ad114, e114, hx114_0, hx114_1⟩ := at_T29 HR0.out x9_4 p114 q114
               have hw114_1 := hx114_1
               have hw114_0 := hx114_0
               obtain rfl : ad104 = ad114 := (by injection e114)
               replace hx114_0 := hc HB hx114_0
               replace hx114_1 := hc HB hx114_1
               replace p114 := eq_true p114
               replace q114 := eq_true q114
               refine start_ (n := 18) (S := fun w' => w'.cell? ⟨gb107, 0, none⟩ = some (.int .i64 ((rd_T29 l0 x5_2).f0)) ∧ w'.cell? ⟨gb107, 1, none⟩ = some (.int .i64 ((rd_T29 l0 x5_2).f1)) ∧ w'.cell? ⟨gb108, 0, none⟩ = some (.int .i64 t105) ∧ w'.cell? ⟨gb108, 1, none⟩ = some (.int .i64 t106) ∧ w'.cell? (ad104.add ((x9_4).toNat * 2)) = some (.int .i64 ((rd_T29 l0 x9_4).f0)) ∧ w'.cell? ⟨(ad104.add ((x9_4).toNat * 2)).block, (ad104.add ((x9_4).toNat * 2)).off + 1, none⟩ = some (.int .i64 ((rd_T29 l0 x9_4).f1))) (ds := []) #[N,N,N,N,N,N,N,N,N,N,N,N,N,N,N,N,N,N] (by kernel_rfl) rfl rfl ⟨bc BK107 0, bc BK107 1, bc BK108 0, bc BK108 1, (hc HB hw114_0), (hc HB hw114_1)⟩ (fun hHeld => ?_); refine with_tabW cracknelref04_Simple.tab17 cracknelref04_Simple.bits17 (fun HT_ HW_ => ?_)
               generalize wr.drew = w65 at BK107 BK108 BK111 HB hx114_0 hx114_1 hHeld ⊢
               refine pu 0 58 HT_ ?_
               refine pu 1 59 HT_ ?_
               refine pu 2 60 HT_ ?_
               refine pu 3 61 HT_ ?_
               refine pu 4 62 HT_ ?_
               refine pu 5 63 HT_ ?_
               refine pu 6 64 HT_ ?_
               refine pu 9 67 HT_ ?_
               refine pu 10 68 HT_ ?_
               refine pu 11 69 HT_ ?_
               refine pu 13 71 HT_ ?_
               refine pu 14 72 HT_ ?_
               refine tk6 7 65 hHeld HT_ HW_ ?_
               refine tk6 8 66 hHeld HT_ HW_ ?_
               refine tk6 12 70 hHeld HT_ HW_ ?_
               refine one_ (i := 15) (N := some 73) #[T,T,T,T,T,T,T,T,T,T,T,T,T,T,T,T,N,N] rfl rfl (on1 HT_) (by decide) (fun K hK => ?_)
               refine goes_ Try.func64 (by kernel_rfl) rfl #[.slice (some ad104) l0.length c0, .int .i64 x9_4] (by rfl) rfl rfl sg ?_
               with_reducible refine (cracknelref04_next.calls _ _ l0 x9_4 t115 t116 _ ?side1 ?side2 A59.out).mono ?_
               (case side1 => exact cs (Kd.C_below HR0.out HB.out))
               (case side2 => exact HC0.out)
               rintro e w66 ⟨rfl, hb⟩
               refine ⟨_, rfl, ?_⟩
               replace BK107 := kb BK107 hb
               replace BK108 := kb BK108 hb
               replace BK111 := kb BK111 hb
               replace HB := Aside0.mk (below_step bh hb)
               (try clear hb); (try clear hb2); (try clear hk); (try clear hi)
               refine hK.out _ _ ⟨bc BK107 0, bc BK107 1, bc BK108 0, bc BK108 1, (hc HB hw114_0), (hc HB hw114_1)⟩ (fun hHeld => ?_)
               clear hK K
               refine nm 73 ?_
               refine one_ (i := 16) (N := some 74) #[T,T,T,T,T,T,T,T,T,T,T,T,T,T,T,T,T,N] rfl rfl (on1 HT_) (by decide) (fun K hK => ?_)
               refine goes_ Try.func65 (by kernel_rfl) rfl #[.agg #[.int .i64 ((rd_T29 l0 x5_2).f0), .int .i64 ((rd_T29 l0 x5_2).f1)], .agg #[.int .i64 t105, .int .i64 t106], .agg #[.int .i64 ((rd_T29 l0 x9_4).f0), .int .i64 ((rd_T29 l0 x9_4).f1)], .agg #[.int .i64 t115, .int .i64 t116]] (by rfl) rfl rfl sg ?_
               with_reducible refine (cracknelref04_Meet.calls k4 ((rd_T29 l0 x5_2).f0) ((rd_T29 l0 x5_2).f1) t105 t106 ((rd_T29 l0 x9_4).f0) ((rd_T29 l0 x9_4).f1) t115 t116 false _ A60.out).mono ?_
               rintro e w67 ⟨rfl, hb⟩
               refine ⟨_, rfl, ?_⟩
               replace BK107 := kb BK107 hb
               replace BK108 := kb BK108 hb
               replace BK111 := kb BK111 hb
               replace HB := Aside0.mk (below_step bh hb)
               (try clear hb); (try clear hb2); (try clear hk); (try clear hi)
               refine hK.out _ _ ⟨bc BK107 0, bc BK107 1, bc BK108 0, bc BK108 1, (hc HB hw114_0), (hc HB hw114_1)⟩ (fun hHeld => ?_)
               clear hK K
               refine nm 74 ?_
               refine pu 17 75 HT_ ?_
               refine done_ (done_of HT_.out (by kernel_rfl)) ?_
               try go_wp2
               go_roundg k4
               case measure => have := HK1.out; have := HK2.out; have := HJ15.out; have := HK4.out; omega
               case rel => exact ⟨(wrap64 (x9_4 + 1)), sd, H', ⟨by have := HK1.out; have := HK2.out; have := HJ15.out; have := HK4.out; omega⟩, ⟨bk BK107⟩, ⟨bk BK108⟩, ⟨bk BK111⟩, ⟨bh⟩⟩
            ·rw [if_neg c53] at H
             have c53b0 := decide_eq_false c53
             clear c53
             have H' := Aside0.mk H
             clear H
             go_wp2
             go_roundg k4
             case measure => have := HK1.out; have := HK2.out; have := HJ15.out; have := HK4.out; omega
             case rel => exact ⟨(wrap64 (x5_2 + 1)), sd, H', ⟨by have := HK1.out; have := HK2.out; have := HJ15.out; have := HK4.out; omega⟩, ⟨bh⟩⟩
      ·rw [if_neg c11] at H
       have c11b0 := decide_eq_false c11
       clear c11
       obtain rfl := Option.some.inj H
       go_wp2
       go_ret
       exact ⟨by exact er, bh⟩
/-! ### cracknelref04_first: function 60 -/
def cracknelref04_first.f (a0_0 : Int) (a0_1 : Int) (a1_0 : Int) (a1_1 : Int) : Option (Bool) := if a0_1 < a1_1 then (some true) else (if a0_1 = a1_1 then (some (decide (a0_0 < a1_0))) else (some false))
set_option maxHeartbeats 8000000 in
set_option maxRecDepth 100000 in
theorem cracknelref04_first.calls (a0_0 : Int) (a0_1 : Int) (a1_0 : Int) (a1_1 : Int) (r : Bool) (w : World) (h : cracknelref04_first.f a0_0 a0_1 a1_0 a1_1 = some r) :
  Calls Try.prog 60 #[.agg #[.int .i64 a0_0, .int .i64 a0_1], .agg #[.int .i64 a1_0, .int .i64 a1_1]] w fun e w' => e = .returned (.bool r) ∧ Below w.heap.size w w' := by
 have hu29 := Try.underlying29
 have HB := Aside0.mk (Below.refl w.heap.size w)
 have H : (if a0_1 < a1_1 then (some true) else (if a0_1 = a1_1 then (some (decide (a0_0 < a1_0))) else (some false))) = some r := h
 clear h
 by_cases c3 : a0_1 < a1_1
 ·rw [if_pos c3] at H
  have c3b0 := decide_eq_true c3
  clear c3
  obtain rfl := Option.some.inj H
  go_enter Try.func60, Try.ntmps60
  go_wp2_with (first | ((with_reducible refine gate_dst (N := 2) rfl ?_); refine bxe 2 #[.int .i64 a0_0, .int .i64 a0_1] 29 ?_; intro gb101 hg w4 hbox hb; have BK101 := Aside0.mk (hbox); have GW101 := Aside0.mk (gs hg : w.heap.size ≤ gb101); have GE101 := Aside0.mk (gs hg : w.heap.size ≤ gb101); replace HB := Aside0.mk (below_step bh hb); clear hb hbox hg) | ((with_reducible refine gate_dst (N := 3) rfl ?_); refine bxe 3 #[.int .i64 a1_0, .int .i64 a1_1] 29 ?_; intro gb102 hg w5 hbox hb; have BK102 := Aside0.mk (hbox); have GW102 := Aside0.mk (gs hg : w.heap.size ≤ gb102); have GE102 := Aside0.mk (gs hg : w.heap.size ≤ gb102); have NB101_102 := Aside0.mk ((by rw [hg]; exact Nat.ne_of_lt (kl BK101) : gb101 ≠ gb102)); have NB102_101 := Aside0.mk ((by rw [hg]; exact Nat.ne_of_gt (kl BK101) : gb102 ≠ gb101)); replace BK101 := kb BK101 hb; replace HB := Aside0.mk (below_step bh hb); clear hb hbox hg; have hnb6 := NB101_102.out; have hnc6 := NB102_101.out; have hcz7_0 : w5.cell? ⟨gb101, 0, none⟩ = some (.int .i64 a0_0) := bc BK101 0; have hcz7_1 : w5.cell? ⟨gb101, 1, none⟩ = some (.int .i64 a0_1) := bc BK101 1; have hfz7_0 := blk_frozen BK101.out 0; have hfz7_1 := blk_frozen BK101.out 1; have hcz8_0 : w5.cell? ⟨gb102, 0, none⟩ = some (.int .i64 a1_0) := bc BK102 0; have hcz8_1 : w5.cell? ⟨gb102, 1, none⟩ = some (.int .i64 a1_1) := bc BK102 1; have hfz8_0 := blk_frozen BK102.out 0; have hfz8_1 := blk_frozen BK102.out 1))
  go_ret
  exact ⟨by exact er, bh⟩
 ·rw [if_neg c3] at H
  have c3b0 := decide_eq_false c3
  clear c3
  by_cases c9 : a0_1 = a1_1
  ·rw [if_pos c9] at H
   have c9b0 : (a0_1 == a1_1) = true := beq_iff_eq.mpr c9
   have c9b1 : (a0_1 != a1_1) = false := bne_eq_false_iff_eq.mpr c9
   clear c9
   obtain rfl := Option.some.inj H
   go_enter Try.func60, Try.ntmps60
   go_wp2_with (first | ((with_reducible refine gate_dst (N := 2) rfl ?_); refine bxe 2 #[.int .i64 a0_0, .int .i64 a0_1] 29 ?_; intro gb101 hg w10 hbox hb; have BK101 := Aside0.mk (hbox); have GW101 := Aside0.mk (gs hg : w.heap.size ≤ gb101); have GE101 := Aside0.mk (gs hg : w.heap.size ≤ gb101); replace HB := Aside0.mk (below_step bh hb); clear hb hbox hg) | ((with_reducible refine gate_dst (N := 3) rfl ?_); refine bxe 3 #[.int .i64 a1_0, .int .i64 a1_1] 29 ?_; intro gb102 hg w11 hbox hb; have BK102 := Aside0.mk (hbox); have GW102 := Aside0.mk (gs hg : w.heap.size ≤ gb102); have GE102 := Aside0.mk (gs hg : w.heap.size ≤ gb102); have NB101_102 := Aside0.mk ((by rw [hg]; exact Nat.ne_of_lt (kl BK101) : gb101 ≠ gb102)); have NB102_101 := Aside0.mk ((by rw [hg]; exact Nat.ne_of_gt (kl BK101) : gb102 ≠ gb101)); replace BK101 := kb BK101 hb; replace HB := Aside0.mk (below_step bh hb); clear hb hbox hg; have hnb12 := NB101_102.out; have hnc12 := NB102_101.out; have hcz13_0 : w11.cell? ⟨gb101, 0, none⟩ = some (.int .i64 a0_0) := bc BK101 0; have hcz13_1 : w11.cell? ⟨gb101, 1, none⟩ = some (.int .i64 a0_1) := bc BK101 1; have hfz13_0 := blk_frozen BK101.out 0; have hfz13_1 := blk_frozen BK101.out 1; have hcz14_0 : w11.cell? ⟨gb102, 0, none⟩ = some (.int .i64 a1_0) := bc BK102 0; have hcz14_1 : w11.cell? ⟨gb102, 1, none⟩ = some (.int .i64 a1_1) := bc BK102 1; have hfz14_0 := blk_frozen BK102.out 0; have hfz14_1 := blk_frozen BK102.out 1))
   go_ret
   exact ⟨by exact er, bh⟩
  ·rw [if_neg c9] at H
   have c9b0 : (a0_1 == a1_1) = false := beq_eq_false_iff_ne.mpr c9
   have c9b1 : (a0_1 != a1_1) = true := bne_iff_ne.mpr c9
   obtain rfl := Option.some.inj H
   go_enter Try.func60, Try.ntmps60
   go_wp2_with (first | ((with_reducible refine gate_dst (N := 2) rfl ?_); refine bxe 2 #[.int .i64 a0_0, .int .i64 a0_1] 29 ?_; intro gb101 hg w15 hbox hb; have BK101 := Aside0.mk (hbox); have GW101 := Aside0.mk (gs hg : w.heap.size ≤ gb101); have GE101 := Aside0.mk (gs hg : w.heap.size ≤ gb101); replace HB := Aside0.mk (below_step bh hb); clear hb hbox hg) | ((with_reducible refine gate_dst (N := 3) rfl ?_); refine bxe 3 #[.int .i64 a1_0, .int .i64 a1_1] 29 ?_; intro gb102 hg w16 hbox hb; have BK102 := Aside0.mk (hbox); have GW102 := Aside0.mk (gs hg : w.heap.size ≤ gb102); have GE102 := Aside0.mk (gs hg : w.heap.size ≤ gb102); have NB101_102 := Aside0.mk ((by rw [hg]; exact Nat.ne_of_lt (kl BK101) : gb101 ≠ gb102)); have NB102_101 := Aside0.mk ((by rw [hg]; exact Nat.ne_of_gt (kl BK101) : gb102 ≠ gb101)); replace BK101 := kb BK101 hb; replace HB := Aside0.mk (below_step bh hb); clear hb hbox hg; have hnb17 := NB101_102.out; have hnc17 := NB102_101.out; have hcz18_0 : w16.cell? ⟨gb101, 0, none⟩ = some (.int .i64 a0_0) := bc BK101 0; have hcz18_1 : w16.cell? ⟨gb101, 1, none⟩ = some (.int .i64 a0_1) := bc BK101 1; have hfz18_0 := blk_frozen BK101.out 0; have hfz18_1 := blk_frozen BK101.out 1; have hcz19_0 : w16.cell? ⟨gb102, 0, none⟩ = some (.int .i64 a1_0) := bc BK102 0; have hcz19_1 : w16.cell? ⟨gb102, 1, none⟩ = some (.int .i64 a1_1) := bc BK102 1; have hfz19_0 := blk_frozen BK102.out 0; have hfz19_1 := blk_frozen BK102.out 1))
   go_ret
   exact ⟨by exact er, bh⟩
attribute [local go_sem high] eqA29
/-! ### cracknelref04_Hull: function 19 -/
mutual
def cracknelref04_Hull.l0 : Nat → List (S29) → Bool → Int → Int → Int → Option ((List (S29)) × Bool)
 | 0, _, _, _, _, _ => none
 | k + 1, x0, x4, x6, x103000, x103001 => if x6 < (x0.length : Int) then (if 0 ≤ x6 then ((cracknelref04_first.f ((rd_T29 x0 x6).f0) ((rd_T29 x0 x6).f1) x103000 x103001).bind fun t104 => (if t104 = true then (cracknelref04_Hull.j1 k x0 x4 x6 ((rd_T29 x0 x6).f0) ((rd_T29 x0 x6).f1)) else (cracknelref04_Hull.j1 k x0 x4 x6 x103000 x103001))) else (none)) else (if x4 = true then (some (([] : List (S29)), false)) else (cracknelref04_Hull.l2 k x0 (([(⟨x103000, x103001⟩ : S29)] : List (S29))) x103000 x103001))
def cracknelref04_Hull.j1 : Nat → List (S29) → Bool → Int → Int → Int → Option ((List (S29)) × Bool)
 | 0, _, _, _, _, _ => none
 | k + 1, x0, x4, x6, x103000, x103001 => cracknelref04_Hull.l1 k x0 x4 x6 0 x103000 x103001
def cracknelref04_Hull.l1 : Nat → List (S29) → Bool → Int → Int → Int → Int → Option ((List (S29)) × Bool)
 | 0, _, _, _, _, _, _ => none
 | k + 1, x0, x4, x6, x7, x103000, x103001 => if x7 < (x0.length : Int) then (if x4 = true then (if 0 < (x0.length : Int) then (if 0 ≤ x6 then (if x6 < (x0.length : Int) then (if 0 ≤ x7 then ((cracknelref04_Cross.f ((rd_T29 x0 0).f0) ((rd_T29 x0 0).f1) ((rd_T29 x0 x6).f0) ((rd_T29 x0 x6).f1) ((rd_T29 x0 x7).f0) ((rd_T29 x0 x7).f1)).bind fun t109 => (cracknelref04_Hull.l1 k x0 (t109 == 0) x6 (wrap64 (x7 + 1)) x103000 x103001)) else (none)) else (none)) else (none)) else (none)) else (cracknelref04_Hull.l0 k x0 x4 (wrap64 (x6 + 1)) x103000 x103001)) else (cracknelref04_Hull.l0 k x0 x4 (wrap64 (x6 + 1)) x103000 x103001)
def cracknelref04_Hull.l2 : Nat → List (S29) → List (S29) → Int → Int → Option ((List (S29)) × Bool)
 | 0, _, _, _, _ => none
 | k + 1, x0, x8, x103000, x103001 => if 0 ≤ (wrap64 ((x8.length : Int) - 1)) then (if (wrap64 ((x8.length : Int) - 1)) < (x8.length : Int) then (cracknelref04_Hull.l3 k x0 x8 0 x103000 x103001 ((rd_T29 x8 (wrap64 ((x8.length : Int) - 1))).f0) ((rd_T29 x8 (wrap64 ((x8.length : Int) - 1))).f1) ((rd_T29 x8 (wrap64 ((x8.length : Int) - 1))).f0) ((rd_T29 x8 (wrap64 ((x8.length : Int) - 1))).f1)) else (none)) else (none)
def cracknelref04_Hull.l3 : Nat → List (S29) → List (S29) → Int → Int → Int → Int → Int → Int → Int → Option ((List (S29)) × Bool)
 | 0, _, _, _, _, _, _, _, _, _ => none
 | k + 1, x0, x8, x11, x103000, x103001, x115000, x115001, x116000, x116001 => if x11 < (x0.length : Int) then (if 0 ≤ x11 then (if (((rd_T29 x0 x11).f0) == x115000 && (((rd_T29 x0 x11).f1) == x115001)) = true then (cracknelref04_Hull.l3 k x0 x8 (wrap64 (x11 + 1)) x103000 x103001 x115000 x115001 x116000 x116001) else ((cracknelref04_Cross.f x115000 x115001 x116000 x116001 ((rd_T29 x0 x11).f0) ((rd_T29 x0 x11).f1)).bind fun t118 => (if (x116000 == x115000 && (x116001 == x115001)) = true then (cracknelref04_Hull.j5 k x0 x8 x11 true x103000 x103001 x115000 x115001 x116000 x116001 ((rd_T29 x0 x11).f0) ((rd_T29 x0 x11).f1)) else (if t118 < 0 then (cracknelref04_Hull.j5 k x0 x8 x11 true x103000 x103001 x115000 x115001 x116000 x116001 ((rd_T29 x0 x11).f0) ((rd_T29 x0 x11).f1)) else (if t118 = 0 then ((cracknelref04_On.f x115000 x115001 ((rd_T29 x0 x11).f0) ((rd_T29 x0 x11).f1) x116000 x116001).bind fun t119 => (cracknelref04_Hull.j5 k x0 x8 x11 t119 x103000 x103001 x115000 x115001 x116000 x116001 ((rd_T29 x0 x11).f0) ((rd_T29 x0 x11).f1))) else (cracknelref04_Hull.j5 k x0 x8 x11 false x103000 x103001 x115000 x115001 x116000 x116001 ((rd_T29 x0 x11).f0) ((rd_T29 x0 x11).f1))))))) else (none)) else (if (x116000 == x103000 && (x116001 == x103001)) = true then (some (x8, true)) else (if x8.length < 8796093022208 then (cracknelref04_Hull.l2 k x0 (x8 ++ [(⟨x116000, x116001⟩ : S29)]) x103000 x103001) else (none)))
def cracknelref04_Hull.j5 : Nat → List (S29) → List (S29) → Int → Bool → Int → Int → Int → Int → Int → Int → Int → Int → Option ((List (S29)) × Bool)
 | 0, _, _, _, _, _, _, _, _, _, _, _, _ => none
 | k + 1, x0, x8, x11, x98, x103000, x103001, x115000, x115001, x116000, x116001, x118000, x118001 => if x98 = true then (cracknelref04_Hull.l3 k x0 x8 (wrap64 (x11 + 1)) x103000 x103001 x115000 x115001 x118000 x118001) else (cracknelref04_Hull.l3 k x0 x8 (wrap64 (x11 + 1)) x103000 x103001 x115000 x115001 x116000 x116001)
end
def cracknelref04_Hull.f (k : Nat) (l0 : List (S29)) : Option ((List (S29)) × Bool) := if 0 < (l0.length : Int) then (cracknelref04_Hull.l0 k l0 true 0 ((rd_T29 l0 0).f0) ((rd_T29 l0 0).f1)) else (none)
def cracknelref04_Hull.T11 : Bool × List (List Nat × List Nat) := (true, [([], []), ([0], [0]), ([1], [1]), ([], []), ([], []), ([3, 4], [3, 4]), ([5], [5]), ([], []), ([], []), ([7, 8], [7, 8]), ([9], [9]), ([2, 6, 10], [2, 6, 10]), ([11], [11]), ([12, 11, 0, 1, 2, 3, 4, 5, 6, 7, 8, 9, 10, 11, 12], [12])])
def cracknelref04_Hull.B11 : List Nat := [0, 1, 3, 0, 0, 24, 56, 0, 0, 384, 896, 2047, 4095, 8191]
theorem cracknelref04_Hull.tab11 : rtab .any (opsOf Try.f19 11) = cracknelref04_Hull.T11 := by kernel_rfl
theorem cracknelref04_Hull.bits11 : waitsOk cracknelref04_Hull.T11.2 cracknelref04_Hull.B11 = true := by kernel_rfl
set_option maxHeartbeats 8000000 in
set_option maxRecDepth 100000 in
theorem cracknelref04_Hull.calls (k : Nat) (A0 : Option Addr) (c0 : Nat) (l0 : List (S29)) (r1 : List (S29)) (r2 : Bool) (w : World) (hr0 : Kd.C k29 w A0 l0.length l0) (hc0 : l0.length ≤ c0) (h : cracknelref04_Hull.f k l0 = some (r1, r2)) :
  Calls Try.prog 19 #[.slice A0 l0.length c0] w fun e w' => ∃ v0_ : Value, e = .returned (.tuple #[v0_, .bool r2]) ∧ Kd.R k29 29 w' w.heap.size (fun _ => True) v0_ r1 ∧ Below w.heap.size w w' := by
 have hu29 := Try.underlying29
 have HR0 := Aside0.mk hr0
 have HC0 := Aside0.mk hc0
 clear hr0 hc0
 have HB := Aside0.mk (Below.refl w.heap.size w)
 have H : (if 0 < (l0.length : Int) then (cracknelref04_Hull.l0 k l0 true 0 ((rd_T29 l0 0).f0) ((rd_T29 l0 0).f1)) else (none)) = some (r1, r2) := h
 clear h
 replace H := oi H
 obtain ⟨c2, H⟩ := H
 have c2b0 := decide_eq_true c2
 have c2b1 : decide (0 < l0.length) = true := decide_eq_true (by omega)
 clear c2
 have H' := Aside0.mk H
 clear H
 have p101 : 0 ≤ (0 : Int) := (by omega)
 have q101 : 0 < (l0.length : Int) := dt
 obtain ⟨ad101, e101, hx101_0, hx101_1⟩ := at_T29 HR0.out 0 p101 q101
 cases e101
 have qi101 : (0 < l0.length) = True := eq_true (by omega)
 (try rw [show ((0 : Int)).toNat = 0 from rfl] at hx101_0)
 (try rw [show 0 * 2 = 0 from rfl] at hx101_0)
 (try rw [Addr.add_zero'] at hx101_0)
 (try rw [show ((0 : Int)).toNat = 0 from rfl] at hx101_1)
 (try rw [show 0 * 2 = 0 from rfl] at hx101_1)
 (try rw [Addr.add_zero'] at hx101_1)
 replace p101 := eq_true p101
 replace q101 := eq_true q101
 go_enter Try.func19, Try.ntmps19
 go_wp2_with (first | ((with_reducible refine gate_dst (N := 5) rfl ?_); refine bxe 5 #[.int .i64 0, .int .i64 0] 29 ?_; intro gb102 hg w3 hbox hb; have BK102 := Aside0.mk (hbox); have GW102 := Aside0.mk (gs hg : w.heap.size ≤ gb102); have GE102 := Aside0.mk (gs hg : w.heap.size ≤ gb102); replace HB := Aside0.mk (below_step bh hb); clear hb hbox hg; have hcz4_0 : w3.cell? ⟨gb102, 0, none⟩ = some (.int .i64 0) := bc BK102 0; have hcz4_1 : w3.cell? ⟨gb102, 1, none⟩ = some (.int .i64 0) := bc BK102 1; have hfz4_0 := blk_frozen BK102.out 0; have hfz4_1 := blk_frozen BK102.out 1))
 go_loopg [4, 6] k (fun kq v4 v6 w' => ∃ (x4_1 : Bool) (x6_1 : Int) (x103000_1 : Int) (x103001_1 : Int), v4 = .bool x4_1 ∧ v6 = .int .i64 x6_1 ∧ Aside0 (cracknelref04_Hull.l0 kq l0 x4_1 x6_1 x103000_1 x103001_1 = some (r1, r2)) ∧ Aside0 (kq ≤ k) ∧ Aside0 (w'.heap[gb102]? = some (.cells #[.int .i64 x103000_1, .int .i64 x103001_1] 29 (0, 0))) ∧ Aside0 (Below w.heap.size w w'))
 case atStart => exact ⟨(true), (0), ((rd_T29 l0 0).f0), ((rd_T29 l0 0).f1), sd, sd, H', ⟨Nat.le_refl _⟩, ⟨by refine bd ?_; refine blk_put (cs := #[.int .i64 ((rd_T29 l0 0).f0), .int .i64 0]) ?_ 1 _ rfl; refine bd ?_; refine blk_put (cs := #[.int .i64 0, .int .i64 0]) ?_ 0 _ rfl; refine bd ?_; exact BK102.out⟩, ⟨bh⟩⟩
 case round =>
  clear H'
  (try clear c1); (try clear p1); (try clear q1); (try clear hx1); (try clear qi1); (try clear c2); (try clear c2b0); (try clear c2b1); (try clear p2); (try clear hcz4_0); (try clear hcz4_1); (try clear hfz4_0); (try clear hfz4_1); (try clear hx101_0); (try clear hx101_1); (try clear p101); (try clear q101)
  obtain ⟨x4_1, x6_1, x103000_1, x103001_1, rfl, rfl, HA, HK1, BK102, HB⟩ := hrel
  cases gk with
  | zero => exact absurd HA.out (by simp [cracknelref04_Hull.l0])
  | succ k1 =>
   have H := HA.out
   clear HA
   simp only [cracknelref04_Hull.l0] at H
   by_cases c5 : x6_1 < (l0.length : Int)
   ·rw [if_pos c5] at H
    have c5b0 := decide_eq_true c5
    clear c5
    replace H := oi H
    obtain ⟨c6, H⟩ := H
    have c6b0 := decide_eq_true c6
    clear c6
    replace H := Option.bind_eq_some_iff.mp H
    obtain ⟨t104, A70, H⟩ := H
    replace H : (if t104 = true then (cracknelref04_Hull.j1 k1 l0 x4_1 x6_1 ((rd_T29 l0 x6_1).f0) ((rd_T29 l0 x6_1).f1)) else (cracknelref04_Hull.j1 k1 l0 x4_1 x6_1 x103000_1 x103001_1)) = some (r1, r2) := H
    have A7 := Aside0.mk A70
    clear A70
    have HC8 := Aside0.mk H
    clear H
    try go_wp2
    replace BK102 := Aside0.mk (blk_drew BK102.out)
    replace HB := Aside0.mk (below_drew1 HB.out)
    have p103 : 0 ≤ (x6_1 : Int) := dt
    have q103 : x6_1 < (l0.length : Int) := dt
    obtain ⟨ad103, e103, hx103_0, hx103_1⟩ := at_T29 HR0.out x6_1 p103 q103
    have hw103_1 := hx103_1
    have hw103_0 := hx103_0
    obtain rfl : ad101 = ad103 := (by injection e103)
    replace hx103_0 := hc HB hx103_0
    replace hx103_1 := hc HB hx103_1
    replace p103 := eq_true p103
    replace q103 := eq_true q103
    refine start_ (n := 6) (S := fun w' => w'.cell? ⟨gb102, 0, none⟩ = some (.int .i64 x103000_1) ∧ w'.cell? ⟨gb102, 1, none⟩ = some (.int .i64 x103001_1) ∧ w'.cell? (ad101.add ((x6_1).toNat * 2)) = some (.int .i64 ((rd_T29 l0 x6_1).f0)) ∧ w'.cell? ⟨(ad101.add ((x6_1).toNat * 2)).block, (ad101.add ((x6_1).toNat * 2)).off + 1, none⟩ = some (.int .i64 ((rd_T29 l0 x6_1).f1))) (ds := []) #[N,N,N,N,N,N] (by kernel_rfl) rfl rfl ⟨bc BK102 0, bc BK102 1, (hc HB hw103_0), (hc HB hw103_1)⟩ (fun hHeld => ?_)
    generalize wr.drew = w9 at BK102 HB hx103_0 hx103_1 hHeld ⊢
    refine pure_ (i := 0) (N := some 23) (v := ?_) (a' := ?_) #[T,N,N,N,N,N] rfl rfl (by kernel_rfl) (fun _ _ _ h => h) (Or.inl ⟨by rfl, ?_⟩) ?_ ?_
    rotate_left
    ·intro w'
     go_simp
     with_reducible rfl
    rotate_left
    ·simp only [Act.put, List.setIfInBounds_toArray, List.set_cons_zero, List.set_cons_succ, i64_w, i32_w]
     rfl
    refine pure_ (i := 1) (N := some 24) (v := ?_) (a' := ?_) #[T,T,N,N,N,N] rfl rfl (by kernel_rfl) (fun _ _ _ h => h) (Or.inl ⟨by rfl, ?_⟩) ?_ ?_
    rotate_left
    ·intro w'
     go_simp
     with_reducible rfl
    rotate_left
    ·simp only [Act.put, List.setIfInBounds_toArray, List.set_cons_zero, List.set_cons_succ, i64_w, i32_w]
     rfl
    refine pure_ (i := 2) (N := some 25) (v := ?_) (a' := ?_) #[T,T,T,N,N,N] rfl rfl (by kernel_rfl) (fun _ _ _ h => h) (Or.inl ⟨by rfl, ?_⟩) ?_ ?_
    rotate_left
    ·intro w'
     go_simp
     with_reducible rfl
    rotate_left
    ·simp only [Act.put, List.setIfInBounds_toArray, List.set_cons_zero, List.set_cons_succ, i64_w, i32_w]
     rfl
    refine take_ (i := 3) (N := some 26) (v := ?_) (a' := ?_) #[T,T,T,T,N,N] rfl rfl (by kernel_rfl) (fun _ _ _ h => h) (Or.inl ⟨by rfl, ?_⟩) hHeld ?_ ?_
    rotate_left
    ·rintro w' ⟨s0, s1, s2, s3⟩
     go_simp
     with_reducible rfl
    rotate_left
    ·simp only [Act.put, List.setIfInBounds_toArray, List.set_cons_zero, List.set_cons_succ, i64_w, i32_w]
     rfl
    refine take_ (i := 4) (N := some 27) (v := ?_) (a' := ?_) #[T,T,T,T,T,N] rfl rfl (by kernel_rfl) (fun _ _ _ h => h) (Or.inl ⟨by rfl, ?_⟩) hHeld ?_ ?_
    rotate_left
    ·rintro w' ⟨s0, s1, s2, s3⟩
     go_simp
     with_reducible rfl
    rotate_left
    ·simp only [Act.put, List.setIfInBounds_toArray, List.set_cons_zero, List.set_cons_succ, i64_w, i32_w]
     rfl
    refine one_ (i := 5) (N := some 28) #[T,T,T,T,T,T] rfl rfl (by kernel_rfl) (by decide) (fun K hK => ?_)
    refine goes_ Try.func60 (by kernel_rfl) rfl #[.agg #[.int .i64 ((rd_T29 l0 x6_1).f0), .int .i64 ((rd_T29 l0 x6_1).f1)], .agg #[.int .i64 x103000_1, .int .i64 x103001_1]] (by rfl) rfl rfl sg ?_
    with_reducible refine (cracknelref04_first.calls ((rd_T29 l0 x6_1).f0) ((rd_T29 l0 x6_1).f1) x103000_1 x103001_1 t104 _ A7.out).mono ?_
    rintro e w10 ⟨rfl, hb⟩
    refine ⟨_, rfl, ?_⟩
    replace BK102 := kb BK102 hb
    replace HB := Aside0.mk (below_step bh hb)
    (try clear hb); (try clear hb2); (try clear hk); (try clear hi)
    refine hK.out _ _ ⟨bc BK102 0, bc BK102 1, (hc HB hw103_0), (hc HB hw103_1)⟩ (fun hHeld => ?_)
    clear hK K
    refine nm 28 ?_
    refine done_ (by kernel_rfl) ?_
    go_upto_if 28 with (fail)
    go_cut [] (fun wc => ∃ (kq : Nat) (x103000_7 : Int) (x103001_7 : Int), Aside0 (cracknelref04_Hull.j1 kq l0 x4_1 x6_1 x103000_7 x103001_7 = some (r1, r2)) ∧ Aside0 (kq ≤ k1) ∧ Aside0 (wc.heap[gb102]? = some (.cells #[.int .i64 x103000_7, .int .i64 x103001_7] 29 (0, 0))) ∧ Aside0 (Below w.heap.size w wc))
    case first =>
     have H := HC8.out
     clear HC8
     by_cases c11 : t104 = true
     ·subst c11
      rw [if_pos rfl] at H
      have H' := Aside0.mk H
      clear H
      have p105 : 0 ≤ (x6_1 : Int) := dt
      have q105 : x6_1 < (l0.length : Int) := dt
      obtain ⟨ad105, e105, hx105_0, hx105_1⟩ := at_T29 HR0.out x6_1 p105 q105
      obtain rfl : ad101 = ad105 := (by injection e105)
      replace hx105_0 := hc HB hx105_0
      replace hx105_1 := hc HB hx105_1
      replace p105 := eq_true p105
      replace q105 := eq_true q105
      obtain ⟨hcz12_0, hcz12_1, hfz12_0, hfz12_1⟩ := b2 BK102
      go_wp2
      go_meet
      case rel => exact ⟨_, ((rd_T29 l0 x6_1).f0), ((rd_T29 l0 x6_1).f1), H', ⟨by have := HK1.out; first | omega | exact Nat.le_refl _⟩, ⟨by refine bd ?_; refine blk_put (cs := #[.int .i64 ((rd_T29 l0 x6_1).f0), .int .i64 x103001_1]) ?_ 1 _ rfl; refine bd ?_; refine blk_put (cs := #[.int .i64 x103000_1, .int .i64 x103001_1]) ?_ 0 _ rfl; refine bd ?_; exact BK102.out⟩, ⟨bh⟩⟩
     ·replace c11 := Bool.eq_false_iff.mpr c11
      subst c11
      rw [if_neg (show ¬ (false = true) by decide)] at H
      have H' := Aside0.mk H
      clear H
      go_wp2
      go_meet
      case rel => exact ⟨_, (x103000_1), (x103001_1), H', ⟨by have := HK1.out; first | omega | exact Nat.le_refl _⟩, ⟨bk BK102⟩, ⟨bh⟩⟩
    case rest =>
     clear HC8
     (try clear c1); (try clear p1); (try clear q1); (try clear hx1); (try clear qi1); (try clear c2); (try clear c2b0); (try clear c2b1); (try clear p2); (try clear c5); (try clear c5b0); (try clear c6); (try clear c6b0); (try clear p10); (try clear q10); (try clear hx10); (try clear qi10); (try clear c11); (try clear hcz12_0); (try clear hcz12_1); (try clear hcz4_0); (try clear hcz4_1); (try clear hfz12_0); (try clear hfz12_1); (try clear hfz4_0); (try clear hfz4_1); (try clear hx101_0); (try clear hx101_1); (try clear hx103_0); (try clear hx103_1); (try clear hx105_0); (try clear hx105_1); (try clear p1); (try clear p101); (try clear p103); (try clear p105); (try clear p2); (try clear q1); (try clear q101); (try clear q103); (try clear q105)
     obtain ⟨kq, x103000_7, x103001_7, HA, HJ7, BK102, HB⟩ := hcut
     cases kq with
     | zero => exact absurd HA.out (by simp [cracknelref04_Hull.j1])
     | succ kj7 =>
      have H := HA.out
      clear HA
      simp only [cracknelref04_Hull.j1] at H
      have H' := Aside0.mk H
      clear H
      go_wp2
      go_loopg [4, 7] kj7 (fun kq v4 v7 w' => ∃ (x4_3 : Bool) (x7_3 : Int), v4 = .bool x4_3 ∧ v7 = .int .i64 x7_3 ∧ Aside0 (cracknelref04_Hull.l1 kq l0 x4_3 x6_1 x7_3 x103000_7 x103001_7 = some (r1, r2)) ∧ Aside0 (kq ≤ kj7) ∧ Aside0 (w'.heap[gb102]? = some (.cells #[.int .i64 x103000_7, .int .i64 x103001_7] 29 (0, 0))) ∧ Aside0 (Below w.heap.size w w'))
      case atStart => exact ⟨(x4_1), (0), sd, sd, H', ⟨Nat.le_refl _⟩, ⟨bk BK102⟩, ⟨bh⟩⟩
      case round =>
       clear H'
       (try clear c1); (try clear p1); (try clear q1); (try clear hx1); (try clear qi1); (try clear c2); (try clear c2b0); (try clear c2b1); (try clear p2); (try clear c5); (try clear c5b0); (try clear c6); (try clear c6b0); (try clear p10); (try clear q10); (try clear hx10); (try clear qi10); (try clear c11); (try clear hcz12_0); (try clear hcz12_1); (try clear hcz4_0); (try clear hcz4_1); (try clear hfz12_0); (try clear hfz12_1); (try clear hfz4_0); (try clear hfz4_1); (try clear hx101_0); (try clear hx101_1); (try clear hx103_0); (try clear hx103_1); (try clear hx105_0); (try clear hx105_1); (try clear p1); (try clear p10); (try clear p101); (try clear p103); (try clear p105); (try clear p2); (try clear q1); (try clear q10); (try clear q101); (try clear q103); (try clear q105)
       obtain ⟨x4_3, x7_3, rfl, rfl, HA, HK3, BK102, HB⟩ := hrel
       cases gk with
       | zero => exact absurd HA.out (by simp [cracknelref04_Hull.l1])
       | succ k3 =>
        have H := HA.out
        clear HA
        simp only [cracknelref04_Hull.l1] at H
        by_cases c13 : x7_3 < (l0.length : Int)
        ·rw [if_pos c13] at H
         have c13b0 := decide_eq_true c13
         clear c13
         by_cases c14 : x4_3 = true
         ·subst c14
          rw [if_pos rfl] at H
          replace H := oi H
          obtain ⟨c15, H⟩ := H
          have c15b0 := decide_eq_true c15
          have c15b1 : decide (0 < l0.length) = true := decide_eq_true (by omega)
          clear c15
          replace H := oi H
          obtain ⟨c16, H⟩ := H
          have c16b0 := decide_eq_true c16
          clear c16
          replace H := oi H
          obtain ⟨c17, H⟩ := H
          have c17b0 := decide_eq_true c17
          clear c17
          replace H := oi H
          obtain ⟨c18, H⟩ := H
          have c18b0 := decide_eq_true c18
          clear c18
          replace H := Option.bind_eq_some_iff.mp H
          obtain ⟨t109, A190, H⟩ := H
          replace H : (cracknelref04_Hull.l1 k3 l0 (t109 == 0) x6_1 (wrap64 (x7_3 + 1)) x103000_7 x103001_7) = some (r1, r2) := H
          have A19 := Aside0.mk A190
          clear A190
          have H' := Aside0.mk H
          clear H
          try go_wp2
          replace BK102 := Aside0.mk (blk_drew BK102.out)
          replace HB := Aside0.mk (below_drew1 HB.out)
          have p106 : 0 ≤ (0 : Int) := (by omega)
          have q106 : 0 < (l0.length : Int) := dt
          obtain ⟨ad106, e106, hx106_0, hx106_1⟩ := at_T29 HR0.out 0 p106 q106
          have hw106_1 := hx106_1
          (try rw [show ((0 : Int)).toNat = 0 from rfl] at hw106_1)
          (try rw [show 0 * 2 = 0 from rfl] at hw106_1)
          (try rw [Addr.add_zero'] at hw106_1)
          have hw106_0 := hx106_0
          (try rw [show ((0 : Int)).toNat = 0 from rfl] at hw106_0)
          (try rw [show 0 * 2 = 0 from rfl] at hw106_0)
          (try rw [Addr.add_zero'] at hw106_0)
          obtain rfl : ad101 = ad106 := (by injection e106)
          have qi106 : (0 < l0.length) = True := eq_true (by omega)
          (try rw [show ((0 : Int)).toNat = 0 from rfl] at hx106_0)
          (try rw [show 0 * 2 = 0 from rfl] at hx106_0)
          (try rw [Addr.add_zero'] at hx106_0)
          (try rw [show ((0 : Int)).toNat = 0 from rfl] at hx106_1)
          (try rw [show 0 * 2 = 0 from rfl] at hx106_1)
          (try rw [Addr.add_zero'] at hx106_1)
          replace hx106_0 := hc HB hx106_0
          replace hx106_1 := hc HB hx106_1
          replace p106 := eq_true p106
          replace q106 := eq_true q106
          have p107 : 0 ≤ (x6_1 : Int) := dt
          have q107 : x6_1 < (l0.length : Int) := dt
          obtain ⟨ad107, e107, hx107_0, hx107_1⟩ := at_T29 HR0.out x6_1 p107 q107
          have hw107_1 := hx107_1
          have hw107_0 := hx107_0
          obtain rfl : ad101 = ad107 := (by injection e107)
          replace hx107_0 := hc HB hx107_0
          replace hx107_1 := hc HB hx107_1
          replace p107 := eq_true p107
          replace q107 := eq_true q107
          have p108 : 0 ≤ (x7_3 : Int) := dt
          have q108 : x7_3 < (l0.length : Int) := dt
          obtain ⟨ad108, e108, hx108_0, hx108_1⟩ := at_T29 HR0.out x7_3 p108 q108
          have hw108_1 := hx108_1
          have hw108_0 := hx108_0
          obtain rfl : ad101 = ad108 := (by injection e108)
          replace hx108_0 := hc HB hx108_0
          replace hx108_1 := hc HB hx108_1
          replace p108 := eq_true p108
          replace q108 := eq_true q108
          refine start_ (n := 14) (S := fun w' => w'.cell? ad101 = some (.int .i64 ((rd_T29 l0 0).f0)) ∧ w'.cell? ⟨ad101.block, ad101.off + 1, none⟩ = some (.int .i64 ((rd_T29 l0 0).f1)) ∧ w'.cell? (ad101.add ((x6_1).toNat * 2)) = some (.int .i64 ((rd_T29 l0 x6_1).f0)) ∧ w'.cell? ⟨(ad101.add ((x6_1).toNat * 2)).block, (ad101.add ((x6_1).toNat * 2)).off + 1, none⟩ = some (.int .i64 ((rd_T29 l0 x6_1).f1)) ∧ w'.cell? (ad101.add ((x7_3).toNat * 2)) = some (.int .i64 ((rd_T29 l0 x7_3).f0)) ∧ w'.cell? ⟨(ad101.add ((x7_3).toNat * 2)).block, (ad101.add ((x7_3).toNat * 2)).off + 1, none⟩ = some (.int .i64 ((rd_T29 l0 x7_3).f1))) (ds := []) #[N,N,N,N,N,N,N,N,N,N,N,N,N,N] (by kernel_rfl) rfl rfl ⟨(hc HB hw106_0), (hc HB hw106_1), (hc HB hw107_0), (hc HB hw107_1), (hc HB hw108_0), (hc HB hw108_1)⟩ (fun hHeld => ?_); refine with_tabW cracknelref04_Hull.tab11 cracknelref04_Hull.bits11 (fun HT_ HW_ => ?_)
          generalize wr.drew = w20 at BK102 HB hx106_0 hx106_1 hx107_0 hx107_1 hx108_0 hx108_1 hHeld ⊢
          refine pu 0 42 HT_ ?_
          refine pu 1 43 HT_ ?_
          refine pu 3 45 HT_ ?_
          refine pu 4 46 HT_ ?_
          refine pu 5 47 HT_ ?_
          refine pu 7 49 HT_ ?_
          refine pu 8 50 HT_ ?_
          refine pu 9 51 HT_ ?_
          refine tk6 2 44 hHeld HT_ HW_ ?_
          refine tk6 6 48 hHeld HT_ HW_ ?_
          refine tk6 10 52 hHeld HT_ HW_ ?_
          refine one_ (i := 11) (N := some 53) #[T,T,T,T,T,T,T,T,T,T,T,T,N,N] rfl rfl (on1 HT_) (by decide) (fun K hK => ?_)
          refine goes_ Try.func61 (by kernel_rfl) rfl #[.agg #[.int .i64 ((rd_T29 l0 0).f0), .int .i64 ((rd_T29 l0 0).f1)], .agg #[.int .i64 ((rd_T29 l0 x6_1).f0), .int .i64 ((rd_T29 l0 x6_1).f1)], .agg #[.int .i64 ((rd_T29 l0 x7_3).f0), .int .i64 ((rd_T29 l0 x7_3).f1)]] (by rfl) rfl rfl sg ?_
          with_reducible refine (cracknelref04_Cross.calls ((rd_T29 l0 0).f0) ((rd_T29 l0 0).f1) ((rd_T29 l0 x6_1).f0) ((rd_T29 l0 x6_1).f1) ((rd_T29 l0 x7_3).f0) ((rd_T29 l0 x7_3).f1) t109 _ A19.out).mono ?_
          rintro e w21 ⟨rfl, hb⟩
          refine ⟨_, rfl, ?_⟩
          replace BK102 := kb BK102 hb
          replace HB := Aside0.mk (below_step bh hb)
          (try clear hb); (try clear hb2); (try clear hk); (try clear hi)
          refine hK.out _ _ ⟨(hc HB hw106_0), (hc HB hw106_1), (hc HB hw107_0), (hc HB hw107_1), (hc HB hw108_0), (hc HB hw108_1)⟩ (fun hHeld => ?_)
          clear hK K
          refine nm 53 ?_
          refine pu 12 54 HT_ ?_
          refine pu 13 4 HT_ ?_
          refine done_ (done_of HT_.out (by kernel_rfl)) ?_
          try go_wp2
          go_roundg k3
          case measure => have := HK1.out; have := HJ7.out; have := HK3.out; omega
          case rel => exact ⟨((t109 == 0)), (wrap64 (x7_3 + 1)), sd, sd, H', ⟨by have := HK1.out; have := HJ7.out; have := HK3.out; omega⟩, ⟨bk BK102⟩, ⟨bh⟩⟩
         ·replace c14 := Bool.eq_false_iff.mpr c14
          subst c14
          rw [if_neg (show ¬ (false = true) by decide)] at H
          have H' := Aside0.mk H
          clear H
          go_wp2
          go_roundg k3
          case measure => have := HK1.out; have := HJ7.out; have := HK3.out; omega
          case rel => exact ⟨(false), (wrap64 (x6_1 + 1)), (x103000_7), (x103001_7), sd, sd, H', ⟨by have := HK1.out; have := HJ7.out; have := HK3.out; omega⟩, ⟨bk BK102⟩, ⟨bh⟩⟩
        ·rw [if_neg c13] at H
         have c13b0 := decide_eq_false c13
         clear c13
         have H' := Aside0.mk H
         clear H
         go_wp2
         go_roundg k3
         case measure => have := HK1.out; have := HJ7.out; have := HK3.out; omega
         case rel => exact ⟨(x4_3), (wrap64 (x6_1 + 1)), (x103000_7), (x103001_7), sd, sd, H', ⟨by have := HK1.out; have := HJ7.out; have := HK3.out; omega⟩, ⟨bk BK102⟩, ⟨bh⟩⟩
   ·rw [if_neg c5] at H
    have c5b0 := decide_eq_false c5
    clear c5
    by_cases c22 : x4_1 = true
    ·subst c22
     rw [if_pos rfl] at H
     simp only [Option.some.injEq, Prod.mk.injEq] at H
     obtain ⟨rfl, rfl⟩ := H
     go_wp2
     go_ret2
     exact ⟨_, by exact er, by first | exact Kd.R_nil _ _ _ _ _ | exact Kd.N_nil _ _ _ _ _ | exact Kd.V_nil _ _ _ _ _ | exact Kd.Q_nil _ _ _ _ _ | exact Kd.S_nil _ _ _ _ _, bh⟩
    ·replace c22 := Bool.eq_false_iff.mpr c22
     subst c22
     rw [if_neg (show ¬ (false = true) by decide)] at H
     obtain ⟨y110, hy110⟩ : ∃ y_ : List (S29), y_ = (([(⟨x103000_1, x103001_1⟩ : S29)] : List (S29))) := ⟨_, rfl⟩
     replace H : (cracknelref04_Hull.l2 k1 l0 y110 x103000_1 x103001_1) = some (r1, r2) := by first | (rw [hy110]; with_reducible exact H) | (have H2_ := (Option.bind_some _ _).symm.trans H; rw [hy110]; with_reducible exact H2_) | (have H2_ := (Option.bind_some _ _).symm.trans H; with_reducible exact H2_) | with_reducible exact H | (rw [hy110]; exact H) | exact H
     have Ny110 := Aside0.mk hy110
     clear hy110
     have H' := Aside0.mk H
     clear H
     obtain ⟨hcz23_0, hcz23_1, hfz23_0, hfz23_1⟩ := b2 BK102
     go_wp2_with (first | ((with_reducible refine gate_dst (N := 57) rfl ?_); refine Kd.R_lit k29 _ 29 ?hg (N := 57) ?hd (xs := ([(⟨x103000_1, x103001_1⟩ : S29)] : List (S29))) (inner := [.int .i64 x103000_1, .int .i64 x103001_1]) (ok := fun _ => True) (okp := fun _ => True) ?hr ?hp (fun _ hk => hk) trivial (Below.refl _ _) (Nat.le_refl _) (by simp) ?_; (case hd => rfl); (case hg => rfl); (case hr => first | (go_simp; done) | (go_simp; rfl)); (case hp => exact (Reps.c2 (show Kd.M k29 _ _ _ (⟨x103000_1, x103001_1⟩ : S29) [.int .i64 x103000_1, .int .i64 x103001_1] from (k29_mkM _ _ _ (⟨x103000_1, x103001_1⟩ : S29) )) (Reps.none _ _))); intro v111 w24 ho25 hb hg_ hnew_; clear hg_ hnew_; (first | rw [← Ny110.out] at ho25 | (simp only [Int.reduceToNat] at ho25; rw [← Ny110.out] at ho25)); have HO112 := Aside0.mk (Kd.R_lower (Kd.R_newB ho25 (g := gb102) (o := .cells #[.int .i64 x103000_1, .int .i64 x103001_1] 29 (0, 0)) (bk BK102)) (below_size bh)); replace BK102 := kb BK102 hb; replace HB := Aside0.mk (below_step bh hb); clear hb ho25))
     go_loopg [8] k1 (fun kq v8 w' => ∃ (x8_2 : List (S29)), Aside0 (cracknelref04_Hull.l2 kq l0 x8_2 x103000_1 x103001_1 = some (r1, r2)) ∧ Aside0 (kq ≤ k1) ∧ Aside0 (Kd.R k29 29 w' w.heap.size (fun k_ => k_ ≠ gb102) v8 x8_2) ∧ Aside0 (w'.heap[gb102]? = some (.cells #[.int .i64 x103000_1, .int .i64 x103001_1] 29 (0, 0))) ∧ Aside0 (Below w.heap.size w w'))
     case atStart => exact ⟨(y110), H', ⟨Nat.le_refl _⟩, ⟨by (with_reducible repeat (first | apply Kd.R_alloc | apply Kd.R_drewN | apply Kd.R_drew)); exact Kd.R_mono HO112.out (fun _ hk => hk.2)⟩, ⟨bk BK102⟩, ⟨bh⟩⟩
     case round =>
      clear H'
      (try clear c1); (try clear p1); (try clear q1); (try clear hx1); (try clear qi1); (try clear c2); (try clear c2b0); (try clear c2b1); (try clear p2); (try clear c5); (try clear c5b0); (try clear c6); (try clear c6b0); (try clear p6); (try clear p10); (try clear q10); (try clear hx10); (try clear qi10); (try clear c11); (try clear c13); (try clear c13b0); (try clear c14); (try clear c15); (try clear c15b0); (try clear c15b1); (try clear c16); (try clear c16b0); (try clear c17); (try clear c17b0); (try clear c18); (try clear c18b0); (try clear c19); (try clear c22); (try clear hcz12_0); (try clear hcz12_1); (try clear hcz23_0); (try clear hcz23_1); (try clear hcz4_0); (try clear hcz4_1); (try clear hfz12_0); (try clear hfz12_1); (try clear hfz23_0); (try clear hfz23_1); (try clear hfz4_0); (try clear hfz4_1); (try clear hx101_0); (try clear hx101_1); (try clear hx103_0); (try clear hx103_1); (try clear hx105_0); (try clear hx105_1); (try clear hx106_0); (try clear hx106_1); (try clear hx107_0); (try clear hx107_1); (try clear hx108_0); (try clear hx108_1); (try clear p1); (try clear p10); (try clear p101); (try clear p103); (try clear p105); (try clear p106); (try clear p107); (try clear p108); (try clear p2); (try clear q1); (try clear q10); (try clear q101); (try clear q103); (try clear q105); (try clear q106); (try clear q107); (try clear q108)
      obtain ⟨x8_2, HA, HK2, HO_8, BK102, HB⟩ := hrel
      cases gk with
      | zero => exact absurd HA.out (by simp [cracknelref04_Hull.l2])
      | succ k2 =>
       have H := HA.out
       clear HA
       simp only [cracknelref04_Hull.l2] at H
       obtain ⟨ji26, hji26⟩ : ∃ j_ : Int, (wrap64 ((x8_2.length : Int) - 1)) = j_ := ⟨_, rfl⟩
       replace H : (if 0 ≤ (ji26) then (if (ji26) < (x8_2.length : Int) then (cracknelref04_Hull.l3 k2 l0 x8_2 0 x103000_1 x103001_1 ((rd_T29 x8_2 (ji26)).f0) ((rd_T29 x8_2 (ji26)).f1) ((rd_T29 x8_2 (ji26)).f0) ((rd_T29 x8_2 (ji26)).f1)) else (none)) else (none)) = some (r1, r2) := by first | (rw [hji26] at H; exact H) | (simp only [hji26] at H ⊢; exact H)
       have hji26w : (IntKind.i64.wrap ((x8_2.length : Int) - 1)) = ji26 := (i64_w _).trans hji26
       replace H := oi H
       obtain ⟨c27, H⟩ := H
       have c27b0 := decide_eq_true c27
       clear c27
       replace H := oi H
       obtain ⟨c28, H⟩ := H
       have c28b0 := decide_eq_true c28
       clear c28
       have H' := Aside0.mk H
       clear H
       obtain ⟨Ao29, co29, eo29⟩ := Kd.R_slice HO_8.out
       subst eo29
       have p113 : 0 ≤ ((ji26) : Int) := dt
       have q113 : (ji26) < (x8_2.length : Int) := dt
       obtain ⟨ad113, e113, hx113_0, hx113_1⟩ := at_T29 (Kd.R_reads' HO_8.out).2.2 (ji26) p113 q113
       cases e113
       replace p113 := eq_true p113
       replace q113 := eq_true q113
       go_wp2_with (first | ((with_reducible refine gate_dst (N := 9) rfl ?_); refine bxe 9 #[.int .i64 0, .int .i64 0] 29 ?_; intro gb114 hg w30 hbox hb; have BK114 := Aside0.mk (hbox); have GW114 := Aside0.mk (gs hg : w.heap.size ≤ gb114); have GE114 := Aside0.mk (gs hg : w.heap.size ≤ gb114); have NB102_114 := Aside0.mk ((by rw [hg]; exact Nat.ne_of_lt (kl BK102) : gb102 ≠ gb114)); have NB114_102 := Aside0.mk ((by rw [hg]; exact Nat.ne_of_gt (kl BK102) : gb114 ≠ gb102)); replace HO_8 := Aside0.mk (Kd.R_below (Kd.R_elderB (ro HO_8) gb114 (Nat.le_of_eq hg.symm)) hb); replace BK102 := kb BK102 hb; replace HB := Aside0.mk (below_step bh hb); clear hb hbox hg; have hnb31 := NB114_102.out; have hnc31 := NB102_114.out; have hcz32_0 : w30.cell? ⟨gb114, 0, none⟩ = some (.int .i64 0) := bc BK114 0; have hcz32_1 : w30.cell? ⟨gb114, 1, none⟩ = some (.int .i64 0) := bc BK114 1; have hfz32_0 := blk_frozen BK114.out 0; have hfz32_1 := blk_frozen BK114.out 1) | ((with_reducible refine gate_dst (N := 10) rfl ?_); refine bxe 10 #[.int .i64 0, .int .i64 0] 29 ?_; intro gb115 hg w33 hbox hb; have BK115 := Aside0.mk (hbox); have GW115 := Aside0.mk (gs hg : w.heap.size ≤ gb115); have GE115 := Aside0.mk (gs hg : w.heap.size ≤ gb115); have NB102_115 := Aside0.mk ((by rw [hg]; exact Nat.ne_of_lt (blk_lt (g := gb102) (o := .cells #[.int .i64 x103000_1, .int .i64 x103001_1] 29 (0, 0)) (by refine bd ?_; refine blk_far ?_ NB102_114.out _; refine bd ?_; refine blk_far ?_ NB102_114.out _; refine bd ?_; exact BK102.out)) : gb102 ≠ gb115)); have NB115_102 := Aside0.mk ((by rw [hg]; exact Nat.ne_of_gt (blk_lt (g := gb102) (o := .cells #[.int .i64 x103000_1, .int .i64 x103001_1] 29 (0, 0)) (by refine bd ?_; refine blk_far ?_ NB102_114.out _; refine bd ?_; refine blk_far ?_ NB102_114.out _; refine bd ?_; exact BK102.out)) : gb115 ≠ gb102)); have NB114_115 := Aside0.mk ((by rw [hg]; exact Nat.ne_of_lt (blk_lt (g := gb114) (o := .cells #[.int .i64 ((rd_T29 x8_2 (ji26)).f0), .int .i64 ((rd_T29 x8_2 (ji26)).f1)] 29 (0, 0)) (by refine bd ?_; refine blk_put (cs := #[.int .i64 ((rd_T29 x8_2 (ji26)).f0), .int .i64 0]) ?_ 1 _ rfl; refine bd ?_; refine blk_put (cs := #[.int .i64 0, .int .i64 0]) ?_ 0 _ rfl; refine bd ?_; exact BK114.out)) : gb114 ≠ gb115)); have NB115_114 := Aside0.mk ((by rw [hg]; exact Nat.ne_of_gt (blk_lt (g := gb114) (o := .cells #[.int .i64 ((rd_T29 x8_2 (ji26)).f0), .int .i64 ((rd_T29 x8_2 (ji26)).f1)] 29 (0, 0)) (by refine bd ?_; refine blk_put (cs := #[.int .i64 ((rd_T29 x8_2 (ji26)).f0), .int .i64 0]) ?_ 1 _ rfl; refine bd ?_; refine blk_put (cs := #[.int .i64 0, .int .i64 0]) ?_ 0 _ rfl; refine bd ?_; exact BK114.out)) : gb115 ≠ gb114)); replace HO_8 := Aside0.mk (Kd.R_below (Kd.R_elderB (by (with_reducible repeat (first | apply Kd.R_alloc | apply Kd.R_drewN | apply Kd.R_drew)); exact (Kd.R_mono (Kd.R_far (p := ⟨gb114, 1, none⟩) (Kd.R_far (p := ⟨gb114, 0, none⟩) (Kd.R_mono HO_8.out (fun k_ hk => (⟨hk, hk.2⟩ : _ ∧ k_ ≠ gb114))) (fun _ hk => hk.2) (.int .i64 ((rd_T29 x8_2 (ji26)).f0))) (fun _ hk => hk.2) (.int .i64 ((rd_T29 x8_2 (ji26)).f1))) (fun _ h_ => h_.1))) gb115 (Nat.le_of_eq hg.symm)) hb); replace BK102 := Aside0.mk (blk_below (g := gb102) (o := .cells #[.int .i64 x103000_1, .int .i64 x103001_1] 29 (0, 0)) (by refine bd ?_; refine blk_far ?_ NB102_114.out _; refine bd ?_; refine blk_far ?_ NB102_114.out _; refine bd ?_; exact BK102.out) hb); replace BK114 := Aside0.mk (blk_below (g := gb114) (o := .cells #[.int .i64 ((rd_T29 x8_2 (ji26)).f0), .int .i64 ((rd_T29 x8_2 (ji26)).f1)] 29 (0, 0)) (by refine bd ?_; refine blk_put (cs := #[.int .i64 ((rd_T29 x8_2 (ji26)).f0), .int .i64 0]) ?_ 1 _ rfl; refine bd ?_; refine blk_put (cs := #[.int .i64 0, .int .i64 0]) ?_ 0 _ rfl; refine bd ?_; exact BK114.out) hb); replace HB := Aside0.mk (below_step bh hb); clear hb hbox hg; have hnb34 := NB115_102.out; have hnc34 := NB102_115.out; have hnb35 := NB115_114.out; have hnc35 := NB114_115.out; have hcz36_0 : w33.cell? ⟨gb115, 0, none⟩ = some (.int .i64 0) := bc BK115 0; have hcz36_1 : w33.cell? ⟨gb115, 1, none⟩ = some (.int .i64 0) := bc BK115 1; have hfz36_0 := blk_frozen BK115.out 0; have hfz36_1 := blk_frozen BK115.out 1))
       go_loopg [11] k2 (fun kq v11 w' => ∃ (x11_3 : Int) (x116000_3 : Int) (x116001_3 : Int), v11 = .int .i64 x11_3 ∧ Aside0 (cracknelref04_Hull.l3 kq l0 x8_2 x11_3 x103000_1 x103001_1 ((rd_T29 x8_2 (ji26)).f0) ((rd_T29 x8_2 (ji26)).f1) x116000_3 x116001_3 = some (r1, r2)) ∧ Aside0 (kq ≤ k2) ∧ Aside0 (Kd.R k29 29 w' w.heap.size (fun k_ => k_ ≠ gb102 ∧ k_ ≠ gb114 ∧ k_ ≠ gb115) (.slice (some ad113) x8_2.length co29) x8_2) ∧ Aside0 (w'.heap[gb102]? = some (.cells #[.int .i64 x103000_1, .int .i64 x103001_1] 29 (0, 0))) ∧ Aside0 (w'.heap[gb114]? = some (.cells #[.int .i64 ((rd_T29 x8_2 (ji26)).f0), .int .i64 ((rd_T29 x8_2 (ji26)).f1)] 29 (0, 0))) ∧ Aside0 (w'.heap[gb115]? = some (.cells #[.int .i64 x116000_3, .int .i64 x116001_3] 29 (0, 0))) ∧ Aside0 (Below w.heap.size w w'))
       case atStart => exact ⟨(0), ((rd_T29 x8_2 (ji26)).f0), ((rd_T29 x8_2 (ji26)).f1), sd, H', ⟨Nat.le_refl _⟩, ⟨by (with_reducible repeat (first | apply Kd.R_alloc | apply Kd.R_drewN | apply Kd.R_drew)); exact Kd.R_mono (Kd.R_far (p := ⟨gb115, 1, none⟩) (Kd.R_far (p := ⟨gb115, 0, none⟩) (Kd.R_mono HO_8.out (fun k_ hk => (⟨hk, hk.2⟩ : _ ∧ k_ ≠ gb115))) (fun _ hk => hk.2) (.int .i64 ((rd_T29 x8_2 (ji26)).f0))) (fun _ hk => hk.2) (.int .i64 ((rd_T29 x8_2 (ji26)).f1))) (fun _ hk => ⟨hk.1.1.1, ⟨hk.1.1.2, hk.1.2⟩⟩)⟩, ⟨by refine bd ?_; refine blk_far ?_ NB102_115.out _; refine bd ?_; refine blk_far ?_ NB102_115.out _; refine bd ?_; exact BK102.out⟩, ⟨by refine bd ?_; refine blk_far ?_ NB114_115.out _; refine bd ?_; refine blk_far ?_ NB114_115.out _; refine bd ?_; exact BK114.out⟩, ⟨by refine bd ?_; refine blk_put (cs := #[.int .i64 ((rd_T29 x8_2 (ji26)).f0), .int .i64 0]) ?_ 1 _ rfl; refine bd ?_; refine blk_put (cs := #[.int .i64 0, .int .i64 0]) ?_ 0 _ rfl; refine bd ?_; exact BK115.out⟩, ⟨bh⟩⟩
       case round =>
        clear H'
        (try clear c1); (try clear p1); (try clear q1); (try clear hx1); (try clear qi1); (try clear c2); (try clear c2b0); (try clear c2b1); (try clear p2); (try clear c3); (try clear c5); (try clear c5b0); (try clear c6); (try clear c6b0); (try clear p6); (try clear p10); (try clear q10); (try clear hx10); (try clear qi10); (try clear c11); (try clear p11); (try clear q11); (try clear hx11); (try clear c13); (try clear c13b0); (try clear c14); (try clear c15); (try clear c15b0); (try clear c15b1); (try clear c16); (try clear c16b0); (try clear c17); (try clear c17b0); (try clear c18); (try clear c18b0); (try clear c19); (try clear c22); (try clear c27); (try clear c27b0); (try clear c28); (try clear c28b0); (try clear c31); (try clear c34); (try clear c35); (try clear hcz12_0); (try clear hcz12_1); (try clear hcz23_0); (try clear hcz23_1); (try clear hcz32_0); (try clear hcz32_1); (try clear hcz36_0); (try clear hcz36_1); (try clear hcz4_0); (try clear hcz4_1); (try clear hfz12_0); (try clear hfz12_1); (try clear hfz23_0); (try clear hfz23_1); (try clear hfz32_0); (try clear hfz32_1); (try clear hfz36_0); (try clear hfz36_1); (try clear hfz4_0); (try clear hfz4_1); (try clear hx101_0); (try clear hx101_1); (try clear hx103_0); (try clear hx103_1); (try clear hx105_0); (try clear hx105_1); (try clear hx106_0); (try clear hx106_1); (try clear hx107_0); (try clear hx107_1); (try clear hx108_0); (try clear hx108_1); (try clear hx113_0); (try clear hx113_1); (try clear p1); (try clear p10); (try clear p101); (try clear p103); (try clear p105); (try clear p106); (try clear p107); (try clear p108); (try clear p113); (try clear p2); (try clear p6); (try clear q1); (try clear q10); (try clear q101); (try clear q103); (try clear q105); (try clear q106); (try clear q107); (try clear q108); (try clear q113)
        obtain ⟨x11_3, x116000_3, x116001_3, rfl, HA, HK3, HO_8, BK102, BK114, BK115, HB⟩ := hrel
        cases gk with
        | zero => exact absurd HA.out (by simp [cracknelref04_Hull.l3])
        | succ k3 =>
         have H := HA.out
         clear HA
         simp only [cracknelref04_Hull.l3] at H
         by_cases c37 : x11_3 < (l0.length : Int)
         ·rw [if_pos c37] at H
          have c37b0 := decide_eq_true c37
          clear c37
          replace H := oi H
          obtain ⟨c38, H⟩ := H
          have c38b0 := decide_eq_true c38
          clear c38
          by_cases c39 : (((rd_T29 l0 x11_3).f0) == ((rd_T29 x8_2 (ji26)).f0) && (((rd_T29 l0 x11_3).f1) == ((rd_T29 x8_2 (ji26)).f1))) = true
          ·rw [if_pos c39] at H
           have c39b0 : (((rd_T29 l0 x11_3).f0) == ((rd_T29 x8_2 (ji26)).f0) && (((rd_T29 l0 x11_3).f1) == ((rd_T29 x8_2 (ji26)).f1))) = true := c39
           (try (have c39b1 : decide (((rd_T29 l0 x11_3).f0) = ((rd_T29 x8_2 (ji26)).f0) && (((rd_T29 l0 x11_3).f1) == ((rd_T29 x8_2 (ji26)).f1))) = true := by simpa using c39))
           (try (have c39b2 : (((rd_T29 l0 x11_3).f0) == ((rd_T29 x8_2 (ji26)).f0) && (((rd_T29 l0 x11_3).f1) == ((rd_T29 x8_2 (ji26)).f1))) = true := by simpa using c39))
           clear c39
           have H' := Aside0.mk H
           clear H
           have p116 : 0 ≤ (x11_3 : Int) := dt
           have q116 : x11_3 < (l0.length : Int) := dt
           obtain ⟨ad116, e116, hx116_0, hx116_1⟩ := at_T29 HR0.out x11_3 p116 q116
           obtain rfl : ad101 = ad116 := (by injection e116)
           replace hx116_0 := hc HB hx116_0
           replace hx116_1 := hc HB hx116_1
           replace p116 := eq_true p116
           replace q116 := eq_true q116
           go_wp2_with (first | ((with_reducible refine gate_dst (N := 12) rfl ?_); refine bxe 12 #[.int .i64 0, .int .i64 0] 29 ?_; intro gb117 hg w40 hbox hb; have BK117 := Aside0.mk (hbox); have GW117 := Aside0.mk (gs hg : w.heap.size ≤ gb117); have GE117 := Aside0.mk (gs hg : w.heap.size ≤ gb117); have NB102_117 := Aside0.mk ((by rw [hg]; exact Nat.ne_of_lt (kl BK102) : gb102 ≠ gb117)); have NB117_102 := Aside0.mk ((by rw [hg]; exact Nat.ne_of_gt (kl BK102) : gb117 ≠ gb102)); have NB114_117 := Aside0.mk ((by rw [hg]; exact Nat.ne_of_lt (kl BK114) : gb114 ≠ gb117)); have NB117_114 := Aside0.mk ((by rw [hg]; exact Nat.ne_of_gt (kl BK114) : gb117 ≠ gb114)); have NB115_117 := Aside0.mk ((by rw [hg]; exact Nat.ne_of_lt (kl BK115) : gb115 ≠ gb117)); have NB117_115 := Aside0.mk ((by rw [hg]; exact Nat.ne_of_gt (kl BK115) : gb117 ≠ gb115)); replace HO_8 := Aside0.mk (Kd.R_below (Kd.R_elderB (ro HO_8) gb117 (Nat.le_of_eq hg.symm)) hb); replace BK102 := kb BK102 hb; replace BK114 := kb BK114 hb; replace BK115 := kb BK115 hb; replace HB := Aside0.mk (below_step bh hb); clear hb hbox hg; have hnb41 := NB117_102.out; have hnc41 := NB102_117.out; have hnb42 := NB117_114.out; have hnc42 := NB114_117.out; have hnb43 := NB117_115.out; have hnc43 := NB115_117.out; have hcz44_0 : w40.cell? ⟨gb117, 0, none⟩ = some (.int .i64 0) := bc BK117 0; have hcz44_1 : w40.cell? ⟨gb117, 1, none⟩ = some (.int .i64 0) := bc BK117 1; have hfz44_0 := blk_frozen BK117.out 0; have hfz44_1 := blk_frozen BK117.out 1; have hnb45 := NB114_102.out; have hnc45 := NB102_114.out; have hnb46 := NB114_115.out; have hnc46 := NB115_114.out; have hcz47_0 : w40.cell? ⟨gb114, 0, none⟩ = some (.int .i64 ((rd_T29 x8_2 (ji26)).f0)) := bc BK114 0; have hcz47_1 : w40.cell? ⟨gb114, 1, none⟩ = some (.int .i64 ((rd_T29 x8_2 (ji26)).f1)) := bc BK114 1; have hfz47_0 := blk_frozen BK114.out 0; have hfz47_1 := blk_frozen BK114.out 1))
           go_roundg k3
           case measure => have := HK1.out; have := HK2.out; have := HK3.out; omega
           case rel => exact ⟨(wrap64 (x11_3 + 1)), (x116000_3), (x116001_3), sd, H', ⟨by have := HK1.out; have := HK2.out; have := HK3.out; omega⟩, ⟨by (with_reducible repeat (first | apply Kd.R_alloc | apply Kd.R_drewN | apply Kd.R_drew)); exact Kd.R_mono (Kd.R_far (p := ⟨gb117, 1, none⟩) (Kd.R_far (p := ⟨gb117, 0, none⟩) (Kd.R_mono HO_8.out (fun k_ hk => (⟨hk, hk.2⟩ : _ ∧ k_ ≠ gb117))) (fun _ hk => hk.2) (.int .i64 ((rd_T29 l0 x11_3).f0))) (fun _ hk => hk.2) (.int .i64 ((rd_T29 l0 x11_3).f1))) (fun _ hk => ⟨hk.1.1.1, ⟨hk.1.1.2.1, hk.1.1.2.2⟩⟩)⟩, ⟨by refine bd ?_; refine blk_far ?_ NB102_117.out _; refine bd ?_; refine blk_far ?_ NB102_117.out _; refine bd ?_; exact BK102.out⟩, ⟨by refine bd ?_; refine blk_far ?_ NB114_117.out _; refine bd ?_; refine blk_far ?_ NB114_117.out _; refine bd ?_; exact BK114.out⟩, ⟨by refine bd ?_; refine blk_far ?_ NB115_117.out _; refine bd ?_; refine blk_far ?_ NB115_117.out _; refine bd ?_; exact BK115.out⟩, ⟨bh⟩⟩
          ·rw [if_neg c39] at H
           have c39b0 : (((rd_T29 l0 x11_3).f0) == ((rd_T29 x8_2 (ji26)).f0) && (((rd_T29 l0 x11_3).f1) == ((rd_T29 x8_2 (ji26)).f1))) = false := by simpa using c39
           (try (have c39b1 : decide (((rd_T29 l0 x11_3).f0) = ((rd_T29 x8_2 (ji26)).f0) && (((rd_T29 l0 x11_3).f1) == ((rd_T29 x8_2 (ji26)).f1))) = false := by simpa using c39))
           (try (have c39b2 : (((rd_T29 l0 x11_3).f0) == ((rd_T29 x8_2 (ji26)).f0) && (((rd_T29 l0 x11_3).f1) == ((rd_T29 x8_2 (ji26)).f1))) = false := by simpa using c39))
           (try (have c39b3 : ¬ (((rd_T29 l0 x11_3).f0) = ((rd_T29 x8_2 (ji26)).f0) && (((rd_T29 l0 x11_3).f1) == ((rd_T29 x8_2 (ji26)).f1))) := by simpa using c39))
           clear c39
           replace H := Option.bind_eq_some_iff.mp H
           obtain ⟨t118, A480, H⟩ := H
           replace H : (if (x116000_3 == ((rd_T29 x8_2 (ji26)).f0) && (x116001_3 == ((rd_T29 x8_2 (ji26)).f1))) = true then (cracknelref04_Hull.j5 k3 l0 x8_2 x11_3 true x103000_1 x103001_1 ((rd_T29 x8_2 (ji26)).f0) ((rd_T29 x8_2 (ji26)).f1) x116000_3 x116001_3 ((rd_T29 l0 x11_3).f0) ((rd_T29 l0 x11_3).f1)) else (if t118 < 0 then (cracknelref04_Hull.j5 k3 l0 x8_2 x11_3 true x103000_1 x103001_1 ((rd_T29 x8_2 (ji26)).f0) ((rd_T29 x8_2 (ji26)).f1) x116000_3 x116001_3 ((rd_T29 l0 x11_3).f0) ((rd_T29 l0 x11_3).f1)) else (if t118 = 0 then ((cracknelref04_On.f ((rd_T29 x8_2 (ji26)).f0) ((rd_T29 x8_2 (ji26)).f1) ((rd_T29 l0 x11_3).f0) ((rd_T29 l0 x11_3).f1) x116000_3 x116001_3).bind fun t119 => (cracknelref04_Hull.j5 k3 l0 x8_2 x11_3 t119 x103000_1 x103001_1 ((rd_T29 x8_2 (ji26)).f0) ((rd_T29 x8_2 (ji26)).f1) x116000_3 x116001_3 ((rd_T29 l0 x11_3).f0) ((rd_T29 l0 x11_3).f1))) else (cracknelref04_Hull.j5 k3 l0 x8_2 x11_3 false x103000_1 x103001_1 ((rd_T29 x8_2 (ji26)).f0) ((rd_T29 x8_2 (ji26)).f1) x116000_3 x116001_3 ((rd_T29 l0 x11_3).f0) ((rd_T29 l0 x11_3).f1))))) = some (r1, r2) := H
           have A48 := Aside0.mk A480
           clear A480
           have HC49 := Aside0.mk H
           clear H
           have p116 : 0 ≤ (x11_3 : Int) := dt
           have q116 : x11_3 < (l0.length : Int) := dt
           obtain ⟨ad116, e116, hx116_0, hx116_1⟩ := at_T29 HR0.out x11_3 p116 q116
           obtain rfl : ad101 = ad116 := (by injection e116)
           replace hx116_0 := hc HB hx116_0
           replace hx116_1 := hc HB hx116_1
           replace p116 := eq_true p116
           replace q116 := eq_true q116
           go_upto_region 23 with (first | ((with_reducible refine gate_dst (N := 12) rfl ?_); refine bxe 12 #[.int .i64 0, .int .i64 0] 29 ?_; intro gb117 hg w50 hbox hb; have BK117 := Aside0.mk (hbox); have GW117 := Aside0.mk (gs hg : w.heap.size ≤ gb117); have GE117 := Aside0.mk (gs hg : w.heap.size ≤ gb117); have NB102_117 := Aside0.mk ((by rw [hg]; exact Nat.ne_of_lt (kl BK102) : gb102 ≠ gb117)); have NB117_102 := Aside0.mk ((by rw [hg]; exact Nat.ne_of_gt (kl BK102) : gb117 ≠ gb102)); have NB114_117 := Aside0.mk ((by rw [hg]; exact Nat.ne_of_lt (kl BK114) : gb114 ≠ gb117)); have NB117_114 := Aside0.mk ((by rw [hg]; exact Nat.ne_of_gt (kl BK114) : gb117 ≠ gb114)); have NB115_117 := Aside0.mk ((by rw [hg]; exact Nat.ne_of_lt (kl BK115) : gb115 ≠ gb117)); have NB117_115 := Aside0.mk ((by rw [hg]; exact Nat.ne_of_gt (kl BK115) : gb117 ≠ gb115)); replace HO_8 := Aside0.mk (Kd.R_below (Kd.R_elderB (ro HO_8) gb117 (Nat.le_of_eq hg.symm)) hb); replace BK102 := kb BK102 hb; replace BK114 := kb BK114 hb; replace BK115 := kb BK115 hb; replace HB := Aside0.mk (below_step bh hb); clear hb hbox hg; have hnb51 := NB117_102.out; have hnc51 := NB102_117.out; have hnb52 := NB117_114.out; have hnc52 := NB114_117.out; have hnb53 := NB117_115.out; have hnc53 := NB115_117.out; have hcz54_0 : w50.cell? ⟨gb117, 0, none⟩ = some (.int .i64 0) := bc BK117 0; have hcz54_1 : w50.cell? ⟨gb117, 1, none⟩ = some (.int .i64 0) := bc BK117 1; have hfz54_0 := blk_frozen BK117.out 0; have hfz54_1 := blk_frozen BK117.out 1; have hnb55 := NB114_102.out; have hnc55 := NB102_114.out; have hnb56 := NB114_115.out; have hnc56 := NB115_114.out; have hcz57_0 : w50.cell? ⟨gb114, 0, none⟩ = some (.int .i64 ((rd_T29 x8_2 (ji26)).f0)) := bc BK114 0; have hcz57_1 : w50.cell? ⟨gb114, 1, none⟩ = some (.int .i64 ((rd_T29 x8_2 (ji26)).f1)) := bc BK114 1; have hfz57_0 := blk_frozen BK114.out 0; have hfz57_1 := blk_frozen BK114.out 1; have hnb58 := NB115_102.out; have hnc58 := NB102_115.out; have hcz59_0 : w50.cell? ⟨gb115, 0, none⟩ = some (.int .i64 x116000_3) := bc BK115 0; have hcz59_1 : w50.cell? ⟨gb115, 1, none⟩ = some (.int .i64 x116001_3) := bc BK115 1; have hfz59_0 := blk_frozen BK115.out 0; have hfz59_1 := blk_frozen BK115.out 1) | ((with_reducible refine gc 61 rfl ?_); refine goesL_ (some 81) rfl rfl Try.func61 (by kernel_rfl) rfl #[.agg #[.int .i64 ((rd_T29 x8_2 (ji26)).f0), .int .i64 ((rd_T29 x8_2 (ji26)).f1)], .agg #[.int .i64 x116000_3, .int .i64 x116001_3], .agg #[.int .i64 ((rd_T29 l0 x11_3).f0), .int .i64 ((rd_T29 l0 x11_3).f1)]] rfl (by (try simp only [List.map_toArray, List.map_cons, List.map_nil]); first | done | (simp only [hji26]; rfl) | rfl | (simp only [List.length_drop, List.length_take]; rfl)) ?_; (with_reducible refine (cracknelref04_Cross.calls ((rd_T29 x8_2 (ji26)).f0) ((rd_T29 x8_2 (ji26)).f1) x116000_3 x116001_3 ((rd_T29 l0 x11_3).f0) ((rd_T29 l0 x11_3).f1) t118 _ A48.out).mono ?_); rintro e w60 ⟨rfl, hb⟩; refine ⟨_, rfl, ?_⟩; replace HO_8 := Aside0.mk (Kd.R_below (by (with_reducible repeat (first | apply Kd.R_alloc | apply Kd.R_drewN | apply Kd.R_drew)); exact (Kd.R_mono (Kd.R_far (p := ⟨gb117, 1, none⟩) (Kd.R_far (p := ⟨gb117, 0, none⟩) (Kd.R_mono HO_8.out (fun k_ hk => (⟨hk, hk.2⟩ : _ ∧ k_ ≠ gb117))) (fun _ hk => hk.2) (.int .i64 ((rd_T29 l0 x11_3).f0))) (fun _ hk => hk.2) (.int .i64 ((rd_T29 l0 x11_3).f1))) (fun _ h_ => h_.1))) hb); replace BK102 := Aside0.mk (blk_below (g := gb102) (o := .cells #[.int .i64 x103000_1, .int .i64 x103001_1] 29 (0, 0)) (by refine bd ?_; refine blk_far ?_ NB102_117.out _; refine bd ?_; refine blk_far ?_ NB102_117.out _; refine bd ?_; exact BK102.out) hb); replace BK114 := Aside0.mk (blk_below (g := gb114) (o := .cells #[.int .i64 ((rd_T29 x8_2 (ji26)).f0), .int .i64 ((rd_T29 x8_2 (ji26)).f1)] 29 (0, 0)) (by refine bd ?_; refine blk_far ?_ NB114_117.out _; refine bd ?_; refine blk_far ?_ NB114_117.out _; refine bd ?_; exact BK114.out) hb); replace BK115 := Aside0.mk (blk_below (g := gb115) (o := .cells #[.int .i64 x116000_3, .int .i64 x116001_3] 29 (0, 0)) (by refine bd ?_; refine blk_far ?_ NB115_117.out _; refine bd ?_; refine blk_far ?_ NB115_117.out _; refine bd ?_; exact BK115.out) hb); replace BK117 := Aside0.mk (blk_below (g := gb117) (o := .cells #[.int .i64 ((rd_T29 l0 x11_3).f0), .int .i64 ((rd_T29 l0 x11_3).f1)] 29 (0, 0)) (by refine bd ?_; refine blk_put (cs := #[.int .i64 ((rd_T29 l0 x11_3).f0), .int .i64 0]) ?_ 1 _ rfl; refine bd ?_; refine blk_put (cs := #[.int .i64 0, .int .i64 0]) ?_ 0 _ rfl; refine bd ?_; exact BK117.out) hb); replace HB := Aside0.mk (below_step bh hb); (try clear hb); (try clear hb2); (try clear hk); (try clear hi)))
           (try simp only [Act.put, List.setIfInBounds_toArray, List.set_cons_zero, List.set_cons_succ])
           go_cut [98] (fun v98 wc => ∃ (kq : Nat) (x98_48 : Bool), v98 = .bool x98_48 ∧ Aside0 (cracknelref04_Hull.j5 kq l0 x8_2 x11_3 x98_48 x103000_1 x103001_1 ((rd_T29 x8_2 (ji26)).f0) ((rd_T29 x8_2 (ji26)).f1) x116000_3 x116001_3 ((rd_T29 l0 x11_3).f0) ((rd_T29 l0 x11_3).f1) = some (r1, r2)) ∧ Aside0 (kq ≤ k3) ∧ Aside0 (Kd.R k29 29 wc w.heap.size (fun k_ => k_ ≠ gb102 ∧ k_ ≠ gb114 ∧ k_ ≠ gb115 ∧ k_ ≠ gb117) (.slice (some ad113) x8_2.length co29) x8_2) ∧ Aside0 (wc.heap[gb102]? = some (.cells #[.int .i64 x103000_1, .int .i64 x103001_1] 29 (0, 0))) ∧ Aside0 (wc.heap[gb114]? = some (.cells #[.int .i64 ((rd_T29 x8_2 (ji26)).f0), .int .i64 ((rd_T29 x8_2 (ji26)).f1)] 29 (0, 0))) ∧ Aside0 (wc.heap[gb115]? = some (.cells #[.int .i64 x116000_3, .int .i64 x116001_3] 29 (0, 0))) ∧ Aside0 (wc.heap[gb117]? = some (.cells #[.int .i64 ((rd_T29 l0 x11_3).f0), .int .i64 ((rd_T29 l0 x11_3).f1)] 29 (0, 0))) ∧ Aside0 (Below w.heap.size w wc))
           case first =>
            have H := HC49.out
            clear HC49
            by_cases c61 : (x116000_3 == ((rd_T29 x8_2 (ji26)).f0) && (x116001_3 == ((rd_T29 x8_2 (ji26)).f1))) = true
            ·rw [if_pos c61] at H
             have c61b0 : (x116000_3 == ((rd_T29 x8_2 (ji26)).f0) && (x116001_3 == ((rd_T29 x8_2 (ji26)).f1))) = true := c61
             (try (have c61b1 : decide (x116000_3 = ((rd_T29 x8_2 (ji26)).f0) && (x116001_3 == ((rd_T29 x8_2 (ji26)).f1))) = true := by simpa using c61))
             (try (have c61b2 : (x116000_3 == ((rd_T29 x8_2 (ji26)).f0) && (x116001_3 == ((rd_T29 x8_2 (ji26)).f1))) = true := by simpa using c61))
             clear c61
             (first | rw [c61b0] | (simp only [i64_w, i32_w]; rw [c61b0]) | skip)
             have H' := Aside0.mk H
             clear H
             have hnb62 := NB115_102.out
             have hnc62 := NB102_115.out
             have hnb63 := NB115_114.out
             have hnc63 := NB114_115.out
             have hnb64 := NB115_117.out
             have hnc64 := NB117_115.out
             obtain ⟨hcz65_0, hcz65_1, hfz65_0, hfz65_1⟩ := b2 BK115
             have hnb66 := NB114_102.out
             have hnc66 := NB102_114.out
             have hnb67 := NB114_117.out
             have hnc67 := NB117_114.out
             obtain ⟨hcz68_0, hcz68_1, hfz68_0, hfz68_1⟩ := b2 BK114
             go_wp2
             go_meet
             case rel => exact ⟨_, (true), sd, H', ⟨by have := HK1.out; have := HK2.out; have := HK3.out; first | omega | exact Nat.le_refl _⟩, ⟨by (with_reducible repeat (first | apply Kd.R_alloc | apply Kd.R_drewN | apply Kd.R_drew)); exact Kd.R_mono HO_8.out (fun _ hk => ⟨hk.1.1, ⟨hk.1.2.1, ⟨hk.1.2.2, hk.2⟩⟩⟩)⟩, ⟨bk BK102⟩, ⟨bk BK114⟩, ⟨bk BK115⟩, ⟨bk BK117⟩, ⟨bh⟩⟩
            ·rw [if_neg c61] at H
             have c61b0 : (x116000_3 == ((rd_T29 x8_2 (ji26)).f0) && (x116001_3 == ((rd_T29 x8_2 (ji26)).f1))) = false := by simpa using c61
             (try (have c61b1 : decide (x116000_3 = ((rd_T29 x8_2 (ji26)).f0) && (x116001_3 == ((rd_T29 x8_2 (ji26)).f1))) = false := by simpa using c61))
             (try (have c61b2 : (x116000_3 == ((rd_T29 x8_2 (ji26)).f0) && (x116001_3 == ((rd_T29 x8_2 (ji26)).f1))) = false := by simpa using c61))
             (try (have c61b3 : ¬ (x116000_3 = ((rd_T29 x8_2 (ji26)).f0) && (x116001_3 == ((rd_T29 x8_2 (ji26)).f1))) := by simpa using c61))
             clear c61
             (first | rw [c61b0] | (simp only [i64_w, i32_w]; rw [c61b0]) | skip)
             by_cases c69 : t118 < 0
             ·rw [if_pos c69] at H
              have c69b0 := decide_eq_true c69
              clear c69
              have H' := Aside0.mk H
              clear H
              have hnb70 := NB115_102.out
              have hnc70 := NB102_115.out
              have hnb71 := NB115_114.out
              have hnc71 := NB114_115.out
              have hnb72 := NB115_117.out
              have hnc72 := NB117_115.out
              obtain ⟨hcz73_0, hcz73_1, hfz73_0, hfz73_1⟩ := b2 BK115
              have hnb74 := NB114_102.out
              have hnc74 := NB102_114.out
              have hnb75 := NB114_117.out
              have hnc75 := NB117_114.out
              obtain ⟨hcz76_0, hcz76_1, hfz76_0, hfz76_1⟩ := b2 BK114
              go_wp2
              go_meet
              case rel => exact ⟨_, (true), sd, H', ⟨by have := HK1.out; have := HK2.out; have := HK3.out; first | omega | exact Nat.le_refl _⟩, ⟨by (with_reducible repeat (first | apply Kd.R_alloc | apply Kd.R_drewN | apply Kd.R_drew)); exact Kd.R_mono HO_8.out (fun _ hk => ⟨hk.1.1, ⟨hk.1.2.1, ⟨hk.1.2.2, hk.2⟩⟩⟩)⟩, ⟨bk BK102⟩, ⟨bk BK114⟩, ⟨bk BK115⟩, ⟨bk BK117⟩, ⟨bh⟩⟩
             ·rw [if_neg c69] at H
              have c69b0 := decide_eq_false c69
              clear c69
              by_cases c77 : t118 = 0
              ·rw [if_pos c77] at H
               have c77b0 : (t118 == 0) = true := beq_iff_eq.mpr c77
               have c77b1 : (t118 != 0) = false := bne_eq_false_iff_eq.mpr c77
               clear c77
               replace H := Option.bind_eq_some_iff.mp H
               obtain ⟨t119, A780, H⟩ := H
               replace H : (cracknelref04_Hull.j5 k3 l0 x8_2 x11_3 t119 x103000_1 x103001_1 ((rd_T29 x8_2 (ji26)).f0) ((rd_T29 x8_2 (ji26)).f1) x116000_3 x116001_3 ((rd_T29 l0 x11_3).f0) ((rd_T29 l0 x11_3).f1)) = some (r1, r2) := H
               have A78 := Aside0.mk A780
               clear A780
               have H' := Aside0.mk H
               clear H
               have hnb79 := NB115_102.out
               have hnc79 := NB102_115.out
               have hnb80 := NB115_114.out
               have hnc80 := NB114_115.out
               have hnb81 := NB115_117.out
               have hnc81 := NB117_115.out
               obtain ⟨hcz82_0, hcz82_1, hfz82_0, hfz82_1⟩ := b2 BK115
               have hnb83 := NB114_102.out
               have hnc83 := NB102_114.out
               have hnb84 := NB114_117.out
               have hnc84 := NB117_114.out
               obtain ⟨hcz85_0, hcz85_1, hfz85_0, hfz85_1⟩ := b2 BK114
               have hnb86 := NB117_102.out
               have hnc86 := NB102_117.out
               obtain ⟨hcz87_0, hcz87_1, hfz87_0, hfz87_1⟩ := b2 BK117
               go_wp2_with (first | (go_at_call 62; (with_reducible refine (cracknelref04_On.calls ((rd_T29 x8_2 (ji26)).f0) ((rd_T29 x8_2 (ji26)).f1) ((rd_T29 l0 x11_3).f0) ((rd_T29 l0 x11_3).f1) x116000_3 x116001_3 t119 _ A78.out).mono ?_); rintro e w88 ⟨rfl, hb⟩; replace HO_8 := Aside0.mk (Kd.R_below (ro HO_8) hb); replace BK102 := kb BK102 hb; replace BK114 := kb BK114 hb; replace BK115 := kb BK115 hb; replace BK117 := kb BK117 hb; replace HB := Aside0.mk (below_step bh hb); (try clear hb); (try clear hb2); (try clear hk); (try clear hi)))
               go_meet
               case rel => exact ⟨_, (t119), sd, H', ⟨by have := HK1.out; have := HK2.out; have := HK3.out; first | omega | exact Nat.le_refl _⟩, ⟨by (with_reducible repeat (first | apply Kd.R_alloc | apply Kd.R_drewN | apply Kd.R_drew)); exact Kd.R_mono HO_8.out (fun _ hk => ⟨hk.1.1, ⟨hk.1.2.1, ⟨hk.1.2.2, hk.2⟩⟩⟩)⟩, ⟨bk BK102⟩, ⟨bk BK114⟩, ⟨bk BK115⟩, ⟨bk BK117⟩, ⟨bh⟩⟩
              ·rw [if_neg c77] at H
               have c77b0 : (t118 == 0) = false := beq_eq_false_iff_ne.mpr c77
               have c77b1 : (t118 != 0) = true := bne_iff_ne.mpr c77
               have H' := Aside0.mk H
               clear H
               have hnb89 := NB115_102.out
               have hnc89 := NB102_115.out
               have hnb90 := NB115_114.out
               have hnc90 := NB114_115.out
               have hnb91 := NB115_117.out
               have hnc91 := NB117_115.out
               obtain ⟨hcz92_0, hcz92_1, hfz92_0, hfz92_1⟩ := b2 BK115
               have hnb93 := NB114_102.out
               have hnc93 := NB102_114.out
               have hnb94 := NB114_117.out
               have hnc94 := NB117_114.out
               obtain ⟨hcz95_0, hcz95_1, hfz95_0, hfz95_1⟩ := b2 BK114
               go_wp2
               go_meet
               case rel => exact ⟨_, (false), sd, H', ⟨by have := HK1.out; have := HK2.out; have := HK3.out; first | omega | exact Nat.le_refl _⟩, ⟨by (with_reducible repeat (first | apply Kd.R_alloc | apply Kd.R_drewN | apply Kd.R_drew)); exact Kd.R_mono HO_8.out (fun _ hk => ⟨hk.1.1, ⟨hk.1.2.1, ⟨hk.1.2.2, hk.2⟩⟩⟩)⟩, ⟨bk BK102⟩, ⟨bk BK114⟩, ⟨bk BK115⟩, ⟨bk BK117⟩, ⟨bh⟩⟩
           case rest =>
            clear HC49
            (try clear c1); (try clear p1); (try clear q1); (try clear hx1); (try clear qi1); (try clear c2); (try clear c2b0); (try clear c2b1); (try clear p2); (try clear c3); (try clear c4); (try clear c5); (try clear c5b0); (try clear c6); (try clear c6b0); (try clear p6); (try clear c7); (try clear c8); (try clear c9); (try clear p10); (try clear q10); (try clear hx10); (try clear qi10); (try clear c11); (try clear p11); (try clear q11); (try clear hx11); (try clear c13); (try clear c13b0); (try clear c14); (try clear c15); (try clear c15b0); (try clear c15b1); (try clear c16); (try clear c16b0); (try clear c17); (try clear c17b0); (try clear c18); (try clear c18b0); (try clear c19); (try clear c22); (try clear c27); (try clear c27b0); (try clear c28); (try clear c28b0); (try clear c31); (try clear c34); (try clear c35); (try clear c37); (try clear c37b0); (try clear c38); (try clear c38b0); (try clear c39); (try clear c39b0); (try clear c39b1); (try clear c39b2); (try clear c41); (try clear c42); (try clear c43); (try clear c45); (try clear c46); (try clear c51); (try clear c52); (try clear c53); (try clear c55); (try clear c56); (try clear c58); (try clear c61); (try clear c61b0); (try clear c61b1); (try clear c61b2); (try clear c62); (try clear c63); (try clear c64); (try clear p64); (try clear c66); (try clear c67); (try clear c69); (try clear c69b0); (try clear c70); (try clear c71); (try clear c72); (try clear c74); (try clear c75); (try clear c77); (try clear c77b0); (try clear c77b1); (try clear c79); (try clear c80); (try clear c81); (try clear c83); (try clear c84); (try clear c86); (try clear c89); (try clear c90); (try clear c91); (try clear c93); (try clear c94); (try clear hcz12_0); (try clear hcz12_1); (try clear hcz23_0); (try clear hcz23_1); (try clear hcz32_0); (try clear hcz32_1); (try clear hcz36_0); (try clear hcz36_1); (try clear hcz44_0); (try clear hcz44_1); (try clear hcz47_0); (try clear hcz47_1); (try clear hcz4_0); (try clear hcz4_1); (try clear hcz54_0); (try clear hcz54_1); (try clear hcz57_0); (try clear hcz57_1); (try clear hcz59_0); (try clear hcz59_1); (try clear hcz65_0); (try clear hcz65_1); (try clear hcz68_0); (try clear hcz68_1); (try clear hcz73_0); (try clear hcz73_1); (try clear hcz76_0); (try clear hcz76_1); (try clear hcz82_0); (try clear hcz82_1); (try clear hcz85_0); (try clear hcz85_1); (try clear hcz87_0); (try clear hcz87_1); (try clear hcz92_0); (try clear hcz92_1); (try clear hcz95_0); (try clear hcz95_1); (try clear hfz12_0); (try clear hfz12_1); (try clear hfz23_0); (try clear hfz23_1); (try clear hfz32_0); (try clear hfz32_1); (try clear hfz36_0); (try clear hfz36_1); (try clear hfz44_0); (try clear hfz44_1); (try clear hfz47_0); (try clear hfz47_1); (try clear hfz4_0); (try clear hfz4_1); (try clear hfz54_0); (try clear hfz54_1); (try clear hfz57_0); (try clear hfz57_1); (try clear hfz59_0); (try clear hfz59_1); (try clear hfz65_0); (try clear hfz65_1); (try clear hfz68_0); (try clear hfz68_1); (try clear hfz73_0); (try clear hfz73_1); (try clear hfz76_0); (try clear hfz76_1); (try clear hfz82_0); (try clear hfz82_1); (try clear hfz85_0); (try clear hfz85_1); (try clear hfz87_0); (try clear hfz87_1); (try clear hfz92_0); (try clear hfz92_1); (try clear hfz95_0); (try clear hfz95_1); (try clear hx101_0); (try clear hx101_1); (try clear hx103_0); (try clear hx103_1); (try clear hx105_0); (try clear hx105_1); (try clear hx106_0); (try clear hx106_1); (try clear hx107_0); (try clear hx107_1); (try clear hx108_0); (try clear hx108_1); (try clear hx113_0); (try clear hx113_1); (try clear hx116_0); (try clear hx116_1); (try clear p1); (try clear p10); (try clear p101); (try clear p103); (try clear p105); (try clear p106); (try clear p107); (try clear p108); (try clear p11); (try clear p113); (try clear p116); (try clear p2); (try clear p6); (try clear q1); (try clear q10); (try clear q101); (try clear q103); (try clear q105); (try clear q106); (try clear q107); (try clear q108); (try clear q11); (try clear q113); (try clear q116)
            obtain ⟨kq, x98_48, rfl, HA, HJ48, HO_8, BK102, BK114, BK115, BK117, HB⟩ := hcut
            cases kq with
            | zero => exact absurd HA.out (by simp [cracknelref04_Hull.j5])
            | succ kj48 =>
             have H := HA.out
             clear HA
             simp only [cracknelref04_Hull.j5] at H
             by_cases c96 : x98_48 = true
             ·subst c96
              rw [if_pos rfl] at H
              have H' := Aside0.mk H
              clear H
              have hnb97 := NB117_102.out
              have hnc97 := NB102_117.out
              have hnb98 := NB117_114.out
              have hnc98 := NB114_117.out
              have hnb99 := NB117_115.out
              have hnc99 := NB115_117.out
              obtain ⟨hcz100_0, hcz100_1, hfz100_0, hfz100_1⟩ := b2 BK117
              have hnb101 := NB115_102.out
              have hnc101 := NB102_115.out
              have hnb102 := NB115_114.out
              have hnc102 := NB114_115.out
              obtain ⟨hcz103_0, hcz103_1, hfz103_0, hfz103_1⟩ := b2 BK115
              go_wp2
              go_roundg kj48
              case measure => have := HK1.out; have := HK2.out; have := HK3.out; have := HJ48.out; omega
              case rel => exact ⟨(wrap64 (x11_3 + 1)), (((rd_T29 l0 x11_3).f0)), (((rd_T29 l0 x11_3).f1)), sd, H', ⟨by have := HK1.out; have := HK2.out; have := HK3.out; have := HJ48.out; omega⟩, ⟨by (with_reducible repeat (first | apply Kd.R_alloc | apply Kd.R_drewN | apply Kd.R_drew)); exact Kd.R_mono (Kd.R_far (p := ⟨gb115, 1, none⟩) (Kd.R_far (p := ⟨gb115, 0, none⟩) (Kd.R_mono HO_8.out (fun k_ hk => (⟨hk, hk.2.2.1⟩ : _ ∧ k_ ≠ gb115))) (fun _ hk => hk.2) (.int .i64 ((rd_T29 l0 x11_3).f0))) (fun _ hk => hk.2) (.int .i64 ((rd_T29 l0 x11_3).f1))) (fun _ hk => ⟨hk.1.1, ⟨hk.1.2.1, hk.1.2.2.1⟩⟩)⟩, ⟨by refine bd ?_; refine blk_far ?_ NB102_115.out _; refine bd ?_; refine blk_far ?_ NB102_115.out _; refine bd ?_; exact BK102.out⟩, ⟨by refine bd ?_; refine blk_far ?_ NB114_115.out _; refine bd ?_; refine blk_far ?_ NB114_115.out _; refine bd ?_; exact BK114.out⟩, ⟨by refine bd ?_; refine blk_put (cs := #[.int .i64 ((rd_T29 l0 x11_3).f0), .int .i64 x116001_3]) ?_ 1 _ rfl; refine bd ?_; refine blk_put (cs := #[.int .i64 x116000_3, .int .i64 x116001_3]) ?_ 0 _ rfl; refine bd ?_; exact BK115.out⟩, ⟨bh⟩⟩
             ·replace c96 := Bool.eq_false_iff.mpr c96
              subst c96
              rw [if_neg (show ¬ (false = true) by decide)] at H
              have H' := Aside0.mk H
              clear H
              go_wp2
              go_roundg kj48
              case measure => have := HK1.out; have := HK2.out; have := HK3.out; have := HJ48.out; omega
              case rel => exact ⟨(wrap64 (x11_3 + 1)), (x116000_3), (x116001_3), sd, H', ⟨by have := HK1.out; have := HK2.out; have := HK3.out; have := HJ48.out; omega⟩, ⟨by (with_reducible repeat (first | apply Kd.R_alloc | apply Kd.R_drewN | apply Kd.R_drew)); exact Kd.R_mono HO_8.out (fun _ hk => ⟨hk.1, ⟨hk.2.1, hk.2.2.1⟩⟩)⟩, ⟨bk BK102⟩, ⟨bk BK114⟩, ⟨bk BK115⟩, ⟨bh⟩⟩
         ·rw [if_neg c37] at H
          have c37b0 := decide_eq_false c37
          clear c37
          by_cases c104 : (x116000_3 == x103000_1 && (x116001_3 == x103001_1)) = true
          ·rw [if_pos c104] at H
           have c104b0 : (x116000_3 == x103000_1 && (x116001_3 == x103001_1)) = true := c104
           (try (have c104b1 : decide (x116000_3 = x103000_1 && (x116001_3 == x103001_1)) = true := by simpa using c104))
           (try (have c104b2 : (x116000_3 == x103000_1 && (x116001_3 == x103001_1)) = true := by simpa using c104))
           clear c104
           simp only [Option.some.injEq, Prod.mk.injEq] at H
           obtain ⟨rfl, rfl⟩ := H
           have hnb105 := NB115_102.out
           have hnc105 := NB102_115.out
           have hnb106 := NB115_114.out
           have hnc106 := NB114_115.out
           obtain ⟨hcz107_0, hcz107_1, hfz107_0, hfz107_1⟩ := b2 BK115
           have hnb108 := NB102_114.out
           have hnc108 := NB114_102.out
           obtain ⟨hcz109_0, hcz109_1, hfz109_0, hfz109_1⟩ := b2 BK102
           go_wp2
           go_ret2
           exact ⟨_, by first | rfl | (simp [errW_none, errW_some] <;> rfl) | (simp only [← hji26]; first | rfl | (simp [errW_none, errW_some] <;> rfl)) | (simp [*, errW_none, errW_some] <;> rfl), by (with_reducible repeat (first | apply Kd.R_alloc | apply Kd.R_drewN | apply Kd.R_drew)); exact Kd.R_mono HO_8.out (fun _ hk => trivial), bh⟩
          ·rw [if_neg c104] at H
           have c104b0 : (x116000_3 == x103000_1 && (x116001_3 == x103001_1)) = false := by simpa using c104
           (try (have c104b1 : decide (x116000_3 = x103000_1 && (x116001_3 == x103001_1)) = false := by simpa using c104))
           (try (have c104b2 : (x116000_3 == x103000_1 && (x116001_3 == x103001_1)) = false := by simpa using c104))
           (try (have c104b3 : ¬ (x116000_3 = x103000_1 && (x116001_3 == x103001_1)) := by simpa using c104))
           clear c104
           replace H := oi H
           obtain ⟨c110, H⟩ := H
           have LMc110 := Aside0.mk c110
           clear c110
           obtain ⟨y120, hy120⟩ : ∃ y_ : List (S29), y_ = (x8_2 ++ [(⟨x116000_3, x116001_3⟩ : S29)]) := ⟨_, rfl⟩
           replace H : (cracknelref04_Hull.l2 k3 l0 y120 x103000_1 x103001_1) = some (r1, r2) := by first | (rw [hy120]; with_reducible exact H) | (have H2_ := (Option.bind_some _ _).symm.trans H; rw [hy120]; with_reducible exact H2_) | (have H2_ := (Option.bind_some _ _).symm.trans H; with_reducible exact H2_) | with_reducible exact H | (rw [hy120]; exact H) | exact H
           have Ny120 := Aside0.mk hy120
           clear hy120
           have H' := Aside0.mk H
           clear H
           have hnb111 := NB115_102.out
           have hnc111 := NB102_115.out
           have hnb112 := NB115_114.out
           have hnc112 := NB114_115.out
           obtain ⟨hcz113_0, hcz113_1, hfz113_0, hfz113_1⟩ := b2 BK115
           have hnb114 := NB102_114.out
           have hnc114 := NB114_102.out
           obtain ⟨hcz115_0, hcz115_1, hfz115_0, hfz115_1⟩ := b2 BK102
           go_wp2_with (first | ((with_reducible refine gate_builtin (b := .append) (xs := #[.tmp 104, .tmp 106]) rfl ?_); at_builtin; refine Kd.R_append k29 (w0 := w) w.heap.size rfl (.tmp 104) (.tmp 106) 22 29 (.agg #[(.int .i64 0), (.int .i64 0)]) 16 rfl Try.underlying22 info29 rfl (by decide) (by omega) (.slice (some ad113) x8_2.length co29) x8_2 (⟨x116000_3, x116001_3⟩ : S29) [.int .i64 x116000_3, .int .i64 x116001_3] (fun k_ => k_ ≠ gb102 ∧ k_ ≠ gb114 ∧ k_ ≠ gb115) (fun _ => False) rfl rfl ?aP (fun _ hk => hk.elim) ?aF ?aO ?aB ?aS ?aL ?_; (case aP => exact k29_mkM _ _ _ (⟨x116000_3, x116001_3⟩ : S29)); (case aB => exact bh); (case aF => exact (fun k_ hk => ⟨Kd.freshB (g := gb102) (o := .cells #[.int .i64 x103000_1, .int .i64 x103001_1] 29 (0, 0)) (bk BK102) k_ hk, Kd.freshB (g := gb114) (o := .cells #[.int .i64 ((rd_T29 x8_2 (ji26)).f0), .int .i64 ((rd_T29 x8_2 (ji26)).f1)] 29 (0, 0)) (bk BK114) k_ hk, Kd.freshB (g := gb115) (o := .cells #[.int .i64 x116000_3, .int .i64 x116001_3] 29 (0, 0)) (bk BK115) k_ hk⟩)); (case aO => exact (ro HO_8)); (case aS => exact (below_size bh)); (case aL => have := LMc110.out; omega); intro v121 w116 ho hb hg hat; rw [← Ny120.out] at ho; have HO122 := Aside0.mk (ho); replace BK102 := Aside0.mk (blk_grown (g := gb102) (o := .cells #[.int .i64 x103000_1, .int .i64 x103001_1] 29 (0, 0)) (bk BK102) hg (Kd.R_away HO_8.out (fun _ hk => hk.1))); replace BK114 := Aside0.mk (blk_grown (g := gb114) (o := .cells #[.int .i64 ((rd_T29 x8_2 (ji26)).f0), .int .i64 ((rd_T29 x8_2 (ji26)).f1)] 29 (0, 0)) (bk BK114) hg (Kd.R_away HO_8.out (fun _ hk => hk.2.1))); replace BK115 := Aside0.mk (blk_grown (g := gb115) (o := .cells #[.int .i64 x116000_3, .int .i64 x116001_3] 29 (0, 0)) (bk BK115) hg (Kd.R_away HO_8.out (fun _ hk => hk.2.2))); replace HB := Aside0.mk (hb); clear HO_8; clear ho hb hg hat))
           go_roundg k3
           case measure => have := HK1.out; have := HK2.out; have := HK3.out; omega
           case rel => exact ⟨(y120), H', ⟨by have := HK1.out; have := HK2.out; have := HK3.out; omega⟩, ⟨by (with_reducible repeat (first | apply Kd.R_alloc | apply Kd.R_drewN | apply Kd.R_drew)); exact Kd.R_mono HO122.out (fun _ hk => hk.1)⟩, ⟨bk BK102⟩, ⟨bh⟩⟩
/-! ### cracknellaw04_hull: function 23 -/
def cracknellaw04_hull.f (k : Nat) (l0 : List (S29)) (a1 : Int) : Option ((List (S29))) := (cracknellaw04_points.f k l0 a1 9).bind fun t101 => ((some (([(⟨0, 0⟩ : S29), (⟨1, 0⟩ : S29), (⟨0, 1⟩ : S29)] : List (S29)) : List (S29))).bind fun y104 => (if t101.length + y104.length < 8796093022208 then ((cracknelref04_Hull.f k (t101 ++ y104)).bind fun bt110 => (some bt110.1)) else (none)))
set_option maxHeartbeats 8000000 in
set_option maxRecDepth 100000 in
theorem cracknellaw04_hull.calls (k : Nat) (A0 : Option Addr) (c0 : Nat) (l0 : List (S29)) (a1 : Int) (r : List (S29)) (w : World) (hr0 : Kd.C k29 w A0 l0.length l0) (hc0 : l0.length ≤ c0) (h : cracknellaw04_hull.f k l0 a1 = some r) :
  Calls Try.prog 23 #[.slice A0 l0.length c0, .int .i64 a1] w fun e w' => ∃ v0_ : Value, e = .returned (v0_) ∧ Kd.R k29 29 w' w.heap.size (fun _ => True) v0_ r ∧ Below w.heap.size w w' := by
 have hu29 := Try.underlying29
 have HR0 := Aside0.mk hr0
 have HC0 := Aside0.mk hc0
 clear hr0 hc0
 have HB := Aside0.mk (Below.refl w.heap.size w)
 have H : ((cracknellaw04_points.f k l0 a1 9).bind fun t101 => ((some (([(⟨0, 0⟩ : S29), (⟨1, 0⟩ : S29), (⟨0, 1⟩ : S29)] : List (S29)) : List (S29))).bind fun y104 => (if t101.length + y104.length < 8796093022208 then ((cracknelref04_Hull.f k (t101 ++ y104)).bind fun bt110 => (some bt110.1)) else (none)))) = some r := h
 clear h
 replace H := Option.bind_eq_some_iff.mp H
 obtain ⟨t101, A30, H⟩ := H
 try dsimp only at H
 have A3 := Aside0.mk A30
 clear A30
 obtain ⟨y104, hy104⟩ : ∃ y_ : List (S29), y_ = (([(⟨0, 0⟩ : S29), (⟨1, 0⟩ : S29), (⟨0, 1⟩ : S29)] : List (S29))) := ⟨_, rfl⟩
 replace H : (if t101.length + y104.length < 8796093022208 then ((cracknelref04_Hull.f k (t101 ++ y104)).bind fun bt110 => (some bt110.1)) else (none)) = some r := by first | (rw [hy104]; with_reducible exact H) | (have H2_ := (Option.bind_some _ _).symm.trans H; rw [hy104]; with_reducible exact H2_) | (have H2_ := (Option.bind_some _ _).symm.trans H; with_reducible exact H2_) | with_reducible exact H | (rw [hy104]; exact H) | exact H
 have Ny104 := Aside0.mk hy104
 clear hy104
 replace H := oi H
 obtain ⟨c4, H⟩ := H
 have LMc4 := Aside0.mk c4
 clear c4
 obtain ⟨y107, hy107⟩ : ∃ y_ : List (S29), y_ = (t101 ++ y104) := ⟨_, rfl⟩
 replace H : ((cracknelref04_Hull.f k y107).bind fun bt110 => (some bt110.1)) = some r := by first | (rw [hy107]; with_reducible exact H) | (have H2_ := (Option.bind_some _ _).symm.trans H; rw [hy107]; with_reducible exact H2_) | (have H2_ := (Option.bind_some _ _).symm.trans H; with_reducible exact H2_) | with_reducible exact H | (rw [hy107]; exact H) | exact H
 have Ny107 := Aside0.mk hy107
 clear hy107
 replace H := Option.bind_eq_some_iff.mp H
 obtain ⟨⟨t110, t111⟩, A50, H⟩ := H
 try dsimp only at H
 have A5 := Aside0.mk A50
 clear A50
 obtain rfl := Option.some.inj H
 go_enter Try.func23, Try.ntmps23
 go_wp2_with (first | ((with_reducible refine gc 38 rfl ?_); refine goesL_ (some 10) rfl rfl Try.func38 (by kernel_rfl) rfl #[.slice A0 l0.length c0, .int .i64 a1, .int .i64 9] rfl sg ?_; (with_reducible refine (cracknellaw04_points.calls k _ _ l0 a1 9 t101 _ ?side1 ?side2 A3.out).mono ?_); (case side1 => repeat (first | exact HR0.out | (with_reducible refine Kd.C_alloc ?_ _) | (with_reducible refine Kd.C_drewN ?_ _) | (with_reducible refine Kd.C_drew ?_))); (case side2 => exact HC0.out); rintro e w6 ⟨v102, rfl, ho0, hb⟩; refine ⟨_, rfl, ?_⟩; have HO103 := Aside0.mk (Kd.R_lower ho0 (below_size bh)); replace HB := Aside0.mk (below_step bh hb); (try clear hb); (try clear hb2); (try clear hk); (try clear hi); (try clear ho0)) | ((with_reducible refine gate_dst (N := 15) rfl ?_); refine Kd.R_lit k29 _ 29 ?hg (N := 15) ?hd (xs := ([(⟨0, 0⟩ : S29), (⟨1, 0⟩ : S29), (⟨0, 1⟩ : S29)] : List (S29))) (inner := [.int .i64 0, .int .i64 0, .int .i64 1, .int .i64 0, .int .i64 0, .int .i64 1]) (ok := fun _ => True) (okp := fun _ => True) ?hr ?hp (fun _ hk => hk) trivial (Below.refl _ _) (Nat.le_refl _) (by simp) ?_; (case hd => rfl); (case hg => rfl); (case hr => first | (go_simp; done) | (go_simp; rfl)); (case hp => exact (Reps.c2 (k29_mkM _ _ _ (⟨0, 0⟩ : S29)) (Reps.c2 (k29_mkM _ _ _ (⟨1, 0⟩ : S29)) (Reps.c2 (k29_mkM _ _ _ (⟨0, 1⟩ : S29)) (Reps.none _ _))))); intro v105 w7 ho8 hb hg_ hnew_; clear hg_ hnew_; (first | rw [← Ny104.out] at ho8 | (simp only [Int.reduceToNat] at ho8; rw [← Ny104.out] at ho8)); have HO106 := Aside0.mk (Kd.R_lower (Kd.R_new' ho8 (Kd.R_lt (ro HO103))) (below_size bh)); replace HO103 := Aside0.mk (Kd.R_elder' (ro HO103) (Kd.R_base ho8) hb); replace HB := Aside0.mk (below_step bh hb); clear hb ho8; obtain ⟨Ao10, co10, eo10⟩ := Kd.R_slice HO106.out; subst eo10) | ((with_reducible refine gate_builtin (b := .append) (xs := #[.tmp 11, .tmp 15]) rfl ?_); at_builtin; refine Kd.R_append_rows k29 (w0 := w) w.heap.size rfl (.tmp 11) (.tmp 15) 22 29 (.agg #[(.int .i64 0), (.int .i64 0)]) 16 rfl Try.underlying22 info29 rfl (by decide) (by omega) v102 t101 y104 _ _ _ (fun k_ => some k_ ≠ (.slice Ao10 y104.length co10 : Value).ownBlock) (fun _ => False) rfl rfl ?aO ?aR (fun _ _ h => h) (fun _ h => h.elim) ?aF ?aB ?aS ?aL ?_; (case aR => repeat (first | exact (Kd.R_reads' HO106.out).2.2 | (with_reducible refine Kd.C_alloc ?_ _) | (with_reducible refine Kd.C_drewN ?_ _) | (with_reducible refine Kd.C_drew ?_))); (case aB => exact bh); (case aF => exact (fun k_ hk => Kd.fresh' (Kd.R_lt (ro HO106)) k_ hk)); (case aO => exact (by (with_reducible repeat (first | apply Kd.R_alloc | apply Kd.R_drewN | apply Kd.R_drew)); exact Kd.R_mono HO103.out (fun _ hk => hk.2))); (case aS => exact (below_size bh)); (case aL => have := LMc4.out; omega); intro v108 w9 ho hb hg hat; rw [← Ny107.out] at ho; have HO109 := Aside0.mk (ho); replace HO106 := Aside0.mk (Kd.R_after (ok := (fun _ => True)) (ro HO106) hg hat); replace HB := Aside0.mk (hb); clear HO103; clear ho hb hg hat; obtain ⟨Ao11, co11, eo11⟩ := Kd.R_slice HO109.out; subst eo11) | ((with_reducible refine gc 19 rfl ?_); refine goesL_ (some 19) rfl rfl Try.func19 (by kernel_rfl) rfl #[.slice Ao11 y107.length co11] rfl sg ?_; (with_reducible refine (cracknelref04_Hull.calls k _ _ y107 t110 t111 _ ?side1 ?side2 A5.out).mono ?_); (case side1 => exact cs (Kd.R_reads' HO109.out).2.2); (case side2 => exact (Kd.R_reads' HO109.out).2.1); rintro e w12 ⟨v112, rfl, ho0, hb⟩; refine ⟨_, rfl, ?_⟩; have HO113 := Aside0.mk (Kd.R_lower (Kd.R_new' (Kd.R_new' ho0 (Kd.R_lt (ro HO106))) (Kd.R_lt (ro HO109))) (below_size bh)); replace HO106 := Aside0.mk (Kd.R_elder' (ro HO106) (Kd.R_base ho0) hb); replace HO109 := Aside0.mk (Kd.R_elder' (ro HO109) (Kd.R_base ho0) hb); replace HB := Aside0.mk (below_step bh hb); (try clear hb); (try clear hb2); (try clear hk); (try clear hi); (try clear ho0)))
 go_ret
 exact ⟨_, by exact er, by (with_reducible repeat (first | apply Kd.R_alloc | apply Kd.R_drewN | apply Kd.R_drew)); exact Kd.R_mono HO113.out (fun _ hk => trivial), bh⟩
end Go.Proofs.Ytoffmpkgickfhaa.PG
end
