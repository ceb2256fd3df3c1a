/- Parts of the proof of YtoffmpkgickfhaaLawShapeMinkowski: printed walks, their words, and plain laws. -/
import Derived.Test.YtoffmpkgickfhaaQM1
import Derived.Test.YtoffmpkgickfhaaQM2
import Derived.Test.YtoffmpkgickfhaaQM4
section
namespace Go.Proofs.Ytoffmpkgickfhaa.PG
open Go.RowKit Go.Proofs.YtoffmpkgickfhaaW.PrintWords Go.Proofs.YtoffmpkgickfhaaW.PrintLast Go.Proofs.YtoffmpkgickfhaaW.PrintMore
attribute [local go_sem] max2_int min2_int max_two min_two max_three min_three max_four min_four
set_option linter.unusedVariables false
set_option linter.unusedSimpArgs false
attribute [local go_sem high] eqA29
/-! ### shape_normal: function 72 -/
def shape_normal.l0 : Nat → List (S29) → Int → Int → Option (Bool)
 | 0, _, _, _ => none
 | k + 1, x0, x5, x6 => if x6 < x5 then (if 0 ≤ x6 then (if x6 < (x0.length : Int) then (if (x0.length : Int) = 0 then (none) else (if 0 ≤ (Int.tmod (wrap64 (x6 + 1)) (x0.length : Int)) then (if (Int.tmod (wrap64 (x6 + 1)) (x0.length : Int)) < (x0.length : Int) then (if 0 ≤ (Int.tmod (wrap64 (x6 + 2)) (x0.length : Int)) then (if (Int.tmod (wrap64 (x6 + 2)) (x0.length : Int)) < (x0.length : Int) then ((shape_side.f ((rd_T29 x0 x6).f0) ((rd_T29 x0 x6).f1) ((rd_T29 x0 (Int.tmod (wrap64 (x6 + 1)) (x0.length : Int))).f0) ((rd_T29 x0 (Int.tmod (wrap64 (x6 + 1)) (x0.length : Int))).f1) ((rd_T29 x0 (Int.tmod (wrap64 (x6 + 2)) (x0.length : Int))).f0) ((rd_T29 x0 (Int.tmod (wrap64 (x6 + 2)) (x0.length : Int))).f1)).bind fun t104 => (if t104 ≤ 0 then (some false) else (shape_normal.l0 k x0 x5 (wrap64 (x6 + 1))))) else (none)) else (none)) else (none)) else (none))) else (none)) else (none)) else (if 0 < (x0.length : Int) then ((slices_MinFunc_lower.f k x0).bind fun bt106 => (if (((rd_T29 x0 0).f0) == bt106.1 && (((rd_T29 x0 0).f1) == bt106.2)) = true then ((shape_simple.f k x0).bind fun t108 => (some t108)) else (some false))) else (none))
def shape_normal.f (k : Nat) (l0 : List (S29)) : Option (Bool) := shape_normal.l0 k l0 (l0.length : Int) 0
theorem shape_normal.mono_l : ∀ k, (∀ y0 y1 y2, LeO (shape_normal.l0 k y0 y1 y2) (shape_normal.l0 (k + 1) y0 y1 y2))
 | 0 => fun _ _ _ r h => by simp [shape_normal.l0] at h
 | k + 1 => by
  have ih0 := shape_normal.mono_l k
  ·intro y0 y1 y2
   unfold shape_normal.l0
   repeat' first
   | (with_reducible exact ih0 _ _ _)
   | (with_reducible exact shape_simple.mono _ _)
   | (with_reducible exact slices_MinFunc_lower.mono _ _)
   | (with_reducible exact LeO.refl _)
   | (with_reducible exact LeO.none _)
   | (with_reducible refine LeO.ite ?_ ?_)
   | (with_reducible refine LeO.bind ?_ (fun _ => ?_))
   | exact ih0 _ _ _
   | exact shape_simple.mono _ _
   | exact slices_MinFunc_lower.mono _ _
   | exact LeO.none _
   | refine LeO.ite ?_ ?_
   | refine LeO.bind ?_ (fun _ => ?_)
theorem shape_normal.mono : ∀ a0 k, LeO (shape_normal.f k a0) (shape_normal.f (k + 1) a0) := by
 intro a0 k
 have ih0 := shape_normal.mono_l k
 unfold shape_normal.f
 repeat' first
  | (with_reducible exact ih0 _ _ _)
  | (with_reducible exact shape_simple.mono _ _)
  | (with_reducible exact slices_MinFunc_lower.mono _ _)
  | (with_reducible exact LeO.refl _)
  | (with_reducible exact LeO.none _)
  | (with_reducible refine LeO.ite ?_ ?_)
  | (with_reducible refine LeO.bind ?_ (fun _ => ?_))
  | exact ih0 _ _ _
  | exact shape_simple.mono _ _
  | exact slices_MinFunc_lower.mono _ _
  | exact LeO.none _
  | refine LeO.ite ?_ ?_
  | refine LeO.bind ?_ (fun _ => ?_)
def shape_normal.T4 : Bool × List (List Nat × List Nat) := (true, [([], []), ([], []), ([0, 1], [0, 1]), ([2], [2]), ([], []), ([], []), ([5], [5]), ([], []), ([7], [7]), ([6, 8], [6, 8]), ([4, 9], [4, 9]), ([10], [10]), ([], []), ([], []), ([13], [13]), ([], []), ([15], [15]), ([14, 16], [14, 16]), ([12, 17], [12, 17]), ([18], [18]), ([3, 11, 19], [3, 11, 19]), ([20], [20])])
def shape_normal.B4 : List Nat := [0, 0, 3, 7, 0, 0, 32, 0, 128, 480, 1008, 2032, 0, 0, 8192, 0, 32768, 122880, 258048, 520192, 1048575, 2097151]
theorem shape_normal.tab4 : rtab .any (opsOf Try.f72 4) = shape_normal.T4 := by kernel_rfl
theorem shape_normal.bits4 : waitsOk shape_normal.T4.2 shape_normal.B4 = true := by kernel_rfl
def shape_normal.T7 : Bool × List (List Nat × List Nat) := (true, [([], []), ([0], [0]), ([1], [1]), ([], []), ([3], [3]), ([2, 4], [2, 4]), ([5, 4], [5]), ([6], [6]), ([7, 6, 6], [6, 7]), ([6, 8], [6, 8]), ([9, 8, 0, 1, 2, 3, 4, 5, 6, 7, 8, 9], [9])])
def shape_normal.B7 : List Nat := [0, 1, 3, 0, 8, 31, 63, 127, 255, 511, 1023]
theorem shape_normal.tab7 : rtab .any (opsOf Try.f72 7) = shape_normal.T7 := by kernel_rfl
theorem shape_normal.bits7 : waitsOk shape_normal.T7.2 shape_normal.B7 = true := by kernel_rfl
set_option maxHeartbeats 8000000 in
set_option maxRecDepth 100000 in
theorem shape_normal.calls (k : Nat) (A0 : Option Addr) (c0 : Nat) (l0 : List (S29)) (r : Bool) (w : World) (hr0 : Kd.C k29 w A0 l0.length l0) (hc0 : l0.length ≤ c0) (h : shape_normal.f k l0 = some r) :
  Calls Try.prog 72 #[.slice A0 l0.length c0] w fun e w' => e = .returned (.bool r) ∧ Below w.heap.size w w' := by
 have hu29 := Try.underlying29
 have HR0 := Aside0.mk hr0
 have HC0 := Aside0.mk hc0
 clear hr0 hc0
 have HB := Aside0.mk (Below.refl w.heap.size w)
 have H : (shape_normal.l0 k l0 (l0.length : Int) 0) = some r := h
 clear h
 have H' := Aside0.mk H
 clear H
 go_enter Try.func72, Try.ntmps72
 go_wp2
 go_loopg [6] k (fun kq v6 w' => ∃ (x6_1 : Int), v6 = .int .i64 x6_1 ∧ Aside0 (shape_normal.l0 kq l0 (l0.length : Int) x6_1 = some r) ∧ Aside0 (kq ≤ k) ∧ Aside0 (Below w.heap.size w w'))
 case atStart => exact ⟨(0), sd, H', ⟨Nat.le_refl _⟩, ⟨bh⟩⟩
 case round =>
  clear H'
  obtain ⟨x6_1, rfl, HA, HK1, HB⟩ := hrel
  cases gk with
  | zero => exact absurd HA.out (by simp [shape_normal.l0])
  | succ k1 =>
   have H := HA.out
   clear HA
   simp only [shape_normal.l0] at H
   by_cases c2 : x6_1 < (l0.length : Int)
   ·rw [if_pos c2] at H
    have c2b0 : decide (x6_1 < (l0.length : Int)) = true := decide_eq_true c2
    clear c2
    by_cases c3 : 0 ≤ x6_1
    ·rw [if_pos c3] at H
     have c3b0 : decide (0 ≤ x6_1) = true := decide_eq_true c3
     clear c3
     by_cases c4 : x6_1 < (l0.length : Int)
     ·rw [if_pos c4] at H
      have c4b0 : decide (x6_1 < (l0.length : Int)) = true := decide_eq_true c4
      clear c4
      by_cases c5 : (l0.length : Int) = 0
      ·rw [if_pos c5] at H
       exact absurd H (by simp)
      ·rw [if_neg c5] at H
       have c5b0 : ((l0.length : Int) == 0) = false := beq_eq_false_iff_ne.mpr c5
       have c5b1 : ((l0.length : Int) != 0) = true := bne_iff_ne.mpr c5
       have c5b2 : ¬ (l0 = []) := fun h_ => c5 (by rw [h_]; rfl)
       obtain ⟨ji6, hji6⟩ : ∃ j_ : Int, (Int.tmod (wrap64 (x6_1 + 1)) (l0.length : Int)) = j_ := ⟨_, rfl⟩
       replace H : (if 0 ≤ (ji6) then (if (ji6) < (l0.length : Int) then (if 0 ≤ (Int.tmod (wrap64 (x6_1 + 2)) (l0.length : Int)) then (if (Int.tmod (wrap64 (x6_1 + 2)) (l0.length : Int)) < (l0.length : Int) then ((shape_side.f ((rd_T29 l0 x6_1).f0) ((rd_T29 l0 x6_1).f1) ((rd_T29 l0 (ji6)).f0) ((rd_T29 l0 (ji6)).f1) ((rd_T29 l0 (Int.tmod (wrap64 (x6_1 + 2)) (l0.length : Int))).f0) ((rd_T29 l0 (Int.tmod (wrap64 (x6_1 + 2)) (l0.length : Int))).f1)).bind fun t104 => (if t104 ≤ 0 then (some false) else (shape_normal.l0 k1 l0 (l0.length : Int) (wrap64 (x6_1 + 1))))) else (none)) else (none)) else (none)) else (none)) = some r := by first | (rw [hji6] at H; exact H) | (simp only [hji6] at H ⊢; exact H)
       by_cases c7 : 0 ≤ (ji6)
       ·rw [if_pos c7] at H
        have c7b0 : decide (0 ≤ (ji6)) = true := decide_eq_true c7
        clear c7
        by_cases c8 : (ji6) < (l0.length : Int)
        ·rw [if_pos c8] at H
         have c8b0 : decide ((ji6) < (l0.length : Int)) = true := decide_eq_true c8
         clear c8
         obtain ⟨ji9, hji9⟩ : ∃ j_ : Int, (Int.tmod (wrap64 (x6_1 + 2)) (l0.length : Int)) = j_ := ⟨_, rfl⟩
         replace H : (if 0 ≤ (ji9) then (if (ji9) < (l0.length : Int) then ((shape_side.f ((rd_T29 l0 x6_1).f0) ((rd_T29 l0 x6_1).f1) ((rd_T29 l0 (ji6)).f0) ((rd_T29 l0 (ji6)).f1) ((rd_T29 l0 (ji9)).f0) ((rd_T29 l0 (ji9)).f1)).bind fun t104 => (if t104 ≤ 0 then (some false) else (shape_normal.l0 k1 l0 (l0.length : Int) (wrap64 (x6_1 + 1))))) else (none)) else (none)) = some r := by first | (rw [hji9] at H; exact H) | (simp only [hji9] at H ⊢; exact H)
         by_cases c10 : 0 ≤ (ji9)
         ·rw [if_pos c10] at H
          have c10b0 : decide (0 ≤ (ji9)) = true := decide_eq_true c10
          clear c10
          by_cases c11 : (ji9) < (l0.length : Int)
          ·rw [if_pos c11] at H
           have c11b0 : decide ((ji9) < (l0.length : Int)) = true := decide_eq_true c11
           clear c11
           replace H := Option.bind_eq_some_iff.mp H
           obtain ⟨t104, A120, H⟩ := H
           replace H : (if t104 ≤ 0 then (some false) else (shape_normal.l0 k1 l0 (l0.length : Int) (wrap64 (x6_1 + 1)))) = some r := H
           have A12 := Aside0.mk A120
           clear A120
           by_cases c13 : t104 ≤ 0
           ·rw [if_pos c13] at H
            have c13b0 : decide (t104 ≤ 0) = true := decide_eq_true c13
            clear c13
            obtain rfl := Option.some.inj H
            try go_wp2
            replace HB := Aside0.mk (below_drew1 HB.out)
            have p101 : 0 ≤ (x6_1 : Int) := dt
            have q101 : x6_1 < (l0.length : Int) := dt
            obtain ⟨ad101, e101, hx101_0, hx101_1⟩ := at_T29 HR0.out x6_1 p101 q101
            have hw101_1 := hx101_1
            have hw101_0 := hx101_0
            cases e101
            replace hx101_0 := hc HB hx101_0
            replace hx101_1 := hc HB hx101_1
            replace p101 := eq_true p101
            replace q101 := eq_true q101
            have p102 : 0 ≤ ((ji6) : Int) := dt
            have q102 : (ji6) < (l0.length : Int) := dt
            obtain ⟨ad102, e102, hx102_0, hx102_1⟩ := at_T29 HR0.out (ji6) p102 q102
            have hw102_1 := hx102_1
            have hw102_0 := hx102_0
            obtain rfl : ad101 = ad102 := (by injection e102)
            replace hx102_0 := hc HB hx102_0
            replace hx102_1 := hc HB hx102_1
            replace p102 := eq_true p102
            replace q102 := eq_true q102
            have p103 : 0 ≤ ((ji9) : Int) := dt
            have q103 : (ji9) < (l0.length : Int) := dt
            obtain ⟨ad103, e103, hx103_0, hx103_1⟩ := at_T29 HR0.out (ji9) p103 q103
            have hw103_1 := hx103_1
            have hw103_0 := hx103_0
            obtain rfl : ad101 = ad103 := (by injection e103)
            replace hx103_0 := hc HB hx103_0
            replace hx103_1 := hc HB hx103_1
            replace p103 := eq_true p103
            replace q103 := eq_true q103
            refine start_ (n := 22) (S := fun w' => w'.cell? (ad101.add ((x6_1).toNat * 2)) = some (.int .i64 ((rd_T29 l0 x6_1).f0)) ∧ w'.cell? ⟨(ad101.add ((x6_1).toNat * 2)).block, (ad101.add ((x6_1).toNat * 2)).off + 1, none⟩ = some (.int .i64 ((rd_T29 l0 x6_1).f1)) ∧ w'.cell? (ad101.add (((ji6)).toNat * 2)) = some (.int .i64 ((rd_T29 l0 (ji6)).f0)) ∧ w'.cell? ⟨(ad101.add (((ji6)).toNat * 2)).block, (ad101.add (((ji6)).toNat * 2)).off + 1, none⟩ = some (.int .i64 ((rd_T29 l0 (ji6)).f1)) ∧ w'.cell? (ad101.add (((ji9)).toNat * 2)) = some (.int .i64 ((rd_T29 l0 (ji9)).f0)) ∧ w'.cell? ⟨(ad101.add (((ji9)).toNat * 2)).block, (ad101.add (((ji9)).toNat * 2)).off + 1, none⟩ = some (.int .i64 ((rd_T29 l0 (ji9)).f1))) (ds := []) #[false, false, false, false, false, false, false, false, false, false, false, false, false, false, false, false, false, false, false, false, false, false] (by kernel_rfl) rfl rfl ⟨(hc HB hw101_0), (hc HB hw101_1), (hc HB hw102_0), (hc HB hw102_1), (hc HB hw103_0), (hc HB hw103_1)⟩ (fun hHeld => ?_); refine with_tabW shape_normal.tab4 shape_normal.bits4 (fun HT_ HW_ => ?_)
            generalize wr.drew = w14 at HB hx101_0 hx101_1 hx102_0 hx102_1 hx103_0 hx103_1 hHeld ⊢
            refine pu 0 9 HT_ ?_
            refine pu 1 10 HT_ ?_
            refine pu 2 11 HT_ ?_
            refine pu 4 13 HT_ ?_
            refine pu 5 14 HT_ ?_
            refine pu 6 15 HT_ ?_
            refine pu 7 16 HT_ ?_
            refine pu 8 17 HT_ ?_
            refine pu 9 18 HT_ ?_
            refine pu 10 19 HT_ ?_
            refine pu 12 21 HT_ ?_
            refine pu 13 22 HT_ ?_
            refine pu 14 23 HT_ ?_
            refine pu 15 24 HT_ ?_
            refine pu 16 25 HT_ ?_
            refine pu 17 26 HT_ ?_
            refine pu 18 27 HT_ ?_
            refine tk6 3 12 hHeld HT_ HW_ ?_
            refine tk6 11 20 hHeld HT_ HW_ ?_
            refine tk6 19 28 hHeld HT_ HW_ ?_
            refine one_ (i := 20) (N := some 29) #[true, true, true, true, true, true, true, true, true, true, true, true, true, true, true, true, true, true, true, true, true, false] rfl rfl (on1 HT_) (by decide) (fun K hK => ?_)
            refine goes_ Try.func91 (by kernel_rfl) rfl #[.agg #[.int .i64 ((rd_T29 l0 x6_1).f0), .int .i64 ((rd_T29 l0 x6_1).f1)], .agg #[.int .i64 ((rd_T29 l0 (ji6)).f0), .int .i64 ((rd_T29 l0 (ji6)).f1)], .agg #[.int .i64 ((rd_T29 l0 (ji9)).f0), .int .i64 ((rd_T29 l0 (ji9)).f1)]] (by rfl) rfl rfl (by (try simp only [List.map_toArray, List.map_cons, List.map_nil]); first | done | (simp only [hji6, hji9]; rfl) | rfl | (simp only [List.length_drop, List.length_take]; rfl)) ?_
            with_reducible refine (shape_side.calls ((rd_T29 l0 x6_1).f0) ((rd_T29 l0 x6_1).f1) ((rd_T29 l0 (ji6)).f0) ((rd_T29 l0 (ji6)).f1) ((rd_T29 l0 (ji9)).f0) ((rd_T29 l0 (ji9)).f1) t104 _ A12.out).mono ?_
            rintro e w15 ⟨rfl, hb⟩
            refine ⟨_, rfl, ?_⟩
            replace HB := Aside0.mk (below_step bh hb)
            (try clear hb); (try clear hb2); (try clear hk); (try clear hi)
            refine hK.out _ _ ⟨(hc HB hw101_0), (hc HB hw101_1), (hc HB hw102_0), (hc HB hw102_1), (hc HB hw103_0), (hc HB hw103_1)⟩ (fun hHeld => ?_)
            clear hK K
            refine nm 29 ?_
            refine pu 21 30 HT_ ?_
            refine done_ (done_of HT_.out (by kernel_rfl)) ?_
            try go_wp2
            go_ret
            exact ⟨by first | rfl | (simp [errW_none, errW_some] <;> rfl) | (simp only [← hji6, ← hji9]; first | rfl | (simp [errW_none, errW_some] <;> rfl)) | (simp [*, errW_none, errW_some] <;> rfl), bh⟩
           ·rw [if_neg c13] at H
            have c13b0 : decide (t104 ≤ 0) = false := decide_eq_false c13
            clear c13
            have H' := Aside0.mk H
            clear H
            try go_wp2
            replace HB := Aside0.mk (below_drew1 HB.out)
            have p101 : 0 ≤ (x6_1 : Int) := dt
            have q101 : x6_1 < (l0.length : Int) := dt
            obtain ⟨ad101, e101, hx101_0, hx101_1⟩ := at_T29 HR0.out x6_1 p101 q101
            have hw101_1 := hx101_1
            have hw101_0 := hx101_0
            cases e101
            replace hx101_0 := hc HB hx101_0
            replace hx101_1 := hc HB hx101_1
            replace p101 := eq_true p101
            replace q101 := eq_true q101
            have p102 : 0 ≤ ((ji6) : Int) := dt
            have q102 : (ji6) < (l0.length : Int) := dt
            obtain ⟨ad102, e102, hx102_0, hx102_1⟩ := at_T29 HR0.out (ji6) p102 q102
            have hw102_1 := hx102_1
            have hw102_0 := hx102_0
            obtain rfl : ad101 = ad102 := (by injection e102)
            replace hx102_0 := hc HB hx102_0
            replace hx102_1 := hc HB hx102_1
            replace p102 := eq_true p102
            replace q102 := eq_true q102
            have p103 : 0 ≤ ((ji9) : Int) := dt
            have q103 : (ji9) < (l0.length : Int) := dt
            obtain ⟨ad103, e103, hx103_0, hx103_1⟩ := at_T29 HR0.out (ji9) p103 q103
            have hw103_1 := hx103_1
            have hw103_0 := hx103_0
            obtain rfl : ad101 = ad103 := (by injection e103)
            replace hx103_0 := hc HB hx103_0
            replace hx103_1 := hc HB hx103_1
            replace p103 := eq_true p103
            replace q103 := eq_true q103
            refine start_ (n := 22) (S := fun w' => w'.cell? (ad101.add ((x6_1).toNat * 2)) = some (.int .i64 ((rd_T29 l0 x6_1).f0)) ∧ w'.cell? ⟨(ad101.add ((x6_1).toNat * 2)).block, (ad101.add ((x6_1).toNat * 2)).off + 1, none⟩ = some (.int .i64 ((rd_T29 l0 x6_1).f1)) ∧ w'.cell? (ad101.add (((ji6)).toNat * 2)) = some (.int .i64 ((rd_T29 l0 (ji6)).f0)) ∧ w'.cell? ⟨(ad101.add (((ji6)).toNat * 2)).block, (ad101.add (((ji6)).toNat * 2)).off + 1, none⟩ = some (.int .i64 ((rd_T29 l0 (ji6)).f1)) ∧ w'.cell? (ad101.add (((ji9)).toNat * 2)) = some (.int .i64 ((rd_T29 l0 (ji9)).f0)) ∧ w'.cell? ⟨(ad101.add (((ji9)).toNat * 2)).block, (ad101.add (((ji9)).toNat * 2)).off + 1, none⟩ = some (.int .i64 ((rd_T29 l0 (ji9)).f1))) (ds := []) #[false, false, false, false, false, false, false, false, false, false, false, false, false, false, false, false, false, false, false, false, false, false] (by kernel_rfl) rfl rfl ⟨(hc HB hw101_0), (hc HB hw101_1), (hc HB hw102_0), (hc HB hw102_1), (hc HB hw103_0), (hc HB hw103_1)⟩ (fun hHeld => ?_); refine with_tabW shape_normal.tab4 shape_normal.bits4 (fun HT_ HW_ => ?_)
            generalize wr.drew = w16 at HB hx101_0 hx101_1 hx102_0 hx102_1 hx103_0 hx103_1 hHeld ⊢
            refine pu 0 9 HT_ ?_
            refine pu 1 10 HT_ ?_
            refine pu 2 11 HT_ ?_
            refine pu 4 13 HT_ ?_
            refine pu 5 14 HT_ ?_
            refine pu 6 15 HT_ ?_
            refine pu 7 16 HT_ ?_
            refine pu 8 17 HT_ ?_
            refine pu 9 18 HT_ ?_
            refine pu 10 19 HT_ ?_
            refine pu 12 21 HT_ ?_
            refine pu 13 22 HT_ ?_
            refine pu 14 23 HT_ ?_
            refine pu 15 24 HT_ ?_
            refine pu 16 25 HT_ ?_
            refine pu 17 26 HT_ ?_
            refine pu 18 27 HT_ ?_
            refine tk6 3 12 hHeld HT_ HW_ ?_
            refine tk6 11 20 hHeld HT_ HW_ ?_
            refine tk6 19 28 hHeld HT_ HW_ ?_
            refine one_ (i := 20) (N := some 29) #[true, true, true, true, true, true, true, true, true, true, true, true, true, true, true, true, true, true, true, true, true, false] rfl rfl (on1 HT_) (by decide) (fun K hK => ?_)
            refine goes_ Try.func91 (by kernel_rfl) rfl #[.agg #[.int .i64 ((rd_T29 l0 x6_1).f0), .int .i64 ((rd_T29 l0 x6_1).f1)], .agg #[.int .i64 ((rd_T29 l0 (ji6)).f0), .int .i64 ((rd_T29 l0 (ji6)).f1)], .agg #[.int .i64 ((rd_T29 l0 (ji9)).f0), .int .i64 ((rd_T29 l0 (ji9)).f1)]] (by rfl) rfl rfl (by (try simp only [List.map_toArray, List.map_cons, List.map_nil]); first | done | (simp only [hji6, hji9]; rfl) | rfl | (simp only [List.length_drop, List.length_take]; rfl)) ?_
            with_reducible refine (shape_side.calls ((rd_T29 l0 x6_1).f0) ((rd_T29 l0 x6_1).f1) ((rd_T29 l0 (ji6)).f0) ((rd_T29 l0 (ji6)).f1) ((rd_T29 l0 (ji9)).f0) ((rd_T29 l0 (ji9)).f1) t104 _ A12.out).mono ?_
            rintro e w17 ⟨rfl, hb⟩
            refine ⟨_, rfl, ?_⟩
            replace HB := Aside0.mk (below_step bh hb)
            (try clear hb); (try clear hb2); (try clear hk); (try clear hi)
            refine hK.out _ _ ⟨(hc HB hw101_0), (hc HB hw101_1), (hc HB hw102_0), (hc HB hw102_1), (hc HB hw103_0), (hc HB hw103_1)⟩ (fun hHeld => ?_)
            clear hK K
            refine nm 29 ?_
            refine pu 21 30 HT_ ?_
            refine done_ (done_of HT_.out (by kernel_rfl)) ?_
            try go_wp2
            go_roundg k1
            case measure => have := HK1.out; omega
            case rel => exact ⟨(wrap64 (x6_1 + 1)), sd, H', ⟨by have := HK1.out; omega⟩, ⟨bh⟩⟩
          ·rw [if_neg c11] at H
           exact absurd H (by simp)
         ·rw [if_neg c10] at H
          exact absurd H (by simp)
        ·rw [if_neg c8] at H
         exact absurd H (by simp)
       ·rw [if_neg c7] at H
        exact absurd H (by simp)
     ·rw [if_neg c4] at H
      exact absurd H (by simp)
    ·rw [if_neg c3] at H
     exact absurd H (by simp)
   ·rw [if_neg c2] at H
    have c2b0 : decide (x6_1 < (l0.length : Int)) = false := decide_eq_false c2
    clear c2
    by_cases c18 : 0 < (l0.length : Int)
    ·rw [if_pos c18] at H
     have c18b0 : decide (0 < (l0.length : Int)) = true := decide_eq_true c18
     have c18b1 : decide (0 < l0.length) = true := decide_eq_true (by omega)
     clear c18
     replace H := Option.bind_eq_some_iff.mp H
     obtain ⟨⟨t106, t107⟩, A190, H⟩ := H
     replace H : (if (((rd_T29 l0 0).f0) == t106 && (((rd_T29 l0 0).f1) == t107)) = true then ((shape_simple.f k1 l0).bind fun t108 => (some t108)) else (some false)) = some r := H
     have A19 := Aside0.mk A190
     clear A190
     by_cases c20 : (((rd_T29 l0 0).f0) == t106 && (((rd_T29 l0 0).f1) == t107)) = true
     ·rw [if_pos c20] at H
      have c20b0 : (((rd_T29 l0 0).f0) == t106 && (((rd_T29 l0 0).f1) == t107)) = true := c20
      (try (have c20b1 : decide (((rd_T29 l0 0).f0) = t106 && (((rd_T29 l0 0).f1) == t107)) = true := by simpa using c20))
      (try (have c20b2 : (((rd_T29 l0 0).f0) == t106 && (((rd_T29 l0 0).f1) == t107)) = true := by simpa using c20))
      clear c20
      replace H := Option.bind_eq_some_iff.mp H
      obtain ⟨t108, A210, H⟩ := H
      replace H : (some t108) = some r := H
      have A21 := Aside0.mk A210
      clear A210
      obtain rfl := Option.some.inj H
      try go_wp2
      replace HB := Aside0.mk (below_drew1 HB.out)
      have p105 : 0 ≤ (0 : Int) := (by omega)
      have q105 : 0 < (l0.length : Int) := dt
      obtain ⟨ad105, e105, hx105_0, hx105_1⟩ := at_T29 HR0.out 0 p105 q105
      have hw105_1 := hx105_1
      (try rw [show ((0 : Int)).toNat = 0 from rfl] at hw105_1)
      (try rw [show 0 * 2 = 0 from rfl] at hw105_1)
      (try rw [Addr.add_zero'] at hw105_1)
      have hw105_0 := hx105_0
      (try rw [show ((0 : Int)).toNat = 0 from rfl] at hw105_0)
      (try rw [show 0 * 2 = 0 from rfl] at hw105_0)
      (try rw [Addr.add_zero'] at hw105_0)
      cases e105
      have qi105 : (0 < l0.length) = True := eq_true (by omega)
      (try rw [show ((0 : Int)).toNat = 0 from rfl] at hx105_0)
      (try rw [show 0 * 2 = 0 from rfl] at hx105_0)
      (try rw [Addr.add_zero'] at hx105_0)
      (try rw [show ((0 : Int)).toNat = 0 from rfl] at hx105_1)
      (try rw [show 0 * 2 = 0 from rfl] at hx105_1)
      (try rw [Addr.add_zero'] at hx105_1)
      replace hx105_0 := hc HB hx105_0
      replace hx105_1 := hc HB hx105_1
      replace p105 := eq_true p105
      replace q105 := eq_true q105
      refine start_ (n := 11) (S := fun w' => w'.cell? ad105 = some (.int .i64 ((rd_T29 l0 0).f0)) ∧ w'.cell? ⟨ad105.block, ad105.off + 1, none⟩ = some (.int .i64 ((rd_T29 l0 0).f1))) (ds := []) #[false, false, false, false, false, false, false, false, false, false, false] (by kernel_rfl) rfl rfl ⟨(hc HB hw105_0), (hc HB hw105_1)⟩ (fun hHeld => ?_); refine with_tabW shape_normal.tab7 shape_normal.bits7 (fun HT_ HW_ => ?_)
      generalize wr.drew = w22 at HB hx105_0 hx105_1 hHeld ⊢
      refine pu 0 32 HT_ ?_
      refine pu 1 33 HT_ ?_
      refine pu 3 35 HT_ ?_
      refine tk2 2 34 hHeld HT_ HW_ ?_
      refine one_ (i := 4) (N := some 36) #[true, true, true, true, true, false, false, false, false, false, false] rfl rfl (on1 HT_) (by decide) (fun K hK => ?_)
      refine goes_ Try.func94 (by kernel_rfl) rfl #[.slice (some ad105) l0.length c0, .func (.func 95) #[] #[]] (by rfl) rfl rfl sg ?_
      with_reducible refine (slices_MinFunc_lower.calls k1 _ _ l0  t106 t107 _ ?side1 ?side2 A19.out).mono ?_
      (case side1 => exact cs (Kd.C_below HR0.out HB.out))
      (case side2 => exact HC0.out)
      rintro e w23 ⟨rfl, hb⟩
      refine ⟨_, rfl, ?_⟩
      replace HB := Aside0.mk (below_step bh hb)
      (try clear hb); (try clear hb2); (try clear hk); (try clear hi)
      refine hK.out _ _ ⟨(hc HB hw105_0), (hc HB hw105_1)⟩ (fun hHeld => ?_)
      clear hK K
      refine nm 36 ?_
      refine pu 5 37 HT_ ?_
      refine pu 6 38 HT_ ?_
      refine pu 7 39 HT_ ?_
      refine one_ (i := 8) (N := some 40) #[true, true, true, true, true, true, true, true, true, false, false] rfl rfl (on1 HT_) (by decide) (fun K hK => ?_)
      refine goes_ Try.func69 (by kernel_rfl) rfl #[.slice (some ad105) l0.length c0] (by rfl) rfl rfl sg ?_
      with_reducible refine (shape_simple.calls k1 _ _ l0 t108 _ ?side1 ?side2 A21.out).mono ?_
      (case side1 => exact cs (Kd.C_below HR0.out HB.out))
      (case side2 => exact HC0.out)
      rintro e w24 ⟨rfl, hb⟩
      refine ⟨_, rfl, ?_⟩
      replace HB := Aside0.mk (below_step bh hb)
      (try clear hb); (try clear hb2); (try clear hk); (try clear hi)
      refine hK.out _ _ ⟨(hc HB hw105_0), (hc HB hw105_1)⟩ (fun hHeld => ?_)
      clear hK K
      refine nm 40 ?_
      refine pu 9 41 HT_ ?_
      refine pu 10 2 HT_ ?_
      refine done_ (done_of HT_.out (by kernel_rfl)) ?_
      try go_wp2
      go_ret
      exact ⟨by exact er, bh⟩
     ·rw [if_neg c20] at H
      have c20b0 : (((rd_T29 l0 0).f0) == t106 && (((rd_T29 l0 0).f1) == t107)) = false := by simpa using c20
      (try (have c20b1 : decide (((rd_T29 l0 0).f0) = t106 && (((rd_T29 l0 0).f1) == t107)) = false := by simpa using c20))
      (try (have c20b2 : (((rd_T29 l0 0).f0) == t106 && (((rd_T29 l0 0).f1) == t107)) = false := by simpa using c20))
      (try (have c20b3 : ¬ (((rd_T29 l0 0).f0) = t106 && (((rd_T29 l0 0).f1) == t107)) := by simpa using c20))
      clear c20
      obtain rfl := Option.some.inj H
      try go_wp2
      replace HB := Aside0.mk (below_drew1 HB.out)
      have p105 : 0 ≤ (0 : Int) := (by omega)
      have q105 : 0 < (l0.length : Int) := dt
      obtain ⟨ad105, e105, hx105_0, hx105_1⟩ := at_T29 HR0.out 0 p105 q105
      have hw105_1 := hx105_1
      (try rw [show ((0 : Int)).toNat = 0 from rfl] at hw105_1)
      (try rw [show 0 * 2 = 0 from rfl] at hw105_1)
      (try rw [Addr.add_zero'] at hw105_1)
      have hw105_0 := hx105_0
      (try rw [show ((0 : Int)).toNat = 0 from rfl] at hw105_0)
      (try rw [show 0 * 2 = 0 from rfl] at hw105_0)
      (try rw [Addr.add_zero'] at hw105_0)
      cases e105
      have qi105 : (0 < l0.length) = True := eq_true (by omega)
      (try rw [show ((0 : Int)).toNat = 0 from rfl] at hx105_0)
      (try rw [show 0 * 2 = 0 from rfl] at hx105_0)
      (try rw [Addr.add_zero'] at hx105_0)
      (try rw [show ((0 : Int)).toNat = 0 from rfl] at hx105_1)
      (try rw [show 0 * 2 = 0 from rfl] at hx105_1)
      (try rw [Addr.add_zero'] at hx105_1)
      replace hx105_0 := hc HB hx105_0
      replace hx105_1 := hc HB hx105_1
      replace p105 := eq_true p105
      replace q105 := eq_true q105
      refine start_ (n := 11) (S := fun w' => w'.cell? ad105 = some (.int .i64 ((rd_T29 l0 0).f0)) ∧ w'.cell? ⟨ad105.block, ad105.off + 1, none⟩ = some (.int .i64 ((rd_T29 l0 0).f1))) (ds := []) #[false, false, false, false, false, false, false, false, false, false, false] (by kernel_rfl) rfl rfl ⟨(hc HB hw105_0), (hc HB hw105_1)⟩ (fun hHeld => ?_); refine with_tabW shape_normal.tab7 shape_normal.bits7 (fun HT_ HW_ => ?_)
      generalize wr.drew = w25 at HB hx105_0 hx105_1 hHeld ⊢
      refine pu 0 32 HT_ ?_
      refine pu 1 33 HT_ ?_
      refine pu 3 35 HT_ ?_
      refine tk2 2 34 hHeld HT_ HW_ ?_
      refine one_ (i := 4) (N := some 36) #[true, true, true, true, true, false, false, false, false, false, false] rfl rfl (on1 HT_) (by decide) (fun K hK => ?_)
      refine goes_ Try.func94 (by kernel_rfl) rfl #[.slice (some ad105) l0.length c0, .func (.func 95) #[] #[]] (by rfl) rfl rfl sg ?_
      with_reducible refine (slices_MinFunc_lower.calls k1 _ _ l0  t106 t107 _ ?side1 ?side2 A19.out).mono ?_
      (case side1 => exact cs (Kd.C_below HR0.out HB.out))
      (case side2 => exact HC0.out)
      rintro e w26 ⟨rfl, hb⟩
      refine ⟨_, rfl, ?_⟩
      replace HB := Aside0.mk (below_step bh hb)
      (try clear hb); (try clear hb2); (try clear hk); (try clear hi)
      refine hK.out _ _ ⟨(hc HB hw105_0), (hc HB hw105_1)⟩ (fun hHeld => ?_)
      clear hK K
      refine nm 36 ?_
      refine pu 5 37 HT_ ?_
      refine pu 6 38 HT_ ?_
      refine pz 7 39 HT_ ?_
      refine pz 8 40 HT_ ?_
      refine pu 9 41 HT_ ?_
      refine pu 10 2 HT_ ?_
      refine done_ (done_of HT_.out (by kernel_rfl)) ?_
      try go_wp2
      go_ret
      exact ⟨by exact er, bh⟩
    ·rw [if_neg c18] at H
     exact absurd H (by simp)
end Go.Proofs.Ytoffmpkgickfhaa.PG
end
section
namespace Go.Proofs.Ytoffmpkgickfhaa.PG
open Go.RowKit Go.Proofs.YtoffmpkgickfhaaW.PrintWords Go.Proofs.YtoffmpkgickfhaaW.PrintLast Go.Proofs.YtoffmpkgickfhaaW.PrintMore
attribute [local go_sem] max2_int min2_int max_two min_two max_three min_three max_four min_four
set_option linter.unusedVariables false
set_option linter.unusedSimpArgs false
/-! ### shape_refused_normal: function 2068 -/
def shape_refused_normal.f (k : Nat) (l0 : List (S29))  : Option (Int) := (shape_polygon.f l0).bind fun t101 => (if t101 = true then ((shape_normal.f k l0).bind fun t102 => (if t102 = true then (some 0) else (some 2))) else (some 1))
theorem shape_refused_normal.mono : ∀ a0 k, LeO (shape_refused_normal.f k a0) (shape_refused_normal.f (k + 1) a0) := by
 intro a0 k
 unfold shape_refused_normal.f
 repeat' first
  | (with_reducible exact shape_normal.mono _ _)
  | (with_reducible exact LeO.refl _)
  | (with_reducible exact LeO.none _)
  | (with_reducible refine LeO.ite ?_ ?_)
  | (with_reducible refine LeO.bind ?_ (fun _ => ?_))
  | exact shape_normal.mono _ _
  | exact LeO.none _
  | refine LeO.ite ?_ ?_
  | refine LeO.bind ?_ (fun _ => ?_)
set_option maxHeartbeats 8000000 in
set_option maxRecDepth 100000 in
theorem shape_refused_normal.calls (k : Nat) (A0 : Option Addr) (c0 : Nat) (l0 : List (S29))  (r : Int) (w : World) (hr0 : Kd.C k29 w A0 l0.length l0) (hc0 : l0.length ≤ c0) (h : shape_refused_normal.f k l0 = some r) :
  Calls Try.prog 68 #[.slice A0 l0.length c0, .func (.func 72) #[] #[]] w fun e w' => e = .returned (.int .i64 r) ∧ Below w.heap.size w w' := by
 have HR0 := Aside0.mk hr0
 have HC0 := Aside0.mk hc0
 clear hr0 hc0
 have HB := Aside0.mk (Below.refl w.heap.size w)
 have H : ((shape_polygon.f l0).bind fun t101 => (if t101 = true then ((shape_normal.f k l0).bind fun t102 => (if t102 = true then (some 0) else (some 2))) else (some 1))) = some r := h
 clear h
 replace H := Option.bind_eq_some_iff.mp H
 obtain ⟨t101, A30, H⟩ := H
 replace H : (if t101 = true then ((shape_normal.f k l0).bind fun t102 => (if t102 = true then (some 0) else (some 2))) else (some 1)) = some r := H
 have A3 := Aside0.mk A30
 clear A30
 by_cases c4 : t101 = true
 ·subst c4
  rw [if_pos rfl] at H
  replace H := Option.bind_eq_some_iff.mp H
  obtain ⟨t102, A50, H⟩ := H
  replace H : (if t102 = true then (some 0) else (some 2)) = some r := H
  have A5 := Aside0.mk A50
  clear A50
  by_cases c6 : t102 = true
  ·subst c6
   rw [if_pos rfl] at H
   obtain rfl := Option.some.inj H
   go_enter Try.func68, Try.ntmps68
   go_wp2_with (first | ((first | ((with_reducible refine gate_callee (f := 66) rfl ?_); refine goesL_ (some 7) rfl rfl Try.func66 (by kernel_rfl) rfl #[.slice A0 l0.length c0] rfl sg ?_) | ((with_reducible refine gate_value 66 rfl rfl ?_); refine goesLV_ (some 7) rfl rfl Try.func66 (by kernel_rfl) rfl #[.slice A0 l0.length c0] rfl sg rfl ?_)); (with_reducible refine (shape_polygon.calls _ _ l0 true _ ?side1 ?side2 A3.out).mono ?_); (case side1 => repeat (first | exact HR0.out | (with_reducible refine Kd.C_alloc ?_ _) | (with_reducible refine Kd.C_drewN ?_ _) | (with_reducible refine Kd.C_drew ?_))); (case side2 => exact HC0.out); rintro e w7 ⟨rfl, hb⟩; refine ⟨_, rfl, ?_⟩; replace HB := Aside0.mk (below_step bh hb); (try clear hb); (try clear hb2); (try clear hk); (try clear hi)) | ((first | ((with_reducible refine gate_callee (f := 72) rfl ?_); refine goesL_ (some 12) rfl rfl Try.func72 (by kernel_rfl) rfl #[.slice A0 l0.length c0] rfl sg ?_) | ((with_reducible refine gate_value 72 rfl rfl ?_); refine goesLV_ (some 12) rfl rfl Try.func72 (by kernel_rfl) rfl #[.slice A0 l0.length c0] rfl sg rfl ?_)); (with_reducible refine (shape_normal.calls k _ _ l0 true _ ?side1 ?side2 A5.out).mono ?_); (case side1 => exact cs (Kd.C_below HR0.out HB.out)); (case side2 => exact HC0.out); rintro e w8 ⟨rfl, hb⟩; refine ⟨_, rfl, ?_⟩; replace HB := Aside0.mk (below_step bh hb); (try clear hb); (try clear hb2); (try clear hk); (try clear hi)))
   go_ret
   exact ⟨by exact er, bh⟩
  ·replace c6 := Bool.eq_false_iff.mpr c6
   subst c6
   rw [if_neg (show ¬ (false = true) by decide)] at H
   obtain rfl := Option.some.inj H
   go_enter Try.func68, Try.ntmps68
   go_wp2_with (first | ((first | ((with_reducible refine gate_callee (f := 66) rfl ?_); refine goesL_ (some 7) rfl rfl Try.func66 (by kernel_rfl) rfl #[.slice A0 l0.length c0] rfl sg ?_) | ((with_reducible refine gate_value 66 rfl rfl ?_); refine goesLV_ (some 7) rfl rfl Try.func66 (by kernel_rfl) rfl #[.slice A0 l0.length c0] rfl sg rfl ?_)); (with_reducible refine (shape_polygon.calls _ _ l0 true _ ?side1 ?side2 A3.out).mono ?_); (case side1 => repeat (first | exact HR0.out | (with_reducible refine Kd.C_alloc ?_ _) | (with_reducible refine Kd.C_drewN ?_ _) | (with_reducible refine Kd.C_drew ?_))); (case side2 => exact HC0.out); rintro e w9 ⟨rfl, hb⟩; refine ⟨_, rfl, ?_⟩; replace HB := Aside0.mk (below_step bh hb); (try clear hb); (try clear hb2); (try clear hk); (try clear hi)) | ((first | ((with_reducible refine gate_callee (f := 72) rfl ?_); refine goesL_ (some 12) rfl rfl Try.func72 (by kernel_rfl) rfl #[.slice A0 l0.length c0] rfl sg ?_) | ((with_reducible refine gate_value 72 rfl rfl ?_); refine goesLV_ (some 12) rfl rfl Try.func72 (by kernel_rfl) rfl #[.slice A0 l0.length c0] rfl sg rfl ?_)); (with_reducible refine (shape_normal.calls k _ _ l0 false _ ?side1 ?side2 A5.out).mono ?_); (case side1 => exact cs (Kd.C_below HR0.out HB.out)); (case side2 => exact HC0.out); rintro e w10 ⟨rfl, hb⟩; refine ⟨_, rfl, ?_⟩; replace HB := Aside0.mk (below_step bh hb); (try clear hb); (try clear hb2); (try clear hk); (try clear hi)))
   go_ret
   exact ⟨by exact er, bh⟩
 ·replace c4 := Bool.eq_false_iff.mpr c4
  subst c4
  rw [if_neg (show ¬ (false = true) by decide)] at H
  obtain rfl := Option.some.inj H
  go_enter Try.func68, Try.ntmps68
  go_wp2_with (first | ((first | ((with_reducible refine gate_callee (f := 66) rfl ?_); refine goesL_ (some 7) rfl rfl Try.func66 (by kernel_rfl) rfl #[.slice A0 l0.length c0] rfl sg ?_) | ((with_reducible refine gate_value 66 rfl rfl ?_); refine goesLV_ (some 7) rfl rfl Try.func66 (by kernel_rfl) rfl #[.slice A0 l0.length c0] rfl sg rfl ?_)); (with_reducible refine (shape_polygon.calls _ _ l0 false _ ?side1 ?side2 A3.out).mono ?_); (case side1 => repeat (first | exact HR0.out | (with_reducible refine Kd.C_alloc ?_ _) | (with_reducible refine Kd.C_drewN ?_ _) | (with_reducible refine Kd.C_drew ?_))); (case side2 => exact HC0.out); rintro e w11 ⟨rfl, hb⟩; refine ⟨_, rfl, ?_⟩; replace HB := Aside0.mk (below_step bh hb); (try clear hb); (try clear hb2); (try clear hk); (try clear hi)))
  go_ret
  exact ⟨by exact er, bh⟩
end Go.Proofs.Ytoffmpkgickfhaa.PG
end
section
namespace Go.Proofs.Ytoffmpkgickfhaa.PG
open Go.RowKit Go.Proofs.YtoffmpkgickfhaaW.PrintWords Go.Proofs.YtoffmpkgickfhaaW.PrintLast Go.Proofs.YtoffmpkgickfhaaW.PrintMore
attribute [local go_sem] max2_int min2_int max_two min_two max_three min_three max_four min_four
set_option linter.unusedVariables false
set_option linter.unusedSimpArgs false
/-! ### shape_Sum: function 40 -/
mutual
def shape_Sum.l0 : Nat → List (S29) → List (S29) → List (List (S29)) → Int → Int → Option ((List (S29)) × Int)
 | 0, _, _, _, _, _ => none
 | k + 1, x0, x1, x17, x18, x19 => if x19 < x18 then (if 0 ≤ x19 then (if x19 < (x17.length : Int) then ((shape_refused_normal.f k (rd_L2 x17 x19)).bind fun t105 => (if t105 = 0 then (shape_Sum.l0 k x0 x1 x17 x18 (wrap64 (x19 + 1))) else (some (([] : List (S29)), t105)))) else (none)) else (none)) else (if 0 < (x0.length : Int) then (if 0 < (x1.length : Int) then ((shape_add.f ((rd_T29 x0 0).f0) ((rd_T29 x0 0).f1) ((rd_T29 x1 0).f0) ((rd_T29 x1 0).f1)).bind fun bt108 => (shape_Sum.l1 k x0 x1 (([(⟨bt108.1, bt108.2⟩ : S29)] : List (S29))) 0 0)) else (none)) else (none))
def shape_Sum.l1 : Nat → List (S29) → List (S29) → List (S29) → Int → Int → Option ((List (S29)) × Int)
 | 0, _, _, _, _, _ => none
 | k + 1, x0, x1, x10, x11, x12 => if x11 < (x0.length : Int) then (shape_Sum.j2 k x0 x1 x10 x11 x12 true) else (shape_Sum.j2 k x0 x1 x10 x11 x12 (decide (x12 < (x1.length : Int))))
def shape_Sum.j2 : Nat → List (S29) → List (S29) → List (S29) → Int → Int → Bool → Option ((List (S29)) × Int)
 | 0, _, _, _, _, _, _ => none
 | k + 1, x0, x1, x10, x11, x12, x46 => if x46 = true then (if x12 = (x1.length : Int) then (shape_Sum.j3 k x0 x1 x10 x11 x12 1) else (if x11 = (x0.length : Int) then (shape_Sum.j3 k x0 x1 x10 x11 x12 (-1)) else ((shape_Sum_1.f x0 x11).bind fun bt116 => ((shape_Sum_1.f x1 x12).bind fun bt118 => ((shape_cross.f bt116.1 bt116.2 bt118.1 bt118.2).bind fun t120 => (shape_Sum.j3 k x0 x1 x10 x11 x12 t120)))))) else (if 0 ≤ (wrap64 ((x10.length : Int) - 1)) then (if (wrap64 ((x10.length : Int) - 1)) ≤ (x10.length : Int) then (some ((x10.take ((wrap64 ((x10.length : Int) - 1)) : Int).toNat), 0)) else (none)) else (none))
def shape_Sum.j3 : Nat → List (S29) → List (S29) → List (S29) → Int → Int → Int → Option ((List (S29)) × Int)
 | 0, _, _, _, _, _, _ => none
 | k + 1, x0, x1, x10, x11, x12, x13 => if x13 ≥ 0 then ((shape_Sum_1.f x0 x11).bind fun bt122 => (shape_Sum.j4 k x0 x1 x10 (wrap64 (x11 + 1)) x12 x13 bt122.1 bt122.2)) else (shape_Sum.j4 k x0 x1 x10 x11 x12 x13 0 0)
def shape_Sum.j4 : Nat → List (S29) → List (S29) → List (S29) → Int → Int → Int → Int → Int → Option ((List (S29)) × Int)
 | 0, _, _, _, _, _, _, _, _ => none
 | k + 1, x0, x1, x10, x11, x12, x13, x122000, x122001 => if x13 ≤ 0 then ((shape_Sum_1.f x1 x12).bind fun bt124 => ((shape_add.f x122000 x122001 bt124.1 bt124.2).bind fun bt126 => (if 0 ≤ (wrap64 ((x10.length : Int) - 1)) then (if (wrap64 ((x10.length : Int) - 1)) < (x10.length : Int) then ((shape_add.f ((rd_T29 x10 (wrap64 ((x10.length : Int) - 1))).f0) ((rd_T29 x10 (wrap64 ((x10.length : Int) - 1))).f1) bt126.1 bt126.2).bind fun bt129 => (if x10.length < 8796093022208 then (shape_Sum.l1 k x0 x1 (x10 ++ [(⟨bt129.1, bt129.2⟩ : S29)]) x11 (wrap64 (x12 + 1))) else (none))) else (none)) else (none)))) else (if 0 ≤ (wrap64 ((x10.length : Int) - 1)) then (if (wrap64 ((x10.length : Int) - 1)) < (x10.length : Int) then ((shape_add.f ((rd_T29 x10 (wrap64 ((x10.length : Int) - 1))).f0) ((rd_T29 x10 (wrap64 ((x10.length : Int) - 1))).f1) x122000 x122001).bind fun bt135 => (if x10.length < 8796093022208 then (shape_Sum.l1 k x0 x1 (x10 ++ [(⟨bt135.1, bt135.2⟩ : S29)]) x11 x12) else (none))) else (none)) else (none))
end
def shape_Sum.f (k : Nat) (l0 : List (S29)) (l1 : List (S29)) : Option ((List (S29)) × Int) := (some (([l0, l1] : List (List (S29))) : List (List (S29)))).bind fun y101 => (shape_Sum.l0 k l0 l1 y101 (y101.length : Int) 0)
theorem shape_Sum.mono_l : ∀ k, (∀ y0 y1 y2 y3 y4, LeO (shape_Sum.l0 k y0 y1 y2 y3 y4) (shape_Sum.l0 (k + 1) y0 y1 y2 y3 y4)) ∧ (∀ y0 y1 y2 y3 y4, LeO (shape_Sum.l1 k y0 y1 y2 y3 y4) (shape_Sum.l1 (k + 1) y0 y1 y2 y3 y4)) ∧ (∀ y0 y1 y2 y3 y4 y5, LeO (shape_Sum.j2 k y0 y1 y2 y3 y4 y5) (shape_Sum.j2 (k + 1) y0 y1 y2 y3 y4 y5)) ∧ (∀ y0 y1 y2 y3 y4 y5, LeO (shape_Sum.j3 k y0 y1 y2 y3 y4 y5) (shape_Sum.j3 (k + 1) y0 y1 y2 y3 y4 y5)) ∧ (∀ y0 y1 y2 y3 y4 y5 y6 y7, LeO (shape_Sum.j4 k y0 y1 y2 y3 y4 y5 y6 y7) (shape_Sum.j4 (k + 1) y0 y1 y2 y3 y4 y5 y6 y7))
 | 0 => ⟨fun _ _ _ _ _ r h => by simp [shape_Sum.l0] at h, fun _ _ _ _ _ r h => by simp [shape_Sum.l1] at h, fun _ _ _ _ _ _ r h => by simp [shape_Sum.j2] at h, fun _ _ _ _ _ _ r h => by simp [shape_Sum.j3] at h, fun _ _ _ _ _ _ _ _ r h => by simp [shape_Sum.j4] at h⟩
 | k + 1 => by
  obtain ⟨ih0, ih1, ih2, ih3, ih4⟩ := shape_Sum.mono_l k
  refine ⟨?_, ?_, ?_, ?_, ?_⟩
  ·intro y0 y1 y2 y3 y4
   unfold shape_Sum.l0
   repeat' first
   | (with_reducible exact ih0 _ _ _ _ _)
   | (with_reducible exact ih1 _ _ _ _ _)
   | (with_reducible exact ih2 _ _ _ _ _ _)
   | (with_reducible exact ih3 _ _ _ _ _ _)
   | (with_reducible exact ih4 _ _ _ _ _ _ _ _)
   | (with_reducible exact shape_refused_normal.mono _ _)
   | (with_reducible exact LeO.refl _)
   | (with_reducible exact LeO.none _)
   | (with_reducible refine LeO.ite ?_ ?_)
   | (with_reducible refine LeO.bind ?_ (fun _ => ?_))
   | exact ih0 _ _ _ _ _
   | exact ih1 _ _ _ _ _
   | exact ih2 _ _ _ _ _ _
   | exact ih3 _ _ _ _ _ _
   | exact ih4 _ _ _ _ _ _ _ _
   | exact shape_refused_normal.mono _ _
   | exact LeO.none _
   | refine LeO.ite ?_ ?_
   | refine LeO.bind ?_ (fun _ => ?_)
  ·intro y0 y1 y2 y3 y4
   unfold shape_Sum.l1
   repeat' first
   | (with_reducible exact ih0 _ _ _ _ _)
   | (with_reducible exact ih1 _ _ _ _ _)
   | (with_reducible exact ih2 _ _ _ _ _ _)
   | (with_reducible exact ih3 _ _ _ _ _ _)
   | (with_reducible exact ih4 _ _ _ _ _ _ _ _)
   | (with_reducible exact shape_refused_normal.mono _ _)
   | (with_reducible exact LeO.refl _)
   | (with_reducible exact LeO.none _)
   | (with_reducible refine LeO.ite ?_ ?_)
   | (with_reducible refine LeO.bind ?_ (fun _ => ?_))
   | exact ih0 _ _ _ _ _
   | exact ih1 _ _ _ _ _
   | exact ih2 _ _ _ _ _ _
   | exact ih3 _ _ _ _ _ _
   | exact ih4 _ _ _ _ _ _ _ _
   | exact shape_refused_normal.mono _ _
   | exact LeO.none _
   | refine LeO.ite ?_ ?_
   | refine LeO.bind ?_ (fun _ => ?_)
  ·intro y0 y1 y2 y3 y4 y5
   unfold shape_Sum.j2
   repeat' first
   | (with_reducible exact ih0 _ _ _ _ _)
   | (with_reducible exact ih1 _ _ _ _ _)
   | (with_reducible exact ih2 _ _ _ _ _ _)
   | (with_reducible exact ih3 _ _ _ _ _ _)
   | (with_reducible exact ih4 _ _ _ _ _ _ _ _)
   | (with_reducible exact shape_refused_normal.mono _ _)
   | (with_reducible exact LeO.refl _)
   | (with_reducible exact LeO.none _)
   | (with_reducible refine LeO.ite ?_ ?_)
   | (with_reducible refine LeO.bind ?_ (fun _ => ?_))
   | exact ih0 _ _ _ _ _
   | exact ih1 _ _ _ _ _
   | exact ih2 _ _ _ _ _ _
   | exact ih3 _ _ _ _ _ _
   | exact ih4 _ _ _ _ _ _ _ _
   | exact shape_refused_normal.mono _ _
   | exact LeO.none _
   | refine LeO.ite ?_ ?_
   | refine LeO.bind ?_ (fun _ => ?_)
  ·intro y0 y1 y2 y3 y4 y5
   unfold shape_Sum.j3
   repeat' first
   | (with_reducible exact ih0 _ _ _ _ _)
   | (with_reducible exact ih1 _ _ _ _ _)
   | (with_reducible exact ih2 _ _ _ _ _ _)
   | (with_reducible exact ih3 _ _ _ _ _ _)
   | (with_reducible exact ih4 _ _ _ _ _ _ _ _)
   | (with_reducible exact shape_refused_normal.mono _ _)
   | (with_reducible exact LeO.refl _)
   | (with_reducible exact LeO.none _)
   | (with_reducible refine LeO.ite ?_ ?_)
   | (with_reducible refine LeO.bind ?_ (fun _ => ?_))
   | exact ih0 _ _ _ _ _
   | exact ih1 _ _ _ _ _
   | exact ih2 _ _ _ _ _ _
   | exact ih3 _ _ _ _ _ _
   | exact ih4 _ _ _ _ _ _ _ _
   | exact shape_refused_normal.mono _ _
   | exact LeO.none _
   | refine LeO.ite ?_ ?_
   | refine LeO.bind ?_ (fun _ => ?_)
  ·intro y0 y1 y2 y3 y4 y5 y6 y7
   unfold shape_Sum.j4
   repeat' first
   | (with_reducible exact ih0 _ _ _ _ _)
   | (with_reducible exact ih1 _ _ _ _ _)
   | (with_reducible exact ih2 _ _ _ _ _ _)
   | (with_reducible exact ih3 _ _ _ _ _ _)
   | (with_reducible exact ih4 _ _ _ _ _ _ _ _)
   | (with_reducible exact shape_refused_normal.mono _ _)
   | (with_reducible exact LeO.refl _)
   | (with_reducible exact LeO.none _)
   | (with_reducible refine LeO.ite ?_ ?_)
   | (with_reducible refine LeO.bind ?_ (fun _ => ?_))
   | exact ih0 _ _ _ _ _
   | exact ih1 _ _ _ _ _
   | exact ih2 _ _ _ _ _ _
   | exact ih3 _ _ _ _ _ _
   | exact ih4 _ _ _ _ _ _ _ _
   | exact shape_refused_normal.mono _ _
   | exact LeO.none _
   | refine LeO.ite ?_ ?_
   | refine LeO.bind ?_ (fun _ => ?_)
theorem shape_Sum.mono : ∀ a0 a1 k, LeO (shape_Sum.f k a0 a1) (shape_Sum.f (k + 1) a0 a1) := by
 intro a0 a1 k
 obtain ⟨ih0, ih1, ih2, ih3, ih4⟩ := shape_Sum.mono_l k
 unfold shape_Sum.f
 repeat' first
  | (with_reducible exact ih0 _ _ _ _ _)
  | (with_reducible exact ih1 _ _ _ _ _)
  | (with_reducible exact ih2 _ _ _ _ _ _)
  | (with_reducible exact ih3 _ _ _ _ _ _)
  | (with_reducible exact ih4 _ _ _ _ _ _ _ _)
  | (with_reducible exact shape_refused_normal.mono _ _)
  | (with_reducible exact LeO.refl _)
  | (with_reducible exact LeO.none _)
  | (with_reducible refine LeO.ite ?_ ?_)
  | (with_reducible refine LeO.bind ?_ (fun _ => ?_))
  | exact ih0 _ _ _ _ _
  | exact ih1 _ _ _ _ _
  | exact ih2 _ _ _ _ _ _
  | exact ih3 _ _ _ _ _ _
  | exact ih4 _ _ _ _ _ _ _ _
  | exact shape_refused_normal.mono _ _
  | exact LeO.none _
  | refine LeO.ite ?_ ?_
  | refine LeO.bind ?_ (fun _ => ?_)
def shape_Sum.T9 : Bool × List (List Nat × List Nat) := (true, [([], []), ([0], [0]), ([1], [1]), ([], []), ([3], [3]), ([4], [4]), ([2, 5], [2, 5]), ([6], [6]), ([7, 6, 0, 1, 2, 3, 4, 5, 6, 7], [7])])
def shape_Sum.B9 : List Nat := [0, 1, 3, 0, 8, 24, 63, 127, 255]
theorem shape_Sum.tab9 : rtab .any (opsOf Try.f40 9) = shape_Sum.T9 := by kernel_rfl
theorem shape_Sum.bits9 : waitsOk shape_Sum.T9.2 shape_Sum.B9 = true := by kernel_rfl
def shape_Sum.T24 : Bool × List (List Nat × List Nat) := (true, [([], []), ([], []), ([], []), ([2], [2]), ([3], [3]), ([1, 4], [1, 4]), ([5], [5]), ([], []), ([6, 7], [6, 7]), ([8], [8]), ([0, 9, 8], [0, 9]), ([10, 10, 0, 1, 2, 3, 4, 5, 6, 7, 8, 9, 10], [0, 1, 2, 10])])
def shape_Sum.B24 : List Nat := [0, 0, 0, 4, 12, 30, 62, 0, 254, 510, 1023, 2047]
theorem shape_Sum.tab24 : rtab .any (opsOf Try.f40 24) = shape_Sum.T24 := by kernel_rfl
theorem shape_Sum.bits24 : waitsOk shape_Sum.T24.2 shape_Sum.B24 = true := by kernel_rfl
set_option maxHeartbeats 8000000 in
set_option maxRecDepth 100000 in
theorem shape_Sum.calls (k : Nat) (P0_ : Nat → Prop) (A0 : Option Addr) (c0 : Nat) (l0 : List (S29)) (P1_ : Nat → Prop) (A1 : Option Addr) (c1 : Nat) (l1 : List (S29)) (r1 : List (S29)) (r2 : Int) (w : World) (hs0 : Kd.V k29 29 w w.heap.size (fun k_ => P0_ k_) (.slice A0 l0.length c0) l0) (hs1 : Kd.V k29 29 w w.heap.size (fun k_ => P1_ k_) (.slice A1 l1.length c1) l1) (h : shape_Sum.f k l0 l1 = some (r1, r2)) :
  Calls Try.prog 40 #[.slice A0 l0.length c0, .slice A1 l1.length c1] w fun e w' => ∃ v0_ : Value, e = .returned (.tuple #[v0_, .int .i64 r2]) ∧ Kd.R k29 29 w' w.heap.size (fun k_ => (w.heap.size ≤ k_)) v0_ r1 ∧ Below w.heap.size w w' := by
 have hu29 := Try.underlying29
 have HO0 := Aside0.mk (show Kd.V k29 29 w w.heap.size (fun k_ => ((P0_ k_ ∨ P1_ k_) ∨ w.heap.size ≤ k_)) (.slice A0 l0.length c0) l0 from Kd.V_mono hs0 (fun k_ hk => .inl (.inl hk)))
 have HO1 := Aside0.mk (show Kd.V k29 29 w w.heap.size (fun k_ => ((P0_ k_ ∨ P1_ k_) ∨ w.heap.size ≤ k_)) (.slice A1 l1.length c1) l1 from Kd.V_mono hs1 (fun k_ hk => .inl (.inr hk)))
 have HB := Aside0.mk (Below.refl w.heap.size w)
 have H : ((some (([l0, l1] : List (List (S29))) : List (List (S29)))).bind fun y101 => (shape_Sum.l0 k l0 l1 y101 (y101.length : Int) 0)) = some (r1, r2) := h
 clear h
 obtain ⟨y101, hy101⟩ : ∃ y_ : List (List (S29)), y_ = (([l0, l1] : List (List (S29)))) := ⟨_, rfl⟩
 replace H : (shape_Sum.l0 k l0 l1 y101 (y101.length : Int) 0) = some (r1, r2) := by first | (rw [hy101]; with_reducible exact H) | (have H2_ := (Option.bind_some _ _).symm.trans H; rw [hy101]; with_reducible exact H2_) | (have H2_ := (Option.bind_some _ _).symm.trans H; with_reducible exact H2_) | with_reducible exact H | (rw [hy101]; exact H) | exact H
 have Ny101 := Aside0.mk hy101
 clear hy101
 have H' := Aside0.mk H
 clear H
 go_enter Try.func40, Try.ntmps40
 go_wp2_with (first | ((with_reducible refine gate_dst (N := 17) rfl ?_); (try (refine gate_guard (by rfl) ?_; dsimp only)); refine Kd.N_lit (Kd.slice 29 k29) _ 22 ?hg (N' := 17) ?hd (xs := ([l0, l1] : List (List (S29)))) (inner := [.slice A0 l0.length c0, .slice A1 l1.length c1]) (ok := (fun k_ => ((P0_ k_ ∨ P1_ k_) ∨ w.heap.size ≤ k_))) (okp := (fun k_ => ((P0_ k_ ∨ P1_ k_) ∨ w.heap.size ≤ k_))) ?hr ?hp (fun _ hk => hk) ((show ∀ k_, w.heap.size ≤ k_ → (fun k_ => ((P0_ k_ ∨ P1_ k_) ∨ w.heap.size ≤ k_)) k_ from fun k_ hk => (.inr (Nat.le_trans (below_size bh) hk))) _ (Nat.le_refl _)) (Below.refl _ _) (Nat.le_refl _) (by simp) ?_; (case hd => rfl); (case hg => rfl); (case hr => first | (go_simp; done) | (go_simp; rfl)); (case hp => exact (Reps.one (show Kd.FK (Kd.slice 29 k29) _ _ l0 [.slice A0 l0.length c0] from (Kd.FK_slice_mk (Kd.V_reads' (Kd.V_mono (ok' := (fun k_ => ((P0_ k_ ∨ P1_ k_) ∨ w.heap.size ≤ k_))) (HO0.out) (fun k_ hk => hk))).2.1 (Kd.V_F (Kd.V_mono (ok' := (fun k_ => ((P0_ k_ ∨ P1_ k_) ∨ w.heap.size ≤ k_))) (HO0.out) (fun k_ hk => hk))))) (Reps.one (show Kd.FK (Kd.slice 29 k29) _ _ l1 [.slice A1 l1.length c1] from (Kd.FK_slice_mk (Kd.V_reads' (Kd.V_mono (ok' := (fun k_ => ((P0_ k_ ∨ P1_ k_) ∨ w.heap.size ≤ k_))) (HO1.out) (fun k_ hk => hk))).2.1 (Kd.V_F (Kd.V_mono (ok' := (fun k_ => ((P0_ k_ ∨ P1_ k_) ∨ w.heap.size ≤ k_))) (HO1.out) (fun k_ hk => hk))))) (Reps.none _ _)))); intro v102 w3 ho4 hb hg_ hnew_; clear hg_ hnew_; (first | rw [← Ny101.out] at ho4 | (simp only [Int.reduceToNat] at ho4; rw [← Ny101.out] at ho4)); have HO103 := Aside0.mk (Kd.N_lower ho4 (below_size bh)); replace HO0 := Aside0.mk (Kd.V_elder' (vo HO0) (Kd.N_base ho4) hb); replace HO1 := Aside0.mk (Kd.V_elder' (vo HO1) (Kd.N_base ho4) hb); replace HB := Aside0.mk (below_step bh hb); clear hb ho4; obtain ⟨Ao5, co5, eo5⟩ := Kd.N_slice HO103.out; subst eo5))
 go_loopg [19] k (fun kq v19 w' => ∃ (x19_1 : Int), v19 = .int .i64 x19_1 ∧ Aside0 (shape_Sum.l0 kq l0 l1 y101 (y101.length : Int) x19_1 = some (r1, r2)) ∧ Aside0 (kq ≤ k) ∧ Aside0 (Kd.V k29 29 w' w.heap.size (fun k_ => ((P0_ k_ ∨ P1_ k_) ∨ w.heap.size ≤ k_) ∧ some k_ ≠ ((.slice Ao5 y101.length co5) : Value).ownBlock) (.slice A0 l0.length c0) l0) ∧ Aside0 (Kd.V k29 29 w' w.heap.size (fun k_ => ((P0_ k_ ∨ P1_ k_) ∨ w.heap.size ≤ k_) ∧ some k_ ≠ ((.slice Ao5 y101.length co5) : Value).ownBlock) (.slice A1 l1.length c1) l1) ∧ Aside0 (Kd.N (Kd.slice 29 k29) 22 w' w.heap.size (fun k_ => ((P0_ k_ ∨ P1_ k_) ∨ w.heap.size ≤ k_)) (.slice Ao5 y101.length co5) y101) ∧ Aside0 (Below w.heap.size w w'))
 case atStart => exact ⟨(0), sd, H', ⟨Nat.le_refl _⟩, ⟨by (with_reducible repeat (first | apply Kd.V_alloc | apply Kd.V_drewN | apply Kd.V_drew)); exact HO0.out⟩, ⟨by (with_reducible repeat (first | apply Kd.V_alloc | apply Kd.V_drewN | apply Kd.V_drew)); exact HO1.out⟩, ⟨by (with_reducible repeat (first | apply Kd.N_alloc | apply Kd.N_drewN | apply Kd.N_drew)); exact HO103.out⟩, ⟨bh⟩⟩
 case round =>
  clear H'
  try clear c1
  try clear p2
  try clear c4
  obtain ⟨x19_1, rfl, HA, HK1, HO_0, HO_1, HO_17, HB⟩ := hrel
  cases gk with
  | zero => exact absurd HA.out (by simp [shape_Sum.l0])
  | succ k1 =>
   have H := HA.out
   clear HA
   simp only [shape_Sum.l0] at H
   by_cases c6 : x19_1 < (y101.length : Int)
   ·rw [if_pos c6] at H
    have c6b0 : decide (x19_1 < (y101.length : Int)) = true := decide_eq_true c6
    clear c6
    by_cases c7 : 0 ≤ x19_1
    ·rw [if_pos c7] at H
     have c7b0 : decide (0 ≤ x19_1) = true := decide_eq_true c7
     clear c7
     by_cases c8 : x19_1 < (y101.length : Int)
     ·rw [if_pos c8] at H
      have c8b0 : decide (x19_1 < (y101.length : Int)) = true := decide_eq_true c8
      clear c8
      replace H := Option.bind_eq_some_iff.mp H
      obtain ⟨t105, A90, H⟩ := H
      replace H : (if t105 = 0 then (shape_Sum.l0 k1 l0 l1 y101 (y101.length : Int) (wrap64 (x19_1 + 1))) else (some (([] : List (S29)), t105))) = some (r1, r2) := H
      have A9 := Aside0.mk A90
      clear A90
      by_cases c10 : t105 = 0
      ·rw [if_pos c10] at H
       have c10b0 : (t105 == 0) = true := beq_iff_eq.mpr c10
       have c10b1 : (t105 != 0) = false := bne_eq_false_iff_eq.mpr c10
       clear c10
       have H' := Aside0.mk H
       clear H
       have p104 : 0 ≤ (x19_1 : Int) := dt
       have q104 : x19_1 < (y101.length : Int) := dt
       obtain ⟨ad104, A104_0, c104_0, e104, hx104_0, hl104_0, hi104_0⟩ := at_L2 (Kd.N_reads' HO_17.out).2.2 x19_1 p104 q104
       cases e104
       obtain ⟨ce104, hce104, hMe104, hcc104⟩ := Kd.N_get HO_17.out [] x19_1 p104 (by first | exact q104 | exact dt | (have e_ := (Kd.N_reads' HO_17.out).1; omega))
       obtain ⟨ua104_0, uc104_0, rfl, ul104_0, ge104_0⟩ := Kd.FK_slice_open hMe104
       have hv104_0 := hcc104 0 _ rfl
       rw [Nat.add_zero, show ((Kd.slice 29 k29)).sz = 1 from rfl, Nat.mul_one] at hv104_0
       replace hv104_0 := Option.some.inj (hv104_0.symm.trans hx104_0)
       injection hv104_0 with hva_ hvn_ hvc_
       rw [hva_] at ge104_0
       rw [hvc_] at ul104_0
       have HL104_0 := Aside0.mk (show Kd.V k29 29 _ w.heap.size _ _ (rd_L2 y101 x19_1) from Kd.V_mk ul104_0 ge104_0)
       clear hva_ hvn_ hvc_ ge104_0 ul104_0
       clear hcc104 hce104
       have HR104_0 := Aside0.mk hi104_0
       have HC104_0 := Aside0.mk hl104_0
       clear hi104_0 hl104_0
       replace p104 := eq_true p104
       replace q104 := eq_true q104
       go_wp2_with (first | ((first | ((with_reducible refine gate_callee (f := 68) rfl ?_); refine goesL_ (some 24) rfl rfl Try.func68 (by kernel_rfl) rfl #[.slice A104_0 (rd_L2 y101 x19_1).length c104_0, .func (.func 72) #[] #[]] rfl sg ?_) | ((with_reducible refine gate_value 68 rfl rfl ?_); refine goesLV_ (some 24) rfl rfl Try.func68 (by kernel_rfl) rfl #[.slice A104_0 (rd_L2 y101 x19_1).length c104_0, .func (.func 72) #[] #[]] rfl sg rfl ?_)); (with_reducible refine (shape_refused_normal.calls k1 _ _ (rd_L2 y101 x19_1)  t105 _ ?side1 ?side2 A9.out).mono ?_); (case side1 => repeat (first | exact (by repeat (first | (with_reducible exact HR104_0.out) | (with_reducible refine Kd.C_alloc ?_ _) | (with_reducible refine Kd.C_drewN ?_ _) | (with_reducible refine Kd.C_drew ?_) | exact HR104_0.out)) | (with_reducible refine Kd.C_alloc ?_ _) | (with_reducible refine Kd.C_drewN ?_ _) | (with_reducible refine Kd.C_drew ?_))); (case side2 => exact HC104_0.out); rintro e w11 ⟨rfl, hb⟩; refine ⟨_, rfl, ?_⟩; replace HO_0 := Aside0.mk (Kd.V_below (vo HO_0) hb); replace HO_1 := Aside0.mk (Kd.V_below (vo HO_1) hb); replace HO_17 := Aside0.mk (Kd.N_below (no HO_17) hb); replace HL104_0 := Aside0.mk (Kd.V_below (by (with_reducible repeat (first | apply Kd.V_alloc | apply Kd.V_drewN | apply Kd.V_drew)); exact HL104_0.out) hb); replace HR104_0 := Aside0.mk (Kd.C_below (by repeat (first | (with_reducible exact HR104_0.out) | (with_reducible refine Kd.C_alloc ?_ _) | (with_reducible refine Kd.C_drewN ?_ _) | (with_reducible refine Kd.C_drew ?_) | exact HR104_0.out)) hb); replace HB := Aside0.mk (below_step bh hb); (try clear hb); (try clear hb2); (try clear hk); (try clear hi)))
       go_roundg k1
       case measure => have := HK1.out; omega
       case rel => exact ⟨(wrap64 (x19_1 + 1)), sd, H', ⟨by have := HK1.out; omega⟩, ⟨by (with_reducible repeat (first | apply Kd.V_alloc | apply Kd.V_drewN | apply Kd.V_drew)); exact HO_0.out⟩, ⟨by (with_reducible repeat (first | apply Kd.V_alloc | apply Kd.V_drewN | apply Kd.V_drew)); exact HO_1.out⟩, ⟨by (with_reducible repeat (first | apply Kd.N_alloc | apply Kd.N_drewN | apply Kd.N_drew)); exact HO_17.out⟩, ⟨bh⟩⟩
      ·rw [if_neg c10] at H
       have c10b0 : (t105 == 0) = false := beq_eq_false_iff_ne.mpr c10
       have c10b1 : (t105 != 0) = true := bne_iff_ne.mpr c10
       simp only [Option.some.injEq, Prod.mk.injEq] at H
       obtain ⟨rfl, rfl⟩ := H
       have p104 : 0 ≤ (x19_1 : Int) := dt
       have q104 : x19_1 < (y101.length : Int) := dt
       obtain ⟨ad104, A104_0, c104_0, e104, hx104_0, hl104_0, hi104_0⟩ := at_L2 (Kd.N_reads' HO_17.out).2.2 x19_1 p104 q104
       cases e104
       obtain ⟨ce104, hce104, hMe104, hcc104⟩ := Kd.N_get HO_17.out [] x19_1 p104 (by first | exact q104 | exact dt | (have e_ := (Kd.N_reads' HO_17.out).1; omega))
       obtain ⟨ua104_0, uc104_0, rfl, ul104_0, ge104_0⟩ := Kd.FK_slice_open hMe104
       have hv104_0 := hcc104 0 _ rfl
       rw [Nat.add_zero, show ((Kd.slice 29 k29)).sz = 1 from rfl, Nat.mul_one] at hv104_0
       replace hv104_0 := Option.some.inj (hv104_0.symm.trans hx104_0)
       injection hv104_0 with hva_ hvn_ hvc_
       rw [hva_] at ge104_0
       rw [hvc_] at ul104_0
       have HL104_0 := Aside0.mk (show Kd.V k29 29 _ w.heap.size _ _ (rd_L2 y101 x19_1) from Kd.V_mk ul104_0 ge104_0)
       clear hva_ hvn_ hvc_ ge104_0 ul104_0
       clear hcc104 hce104
       have HR104_0 := Aside0.mk hi104_0
       have HC104_0 := Aside0.mk hl104_0
       clear hi104_0 hl104_0
       replace p104 := eq_true p104
       replace q104 := eq_true q104
       go_wp2_with (first | ((first | ((with_reducible refine gate_callee (f := 68) rfl ?_); refine goesL_ (some 24) rfl rfl Try.func68 (by kernel_rfl) rfl #[.slice A104_0 (rd_L2 y101 x19_1).length c104_0, .func (.func 72) #[] #[]] rfl sg ?_) | ((with_reducible refine gate_value 68 rfl rfl ?_); refine goesLV_ (some 24) rfl rfl Try.func68 (by kernel_rfl) rfl #[.slice A104_0 (rd_L2 y101 x19_1).length c104_0, .func (.func 72) #[] #[]] rfl sg rfl ?_)); (with_reducible refine (shape_refused_normal.calls k1 _ _ (rd_L2 y101 x19_1)  t105 _ ?side1 ?side2 A9.out).mono ?_); (case side1 => repeat (first | exact (by repeat (first | (with_reducible exact HR104_0.out) | (with_reducible refine Kd.C_alloc ?_ _) | (with_reducible refine Kd.C_drewN ?_ _) | (with_reducible refine Kd.C_drew ?_) | exact HR104_0.out)) | (with_reducible refine Kd.C_alloc ?_ _) | (with_reducible refine Kd.C_drewN ?_ _) | (with_reducible refine Kd.C_drew ?_))); (case side2 => exact HC104_0.out); rintro e w12 ⟨rfl, hb⟩; refine ⟨_, rfl, ?_⟩; replace HO_0 := Aside0.mk (Kd.V_below (vo HO_0) hb); replace HO_1 := Aside0.mk (Kd.V_below (vo HO_1) hb); replace HO_17 := Aside0.mk (Kd.N_below (no HO_17) hb); replace HL104_0 := Aside0.mk (Kd.V_below (by (with_reducible repeat (first | apply Kd.V_alloc | apply Kd.V_drewN | apply Kd.V_drew)); exact HL104_0.out) hb); replace HR104_0 := Aside0.mk (Kd.C_below (by repeat (first | (with_reducible exact HR104_0.out) | (with_reducible refine Kd.C_alloc ?_ _) | (with_reducible refine Kd.C_drewN ?_ _) | (with_reducible refine Kd.C_drew ?_) | exact HR104_0.out)) hb); replace HB := Aside0.mk (below_step bh hb); (try clear hb); (try clear hb2); (try clear hk); (try clear hi)))
       go_ret2
       exact ⟨_, by exact er, by first | exact Kd.R_nil _ _ _ _ _ | exact Kd.N_nil _ _ _ _ _ | exact Kd.V_nil _ _ _ _ _ | exact Kd.Q_nil _ _ _ _ _ | exact Kd.S_nil _ _ _ _ _, bh⟩
     ·rw [if_neg c8] at H
      exact absurd H (by simp)
    ·rw [if_neg c7] at H
     exact absurd H (by simp)
   ·rw [if_neg c6] at H
    have c6b0 : decide (x19_1 < (y101.length : Int)) = false := decide_eq_false c6
    clear c6
    by_cases c13 : 0 < (l0.length : Int)
    ·rw [if_pos c13] at H
     have c13b0 : decide (0 < (l0.length : Int)) = true := decide_eq_true c13
     have c13b1 : decide (0 < l0.length) = true := decide_eq_true (by omega)
     clear c13
     by_cases c14 : 0 < (l1.length : Int)
     ·rw [if_pos c14] at H
      have c14b0 : decide (0 < (l1.length : Int)) = true := decide_eq_true c14
      have c14b1 : decide (0 < l1.length) = true := decide_eq_true (by omega)
      clear c14
      replace H := Option.bind_eq_some_iff.mp H
      obtain ⟨⟨t108, t109⟩, A150, H⟩ := H
      replace H : (shape_Sum.l1 k1 l0 l1 (([(⟨t108, t109⟩ : S29)] : List (S29))) 0 0) = some (r1, r2) := H
      have A15 := Aside0.mk A150
      clear A150
      obtain ⟨y110, hy110⟩ : ∃ y_ : List (S29), y_ = (([(⟨t108, t109⟩ : S29)] : List (S29))) := ⟨_, rfl⟩
      replace H : (shape_Sum.l1 k1 l0 l1 y110 0 0) = some (r1, r2) := by first | (rw [hy110]; with_reducible exact H) | (have H2_ := (Option.bind_some _ _).symm.trans H; rw [hy110]; with_reducible exact H2_) | (have H2_ := (Option.bind_some _ _).symm.trans H; with_reducible exact H2_) | with_reducible exact H | (rw [hy110]; exact H) | exact H
      have Ny110 := Aside0.mk hy110
      clear hy110
      have H' := Aside0.mk H
      clear H
      try go_wp2
      replace HO_0 := Aside0.mk (Kd.V_drew HO_0.out)
      replace HO_1 := Aside0.mk (Kd.V_drew HO_1.out)
      replace HO_17 := Aside0.mk (Kd.N_drew HO_17.out)
      replace HB := Aside0.mk (below_drew1 HB.out)
      have p106 : 0 ≤ (0 : Int) := (by omega)
      have q106 : 0 < (l0.length : Int) := dt
      obtain ⟨ad106, e106, hx106_0, hx106_1⟩ := at_T29 (Kd.V_reads' HO_0.out).2.2 0 p106 q106
      cases e106
      have qi106 : (0 < l0.length) = True := eq_true (by omega)
      (try rw [show ((0 : Int)).toNat = 0 from rfl] at hx106_0)
      (try rw [show 0 * 2 = 0 from rfl] at hx106_0)
      (try rw [Addr.add_zero'] at hx106_0)
      (try rw [show ((0 : Int)).toNat = 0 from rfl] at hx106_1)
      (try rw [show 0 * 2 = 0 from rfl] at hx106_1)
      (try rw [Addr.add_zero'] at hx106_1)
      replace p106 := eq_true p106
      replace q106 := eq_true q106
      have p107 : 0 ≤ (0 : Int) := (by omega)
      have q107 : 0 < (l1.length : Int) := dt
      obtain ⟨ad107, e107, hx107_0, hx107_1⟩ := at_T29 (Kd.V_reads' HO_1.out).2.2 0 p107 q107
      cases e107
      have qi107 : (0 < l1.length) = True := eq_true (by omega)
      (try rw [show ((0 : Int)).toNat = 0 from rfl] at hx107_0)
      (try rw [show 0 * 2 = 0 from rfl] at hx107_0)
      (try rw [Addr.add_zero'] at hx107_0)
      (try rw [show ((0 : Int)).toNat = 0 from rfl] at hx107_1)
      (try rw [show 0 * 2 = 0 from rfl] at hx107_1)
      (try rw [Addr.add_zero'] at hx107_1)
      replace p107 := eq_true p107
      replace q107 := eq_true q107
      refine start_ (n := 9) (S := fun w' => w'.cell? ad106 = some (.int .i64 ((rd_T29 l0 0).f0)) ∧ w'.cell? ⟨ad106.block, ad106.off + 1, none⟩ = some (.int .i64 ((rd_T29 l0 0).f1)) ∧ w'.cell? ad107 = some (.int .i64 ((rd_T29 l1 0).f0)) ∧ w'.cell? ⟨ad107.block, ad107.off + 1, none⟩ = some (.int .i64 ((rd_T29 l1 0).f1))) (ds := []) #[false, false, false, false, false, false, false, false, false] (by kernel_rfl) rfl rfl ⟨hx106_0, hx106_1, hx107_0, hx107_1⟩ (fun hHeld => ?_); refine with_tabW shape_Sum.tab9 shape_Sum.bits9 (fun HT_ HW_ => ?_)
      generalize wr.drew = w16 at HO_0 HO_1 HO_17 HB hx106_0 hx106_1 hx107_0 hx107_1 hHeld ⊢
      refine pu 0 29 HT_ ?_
      refine pu 1 30 HT_ ?_
      refine pu 3 32 HT_ ?_
      refine pu 4 33 HT_ ?_
      refine tk4 2 31 hHeld HT_ HW_ ?_
      refine tk4 5 34 hHeld HT_ HW_ ?_
      refine one_ (i := 6) (N := some 35) #[true, true, true, true, true, true, true, false, false] rfl rfl (on1 HT_) (by decide) (fun K hK => ?_)
      first | (refine goes_ Try.func78 (by kernel_rfl) rfl #[.agg #[.int .i64 ((rd_T29 l0 0).f0), .int .i64 ((rd_T29 l0 0).f1)], .agg #[.int .i64 ((rd_T29 l1 0).f0), .int .i64 ((rd_T29 l1 0).f1)]] (by rfl) rfl rfl sg ?_) | (refine goesV_ Try.func78 (by kernel_rfl) rfl #[.agg #[.int .i64 ((rd_T29 l0 0).f0), .int .i64 ((rd_T29 l0 0).f1)], .agg #[.int .i64 ((rd_T29 l1 0).f0), .int .i64 ((rd_T29 l1 0).f1)]] (by rfl) rfl rfl sg (by rfl) ?_)
      with_reducible refine (shape_add.calls ((rd_T29 l0 0).f0) ((rd_T29 l0 0).f1) ((rd_T29 l1 0).f0) ((rd_T29 l1 0).f1) t108 t109 _ A15.out).mono ?_
      rintro e w17 ⟨rfl, hb⟩
      have HS0_ := (hb.cell (World.block_lt_of_cell? _ _ (hHeld.1))).trans (hHeld.1)
      have HS1_ := (hb.cell (World.block_lt_of_cell? _ _ (hHeld.2.1))).trans (hHeld.2.1)
      have HS2_ := (hb.cell (World.block_lt_of_cell? _ _ (hHeld.2.2.1))).trans (hHeld.2.2.1)
      have HS3_ := (hb.cell (World.block_lt_of_cell? _ _ (hHeld.2.2.2))).trans (hHeld.2.2.2)
      refine ⟨_, rfl, ?_⟩
      replace HO_0 := Aside0.mk (Kd.V_below (vo HO_0) hb)
      replace HO_1 := Aside0.mk (Kd.V_below (vo HO_1) hb)
      replace HO_17 := Aside0.mk (Kd.N_below (no HO_17) hb)
      replace HB := Aside0.mk (below_step bh hb)
      (try clear hb); (try clear hb2); (try clear hk); (try clear hi)
      refine hK.out _ _ ⟨HS0_, HS1_, HS2_, HS3_⟩ (fun hHeld => ?_)
      clear hK K
      refine nm 35 ?_
      refine one_ (i := 7) (N := some 36) #[true, true, true, true, true, true, true, true, false] rfl rfl (on1 HT_) (by decide) (fun K hK => ?_)
      refine Kd.R_lit_step k29 _ 29 ?hg (N := 36) ?hd (xs := ([(⟨t108, t109⟩ : S29)] : List (S29))) (inner := [.int .i64 t108, .int .i64 t109]) (ok := fun _ => True) (okp := fun _ => True) ?hr ?hp (fun _ hk => hk) trivial (Below.refl _ _) (Nat.le_refl _) (by simp) ?_; (case hd => rfl); (case hg => rfl); (case hr => first | (go_simp; done) | (go_simp; rfl)); (case hp => exact (Reps.c2 (show Kd.M k29 _ _ _ (⟨t108, t109⟩ : S29) [.int .i64 t108, .int .i64 t109] from (k29_mkM _ _ _ (⟨t108, t109⟩ : S29) )) (Reps.none _ _)))
      intro v111 w18 ho19 hb hg_ hnew_
      have HS0_ := (hb.cell (World.block_lt_of_cell? _ _ (hHeld.1))).trans (hHeld.1)
      have HS1_ := (hb.cell (World.block_lt_of_cell? _ _ (hHeld.2.1))).trans (hHeld.2.1)
      have HS2_ := (hb.cell (World.block_lt_of_cell? _ _ (hHeld.2.2.1))).trans (hHeld.2.2.1)
      have HS3_ := (hb.cell (World.block_lt_of_cell? _ _ (hHeld.2.2.2))).trans (hHeld.2.2.2)
      clear hg_ hnew_
      (first | rw [← Ny110.out] at ho19 | (simp only [Int.reduceToNat] at ho19; rw [← Ny110.out] at ho19))
      have HO112 := Aside0.mk (Kd.R_lower (Kd.R_newM (M := fun k_ => (w.heap.size ≤ k_)) ho19 (below_size bh) (fun k_ h_ => h_)) (below_size bh))
      replace HO_0 := Aside0.mk (Kd.V_elder' (vo HO_0) (Kd.R_base ho19) hb)
      replace HO_1 := Aside0.mk (Kd.V_elder' (vo HO_1) (Kd.R_base ho19) hb)
      replace HO_17 := Aside0.mk (Kd.N_elder' (no HO_17) (Kd.R_base ho19) hb)
      replace HB := Aside0.mk (below_step bh hb)
      clear hb ho19
      refine hK.out _ _ ⟨HS0_, HS1_, HS2_, HS3_⟩ (fun hHeld => ?_)
      clear hK K
      refine nm 36 ?_
      refine pu 8 10 HT_ ?_
      refine done_ (done_of HT_.out (by kernel_rfl)) ?_
      try go_wp2
      go_loopg [10, 11, 12] k1 (fun kq v10 v11 v12 w' => ∃ (x10_2 : List (S29)) (x11_2 : Int) (x12_2 : Int), v11 = .int .i64 x11_2 ∧ v12 = .int .i64 x12_2 ∧ Aside0 (shape_Sum.l1 kq l0 l1 x10_2 x11_2 x12_2 = some (r1, r2)) ∧ Aside0 (kq ≤ k1) ∧ Aside0 (Kd.V k29 29 w' w.heap.size (fun k_ => ((P0_ k_ ∨ P1_ k_) ∨ w.heap.size ≤ k_) ∧ some k_ ≠ (v10 : Value).ownBlock) (.slice (some ad106) l0.length c0) l0) ∧ Aside0 (Kd.V k29 29 w' w.heap.size (fun k_ => ((P0_ k_ ∨ P1_ k_) ∨ w.heap.size ≤ k_) ∧ some k_ ≠ (v10 : Value).ownBlock) (.slice (some ad107) l1.length c1) l1) ∧ Aside0 (Kd.R k29 29 w' w.heap.size (fun k_ => (w.heap.size ≤ k_)) v10 x10_2) ∧ Aside0 (Below w.heap.size w w'))
      case atStart => exact ⟨(y110), (0), (0), sd, sd, H', ⟨Nat.le_refl _⟩, ⟨by (with_reducible repeat (first | apply Kd.V_alloc | apply Kd.V_drewN | apply Kd.V_drew)); exact Kd.V_mono HO_0.out (fun _ hk => ⟨hk.1.1, hk.2⟩)⟩, ⟨by (with_reducible repeat (first | apply Kd.V_alloc | apply Kd.V_drewN | apply Kd.V_drew)); exact Kd.V_mono HO_1.out (fun _ hk => ⟨hk.1.1, hk.2⟩)⟩, ⟨by (with_reducible repeat (first | apply Kd.R_alloc | apply Kd.R_drewN | apply Kd.R_drew)); exact Kd.R_mono HO112.out (fun _ hk => hk.1)⟩, ⟨bh⟩⟩
      case round =>
       clear H'
       try clear c1
       try clear p1
       try clear q1
       try clear hx1
       try clear qi1
       try clear c2
       try clear p2
       try clear c4
       try clear c6
       try clear c6b0
       try clear p6
       try clear c7
       try clear c7b0
       try clear c8
       try clear c8b0
       try clear c10
       try clear c10b0
       try clear c10b1
       try clear p10
       try clear q10
       try clear hx10
       try clear qi10
       try clear c13
       try clear c13b0
       try clear c13b1
       try clear c14
       try clear c14b0
       try clear c14b1
       try clear hx104_0
       try clear hx106_0
       try clear hx106_1
       try clear hx107_0
       try clear hx107_1
       try clear p104
       try clear p106
       try clear p107
       try clear p2
       try clear q104
       try clear q106
       try clear q107
       obtain ⟨x10_2, x11_2, x12_2, rfl, rfl, HA, HK2, HO_0, HO_1, HO_10, HB⟩ := hrel
       cases gk with
       | zero => exact absurd HA.out (by simp [shape_Sum.l1])
       | succ k2 =>
        have H := HA.out
        clear HA
        simp only [shape_Sum.l1] at H
        have HC20 := Aside0.mk H
        clear H
        go_upto_region 11 with (fail)
        go_cut [46] (fun v46 wc => ∃ (kq : Nat) (x46_19 : Bool), v46 = .bool x46_19 ∧ Aside0 (shape_Sum.j2 kq l0 l1 x10_2 x11_2 x12_2 x46_19 = some (r1, r2)) ∧ Aside0 (kq ≤ k2) ∧ Aside0 (Kd.V k29 29 wc w.heap.size (fun k_ => ((P0_ k_ ∨ P1_ k_) ∨ w.heap.size ≤ k_) ∧ some k_ ≠ (u10 : Value).ownBlock) (.slice (some ad106) l0.length c0) l0) ∧ Aside0 (Kd.V k29 29 wc w.heap.size (fun k_ => ((P0_ k_ ∨ P1_ k_) ∨ w.heap.size ≤ k_) ∧ some k_ ≠ (u10 : Value).ownBlock) (.slice (some ad107) l1.length c1) l1) ∧ Aside0 (Kd.R k29 29 wc w.heap.size (fun k_ => (w.heap.size ≤ k_)) u10 x10_2) ∧ Aside0 (Below w.heap.size w wc))
        case first =>
         have H := HC20.out
         clear HC20
         by_cases c21 : x11_2 < (l0.length : Int)
         ·rw [if_pos c21] at H
          have c21b0 : decide (x11_2 < (l0.length : Int)) = true := decide_eq_true c21
          clear c21
          (first | rw [c21b0] | (simp only [i64_w, i32_w]; rw [c21b0]) | skip)
          have H' := Aside0.mk H
          clear H
          go_wp2
          go_meet
          case rel => exact ⟨_, (true), sd, H', ⟨by have := HK1.out; have := HK2.out; first | omega | exact Nat.le_refl _⟩, ⟨by (with_reducible repeat (first | apply Kd.V_alloc | apply Kd.V_drewN | apply Kd.V_drew)); exact HO_0.out⟩, ⟨by (with_reducible repeat (first | apply Kd.V_alloc | apply Kd.V_drewN | apply Kd.V_drew)); exact HO_1.out⟩, ⟨by (with_reducible repeat (first | apply Kd.R_alloc | apply Kd.R_drewN | apply Kd.R_drew)); exact HO_10.out⟩, ⟨bh⟩⟩
         ·rw [if_neg c21] at H
          have c21b0 : decide (x11_2 < (l0.length : Int)) = false := decide_eq_false c21
          clear c21
          (first | rw [c21b0] | (simp only [i64_w, i32_w]; rw [c21b0]) | skip)
          have H' := Aside0.mk H
          clear H
          go_wp2
          go_meet
          case rel => exact ⟨_, (decide (x12_2 < (l1.length : Int))), sd, H', ⟨by have := HK1.out; have := HK2.out; first | omega | exact Nat.le_refl _⟩, ⟨by (with_reducible repeat (first | apply Kd.V_alloc | apply Kd.V_drewN | apply Kd.V_drew)); exact HO_0.out⟩, ⟨by (with_reducible repeat (first | apply Kd.V_alloc | apply Kd.V_drewN | apply Kd.V_drew)); exact HO_1.out⟩, ⟨by (with_reducible repeat (first | apply Kd.R_alloc | apply Kd.R_drewN | apply Kd.R_drew)); exact HO_10.out⟩, ⟨bh⟩⟩
        case rest =>
         clear HC20
         try clear c1
         try clear p1
         try clear q1
         try clear hx1
         try clear qi1
         try clear c2
         try clear p2
         try clear c4
         try clear c6
         try clear c6b0
         try clear p6
         try clear c7
         try clear c7b0
         try clear c8
         try clear c8b0
         try clear c10
         try clear c10b0
         try clear c10b1
         try clear p10
         try clear q10
         try clear hx10
         try clear qi10
         try clear c13
         try clear c13b0
         try clear c13b1
         try clear c14
         try clear c14b0
         try clear c14b1
         try clear c20
         try clear c21
         try clear c21b0
         try clear hx104_0
         try clear hx106_0
         try clear hx106_1
         try clear hx107_0
         try clear hx107_1
         try clear p1
         try clear p10
         try clear p104
         try clear p106
         try clear p107
         try clear p2
         try clear p6
         try clear q1
         try clear q10
         try clear q104
         try clear q106
         try clear q107
         obtain ⟨kq, x46_19, rfl, HA, HJ19, HO_0, HO_1, HO_10, HB⟩ := hcut
         cases kq with
         | zero => exact absurd HA.out (by simp [shape_Sum.j2])
         | succ kj19 =>
          have H := HA.out
          clear HA
          simp only [shape_Sum.j2] at H
          by_cases c22 : x46_19 = true
          ·subst c22
           rw [if_pos rfl] at H
           have HC23 := Aside0.mk H
           clear H
           go_upto_block 4 with (fail)
           go_cut [13] (fun v13 wc => ∃ (kq : Nat) (x13_22 : Int), v13 = .int .i64 x13_22 ∧ Aside0 (shape_Sum.j3 kq l0 l1 x10_2 x11_2 x12_2 x13_22 = some (r1, r2)) ∧ Aside0 (kq ≤ kj19) ∧ Aside0 (Kd.V k29 29 wc w.heap.size (fun k_ => ((P0_ k_ ∨ P1_ k_) ∨ w.heap.size ≤ k_) ∧ some k_ ≠ (u10 : Value).ownBlock) (.slice (some ad106) l0.length c0) l0) ∧ Aside0 (Kd.V k29 29 wc w.heap.size (fun k_ => ((P0_ k_ ∨ P1_ k_) ∨ w.heap.size ≤ k_) ∧ some k_ ≠ (u10 : Value).ownBlock) (.slice (some ad107) l1.length c1) l1) ∧ Aside0 (Kd.R k29 29 wc w.heap.size (fun k_ => (w.heap.size ≤ k_)) u10 x10_2) ∧ Aside0 (Below w.heap.size w wc))
           case first =>
            have H := HC23.out
            clear HC23
            by_cases c24 : x12_2 = (l1.length : Int)
            ·rw [if_pos c24] at H
             have c24b0 : (x12_2 == (l1.length : Int)) = true := beq_iff_eq.mpr c24
             have c24b1 : (x12_2 != (l1.length : Int)) = false := bne_eq_false_iff_eq.mpr c24
             clear c24
             (first | rw [c24b0] | (simp only [i64_w, i32_w]; rw [c24b0]) | skip)
             have H' := Aside0.mk H
             clear H
             go_wp2
             go_meet
             case rel => exact ⟨_, (1), sd, H', ⟨by have := HK1.out; have := HK2.out; have := HJ19.out; first | omega | exact Nat.le_refl _⟩, ⟨by (with_reducible repeat (first | apply Kd.V_alloc | apply Kd.V_drewN | apply Kd.V_drew)); exact HO_0.out⟩, ⟨by (with_reducible repeat (first | apply Kd.V_alloc | apply Kd.V_drewN | apply Kd.V_drew)); exact HO_1.out⟩, ⟨by (with_reducible repeat (first | apply Kd.R_alloc | apply Kd.R_drewN | apply Kd.R_drew)); exact HO_10.out⟩, ⟨bh⟩⟩
            ·rw [if_neg c24] at H
             have c24b0 : (x12_2 == (l1.length : Int)) = false := beq_eq_false_iff_ne.mpr c24
             have c24b1 : (x12_2 != (l1.length : Int)) = true := bne_iff_ne.mpr c24
             (first | rw [c24b0] | (simp only [i64_w, i32_w]; rw [c24b0]) | skip)
             by_cases c25 : x11_2 = (l0.length : Int)
             ·rw [if_pos c25] at H
              have c25b0 : (x11_2 == (l0.length : Int)) = true := beq_iff_eq.mpr c25
              have c25b1 : (x11_2 != (l0.length : Int)) = false := bne_eq_false_iff_eq.mpr c25
              clear c25
              have H' := Aside0.mk H
              clear H
              go_wp2
              go_meet
              case rel => exact ⟨_, ((-1)), sd, H', ⟨by have := HK1.out; have := HK2.out; have := HJ19.out; first | omega | exact Nat.le_refl _⟩, ⟨by (with_reducible repeat (first | apply Kd.V_alloc | apply Kd.V_drewN | apply Kd.V_drew)); exact HO_0.out⟩, ⟨by (with_reducible repeat (first | apply Kd.V_alloc | apply Kd.V_drewN | apply Kd.V_drew)); exact HO_1.out⟩, ⟨by (with_reducible repeat (first | apply Kd.R_alloc | apply Kd.R_drewN | apply Kd.R_drew)); exact HO_10.out⟩, ⟨bh⟩⟩
             ·rw [if_neg c25] at H
              have c25b0 : (x11_2 == (l0.length : Int)) = false := beq_eq_false_iff_ne.mpr c25
              have c25b1 : (x11_2 != (l0.length : Int)) = true := bne_iff_ne.mpr c25
              replace H := Option.bind_eq_some_iff.mp H
              obtain ⟨⟨t116, t117⟩, A260, H⟩ := H
              replace H : ((shape_Sum_1.f l1 x12_2).bind fun bt118 => ((shape_cross.f t116 t117 bt118.1 bt118.2).bind fun t120 => (shape_Sum.j3 kj19 l0 l1 x10_2 x11_2 x12_2 t120))) = some (r1, r2) := H
              have A26 := Aside0.mk A260
              clear A260
              replace H := Option.bind_eq_some_iff.mp H
              obtain ⟨⟨t118, t119⟩, A270, H⟩ := H
              replace H : ((shape_cross.f t116 t117 t118 t119).bind fun t120 => (shape_Sum.j3 kj19 l0 l1 x10_2 x11_2 x12_2 t120)) = some (r1, r2) := H
              have A27 := Aside0.mk A270
              clear A270
              replace H := Option.bind_eq_some_iff.mp H
              obtain ⟨t120, A280, H⟩ := H
              replace H : (shape_Sum.j3 kj19 l0 l1 x10_2 x11_2 x12_2 t120) = some (r1, r2) := H
              have A28 := Aside0.mk A280
              clear A280
              have H' := Aside0.mk H
              clear H
              go_wp2_with (first | ((first | ((with_reducible refine gate_callee (f := 77) rfl ?_); refine goesL_ (some 50) rfl rfl Try.func77 (by kernel_rfl) rfl #[.slice (some ad106) l0.length c0, .int .i64 x11_2] rfl sg ?_) | ((with_reducible refine gate_value 77 rfl rfl ?_); refine goesLV_ (some 50) rfl rfl Try.func77 (by kernel_rfl) rfl #[.slice (some ad106) l0.length c0, .int .i64 x11_2] rfl sg rfl ?_)); (with_reducible refine (shape_Sum_1.calls _ _ l0 x11_2 t116 t117 _ ?side1 ?side2 A26.out).mono ?_); (case side1 => exact cs (Kd.V_reads' HO_0.out).2.2); (case side2 => exact (Kd.V_reads' HO_0.out).2.1); rintro e w29 ⟨rfl, hb⟩; refine ⟨_, rfl, ?_⟩; replace HO_0 := Aside0.mk (Kd.V_below (vo HO_0) hb); replace HO_1 := Aside0.mk (Kd.V_below (vo HO_1) hb); replace HO_10 := Aside0.mk (Kd.R_below (ro HO_10) hb); replace HB := Aside0.mk (below_step bh hb); (try clear hb); (try clear hb2); (try clear hk); (try clear hi)) | ((first | ((with_reducible refine gate_callee (f := 77) rfl ?_); refine goesL_ (some 54) rfl rfl Try.func77 (by kernel_rfl) rfl #[.slice (some ad107) l1.length c1, .int .i64 x12_2] rfl sg ?_) | ((with_reducible refine gate_value 77 rfl rfl ?_); refine goesLV_ (some 54) rfl rfl Try.func77 (by kernel_rfl) rfl #[.slice (some ad107) l1.length c1, .int .i64 x12_2] rfl sg rfl ?_)); (with_reducible refine (shape_Sum_1.calls _ _ l1 x12_2 t118 t119 _ ?side1 ?side2 A27.out).mono ?_); (case side1 => exact cs (Kd.V_reads' HO_1.out).2.2); (case side2 => exact (Kd.V_reads' HO_1.out).2.1); rintro e w30 ⟨rfl, hb⟩; refine ⟨_, rfl, ?_⟩; replace HO_0 := Aside0.mk (Kd.V_below (vo HO_0) hb); replace HO_1 := Aside0.mk (Kd.V_below (vo HO_1) hb); replace HO_10 := Aside0.mk (Kd.R_below (ro HO_10) hb); replace HB := Aside0.mk (below_step bh hb); (try clear hb); (try clear hb2); (try clear hk); (try clear hi)) | ((first | ((with_reducible refine gate_callee (f := 79) rfl ?_); refine goesL_ (some 55) rfl rfl Try.func79 (by kernel_rfl) rfl #[.agg #[.int .i64 t116, .int .i64 t117], .agg #[.int .i64 t118, .int .i64 t119]] rfl sg ?_) | ((with_reducible refine gate_value 79 rfl rfl ?_); refine goesLV_ (some 55) rfl rfl Try.func79 (by kernel_rfl) rfl #[.agg #[.int .i64 t116, .int .i64 t117], .agg #[.int .i64 t118, .int .i64 t119]] rfl sg rfl ?_)); (with_reducible refine (shape_cross.calls t116 t117 t118 t119 t120 _ A28.out).mono ?_); rintro e w31 ⟨rfl, hb⟩; refine ⟨_, rfl, ?_⟩; replace HO_0 := Aside0.mk (Kd.V_below (vo HO_0) hb); replace HO_1 := Aside0.mk (Kd.V_below (vo HO_1) hb); replace HO_10 := Aside0.mk (Kd.R_below (ro HO_10) hb); replace HB := Aside0.mk (below_step bh hb); (try clear hb); (try clear hb2); (try clear hk); (try clear hi)))
              go_meet
              case rel => exact ⟨_, (t120), sd, H', ⟨by have := HK1.out; have := HK2.out; have := HJ19.out; first | omega | exact Nat.le_refl _⟩, ⟨by (with_reducible repeat (first | apply Kd.V_alloc | apply Kd.V_drewN | apply Kd.V_drew)); exact HO_0.out⟩, ⟨by (with_reducible repeat (first | apply Kd.V_alloc | apply Kd.V_drewN | apply Kd.V_drew)); exact HO_1.out⟩, ⟨by (with_reducible repeat (first | apply Kd.R_alloc | apply Kd.R_drewN | apply Kd.R_drew)); exact HO_10.out⟩, ⟨bh⟩⟩
           case rest =>
            clear HC23
            try clear c1
            try clear p1
            try clear q1
            try clear hx1
            try clear qi1
            try clear c2
            try clear p2
            try clear c4
            try clear c6
            try clear c6b0
            try clear p6
            try clear c7
            try clear c7b0
            try clear c8
            try clear c8b0
            try clear c10
            try clear c10b0
            try clear c10b1
            try clear p10
            try clear q10
            try clear hx10
            try clear qi10
            try clear c13
            try clear c13b0
            try clear c13b1
            try clear c14
            try clear c14b0
            try clear c14b1
            try clear c20
            try clear c21
            try clear c21b0
            try clear c22
            try clear c24
            try clear c24b0
            try clear c24b1
            try clear c25
            try clear c25b0
            try clear c25b1
            try clear hx104_0
            try clear hx106_0
            try clear hx106_1
            try clear hx107_0
            try clear hx107_1
            try clear p1
            try clear p10
            try clear p104
            try clear p106
            try clear p107
            try clear p2
            try clear p6
            try clear q1
            try clear q10
            try clear q104
            try clear q106
            try clear q107
            obtain ⟨kq, x13_22, rfl, HA, HJ22, HO_0, HO_1, HO_10, HB⟩ := hcut
            cases kq with
            | zero => exact absurd HA.out (by simp [shape_Sum.j3])
            | succ kj22 =>
             have H := HA.out
             clear HA
             simp only [shape_Sum.j3] at H
             have HC32 := Aside0.mk H
             clear H
             go_upto_if 67 with (first | ((with_reducible refine gate_dst (N := 14) rfl ?_); (try (refine gate_guard (by rfl) ?_; dsimp only)); refine bxe 14 #[.int .i64 0, .int .i64 0] 29 ?_; intro gb121 hg w33 hbox hb; have BK121 := Aside0.mk (hbox); have GW121 := Aside0.mk (gs hg : w.heap.size ≤ gb121); have GE121 := Aside0.mk (gs hg : w.heap.size ≤ gb121); replace HO_0 := Aside0.mk (Kd.V_below (Kd.V_elderB (vo HO_0) gb121 (Nat.le_of_eq hg.symm)) hb); replace HO_1 := Aside0.mk (Kd.V_below (Kd.V_elderB (vo HO_1) gb121 (Nat.le_of_eq hg.symm)) hb); replace HO_10 := Aside0.mk (Kd.R_below (Kd.R_elderB (ro HO_10) gb121 (Nat.le_of_eq hg.symm)) hb); replace HB := Aside0.mk (below_step bh hb); clear hb hbox hg))
             (try simp only [Act.put, List.setIfInBounds_toArray, List.set_cons_zero, List.set_cons_succ])
             go_cut [11] (fun v11 wc => ∃ (kq : Nat) (x11_31 : Int) (x122000_31 : Int) (x122001_31 : Int), v11 = .int .i64 x11_31 ∧ Aside0 (shape_Sum.j4 kq l0 l1 x10_2 x11_31 x12_2 x13_22 x122000_31 x122001_31 = some (r1, r2)) ∧ Aside0 (kq ≤ kj22) ∧ Aside0 (Kd.V k29 29 wc w.heap.size (fun k_ => ((P0_ k_ ∨ P1_ k_) ∨ w.heap.size ≤ k_) ∧ some k_ ≠ (u10 : Value).ownBlock ∧ k_ ≠ gb121) (.slice (some ad106) l0.length c0) l0) ∧ Aside0 (Kd.V k29 29 wc w.heap.size (fun k_ => ((P0_ k_ ∨ P1_ k_) ∨ w.heap.size ≤ k_) ∧ some k_ ≠ (u10 : Value).ownBlock ∧ k_ ≠ gb121) (.slice (some ad107) l1.length c1) l1) ∧ Aside0 (Kd.R k29 29 wc w.heap.size (fun k_ => (w.heap.size ≤ k_) ∧ k_ ≠ gb121) u10 x10_2) ∧ Aside0 (wc.heap[gb121]? = some (.cells #[.int .i64 x122000_31, .int .i64 x122001_31] 29 (0, 0))) ∧ Aside0 (Below w.heap.size w wc))
             case first =>
              have H := HC32.out
              clear HC32
              by_cases c34 : x13_22 ≥ 0
              ·rw [if_pos c34] at H
               have c34b0 : decide (0 ≤ x13_22) = true := decide_eq_true c34
               clear c34
               (first | rw [c34b0] | (simp only [i64_w, i32_w]; rw [c34b0]) | skip)
               replace H := Option.bind_eq_some_iff.mp H
               obtain ⟨⟨t122, t123⟩, A350, H⟩ := H
               replace H : (shape_Sum.j4 kj22 l0 l1 x10_2 (wrap64 (x11_2 + 1)) x12_2 x13_22 t122 t123) = some (r1, r2) := H
               have A35 := Aside0.mk A350
               clear A350
               have H' := Aside0.mk H
               clear H
               go_wp2_with (first | ((first | ((with_reducible refine gate_callee (f := 77) rfl ?_); refine goesL_ (some 71) rfl rfl Try.func77 (by kernel_rfl) rfl #[.slice (some ad106) l0.length c0, .int .i64 x11_2] rfl sg ?_) | ((with_reducible refine gate_value 77 rfl rfl ?_); refine goesLV_ (some 71) rfl rfl Try.func77 (by kernel_rfl) rfl #[.slice (some ad106) l0.length c0, .int .i64 x11_2] rfl sg rfl ?_)); (with_reducible refine (shape_Sum_1.calls _ _ l0 x11_2 t122 t123 _ ?side1 ?side2 A35.out).mono ?_); (case side1 => exact cs (Kd.V_reads' HO_0.out).2.2); (case side2 => exact (Kd.V_reads' HO_0.out).2.1); rintro e w36 ⟨rfl, hb⟩; refine ⟨_, rfl, ?_⟩; replace HO_0 := Aside0.mk (Kd.V_below (vo HO_0) hb); replace HO_1 := Aside0.mk (Kd.V_below (vo HO_1) hb); replace HO_10 := Aside0.mk (Kd.R_below (ro HO_10) hb); replace BK121 := kb BK121 hb; replace HB := Aside0.mk (below_step bh hb); (try clear hb); (try clear hb2); (try clear hk); (try clear hi); have hcz37_0 : w36.cell? ⟨gb121, 0, none⟩ = some (.int .i64 0) := bc BK121 0; have hcz37_1 : w36.cell? ⟨gb121, 1, none⟩ = some (.int .i64 0) := bc BK121 1; have hfz37_0 := blk_frozen BK121.out 0; have hfz37_1 := blk_frozen BK121.out 1))
               go_meet
               case rel => exact ⟨_, (wrap64 (x11_2 + 1)), (t122), (t123), sd, H', ⟨by have := HK1.out; have := HK2.out; have := HJ19.out; have := HJ22.out; first | omega | exact Nat.le_refl _⟩, ⟨by (with_reducible repeat (first | apply Kd.V_alloc | apply Kd.V_drewN | apply Kd.V_drew)); exact Kd.V_mono (Kd.V_far (p := ⟨gb121, 1, none⟩) (Kd.V_far (p := ⟨gb121, 0, none⟩) (Kd.V_mono HO_0.out (fun k_ hk => (⟨hk, hk.2⟩ : _ ∧ k_ ≠ gb121))) (fun _ hk => hk.2) (.int .i64 t122)) (fun _ hk => hk.2) (.int .i64 t123)) (fun _ hk => ⟨hk.1.1.1, ⟨hk.1.1.2, hk.1.2⟩⟩)⟩, ⟨by (with_reducible repeat (first | apply Kd.V_alloc | apply Kd.V_drewN | apply Kd.V_drew)); exact Kd.V_mono (Kd.V_far (p := ⟨gb121, 1, none⟩) (Kd.V_far (p := ⟨gb121, 0, none⟩) (Kd.V_mono HO_1.out (fun k_ hk => (⟨hk, hk.2⟩ : _ ∧ k_ ≠ gb121))) (fun _ hk => hk.2) (.int .i64 t122)) (fun _ hk => hk.2) (.int .i64 t123)) (fun _ hk => ⟨hk.1.1.1, ⟨hk.1.1.2, hk.1.2⟩⟩)⟩, ⟨by (with_reducible repeat (first | apply Kd.R_alloc | apply Kd.R_drewN | apply Kd.R_drew)); exact Kd.R_mono (Kd.R_far (p := ⟨gb121, 1, none⟩) (Kd.R_far (p := ⟨gb121, 0, none⟩) (Kd.R_mono HO_10.out (fun k_ hk => (⟨hk, hk.2⟩ : _ ∧ k_ ≠ gb121))) (fun _ hk => hk.2) (.int .i64 t122)) (fun _ hk => hk.2) (.int .i64 t123)) (fun _ hk => ⟨hk.1.1, hk.1.2⟩)⟩, ⟨by (with_reducible repeat (first | refine blk_drewN ?_ _ | refine blk_drew ?_ | refine blk_alloc ?_ _)); refine blk_put (cs := #[.int .i64 t122, .int .i64 0]) ?_ 1 _ rfl; (with_reducible repeat (first | refine blk_drewN ?_ _ | refine blk_drew ?_ | refine blk_alloc ?_ _)); refine blk_put (cs := #[.int .i64 0, .int .i64 0]) ?_ 0 _ rfl; (with_reducible repeat (first | refine blk_drewN ?_ _ | refine blk_drew ?_ | refine blk_alloc ?_ _)); exact BK121.out⟩, ⟨bh⟩⟩
              ·rw [if_neg c34] at H
               have c34b0 : decide (0 ≤ x13_22) = false := decide_eq_false c34
               clear c34
               (first | rw [c34b0] | (simp only [i64_w, i32_w]; rw [c34b0]) | skip)
               have H' := Aside0.mk H
               clear H
               go_wp2
               go_meet
               case rel => exact ⟨_, (x11_2), (0), (0), sd, H', ⟨by have := HK1.out; have := HK2.out; have := HJ19.out; have := HJ22.out; first | omega | exact Nat.le_refl _⟩, ⟨by (with_reducible repeat (first | apply Kd.V_alloc | apply Kd.V_drewN | apply Kd.V_drew)); exact Kd.V_mono HO_0.out (fun _ hk => ⟨hk.1.1, ⟨hk.1.2, hk.2⟩⟩)⟩, ⟨by (with_reducible repeat (first | apply Kd.V_alloc | apply Kd.V_drewN | apply Kd.V_drew)); exact Kd.V_mono HO_1.out (fun _ hk => ⟨hk.1.1, ⟨hk.1.2, hk.2⟩⟩)⟩, ⟨by (with_reducible repeat (first | apply Kd.R_alloc | apply Kd.R_drewN | apply Kd.R_drew)); exact HO_10.out⟩, ⟨bk BK121⟩, ⟨bh⟩⟩
             case rest =>
              clear HC32
              try clear c1
              try clear p1
              try clear q1
              try clear hx1
              try clear qi1
              try clear c2
              try clear p2
              try clear c3
              try clear c4
              try clear c6
              try clear c6b0
              try clear p6
              try clear c7
              try clear c7b0
              try clear c8
              try clear c8b0
              try clear c10
              try clear c10b0
              try clear c10b1
              try clear p10
              try clear q10
              try clear hx10
              try clear qi10
              try clear c13
              try clear c13b0
              try clear c13b1
              try clear c14
              try clear c14b0
              try clear c14b1
              try clear c20
              try clear c21
              try clear c21b0
              try clear c22
              try clear c24
              try clear c24b0
              try clear c24b1
              try clear c25
              try clear c25b0
              try clear c25b1
              try clear c34
              try clear c34b0
              try clear hcz37_0
              try clear hcz37_1
              try clear hfz37_0
              try clear hfz37_1
              try clear hx104_0
              try clear hx106_0
              try clear hx106_1
              try clear hx107_0
              try clear hx107_1
              try clear p1
              try clear p10
              try clear p104
              try clear p106
              try clear p107
              try clear p2
              try clear p6
              try clear q1
              try clear q10
              try clear q104
              try clear q106
              try clear q107
              obtain ⟨kq, x11_31, x122000_31, x122001_31, rfl, HA, HJ31, HO_0, HO_1, HO_10, BK121, HB⟩ := hcut
              cases kq with
              | zero => exact absurd HA.out (by simp [shape_Sum.j4])
              | succ kj31 =>
               have H := HA.out
               clear HA
               simp only [shape_Sum.j4] at H
               by_cases c38 : x13_22 ≤ 0
               ·rw [if_pos c38] at H
                have c38b0 : decide (x13_22 ≤ 0) = true := decide_eq_true c38
                clear c38
                replace H := Option.bind_eq_some_iff.mp H
                obtain ⟨⟨t124, t125⟩, A390, H⟩ := H
                replace H : ((shape_add.f x122000_31 x122001_31 t124 t125).bind fun bt126 => (if 0 ≤ (wrap64 ((x10_2.length : Int) - 1)) then (if (wrap64 ((x10_2.length : Int) - 1)) < (x10_2.length : Int) then ((shape_add.f ((rd_T29 x10_2 (wrap64 ((x10_2.length : Int) - 1))).f0) ((rd_T29 x10_2 (wrap64 ((x10_2.length : Int) - 1))).f1) bt126.1 bt126.2).bind fun bt129 => (if x10_2.length < 8796093022208 then (shape_Sum.l1 kj31 l0 l1 (x10_2 ++ [(⟨bt129.1, bt129.2⟩ : S29)]) x11_31 (wrap64 (x12_2 + 1))) else (none))) else (none)) else (none))) = some (r1, r2) := H
                have A39 := Aside0.mk A390
                clear A390
                replace H := Option.bind_eq_some_iff.mp H
                obtain ⟨⟨t126, t127⟩, A400, H⟩ := H
                replace H : (if 0 ≤ (wrap64 ((x10_2.length : Int) - 1)) then (if (wrap64 ((x10_2.length : Int) - 1)) < (x10_2.length : Int) then ((shape_add.f ((rd_T29 x10_2 (wrap64 ((x10_2.length : Int) - 1))).f0) ((rd_T29 x10_2 (wrap64 ((x10_2.length : Int) - 1))).f1) t126 t127).bind fun bt129 => (if x10_2.length < 8796093022208 then (shape_Sum.l1 kj31 l0 l1 (x10_2 ++ [(⟨bt129.1, bt129.2⟩ : S29)]) x11_31 (wrap64 (x12_2 + 1))) else (none))) else (none)) else (none)) = some (r1, r2) := H
                have A40 := Aside0.mk A400
                clear A400
                obtain ⟨ji41, hji41⟩ : ∃ j_ : Int, (wrap64 ((x10_2.length : Int) - 1)) = j_ := ⟨_, rfl⟩
                replace H : (if 0 ≤ (ji41) then (if (ji41) < (x10_2.length : Int) then ((shape_add.f ((rd_T29 x10_2 (ji41)).f0) ((rd_T29 x10_2 (ji41)).f1) t126 t127).bind fun bt129 => (if x10_2.length < 8796093022208 then (shape_Sum.l1 kj31 l0 l1 (x10_2 ++ [(⟨bt129.1, bt129.2⟩ : S29)]) x11_31 (wrap64 (x12_2 + 1))) else (none))) else (none)) else (none)) = some (r1, r2) := by first | (rw [hji41] at H; exact H) | (simp only [hji41] at H ⊢; exact H)
                (try rw [hji41] at A39)
                (try rw [hji41] at A40)
                have hji41w : (IntKind.i64.wrap ((x10_2.length : Int) - 1)) = ji41 := (i64_w _).trans hji41
                by_cases c42 : 0 ≤ (ji41)
                ·rw [if_pos c42] at H
                 have c42b0 : decide (0 ≤ (ji41)) = true := decide_eq_true c42
                 clear c42
                 by_cases c43 : (ji41) < (x10_2.length : Int)
                 ·rw [if_pos c43] at H
                  have c43b0 : decide ((ji41) < (x10_2.length : Int)) = true := decide_eq_true c43
                  clear c43
                  replace H := Option.bind_eq_some_iff.mp H
                  obtain ⟨⟨t129, t130⟩, A440, H⟩ := H
                  replace H : (if x10_2.length < 8796093022208 then (shape_Sum.l1 kj31 l0 l1 (x10_2 ++ [(⟨t129, t130⟩ : S29)]) x11_31 (wrap64 (x12_2 + 1))) else (none)) = some (r1, r2) := H
                  have A44 := Aside0.mk A440
                  clear A440
                  by_cases c45 : x10_2.length < 8796093022208
                  ·rw [if_pos c45] at H
                   have LMc45 := Aside0.mk c45
                   clear c45
                   obtain ⟨y131, hy131⟩ : ∃ y_ : List (S29), y_ = (x10_2 ++ [(⟨t129, t130⟩ : S29)]) := ⟨_, rfl⟩
                   replace H : (shape_Sum.l1 kj31 l0 l1 y131 x11_31 (wrap64 (x12_2 + 1))) = some (r1, r2) := by first | (rw [hy131]; with_reducible exact H) | (have H2_ := (Option.bind_some _ _).symm.trans H; rw [hy131]; with_reducible exact H2_) | (have H2_ := (Option.bind_some _ _).symm.trans H; with_reducible exact H2_) | with_reducible exact H | (rw [hy131]; exact H) | exact H
                   have Ny131 := Aside0.mk hy131
                   clear hy131
                   have H' := Aside0.mk H
                   clear H
                   try go_wp2
                   replace HO_0 := Aside0.mk (Kd.V_drew HO_0.out)
                   replace HO_1 := Aside0.mk (Kd.V_drew HO_1.out)
                   replace HO_10 := Aside0.mk (Kd.R_drew HO_10.out)
                   replace BK121 := Aside0.mk (blk_drew BK121.out)
                   replace HB := Aside0.mk (below_drew1 HB.out)
                   refine start_ (n := 7) (S := fun w' => w'.cell? ⟨gb121, 0, none⟩ = some (.int .i64 x122000_31) ∧ w'.cell? ⟨gb121, 1, none⟩ = some (.int .i64 x122001_31)) (ds := [6]) #[false, false, false, false, false, false, false] (by kernel_rfl) rfl rfl ⟨bc BK121 0, bc BK121 1⟩ (fun hHeld => ?_)
                   generalize wc.drew = w46 at HO_0 HO_1 HO_10 BK121 HB hHeld ⊢
                   refine pure_ (i := 1) (N := some 77) (v := ?_) (a' := ?_) #[false, true, false, false, false, false, false] rfl rfl (by kernel_rfl) (fun _ _ _ h => h) (Or.inl ⟨by rfl, ?_⟩) ?_ ?_
                   rotate_left
                   ·intro w'
                    go_simp
                    with_reducible rfl
                   rotate_left
                   ·simp only [Act.put, List.setIfInBounds_toArray, List.set_cons_zero, List.set_cons_succ, i64_w, i32_w]
                    rfl
                   refine pure_ (i := 2) (N := some 78) (v := ?_) (a' := ?_) #[false, true, true, false, false, false, false] rfl rfl (by kernel_rfl) (fun _ _ _ h => h) (Or.inl ⟨by rfl, ?_⟩) ?_ ?_
                   rotate_left
                   ·intro w'
                    go_simp
                    with_reducible rfl
                   rotate_left
                   ·simp only [Act.put, List.setIfInBounds_toArray, List.set_cons_zero, List.set_cons_succ, i64_w, i32_w]
                    rfl
                   refine pure_ (i := 3) (N := some 79) (v := ?_) (a' := ?_) #[false, true, true, true, false, false, false] rfl rfl (by kernel_rfl) (fun _ _ _ h => h) (Or.inl ⟨by rfl, ?_⟩) ?_ ?_
                   rotate_left
                   ·intro w'
                    go_simp
                    with_reducible rfl
                   rotate_left
                   ·simp only [Act.put, List.setIfInBounds_toArray, List.set_cons_zero, List.set_cons_succ, i64_w, i32_w]
                    rfl
                   refine take_ (i := 0) (N := some 76) (v := ?_) (a' := ?_) #[true, true, true, true, false, false, false] rfl rfl (by kernel_rfl) (fun _ _ _ h => h) (Or.inl ⟨by rfl, ?_⟩) hHeld ?_ ?_
                   rotate_left
                   ·rintro w' ⟨s0, s1⟩
                    go_simp
                    with_reducible rfl
                   rotate_left
                   ·simp only [Act.put, List.setIfInBounds_toArray, List.set_cons_zero, List.set_cons_succ, i64_w, i32_w]
                    rfl
                   refine one_ (i := 4) (N := some 80) #[true, true, true, true, true, false, false] rfl rfl (by kernel_rfl) (by decide) (fun K hK => ?_)
                   first | (refine goes_ Try.func77 (by kernel_rfl) rfl #[.slice (some ad107) l1.length c1, .int .i64 x12_2] (by rfl) rfl rfl sg ?_) | (refine goesV_ Try.func77 (by kernel_rfl) rfl #[.slice (some ad107) l1.length c1, .int .i64 x12_2] (by rfl) rfl rfl sg (by rfl) ?_)
                   with_reducible refine (shape_Sum_1.calls _ _ l1 x12_2 t124 t125 _ ?side1 ?side2 A39.out).mono ?_
                   (case side1 => exact cs (Kd.V_reads' HO_1.out).2.2)
                   (case side2 => exact (Kd.V_reads' HO_1.out).2.1)
                   rintro e w47 ⟨rfl, hb⟩
                   refine ⟨_, rfl, ?_⟩
                   replace HO_0 := Aside0.mk (Kd.V_below (vo HO_0) hb)
                   replace HO_1 := Aside0.mk (Kd.V_below (vo HO_1) hb)
                   replace HO_10 := Aside0.mk (Kd.R_below (ro HO_10) hb)
                   replace BK121 := kb BK121 hb
                   replace HB := Aside0.mk (below_step bh hb)
                   (try clear hb); (try clear hb2); (try clear hk); (try clear hi)
                   refine hK.out _ _ ⟨bc BK121 0, bc BK121 1⟩ (fun hHeld => ?_)
                   clear hK K
                   refine nm 80 ?_
                   refine one_ (i := 5) (N := some 81) #[true, true, true, true, true, true, false] rfl rfl (by kernel_rfl) (by decide) (fun K hK => ?_)
                   first | (refine goes_ Try.func78 (by kernel_rfl) rfl #[.agg #[.int .i64 x122000_31, .int .i64 x122001_31], .agg #[.int .i64 t124, .int .i64 t125]] (by rfl) rfl rfl sg ?_) | (refine goesV_ Try.func78 (by kernel_rfl) rfl #[.agg #[.int .i64 x122000_31, .int .i64 x122001_31], .agg #[.int .i64 t124, .int .i64 t125]] (by rfl) rfl rfl sg (by rfl) ?_)
                   with_reducible refine (shape_add.calls x122000_31 x122001_31 t124 t125 t126 t127 _ A40.out).mono ?_
                   rintro e w48 ⟨rfl, hb⟩
                   refine ⟨_, rfl, ?_⟩
                   replace HO_0 := Aside0.mk (Kd.V_below (vo HO_0) hb)
                   replace HO_1 := Aside0.mk (Kd.V_below (vo HO_1) hb)
                   replace HO_10 := Aside0.mk (Kd.R_below (ro HO_10) hb)
                   replace BK121 := kb BK121 hb
                   replace HB := Aside0.mk (below_step bh hb)
                   (try clear hb); (try clear hb2); (try clear hk); (try clear hi)
                   refine hK.out _ _ ⟨bc BK121 0, bc BK121 1⟩ (fun hHeld => ?_)
                   clear hK K
                   refine nm 81 ?_
                   refine last_ (i := 6) (N := none) #[true, true, true, true, true, true, true] rfl rfl (by kernel_rfl) (by decide) (fun K hK => ?_)
                   have hs49 : w48.cell? ⟨gb121, 0, none⟩ = some (.int .i64 x122000_31) := bc BK121 0
                   have hfs49 := blk_frozen BK121.out 0
                   have hs50 : w48.cell? ⟨gb121, 1, none⟩ = some (.int .i64 x122001_31) := bc BK121 1
                   have hfs50 := blk_frozen BK121.out 1
                   refine skip_ (w1 := ?_) (by rfl) rfl ?_ ?_
                   rotate_left
                   ·go_simp
                    rfl
                   refine hK.out _ _ ?_
                   clear hK K
                   refine done_ (by kernel_rfl) ?_
                   try go_wp2
                   have n0_ : Aside0 (Kd.V k29 29 ((w48.setCell ⟨gb121, 0, none⟩ (.int .i64 t126)).setCell ⟨gb121, 1, none⟩ (.int .i64 t127)) w.heap.size (fun k_ => ((P0_ k_ ∨ P1_ k_) ∨ w.heap.size ≤ k_) ∧ some k_ ≠ (u10 : Value).ownBlock ∧ k_ ≠ gb121) (.slice (some ad106) l0.length c0) l0) := ⟨by (with_reducible repeat (first | apply Kd.V_alloc | apply Kd.V_drewN | apply Kd.V_drew)); exact Kd.V_mono (Kd.V_far (p := ⟨gb121, 1, none⟩) (Kd.V_far (p := ⟨gb121, 0, none⟩) (Kd.V_mono HO_0.out (fun k_ hk => (⟨hk, hk.2.2⟩ : _ ∧ k_ ≠ gb121))) (fun _ hk => hk.2) (.int .i64 t126)) (fun _ hk => hk.2) (.int .i64 t127)) (fun _ hk => ⟨hk.1.1, ⟨hk.1.2.1, hk.1.2.2⟩⟩)⟩
                   have n1_ : Aside0 (Kd.V k29 29 ((w48.setCell ⟨gb121, 0, none⟩ (.int .i64 t126)).setCell ⟨gb121, 1, none⟩ (.int .i64 t127)) w.heap.size (fun k_ => ((P0_ k_ ∨ P1_ k_) ∨ w.heap.size ≤ k_) ∧ some k_ ≠ (u10 : Value).ownBlock ∧ k_ ≠ gb121) (.slice (some ad107) l1.length c1) l1) := ⟨by (with_reducible repeat (first | apply Kd.V_alloc | apply Kd.V_drewN | apply Kd.V_drew)); exact Kd.V_mono (Kd.V_far (p := ⟨gb121, 1, none⟩) (Kd.V_far (p := ⟨gb121, 0, none⟩) (Kd.V_mono HO_1.out (fun k_ hk => (⟨hk, hk.2.2⟩ : _ ∧ k_ ≠ gb121))) (fun _ hk => hk.2) (.int .i64 t126)) (fun _ hk => hk.2) (.int .i64 t127)) (fun _ hk => ⟨hk.1.1, ⟨hk.1.2.1, hk.1.2.2⟩⟩)⟩
                   have n2_ : Aside0 (Kd.R k29 29 ((w48.setCell ⟨gb121, 0, none⟩ (.int .i64 t126)).setCell ⟨gb121, 1, none⟩ (.int .i64 t127)) w.heap.size (fun k_ => (w.heap.size ≤ k_) ∧ k_ ≠ gb121) u10 x10_2) := ⟨by (with_reducible repeat (first | apply Kd.R_alloc | apply Kd.R_drewN | apply Kd.R_drew)); exact Kd.R_mono (Kd.R_far (p := ⟨gb121, 1, none⟩) (Kd.R_far (p := ⟨gb121, 0, none⟩) (Kd.R_mono HO_10.out (fun k_ hk => (⟨hk, hk.2⟩ : _ ∧ k_ ≠ gb121))) (fun _ hk => hk.2) (.int .i64 t126)) (fun _ hk => hk.2) (.int .i64 t127)) (fun _ hk => ⟨hk.1.1, hk.1.2⟩)⟩
                   have n3_ : Aside0 (((w48.setCell ⟨gb121, 0, none⟩ (.int .i64 t126)).setCell ⟨gb121, 1, none⟩ (.int .i64 t127)).heap[gb121]? = some (.cells #[.int .i64 t126, .int .i64 t127] 29 (0, 0))) := ⟨by (with_reducible repeat (first | refine blk_drewN ?_ _ | refine blk_drew ?_ | refine blk_alloc ?_ _)); refine blk_put (cs := #[.int .i64 t126, .int .i64 x122001_31]) ?_ 1 _ rfl; (with_reducible repeat (first | refine blk_drewN ?_ _ | refine blk_drew ?_ | refine blk_alloc ?_ _)); refine blk_put (cs := #[.int .i64 x122000_31, .int .i64 x122001_31]) ?_ 0 _ rfl; (with_reducible repeat (first | refine blk_drewN ?_ _ | refine blk_drew ?_ | refine blk_alloc ?_ _)); exact BK121.out⟩
                   have n4_ : Aside0 (Below w.heap.size w ((w48.setCell ⟨gb121, 0, none⟩ (.int .i64 t126)).setCell ⟨gb121, 1, none⟩ (.int .i64 t127))) := ⟨bh⟩
                   (try clear HO_0); (try clear HO_1); (try clear HO_10); (try clear BK121); (try clear HB)
                   generalize ((w48.setCell ⟨gb121, 0, none⟩ (.int .i64 t126)).setCell ⟨gb121, 1, none⟩ (.int .i64 t127)) = w51 at n0_ n1_ n2_ n3_ n4_ ⊢
                   have HO_0 := n0_
                   have HO_1 := n1_
                   have HO_10 := n2_
                   have BK121 := n3_
                   have HB := n4_
                   clear n0_ n1_ n2_ n3_ n4_
                   replace HO_0 := Aside0.mk (Kd.V_drew HO_0.out)
                   replace HO_1 := Aside0.mk (Kd.V_drew HO_1.out)
                   replace HO_10 := Aside0.mk (Kd.R_drew HO_10.out)
                   replace BK121 := Aside0.mk (blk_drew BK121.out)
                   replace HB := Aside0.mk (below_drew1 HB.out)
                   obtain ⟨Ao53, co53, eo53⟩ := Kd.R_slice HO_10.out
                   (first | subst eo53 | (injection eo53 with f1_ f2_ f3_; have f4_ := f1_.symm; have f5_ := f3_.symm; clear f1_ f2_ f3_; subst f4_; subst f5_))
                   have p128 : 0 ≤ ((ji41) : Int) := dt
                   have q128 : (ji41) < (x10_2.length : Int) := dt
                   obtain ⟨ad128, e128, hx128_0, hx128_1⟩ := at_T29 (Kd.R_reads' HO_10.out).2.2 (ji41) p128 q128
                   cases e128
                   replace p128 := eq_true p128
                   replace q128 := eq_true q128
                   refine start_ (n := 12) (S := fun w' => w'.cell? ⟨gb121, 0, none⟩ = some (.int .i64 t126) ∧ w'.cell? ⟨gb121, 1, none⟩ = some (.int .i64 t127) ∧ w'.cell? (ad128.add (((ji41)).toNat * 2)) = some (.int .i64 ((rd_T29 x10_2 (ji41)).f0)) ∧ w'.cell? ⟨(ad128.add (((ji41)).toNat * 2)).block, (ad128.add (((ji41)).toNat * 2)).off + 1, none⟩ = some (.int .i64 ((rd_T29 x10_2 (ji41)).f1))) (ds := [9, 10]) #[false, false, false, false, false, false, false, false, false, false, false, false] (by kernel_rfl) rfl rfl ⟨bc BK121 0, bc BK121 1, hx128_0, hx128_1⟩ (fun hHeld => ?_); refine with_tabW shape_Sum.tab24 shape_Sum.bits24 (fun HT_ HW_ => ?_)
                   generalize w51.drew = w52 at HO_0 HO_1 HO_10 BK121 HB hx128_0 hx128_1 hHeld ⊢
                   refine pu 0 84 HT_ ?_
                   refine pu 1 85 HT_ ?_
                   refine pu 2 86 HT_ ?_
                   refine pu 3 87 HT_ ?_
                   refine pu 4 88 HT_ ?_
                   refine pu 5 89 HT_ ?_
                   refine tk4 6 90 hHeld HT_ HW_ ?_
                   refine tk4 7 91 hHeld HT_ HW_ ?_
                   refine one_ (i := 8) (N := some 92) #[true, true, true, true, true, true, true, true, true, false, false, false] rfl rfl (on1 HT_) (by decide) (fun K hK => ?_)
                   first | (refine goes_ Try.func78 (by kernel_rfl) rfl #[.agg #[.int .i64 ((rd_T29 x10_2 (ji41)).f0), .int .i64 ((rd_T29 x10_2 (ji41)).f1)], .agg #[.int .i64 t126, .int .i64 t127]] (by rfl) rfl rfl (by (try simp only [List.map_toArray, List.map_cons, List.map_nil]); first | done | (simp only [hji41]; rfl) | rfl | (simp only [List.length_drop, List.length_take]; rfl)) ?_) | (refine goesV_ Try.func78 (by kernel_rfl) rfl #[.agg #[.int .i64 ((rd_T29 x10_2 (ji41)).f0), .int .i64 ((rd_T29 x10_2 (ji41)).f1)], .agg #[.int .i64 t126, .int .i64 t127]] (by rfl) rfl rfl (by (try simp only [List.map_toArray, List.map_cons, List.map_nil]); first | done | (simp only [hji41]; rfl) | rfl | (simp only [List.length_drop, List.length_take]; rfl)) (by rfl) ?_)
                   with_reducible refine (shape_add.calls ((rd_T29 x10_2 (ji41)).f0) ((rd_T29 x10_2 (ji41)).f1) t126 t127 t129 t130 _ A44.out).mono ?_
                   rintro e w54 ⟨rfl, hb⟩
                   have HS2_ := (hb.cell (World.block_lt_of_cell? _ _ (hHeld.2.2.1))).trans (hHeld.2.2.1)
                   have HS3_ := (hb.cell (World.block_lt_of_cell? _ _ (hHeld.2.2.2))).trans (hHeld.2.2.2)
                   refine ⟨_, rfl, ?_⟩
                   replace HO_0 := Aside0.mk (Kd.V_below (vo HO_0) hb)
                   replace HO_1 := Aside0.mk (Kd.V_below (vo HO_1) hb)
                   replace HO_10 := Aside0.mk (Kd.R_below (ro HO_10) hb)
                   replace BK121 := kb BK121 hb
                   replace HB := Aside0.mk (below_step bh hb)
                   (try clear hb); (try clear hb2); (try clear hk); (try clear hi)
                   refine hK.out _ _ ⟨bc BK121 0, bc BK121 1, HS2_, HS3_⟩ (fun hHeld => ?_)
                   clear hK K
                   refine nm 92 ?_
                   refine last_ (i := 9) (N := some 93) #[true, true, true, true, true, true, true, true, true, true, false, false] rfl rfl (on1 HT_) (by decide) (fun K hK => ?_)
                   refine value_ (w1 := ?_) (v := ?_) (by rfl) rfl ?_ ?_
                   rotate_left 2
                   ·go_simp
                    constructor
                    ·rfl
                    ·rfl
                   refine hK.out _ _ ?_
                   clear hK K
                   refine nm 93 ?_
                   refine last_ (i := 10) (N := some 94) #[true, true, true, true, true, true, true, true, true, true, true, false] rfl rfl (on1 HT_) (by decide) (fun K hK => ?_)
                   refine Kd.R_append_step k29 (w0 := w) w.heap.size (by rfl) (.tmp 84) (.tmp 93) 22 29 (.agg #[(.int .i64 0), (.int .i64 0)]) 16 rfl Try.underlying22 info29 rfl (by decide) (by omega) (.slice (some ad128) x10_2.length co53) x10_2 (⟨t129, t130⟩ : S29) [.int .i64 t129, .int .i64 t130] (fun k_ => (w.heap.size ≤ k_) ∧ k_ ≠ gb121) (fun _ => False) rfl rfl ?aP (fun _ hk => hk.elim) ?aF ?aO ?aB ?aS ?aL ?_
                   (case aP => exact k29_mkM _ _ _ (⟨t129, t130⟩ : S29))
                   (case aB => exact bh)
                   (case aF => exact (fun k_ hk => ⟨(Nat.le_trans (below_size bh) hk), Kd.freshB (g := gb121) (o := .cells #[.int .i64 t126, .int .i64 t127] 29 (0, 0)) (bk BK121) k_ hk⟩))
                   (case aO => exact (ro HO_10))
                   (case aS => exact (below_size bh))
                   (case aL => have := LMc45.out; omega)
                   intro v132 w55 ho hb hg hat
                   rw [← Ny131.out] at ho
                   have HO133 := Aside0.mk (ho)
                   replace HO_0 := Aside0.mk (Kd.V_afterv (ok := (fun k_ => ((P0_ k_ ∨ P1_ k_) ∨ w.heap.size ≤ k_) ∧ k_ ≠ gb121)) (by (with_reducible repeat (first | apply Kd.V_alloc | apply Kd.V_drewN | apply Kd.V_drew)); exact Kd.V_mono HO_0.out (fun _ hk => ⟨⟨hk.1, hk.2.2⟩, hk.2.1⟩)) hg hat)
                   replace HO_1 := Aside0.mk (Kd.V_afterv (ok := (fun k_ => ((P0_ k_ ∨ P1_ k_) ∨ w.heap.size ≤ k_) ∧ k_ ≠ gb121)) (by (with_reducible repeat (first | apply Kd.V_alloc | apply Kd.V_drewN | apply Kd.V_drew)); exact Kd.V_mono HO_1.out (fun _ hk => ⟨⟨hk.1, hk.2.2⟩, hk.2.1⟩)) hg hat)
                   replace BK121 := Aside0.mk (blk_grown (g := gb121) (o := .cells #[.int .i64 t126, .int .i64 t127] 29 (0, 0)) (bk BK121) hg (Kd.R_away HO_10.out (fun _ hk => hk.2)))
                   replace HB := Aside0.mk (hb)
                   clear HO_10
                   clear ho hb hg hat
                   refine hK.out _ _ ?_
                   clear hK K
                   refine nm 94 ?_
                   refine pu 11 10 HT_ ?_
                   refine done_ (done_of HT_.out (by kernel_rfl)) ?_
                   try go_wp2
                   go_roundg kj31
                   case measure => have := HK1.out; have := HK2.out; have := HJ19.out; have := HJ22.out; have := HJ31.out; omega
                   case rel => exact ⟨(y131), (x11_31), (wrap64 (x12_2 + 1)), sd, sd, H', ⟨by have := HK1.out; have := HK2.out; have := HJ19.out; have := HJ22.out; have := HJ31.out; omega⟩, ⟨by (with_reducible repeat (first | apply Kd.V_alloc | apply Kd.V_drewN | apply Kd.V_drew)); exact Kd.V_mono HO_0.out (fun _ hk => ⟨hk.1.1, hk.2⟩)⟩, ⟨by (with_reducible repeat (first | apply Kd.V_alloc | apply Kd.V_drewN | apply Kd.V_drew)); exact Kd.V_mono HO_1.out (fun _ hk => ⟨hk.1.1, hk.2⟩)⟩, ⟨by (with_reducible repeat (first | apply Kd.R_alloc | apply Kd.R_drewN | apply Kd.R_drew)); exact Kd.R_mono HO133.out (fun _ hk => hk.1)⟩, ⟨bh⟩⟩
                  ·rw [if_neg c45] at H
                   exact absurd H (by simp)
                 ·rw [if_neg c43] at H
                  exact absurd H (by simp)
                ·rw [if_neg c42] at H
                 exact absurd H (by simp)
               ·rw [if_neg c38] at H
                have c38b0 : decide (x13_22 ≤ 0) = false := decide_eq_false c38
                clear c38
                obtain ⟨ji56, hji56⟩ : ∃ j_ : Int, (wrap64 ((x10_2.length : Int) - 1)) = j_ := ⟨_, rfl⟩
                replace H : (if 0 ≤ (ji56) then (if (ji56) < (x10_2.length : Int) then ((shape_add.f ((rd_T29 x10_2 (ji56)).f0) ((rd_T29 x10_2 (ji56)).f1) x122000_31 x122001_31).bind fun bt135 => (if x10_2.length < 8796093022208 then (shape_Sum.l1 kj31 l0 l1 (x10_2 ++ [(⟨bt135.1, bt135.2⟩ : S29)]) x11_31 x12_2) else (none))) else (none)) else (none)) = some (r1, r2) := by first | (rw [hji56] at H; exact H) | (simp only [hji56] at H ⊢; exact H)
                have hji56w : (IntKind.i64.wrap ((x10_2.length : Int) - 1)) = ji56 := (i64_w _).trans hji56
                by_cases c57 : 0 ≤ (ji56)
                ·rw [if_pos c57] at H
                 have c57b0 : decide (0 ≤ (ji56)) = true := decide_eq_true c57
                 clear c57
                 by_cases c58 : (ji56) < (x10_2.length : Int)
                 ·rw [if_pos c58] at H
                  have c58b0 : decide ((ji56) < (x10_2.length : Int)) = true := decide_eq_true c58
                  clear c58
                  replace H := Option.bind_eq_some_iff.mp H
                  obtain ⟨⟨t135, t136⟩, A590, H⟩ := H
                  replace H : (if x10_2.length < 8796093022208 then (shape_Sum.l1 kj31 l0 l1 (x10_2 ++ [(⟨t135, t136⟩ : S29)]) x11_31 x12_2) else (none)) = some (r1, r2) := H
                  have A59 := Aside0.mk A590
                  clear A590
                  by_cases c60 : x10_2.length < 8796093022208
                  ·rw [if_pos c60] at H
                   have LMc60 := Aside0.mk c60
                   clear c60
                   obtain ⟨y137, hy137⟩ : ∃ y_ : List (S29), y_ = (x10_2 ++ [(⟨t135, t136⟩ : S29)]) := ⟨_, rfl⟩
                   replace H : (shape_Sum.l1 kj31 l0 l1 y137 x11_31 x12_2) = some (r1, r2) := by first | (rw [hy137]; with_reducible exact H) | (have H2_ := (Option.bind_some _ _).symm.trans H; rw [hy137]; with_reducible exact H2_) | (have H2_ := (Option.bind_some _ _).symm.trans H; with_reducible exact H2_) | with_reducible exact H | (rw [hy137]; exact H) | exact H
                   have Ny137 := Aside0.mk hy137
                   clear hy137
                   have H' := Aside0.mk H
                   clear H
                   try go_wp2
                   replace HO_0 := Aside0.mk (Kd.V_drew HO_0.out)
                   replace HO_1 := Aside0.mk (Kd.V_drew HO_1.out)
                   replace HO_10 := Aside0.mk (Kd.R_drew HO_10.out)
                   replace BK121 := Aside0.mk (blk_drew BK121.out)
                   replace HB := Aside0.mk (below_drew1 HB.out)
                   obtain ⟨Ao62, co62, eo62⟩ := Kd.R_slice HO_10.out
                   (first | subst eo62 | (injection eo62 with f1_ f2_ f3_; have f4_ := f1_.symm; have f5_ := f3_.symm; clear f1_ f2_ f3_; subst f4_; subst f5_))
                   have p134 : 0 ≤ ((ji56) : Int) := dt
                   have q134 : (ji56) < (x10_2.length : Int) := dt
                   obtain ⟨ad134, e134, hx134_0, hx134_1⟩ := at_T29 (Kd.R_reads' HO_10.out).2.2 (ji56) p134 q134
                   cases e134
                   replace p134 := eq_true p134
                   replace q134 := eq_true q134
                   refine start_ (n := 12) (S := fun w' => w'.cell? ⟨gb121, 0, none⟩ = some (.int .i64 x122000_31) ∧ w'.cell? ⟨gb121, 1, none⟩ = some (.int .i64 x122001_31) ∧ w'.cell? (ad134.add (((ji56)).toNat * 2)) = some (.int .i64 ((rd_T29 x10_2 (ji56)).f0)) ∧ w'.cell? ⟨(ad134.add (((ji56)).toNat * 2)).block, (ad134.add (((ji56)).toNat * 2)).off + 1, none⟩ = some (.int .i64 ((rd_T29 x10_2 (ji56)).f1))) (ds := [9, 10]) #[false, false, false, false, false, false, false, false, false, false, false, false] (by kernel_rfl) rfl rfl ⟨bc BK121 0, bc BK121 1, hx134_0, hx134_1⟩ (fun hHeld => ?_); refine with_tabW shape_Sum.tab24 shape_Sum.bits24 (fun HT_ HW_ => ?_)
                   generalize wc.drew = w61 at HO_0 HO_1 HO_10 BK121 HB hx134_0 hx134_1 hHeld ⊢
                   refine pu 0 84 HT_ ?_
                   refine pu 1 85 HT_ ?_
                   refine pu 2 86 HT_ ?_
                   refine pu 3 87 HT_ ?_
                   refine pu 4 88 HT_ ?_
                   refine pu 5 89 HT_ ?_
                   refine tk4 6 90 hHeld HT_ HW_ ?_
                   refine tk4 7 91 hHeld HT_ HW_ ?_
                   refine one_ (i := 8) (N := some 92) #[true, true, true, true, true, true, true, true, true, false, false, false] rfl rfl (on1 HT_) (by decide) (fun K hK => ?_)
                   first | (refine goes_ Try.func78 (by kernel_rfl) rfl #[.agg #[.int .i64 ((rd_T29 x10_2 (ji56)).f0), .int .i64 ((rd_T29 x10_2 (ji56)).f1)], .agg #[.int .i64 x122000_31, .int .i64 x122001_31]] (by rfl) rfl rfl (by (try simp only [List.map_toArray, List.map_cons, List.map_nil]); first | done | (simp only [hji56]; rfl) | rfl | (simp only [List.length_drop, List.length_take]; rfl)) ?_) | (refine goesV_ Try.func78 (by kernel_rfl) rfl #[.agg #[.int .i64 ((rd_T29 x10_2 (ji56)).f0), .int .i64 ((rd_T29 x10_2 (ji56)).f1)], .agg #[.int .i64 x122000_31, .int .i64 x122001_31]] (by rfl) rfl rfl (by (try simp only [List.map_toArray, List.map_cons, List.map_nil]); first | done | (simp only [hji56]; rfl) | rfl | (simp only [List.length_drop, List.length_take]; rfl)) (by rfl) ?_)
                   with_reducible refine (shape_add.calls ((rd_T29 x10_2 (ji56)).f0) ((rd_T29 x10_2 (ji56)).f1) x122000_31 x122001_31 t135 t136 _ A59.out).mono ?_
                   rintro e w63 ⟨rfl, hb⟩
                   have HS2_ := (hb.cell (World.block_lt_of_cell? _ _ (hHeld.2.2.1))).trans (hHeld.2.2.1)
                   have HS3_ := (hb.cell (World.block_lt_of_cell? _ _ (hHeld.2.2.2))).trans (hHeld.2.2.2)
                   refine ⟨_, rfl, ?_⟩
                   replace HO_0 := Aside0.mk (Kd.V_below (vo HO_0) hb)
                   replace HO_1 := Aside0.mk (Kd.V_below (vo HO_1) hb)
                   replace HO_10 := Aside0.mk (Kd.R_below (ro HO_10) hb)
                   replace BK121 := kb BK121 hb
                   replace HB := Aside0.mk (below_step bh hb)
                   (try clear hb); (try clear hb2); (try clear hk); (try clear hi)
                   refine hK.out _ _ ⟨bc BK121 0, bc BK121 1, HS2_, HS3_⟩ (fun hHeld => ?_)
                   clear hK K
                   refine nm 92 ?_
                   refine last_ (i := 9) (N := some 93) #[true, true, true, true, true, true, true, true, true, true, false, false] rfl rfl (on1 HT_) (by decide) (fun K hK => ?_)
                   refine value_ (w1 := ?_) (v := ?_) (by rfl) rfl ?_ ?_
                   rotate_left 2
                   ·go_simp
                    constructor
                    ·rfl
                    ·rfl
                   refine hK.out _ _ ?_
                   clear hK K
                   refine nm 93 ?_
                   refine last_ (i := 10) (N := some 94) #[true, true, true, true, true, true, true, true, true, true, true, false] rfl rfl (on1 HT_) (by decide) (fun K hK => ?_)
                   refine Kd.R_append_step k29 (w0 := w) w.heap.size (by rfl) (.tmp 84) (.tmp 93) 22 29 (.agg #[(.int .i64 0), (.int .i64 0)]) 16 rfl Try.underlying22 info29 rfl (by decide) (by omega) (.slice (some ad134) x10_2.length co62) x10_2 (⟨t135, t136⟩ : S29) [.int .i64 t135, .int .i64 t136] (fun k_ => (w.heap.size ≤ k_) ∧ k_ ≠ gb121) (fun _ => False) rfl rfl ?aP (fun _ hk => hk.elim) ?aF ?aO ?aB ?aS ?aL ?_
                   (case aP => exact k29_mkM _ _ _ (⟨t135, t136⟩ : S29))
                   (case aB => exact bh)
                   (case aF => exact (fun k_ hk => ⟨(Nat.le_trans (below_size bh) hk), Kd.freshB (g := gb121) (o := .cells #[.int .i64 x122000_31, .int .i64 x122001_31] 29 (0, 0)) (bk BK121) k_ hk⟩))
                   (case aO => exact (ro HO_10))
                   (case aS => exact (below_size bh))
                   (case aL => have := LMc60.out; omega)
                   intro v138 w64 ho hb hg hat
                   rw [← Ny137.out] at ho
                   have HO139 := Aside0.mk (ho)
                   replace HO_0 := Aside0.mk (Kd.V_afterv (ok := (fun k_ => ((P0_ k_ ∨ P1_ k_) ∨ w.heap.size ≤ k_) ∧ k_ ≠ gb121)) (by (with_reducible repeat (first | apply Kd.V_alloc | apply Kd.V_drewN | apply Kd.V_drew)); exact Kd.V_mono HO_0.out (fun _ hk => ⟨⟨hk.1, hk.2.2⟩, hk.2.1⟩)) hg hat)
                   replace HO_1 := Aside0.mk (Kd.V_afterv (ok := (fun k_ => ((P0_ k_ ∨ P1_ k_) ∨ w.heap.size ≤ k_) ∧ k_ ≠ gb121)) (by (with_reducible repeat (first | apply Kd.V_alloc | apply Kd.V_drewN | apply Kd.V_drew)); exact Kd.V_mono HO_1.out (fun _ hk => ⟨⟨hk.1, hk.2.2⟩, hk.2.1⟩)) hg hat)
                   replace BK121 := Aside0.mk (blk_grown (g := gb121) (o := .cells #[.int .i64 x122000_31, .int .i64 x122001_31] 29 (0, 0)) (bk BK121) hg (Kd.R_away HO_10.out (fun _ hk => hk.2)))
                   replace HB := Aside0.mk (hb)
                   clear HO_10
                   clear ho hb hg hat
                   refine hK.out _ _ ?_
                   clear hK K
                   refine nm 94 ?_
                   refine pu 11 10 HT_ ?_
                   refine done_ (done_of HT_.out (by kernel_rfl)) ?_
                   try go_wp2
                   go_roundg kj31
                   case measure => have := HK1.out; have := HK2.out; have := HJ19.out; have := HJ22.out; have := HJ31.out; omega
                   case rel => exact ⟨(y137), (x11_31), (x12_2), sd, sd, H', ⟨by have := HK1.out; have := HK2.out; have := HJ19.out; have := HJ22.out; have := HJ31.out; omega⟩, ⟨by (with_reducible repeat (first | apply Kd.V_alloc | apply Kd.V_drewN | apply Kd.V_drew)); exact Kd.V_mono HO_0.out (fun _ hk => ⟨hk.1.1, hk.2⟩)⟩, ⟨by (with_reducible repeat (first | apply Kd.V_alloc | apply Kd.V_drewN | apply Kd.V_drew)); exact Kd.V_mono HO_1.out (fun _ hk => ⟨hk.1.1, hk.2⟩)⟩, ⟨by (with_reducible repeat (first | apply Kd.R_alloc | apply Kd.R_drewN | apply Kd.R_drew)); exact Kd.R_mono HO139.out (fun _ hk => hk.1)⟩, ⟨bh⟩⟩
                  ·rw [if_neg c60] at H
                   exact absurd H (by simp)
                 ·rw [if_neg c58] at H
                  exact absurd H (by simp)
                ·rw [if_neg c57] at H
                 exact absurd H (by simp)
          ·replace c22 := Bool.eq_false_iff.mpr c22
           subst c22
           rw [if_neg (show ¬ (false = true) by decide)] at H
           obtain ⟨ji65, hji65⟩ : ∃ j_ : Int, (wrap64 ((x10_2.length : Int) - 1)) = j_ := ⟨_, rfl⟩
           replace H : (if 0 ≤ (ji65) then (if (ji65) ≤ (x10_2.length : Int) then (some ((x10_2.take ((ji65) : Int).toNat), 0)) else (none)) else (none)) = some (r1, r2) := by first | (rw [hji65] at H; exact H) | (simp only [hji65] at H ⊢; exact H)
           have hji65w : (IntKind.i64.wrap ((x10_2.length : Int) - 1)) = ji65 := (i64_w _).trans hji65
           by_cases c66 : 0 ≤ (ji65)
           ·rw [if_pos c66] at H
            have c66b0 := eq_true c66
            have c66b1 : decide (0 ≤ (ji65)) = true := decide_eq_true c66
            clear c66
            by_cases c67 : (ji65) ≤ (x10_2.length : Int)
            ·rw [if_pos c67] at H
             have c67b0 := eq_true c67
             have c67b1 : decide ((ji65) ≤ (x10_2.length : Int)) = true := decide_eq_true c67
             clear c67
             obtain ⟨y113, hy113⟩ : ∃ y_ : List (S29), y_ = (x10_2.take ((ji65) : Int).toNat) := ⟨_, rfl⟩
             replace H : (some (y113, 0)) = some (r1, r2) := by first | (rw [hy113]; with_reducible exact H) | (have H2_ := (Option.bind_some _ _).symm.trans H; rw [hy113]; with_reducible exact H2_) | (have H2_ := (Option.bind_some _ _).symm.trans H; with_reducible exact H2_) | with_reducible exact H | (rw [hy113]; exact H) | exact H
             have Ny113 := Aside0.mk hy113
             clear hy113
             simp only [Option.some.injEq, Prod.mk.injEq] at H
             obtain ⟨rfl, rfl⟩ := H
             obtain ⟨Ao68, co68, eo68⟩ := Kd.R_slice HO_10.out
             subst eo68
             have q69 : ((ji65) : Int) ≤ ((x10_2.length : Int) : Int) := dt
             obtain ⟨i069, hi069, _, hsz69, _⟩ := info_parts info29
             have hcut69 := cut_to (P := Try.prog) 22 29 .i64 Try.underlying22 hi069 Ao68 x10_2.length co68 (ji65) (dt) q69 (Kd.R_reads' HO_10.out).2.1
             have hr69 := Kd.R_take (m := ((ji65) : Int).toNat) HO_10.out (by omega)
             have hy69 : y113.length = ((ji65) : Int).toNat := (by rw [Ny113.out, List.length_take]; omega)
             rw [← Ny113.out] at hr69
             rw [← hy69] at hr69 hcut69
             clear hy69 hi069 hsz69 HO_10
             have HO115 := Aside0.mk hr69
             clear hr69
             replace q69 := eq_true q69
             go_wp2
             go_ret2
             exact ⟨_, by first | rfl | (simp [errW_none, errW_some] <;> rfl) | (simp only [← hji65]; first | rfl | (simp [errW_none, errW_some] <;> rfl)) | (simp [*, errW_none, errW_some] <;> rfl), by (with_reducible repeat (first | apply Kd.R_alloc | apply Kd.R_drewN | apply Kd.R_drew)); exact HO115.out, bh⟩
            ·rw [if_neg c67] at H
             exact absurd H (by simp)
           ·rw [if_neg c66] at H
            exact absurd H (by simp)
     ·rw [if_neg c14] at H
      exact absurd H (by simp)
    ·rw [if_neg c13] at H
     exact absurd H (by simp)
end Go.Proofs.Ytoffmpkgickfhaa.PG
end
section
namespace Go.Proofs.Ytoffmpkgickfhaa.PG
open Go.RowKit Go.Proofs.YtoffmpkgickfhaaW.PrintWords Go.Proofs.YtoffmpkgickfhaaW.PrintLast Go.Proofs.YtoffmpkgickfhaaW.PrintMore
attribute [local go_sem] max2_int min2_int max_two min_two max_three min_three max_four min_four
set_option linter.unusedVariables false
set_option linter.unusedSimpArgs false
/-! ### shape_negative: function 80 -/
def shape_negative.l0 : Nat → List (S29) → List (S29) → Int → Int → Option ((List (S29)))
 | 0, _, _, _, _ => none
 | k + 1, x3, x6, x7, x8 => if x8 < x7 then (if 0 ≤ x8 then (if x8 < (x6.length : Int) then ((shape_sub.f 0 0 ((rd_T29 x6 x8).f0) ((rd_T29 x6 x8).f1)).bind fun bt103 => (if x3.length < 8796093022208 then (shape_negative.l0 k (x3 ++ [(⟨bt103.1, bt103.2⟩ : S29)]) x6 x7 (wrap64 (x8 + 1))) else (none))) else (none)) else (none)) else ((shape_begun.f k x3).bind fun t108 => (some t108))
def shape_negative.f (k : Nat) (l0 : List (S29)) : Option ((List (S29))) := shape_negative.l0 k ([] : List (S29)) l0 (l0.length : Int) 0
theorem shape_negative.mono_l : ∀ k, (∀ y0 y1 y2 y3, LeO (shape_negative.l0 k y0 y1 y2 y3) (shape_negative.l0 (k + 1) y0 y1 y2 y3))
 | 0 => fun _ _ _ _ r h => by simp [shape_negative.l0] at h
 | k + 1 => by
  have ih0 := shape_negative.mono_l k
  ·intro y0 y1 y2 y3
   unfold shape_negative.l0
   repeat' first
   | (with_reducible exact ih0 _ _ _ _)
   | (with_reducible exact shape_begun.mono _ _)
   | (with_reducible exact LeO.refl _)
   | (with_reducible exact LeO.none _)
   | (with_reducible refine LeO.ite ?_ ?_)
   | (with_reducible refine LeO.bind ?_ (fun _ => ?_))
   | exact ih0 _ _ _ _
   | exact shape_begun.mono _ _
   | exact LeO.none _
   | refine LeO.ite ?_ ?_
   | refine LeO.bind ?_ (fun _ => ?_)
theorem shape_negative.mono : ∀ a0 k, LeO (shape_negative.f k a0) (shape_negative.f (k + 1) a0) := by
 intro a0 k
 have ih0 := shape_negative.mono_l k
 unfold shape_negative.f
 repeat' first
  | (with_reducible exact ih0 _ _ _ _)
  | (with_reducible exact shape_begun.mono _ _)
  | (with_reducible exact LeO.refl _)
  | (with_reducible exact LeO.none _)
  | (with_reducible refine LeO.ite ?_ ?_)
  | (with_reducible refine LeO.bind ?_ (fun _ => ?_))
  | exact ih0 _ _ _ _
  | exact shape_begun.mono _ _
  | exact LeO.none _
  | refine LeO.ite ?_ ?_
  | refine LeO.bind ?_ (fun _ => ?_)
set_option maxHeartbeats 8000000 in
set_option maxRecDepth 100000 in
theorem shape_negative.calls (k : Nat) (A0 : Option Addr) (c0 : Nat) (l0 : List (S29)) (r : List (S29)) (w : World) (hr0 : Kd.C k29 w A0 l0.length l0) (hc0 : l0.length ≤ c0) (h : shape_negative.f k l0 = some r) :
  Calls Try.prog 80 #[.slice A0 l0.length c0] w fun e w' => ∃ v0_ : Value, e = .returned (v0_) ∧ Kd.R k29 29 w' w.heap.size (fun _ => True) v0_ r ∧ Below w.heap.size w w' := by
 have hu29 := Try.underlying29
 have HR0 := Aside0.mk hr0
 have HC0 := Aside0.mk hc0
 clear hr0 hc0
 have HB := Aside0.mk (Below.refl w.heap.size w)
 have H : (shape_negative.l0 k ([] : List (S29)) l0 (l0.length : Int) 0) = some r := h
 clear h
 have H' := Aside0.mk H
 clear H
 go_enter Try.func80, Try.ntmps80
 go_wp2
 go_loopg [3, 8] k (fun kq v3 v8 w' => ∃ (x3_1 : List (S29)) (x8_1 : Int), v8 = .int .i64 x8_1 ∧ Aside0 (shape_negative.l0 kq x3_1 l0 (l0.length : Int) x8_1 = some r) ∧ Aside0 (kq ≤ k) ∧ Aside0 (Kd.R k29 29 w' w.heap.size (fun _ => True) v3 x3_1) ∧ Aside0 (Below w.heap.size w w'))
 case atStart => exact ⟨(([] : List (S29))), (0), sd, H', ⟨Nat.le_refl _⟩, ⟨by first | exact Kd.R_nil _ _ _ _ _ | exact Kd.N_nil _ _ _ _ _ | exact Kd.V_nil _ _ _ _ _ | exact Kd.Q_nil _ _ _ _ _ | exact Kd.S_nil _ _ _ _ _⟩, ⟨bh⟩⟩
 case round =>
  clear H'
  obtain ⟨x3_1, x8_1, rfl, HA, HK1, HO_3, HB⟩ := hrel
  cases gk with
  | zero => exact absurd HA.out (by simp [shape_negative.l0])
  | succ k1 =>
   have H := HA.out
   clear HA
   simp only [shape_negative.l0] at H
   by_cases c2 : x8_1 < (l0.length : Int)
   ·rw [if_pos c2] at H
    have c2b0 : decide (x8_1 < (l0.length : Int)) = true := decide_eq_true c2
    clear c2
    by_cases c3 : 0 ≤ x8_1
    ·rw [if_pos c3] at H
     have c3b0 : decide (0 ≤ x8_1) = true := decide_eq_true c3
     clear c3
     by_cases c4 : x8_1 < (l0.length : Int)
     ·rw [if_pos c4] at H
      have c4b0 : decide (x8_1 < (l0.length : Int)) = true := decide_eq_true c4
      clear c4
      replace H := Option.bind_eq_some_iff.mp H
      obtain ⟨⟨t103, t104⟩, A50, H⟩ := H
      replace H : (if x3_1.length < 8796093022208 then (shape_negative.l0 k1 (x3_1 ++ [(⟨t103, t104⟩ : S29)]) l0 (l0.length : Int) (wrap64 (x8_1 + 1))) else (none)) = some r := H
      have A5 := Aside0.mk A50
      clear A50
      by_cases c6 : x3_1.length < 8796093022208
      ·rw [if_pos c6] at H
       have LMc6 := Aside0.mk c6
       clear c6
       obtain ⟨y105, hy105⟩ : ∃ y_ : List (S29), y_ = (x3_1 ++ [(⟨t103, t104⟩ : S29)]) := ⟨_, rfl⟩
       replace H : (shape_negative.l0 k1 y105 l0 (l0.length : Int) (wrap64 (x8_1 + 1))) = some r := by first | (rw [hy105]; with_reducible exact H) | (have H2_ := (Option.bind_some _ _).symm.trans H; rw [hy105]; with_reducible exact H2_) | (have H2_ := (Option.bind_some _ _).symm.trans H; with_reducible exact H2_) | with_reducible exact H | (rw [hy105]; exact H) | exact H
       have Ny105 := Aside0.mk hy105
       clear hy105
       have H' := Aside0.mk H
       clear H
       have p101 : 0 ≤ (x8_1 : Int) := dt
       have q101 : x8_1 < (l0.length : Int) := dt
       obtain ⟨ad101, e101, hx101_0, hx101_1⟩ := at_T29 HR0.out x8_1 p101 q101
       cases e101
       replace hx101_0 := hc HB hx101_0
       replace hx101_1 := hc HB hx101_1
       replace p101 := eq_true p101
       replace q101 := eq_true q101
       go_wp2_with (first | ((with_reducible refine gate_dst (N := 5) rfl ?_); refine bxe 5 #[.int .i64 0, .int .i64 0] 29 ?_; intro gb102 hg w7 hbox hb; have BK102 := Aside0.mk (hbox); have GW102 := Aside0.mk (gs hg : w.heap.size ≤ gb102); have GE102 := Aside0.mk (gs hg : w.heap.size ≤ gb102); replace HO_3 := Aside0.mk (Kd.R_below (Kd.R_elderB (ro HO_3) gb102 (Nat.le_of_eq hg.symm)) hb); replace HB := Aside0.mk (below_step bh hb); clear hb hbox hg; have hcz8_0 : w7.cell? ⟨gb102, 0, none⟩ = some (.int .i64 0) := bc BK102 0; have hcz8_1 : w7.cell? ⟨gb102, 1, none⟩ = some (.int .i64 0) := bc BK102 1; have hfz8_0 := blk_frozen BK102.out 0; have hfz8_1 := blk_frozen BK102.out 1) | ((with_reducible refine gate_callee (f := 70) rfl ?_); refine goesL_ (some 15) rfl rfl Try.func70 (by kernel_rfl) rfl #[.agg #[.int .i64 0, .int .i64 0], .agg #[.int .i64 ((rd_T29 l0 x8_1).f0), .int .i64 ((rd_T29 l0 x8_1).f1)]] rfl sg ?_; (with_reducible refine (shape_sub.calls 0 0 ((rd_T29 l0 x8_1).f0) ((rd_T29 l0 x8_1).f1) t103 t104 _ A5.out).mono ?_); rintro e w9 ⟨rfl, hb⟩; refine ⟨_, rfl, ?_⟩; replace HO_3 := Aside0.mk (Kd.R_below (by (with_reducible repeat (first | apply Kd.R_alloc | apply Kd.R_drewN | apply Kd.R_drew)); exact (Kd.R_mono (Kd.R_far (p := ⟨gb102, 1, none⟩) (Kd.R_far (p := ⟨gb102, 0, none⟩) (Kd.R_mono HO_3.out (fun k_ hk => (⟨hk, hk.2⟩ : _ ∧ k_ ≠ gb102))) (fun _ hk => hk.2) (.int .i64 ((rd_T29 l0 x8_1).f0))) (fun _ hk => hk.2) (.int .i64 ((rd_T29 l0 x8_1).f1))) (fun _ h_ => h_.1))) hb); replace BK102 := Aside0.mk (blk_below (g := gb102) (o := .cells #[.int .i64 ((rd_T29 l0 x8_1).f0), .int .i64 ((rd_T29 l0 x8_1).f1)] 29 (0, 0)) (by (with_reducible repeat (first | refine blk_drewN ?_ _ | refine blk_drew ?_ | refine blk_alloc ?_ _)); refine blk_put (cs := #[.int .i64 ((rd_T29 l0 x8_1).f0), .int .i64 0]) ?_ 1 _ rfl; (with_reducible repeat (first | refine blk_drewN ?_ _ | refine blk_drew ?_ | refine blk_alloc ?_ _)); refine blk_put (cs := #[.int .i64 0, .int .i64 0]) ?_ 0 _ rfl; (with_reducible repeat (first | refine blk_drewN ?_ _ | refine blk_drew ?_ | refine blk_alloc ?_ _)); exact BK102.out) hb); replace HB := Aside0.mk (below_step bh hb); (try clear hb); (try clear hb2); (try clear hk); (try clear hi)) | ((with_reducible refine gate_builtin (b := .append) (xs := #[.tmp 12, .tmp 16]) rfl ?_); at_builtin; refine Kd.R_append k29 (w0 := w) w.heap.size rfl (.tmp 12) (.tmp 16) 22 29 (.agg #[(.int .i64 0), (.int .i64 0)]) 16 rfl Try.underlying22 info29 rfl (by decide) (by omega) u3 x3_1 (⟨t103, t104⟩ : S29) [.int .i64 t103, .int .i64 t104] (fun k_ => k_ ≠ gb102) (fun _ => False) rfl rfl ?aP (fun _ hk => hk.elim) ?aF ?aO ?aB ?aS ?aL ?_; (case aP => exact k29_mkM _ _ _ (⟨t103, t104⟩ : S29)); (case aB => exact bh); (case aF => exact (fun k_ hk => Kd.freshB (g := gb102) (o := .cells #[.int .i64 ((rd_T29 l0 x8_1).f0), .int .i64 ((rd_T29 l0 x8_1).f1)] 29 (0, 0)) (bk BK102) k_ hk)); (case aO => exact (by (with_reducible repeat (first | apply Kd.R_alloc | apply Kd.R_drewN | apply Kd.R_drew)); exact Kd.R_mono HO_3.out (fun _ hk => hk.2))); (case aS => exact (below_size bh)); (case aL => have := LMc6.out; omega); intro v106 w10 ho hb hg hat; rw [← Ny105.out] at ho; have HO107 := Aside0.mk (ho); replace BK102 := Aside0.mk (blk_grown (g := gb102) (o := .cells #[.int .i64 ((rd_T29 l0 x8_1).f0), .int .i64 ((rd_T29 l0 x8_1).f1)] 29 (0, 0)) (bk BK102) hg (Kd.R_away HO_3.out (fun _ hk => hk.2))); replace HB := Aside0.mk (hb); clear HO_3; clear ho hb hg hat))
       go_roundg k1
       case measure => have := HK1.out; omega
       case rel => exact ⟨(y105), (wrap64 (x8_1 + 1)), sd, H', ⟨by have := HK1.out; omega⟩, ⟨by (with_reducible repeat (first | apply Kd.R_alloc | apply Kd.R_drewN | apply Kd.R_drew)); exact Kd.R_mono HO107.out (fun _ hk => trivial)⟩, ⟨bh⟩⟩
      ·rw [if_neg c6] at H
       exact absurd H (by simp)
     ·rw [if_neg c4] at H
      exact absurd H (by simp)
    ·rw [if_neg c3] at H
     exact absurd H (by simp)
   ·rw [if_neg c2] at H
    have c2b0 : decide (x8_1 < (l0.length : Int)) = false := decide_eq_false c2
    clear c2
    replace H := Option.bind_eq_some_iff.mp H
    obtain ⟨t108, A110, H⟩ := H
    replace H : (some t108) = some r := H
    have A11 := Aside0.mk A110
    clear A110
    obtain rfl := Option.some.inj H
    obtain ⟨Ao12, co12, eo12⟩ := Kd.R_slice HO_3.out
    subst eo12
    go_wp2_with (first | ((with_reducible refine gate_callee (f := 58) rfl ?_); refine goesL_ (some 20) rfl rfl Try.func58 (by kernel_rfl) rfl #[.slice Ao12 x3_1.length co12] rfl sg ?_; (with_reducible refine (shape_begun.calls k1 (fun k_ => some k_ = (.slice Ao12 x3_1.length co12 : Value).ownBlock) _ _ x3_1 t108 _ ?side1 A11.out).mono ?_); (case side1 => exact Kd.R_V (Kd.R_tight rfl (HO_3.out))); rintro e w13 ⟨v109, rfl, ho0, hb⟩; refine ⟨_, rfl, ?_⟩; have HO110 := Aside0.mk (Kd.R_lower (Kd.R_new' (Kd.R_mono (ok' := fun k_ => True) ho0 (fun _ hk_ => trivial)) (Kd.R_lt (ro HO_3))) (below_size bh)); replace HO_3 := Aside0.mk (Kd.R_elder' (ro HO_3) (Kd.R_base ho0) hb); replace HB := Aside0.mk (below_step bh hb); (try clear hb); (try clear hb2); (try clear hk); (try clear hi); (try clear ho0)))
    go_ret
    exact ⟨_, by exact er, by (with_reducible repeat (first | apply Kd.R_alloc | apply Kd.R_drewN | apply Kd.R_drew)); exact Kd.R_mono HO110.out (fun _ hk => trivial), bh⟩
end Go.Proofs.Ytoffmpkgickfhaa.PG
end
section
namespace Go.Proofs.Ytoffmpkgickfhaa.PG
open Go.RowKit Go.Proofs.YtoffmpkgickfhaaW.PrintWords Go.Proofs.YtoffmpkgickfhaaW.PrintLast Go.Proofs.YtoffmpkgickfhaaW.PrintMore
attribute [local go_sem] max2_int min2_int max_two min_two max_three min_three max_four min_four
set_option linter.unusedVariables false
set_option linter.unusedSimpArgs false
/-! ### shape_Negative: function 41 -/
def shape_Negative.f (k : Nat) (l0 : List (S29)) : Option ((List (S29)) × Int) := (shape_refused_normal.f k l0).bind fun t101 => (if t101 = 0 then ((shape_negative.f k l0).bind fun t102 => (some (t102, 0))) else (some (([] : List (S29)), t101)))
theorem shape_Negative.mono : ∀ a0 k, LeO (shape_Negative.f k a0) (shape_Negative.f (k + 1) a0) := by
 intro a0 k
 unfold shape_Negative.f
 repeat' first
  | (with_reducible exact shape_negative.mono _ _)
  | (with_reducible exact shape_refused_normal.mono _ _)
  | (with_reducible exact LeO.refl _)
  | (with_reducible exact LeO.none _)
  | (with_reducible refine LeO.ite ?_ ?_)
  | (with_reducible refine LeO.bind ?_ (fun _ => ?_))
  | exact shape_negative.mono _ _
  | exact shape_refused_normal.mono _ _
  | exact LeO.none _
  | refine LeO.ite ?_ ?_
  | refine LeO.bind ?_ (fun _ => ?_)
set_option maxHeartbeats 8000000 in
set_option maxRecDepth 100000 in
theorem shape_Negative.calls (k : Nat) (A0 : Option Addr) (c0 : Nat) (l0 : List (S29)) (r1 : List (S29)) (r2 : Int) (w : World) (hr0 : Kd.C k29 w A0 l0.length l0) (hc0 : l0.length ≤ c0) (h : shape_Negative.f k l0 = some (r1, r2)) :
  Calls Try.prog 41 #[.slice A0 l0.length c0] w fun e w' => ∃ v0_ : Value, e = .returned (.tuple #[v0_, .int .i64 r2]) ∧ Kd.R k29 29 w' w.heap.size (fun _ => True) v0_ r1 ∧ Below w.heap.size w w' := by
 have HR0 := Aside0.mk hr0
 have HC0 := Aside0.mk hc0
 clear hr0 hc0
 have HB := Aside0.mk (Below.refl w.heap.size w)
 have H : ((shape_refused_normal.f k l0).bind fun t101 => (if t101 = 0 then ((shape_negative.f k l0).bind fun t102 => (some (t102, 0))) else (some (([] : List (S29)), t101)))) = some (r1, r2) := h
 clear h
 replace H := Option.bind_eq_some_iff.mp H
 obtain ⟨t101, A20, H⟩ := H
 replace H : (if t101 = 0 then ((shape_negative.f k l0).bind fun t102 => (some (t102, 0))) else (some (([] : List (S29)), t101))) = some (r1, r2) := H
 have A2 := Aside0.mk A20
 clear A20
 by_cases c3 : t101 = 0
 ·rw [if_pos c3] at H
  have c3b0 : (t101 == 0) = true := beq_iff_eq.mpr c3
  have c3b1 : (t101 != 0) = false := bne_eq_false_iff_eq.mpr c3
  clear c3
  replace H := Option.bind_eq_some_iff.mp H
  obtain ⟨t102, A40, H⟩ := H
  replace H : (some (t102, 0)) = some (r1, r2) := H
  have A4 := Aside0.mk A40
  clear A40
  simp only [Option.some.injEq, Prod.mk.injEq] at H
  obtain ⟨rfl, rfl⟩ := H
  go_enter Try.func41, Try.ntmps41
  go_wp2_with (first | ((with_reducible refine gate_callee (f := 68) rfl ?_); refine goesL_ (some 6) rfl rfl Try.func68 (by kernel_rfl) rfl #[.slice A0 l0.length c0, .func (.func 72) #[] #[]] rfl sg ?_; (with_reducible refine (shape_refused_normal.calls k _ _ l0  t101 _ ?side1 ?side2 A2.out).mono ?_); (case side1 => repeat (first | exact HR0.out | (with_reducible refine Kd.C_alloc ?_ _) | (with_reducible refine Kd.C_drewN ?_ _) | (with_reducible refine Kd.C_drew ?_))); (case side2 => exact HC0.out); rintro e w5 ⟨rfl, hb⟩; refine ⟨_, rfl, ?_⟩; replace HB := Aside0.mk (below_step bh hb); (try clear hb); (try clear hb2); (try clear hk); (try clear hi)) | ((with_reducible refine gate_callee (f := 80) rfl ?_); refine goesL_ (some 11) rfl rfl Try.func80 (by kernel_rfl) rfl #[.slice A0 l0.length c0] rfl sg ?_; (with_reducible refine (shape_negative.calls k _ _ l0 t102 _ ?side1 ?side2 A4.out).mono ?_); (case side1 => exact cs (Kd.C_below HR0.out HB.out)); (case side2 => exact HC0.out); rintro e w6 ⟨v103, rfl, ho0, hb⟩; refine ⟨_, rfl, ?_⟩; have HO104 := Aside0.mk (Kd.R_lower ho0 (below_size bh)); replace HB := Aside0.mk (below_step bh hb); (try clear hb); (try clear hb2); (try clear hk); (try clear hi); (try clear ho0)))
  go_ret2
  exact ⟨_, by exact er, by (with_reducible repeat (first | apply Kd.R_alloc | apply Kd.R_drewN | apply Kd.R_drew)); exact HO104.out, bh⟩
 ·rw [if_neg c3] at H
  have c3b0 : (t101 == 0) = false := beq_eq_false_iff_ne.mpr c3
  have c3b1 : (t101 != 0) = true := bne_iff_ne.mpr c3
  simp only [Option.some.injEq, Prod.mk.injEq] at H
  obtain ⟨rfl, rfl⟩ := H
  go_enter Try.func41, Try.ntmps41
  go_wp2_with (first | ((with_reducible refine gate_callee (f := 68) rfl ?_); refine goesL_ (some 6) rfl rfl Try.func68 (by kernel_rfl) rfl #[.slice A0 l0.length c0, .func (.func 72) #[] #[]] rfl sg ?_; (with_reducible refine (shape_refused_normal.calls k _ _ l0  t101 _ ?side1 ?side2 A2.out).mono ?_); (case side1 => repeat (first | exact HR0.out | (with_reducible refine Kd.C_alloc ?_ _) | (with_reducible refine Kd.C_drewN ?_ _) | (with_reducible refine Kd.C_drew ?_))); (case side2 => exact HC0.out); rintro e w7 ⟨rfl, hb⟩; refine ⟨_, rfl, ?_⟩; replace HB := Aside0.mk (below_step bh hb); (try clear hb); (try clear hb2); (try clear hk); (try clear hi)))
  go_ret2
  exact ⟨_, by exact er, by first | exact Kd.R_nil _ _ _ _ _ | exact Kd.N_nil _ _ _ _ _ | exact Kd.V_nil _ _ _ _ _ | exact Kd.Q_nil _ _ _ _ _ | exact Kd.S_nil _ _ _ _ _, bh⟩
end Go.Proofs.Ytoffmpkgickfhaa.PG
end
section
namespace Go.Proofs.Ytoffmpkgickfhaa.PG
open Go.RowKit Go.Proofs.YtoffmpkgickfhaaW.PrintWords Go.Proofs.YtoffmpkgickfhaaW.PrintLast Go.Proofs.YtoffmpkgickfhaaW.PrintMore
attribute [local go_sem] max2_int min2_int max_two min_two max_three min_three max_four min_four
set_option linter.unusedVariables false
set_option linter.unusedSimpArgs false
/-! ### cracknellaw04_ShapeMinkowski: function 11 -/
def cracknellaw04_ShapeMinkowski.j0 : Nat → List (S29) → List (S29) → List (S29) → List (S29) → Bool → Option (Bool)
 | 0, _, _, _, _, _ => none
 | k + 1, x7, x9, x10, x14, x83 => if x83 = true then (some false) else ((shape_Sum.f k x10 x9).bind fun bt124 => ((shape_Sum.f k x7 x14).bind fun bt128 => ((shape_Sum.f k x7 x7).bind fun bt132 => ((shape_Negative.f k x7).bind fun bt136 => ((shape_Negative.f k bt136.1).bind fun bt140 => ((shape_Area2.f k x7).bind fun bt144 => ((shape_Area2.f k bt132.1).bind fun bt146 => (if bt124.2 = 0 then (if bt128.2 = 0 then (if bt132.2 = 0 then (if bt136.2 = 0 then (if bt140.2 = 0 then (if bt144.2 = 0 then (if bt146.2 = 0 then ((cracknelref04_Same.f k bt124.1 bt128.1).bind fun t148 => (if t148 = true then ((cracknelref04_Same.f k bt140.1 x7).bind fun t149 => (if t149 = true then (some (bt146.1 == (wrap64 (4 * bt144.1)))) else (some false))) else (some false))) else (some false)) else (some false)) else (some false)) else (some false)) else (some false)) else (some false)) else (some false)))))))))
def cracknellaw04_ShapeMinkowski.f (k : Nat) (l0 : List (S29)) (l1 : List (S29)) (l2 : List (S29)) : Option (Bool) := (cracknellaw04_hull.f k l0 3000).bind fun t101 => ((cracknellaw04_hull.f k l1 3000).bind fun t104 => ((cracknellaw04_hull.f k l2 3000).bind fun t107 => ((shape_Sum.f k t101 t104).bind fun bt110 => ((shape_Sum.f k t104 t101).bind fun bt114 => ((shape_Sum.f k t104 t107).bind fun bt118 => (if bt110.2 = 0 then (if bt114.2 = 0 then (if bt118.2 = 0 then ((cracknelref04_Same.f k bt110.1 bt114.1).bind fun t122 => (if t122 = true then (if (bt110.1.length : Int) > 32 then (cracknellaw04_ShapeMinkowski.j0 k t101 t107 bt110.1 bt118.1 true) else (if (bt118.1.length : Int) > 32 then (cracknellaw04_ShapeMinkowski.j0 k t101 t107 bt110.1 bt118.1 true) else ((cracknellaw04_lives.f k).bind fun t123 => (cracknellaw04_ShapeMinkowski.j0 k t101 t107 bt110.1 bt118.1 (!t123))))) else (cracknellaw04_ShapeMinkowski.j0 k t101 t107 bt110.1 bt118.1 true))) else (cracknellaw04_ShapeMinkowski.j0 k t101 t107 bt110.1 bt118.1 true)) else (cracknellaw04_ShapeMinkowski.j0 k t101 t107 bt110.1 bt118.1 true)) else (cracknellaw04_ShapeMinkowski.j0 k t101 t107 bt110.1 bt118.1 true)))))))
theorem cracknellaw04_ShapeMinkowski.mono_l : ∀ k, (∀ y0 y1 y2 y3 y4, LeO (cracknellaw04_ShapeMinkowski.j0 k y0 y1 y2 y3 y4) (cracknellaw04_ShapeMinkowski.j0 (k + 1) y0 y1 y2 y3 y4))
 | 0 => fun _ _ _ _ _ r h => by simp [cracknellaw04_ShapeMinkowski.j0] at h
 | k + 1 => by
  have ih0 := cracknellaw04_ShapeMinkowski.mono_l k
  ·intro y0 y1 y2 y3 y4
   unfold cracknellaw04_ShapeMinkowski.j0
   repeat' first
   | (with_reducible exact ih0 _ _ _ _ _)
   | (with_reducible exact cracknellaw04_hull.mono _ _ _)
   | (with_reducible exact cracknellaw04_lives.mono _)
   | (with_reducible exact cracknelref04_Same.mono _ _ _)
   | (with_reducible exact shape_Area2.mono _ _)
   | (with_reducible exact shape_Negative.mono _ _)
   | (with_reducible exact shape_Sum.mono _ _ _)
   | (with_reducible exact LeO.refl _)
   | (with_reducible exact LeO.none _)
   | (with_reducible refine LeO.ite ?_ ?_)
   | (with_reducible refine LeO.bind ?_ (fun _ => ?_))
   | exact ih0 _ _ _ _ _
   | exact cracknellaw04_hull.mono _ _ _
   | exact cracknellaw04_lives.mono _
   | exact cracknelref04_Same.mono _ _ _
   | exact shape_Area2.mono _ _
   | exact shape_Negative.mono _ _
   | exact shape_Sum.mono _ _ _
   | exact LeO.none _
   | refine LeO.ite ?_ ?_
   | refine LeO.bind ?_ (fun _ => ?_)
theorem cracknellaw04_ShapeMinkowski.mono : ∀ a0 a1 a2 k, LeO (cracknellaw04_ShapeMinkowski.f k a0 a1 a2) (cracknellaw04_ShapeMinkowski.f (k + 1) a0 a1 a2) := by
 intro a0 a1 a2 k
 have ih0 := cracknellaw04_ShapeMinkowski.mono_l k
 unfold cracknellaw04_ShapeMinkowski.f
 repeat' first
  | (with_reducible exact ih0 _ _ _ _ _)
  | (with_reducible exact cracknellaw04_hull.mono _ _ _)
  | (with_reducible exact cracknellaw04_lives.mono _)
  | (with_reducible exact cracknelref04_Same.mono _ _ _)
  | (with_reducible exact shape_Area2.mono _ _)
  | (with_reducible exact shape_Negative.mono _ _)
  | (with_reducible exact shape_Sum.mono _ _ _)
  | (with_reducible exact LeO.refl _)
  | (with_reducible exact LeO.none _)
  | (with_reducible refine LeO.ite ?_ ?_)
  | (with_reducible refine LeO.bind ?_ (fun _ => ?_))
  | exact ih0 _ _ _ _ _
  | exact cracknellaw04_hull.mono _ _ _
  | exact cracknellaw04_lives.mono _
  | exact cracknelref04_Same.mono _ _ _
  | exact shape_Area2.mono _ _
  | exact shape_Negative.mono _ _
  | exact shape_Sum.mono _ _ _
  | exact LeO.none _
  | refine LeO.ite ?_ ?_
  | refine LeO.bind ?_ (fun _ => ?_)
set_option maxHeartbeats 8000000 in
set_option maxRecDepth 100000 in
theorem cracknellaw04_ShapeMinkowski.calls (k : Nat) (A0 : Option Addr) (c0 : Nat) (l0 : List (S29)) (A1 : Option Addr) (c1 : Nat) (l1 : List (S29)) (A2 : Option Addr) (c2 : Nat) (l2 : List (S29)) (r : Bool) (w : World) (hr0 : Kd.C k29 w A0 l0.length l0) (hc0 : l0.length ≤ c0) (hr1 : Kd.C k29 w A1 l1.length l1) (hc1 : l1.length ≤ c1) (hr2 : Kd.C k29 w A2 l2.length l2) (hc2 : l2.length ≤ c2) (h : cracknellaw04_ShapeMinkowski.f k l0 l1 l2 = some r) :
  Calls Try.prog 11 #[.slice A0 l0.length c0, .slice A1 l1.length c1, .slice A2 l2.length c2] w fun e w' => e = .returned (.bool r) ∧ Below w.heap.size w w' := by
 have HR0 := Aside0.mk hr0
 have HC0 := Aside0.mk hc0
 clear hr0 hc0
 have HR1 := Aside0.mk hr1
 have HC1 := Aside0.mk hc1
 clear hr1 hc1
 have HR2 := Aside0.mk hr2
 have HC2 := Aside0.mk hc2
 clear hr2 hc2
 have HB := Aside0.mk (Below.refl w.heap.size w)
 have H : ((cracknellaw04_hull.f k l0 3000).bind fun t101 => ((cracknellaw04_hull.f k l1 3000).bind fun t104 => ((cracknellaw04_hull.f k l2 3000).bind fun t107 => ((shape_Sum.f k t101 t104).bind fun bt110 => ((shape_Sum.f k t104 t101).bind fun bt114 => ((shape_Sum.f k t104 t107).bind fun bt118 => (if bt110.2 = 0 then (if bt114.2 = 0 then (if bt118.2 = 0 then ((cracknelref04_Same.f k bt110.1 bt114.1).bind fun t122 => (if t122 = true then (if (bt110.1.length : Int) > 32 then (cracknellaw04_ShapeMinkowski.j0 k t101 t107 bt110.1 bt118.1 true) else (if (bt118.1.length : Int) > 32 then (cracknellaw04_ShapeMinkowski.j0 k t101 t107 bt110.1 bt118.1 true) else ((cracknellaw04_lives.f k).bind fun t123 => (cracknellaw04_ShapeMinkowski.j0 k t101 t107 bt110.1 bt118.1 (!t123))))) else (cracknellaw04_ShapeMinkowski.j0 k t101 t107 bt110.1 bt118.1 true))) else (cracknellaw04_ShapeMinkowski.j0 k t101 t107 bt110.1 bt118.1 true)) else (cracknellaw04_ShapeMinkowski.j0 k t101 t107 bt110.1 bt118.1 true)) else (cracknellaw04_ShapeMinkowski.j0 k t101 t107 bt110.1 bt118.1 true)))))))) = some r := h
 clear h
 replace H := Option.bind_eq_some_iff.mp H
 obtain ⟨t101, A40, H⟩ := H
 replace H : ((cracknellaw04_hull.f k l1 3000).bind fun t104 => ((cracknellaw04_hull.f k l2 3000).bind fun t107 => ((shape_Sum.f k t101 t104).bind fun bt110 => ((shape_Sum.f k t104 t101).bind fun bt114 => ((shape_Sum.f k t104 t107).bind fun bt118 => (if bt110.2 = 0 then (if bt114.2 = 0 then (if bt118.2 = 0 then ((cracknelref04_Same.f k bt110.1 bt114.1).bind fun t122 => (if t122 = true then (if (bt110.1.length : Int) > 32 then (cracknellaw04_ShapeMinkowski.j0 k t101 t107 bt110.1 bt118.1 true) else (if (bt118.1.length : Int) > 32 then (cracknellaw04_ShapeMinkowski.j0 k t101 t107 bt110.1 bt118.1 true) else ((cracknellaw04_lives.f k).bind fun t123 => (cracknellaw04_ShapeMinkowski.j0 k t101 t107 bt110.1 bt118.1 (!t123))))) else (cracknellaw04_ShapeMinkowski.j0 k t101 t107 bt110.1 bt118.1 true))) else (cracknellaw04_ShapeMinkowski.j0 k t101 t107 bt110.1 bt118.1 true)) else (cracknellaw04_ShapeMinkowski.j0 k t101 t107 bt110.1 bt118.1 true)) else (cracknellaw04_ShapeMinkowski.j0 k t101 t107 bt110.1 bt118.1 true))))))) = some r := H
 have A4 := Aside0.mk A40
 clear A40
 replace H := Option.bind_eq_some_iff.mp H
 obtain ⟨t104, A50, H⟩ := H
 replace H : ((cracknellaw04_hull.f k l2 3000).bind fun t107 => ((shape_Sum.f k t101 t104).bind fun bt110 => ((shape_Sum.f k t104 t101).bind fun bt114 => ((shape_Sum.f k t104 t107).bind fun bt118 => (if bt110.2 = 0 then (if bt114.2 = 0 then (if bt118.2 = 0 then ((cracknelref04_Same.f k bt110.1 bt114.1).bind fun t122 => (if t122 = true then (if (bt110.1.length : Int) > 32 then (cracknellaw04_ShapeMinkowski.j0 k t101 t107 bt110.1 bt118.1 true) else (if (bt118.1.length : Int) > 32 then (cracknellaw04_ShapeMinkowski.j0 k t101 t107 bt110.1 bt118.1 true) else ((cracknellaw04_lives.f k).bind fun t123 => (cracknellaw04_ShapeMinkowski.j0 k t101 t107 bt110.1 bt118.1 (!t123))))) else (cracknellaw04_ShapeMinkowski.j0 k t101 t107 bt110.1 bt118.1 true))) else (cracknellaw04_ShapeMinkowski.j0 k t101 t107 bt110.1 bt118.1 true)) else (cracknellaw04_ShapeMinkowski.j0 k t101 t107 bt110.1 bt118.1 true)) else (cracknellaw04_ShapeMinkowski.j0 k t101 t107 bt110.1 bt118.1 true)))))) = some r := H
 have A5 := Aside0.mk A50
 clear A50
 replace H := Option.bind_eq_some_iff.mp H
 obtain ⟨t107, A60, H⟩ := H
 replace H : ((shape_Sum.f k t101 t104).bind fun bt110 => ((shape_Sum.f k t104 t101).bind fun bt114 => ((shape_Sum.f k t104 t107).bind fun bt118 => (if bt110.2 = 0 then (if bt114.2 = 0 then (if bt118.2 = 0 then ((cracknelref04_Same.f k bt110.1 bt114.1).bind fun t122 => (if t122 = true then (if (bt110.1.length : Int) > 32 then (cracknellaw04_ShapeMinkowski.j0 k t101 t107 bt110.1 bt118.1 true) else (if (bt118.1.length : Int) > 32 then (cracknellaw04_ShapeMinkowski.j0 k t101 t107 bt110.1 bt118.1 true) else ((cracknellaw04_lives.f k).bind fun t123 => (cracknellaw04_ShapeMinkowski.j0 k t101 t107 bt110.1 bt118.1 (!t123))))) else (cracknellaw04_ShapeMinkowski.j0 k t101 t107 bt110.1 bt118.1 true))) else (cracknellaw04_ShapeMinkowski.j0 k t101 t107 bt110.1 bt118.1 true)) else (cracknellaw04_ShapeMinkowski.j0 k t101 t107 bt110.1 bt118.1 true)) else (cracknellaw04_ShapeMinkowski.j0 k t101 t107 bt110.1 bt118.1 true))))) = some r := H
 have A6 := Aside0.mk A60
 clear A60
 replace H := Option.bind_eq_some_iff.mp H
 obtain ⟨⟨t110, t113⟩, A70, H⟩ := H
 replace H : ((shape_Sum.f k t104 t101).bind fun bt114 => ((shape_Sum.f k t104 t107).bind fun bt118 => (if t113 = 0 then (if bt114.2 = 0 then (if bt118.2 = 0 then ((cracknelref04_Same.f k t110 bt114.1).bind fun t122 => (if t122 = true then (if (t110.length : Int) > 32 then (cracknellaw04_ShapeMinkowski.j0 k t101 t107 t110 bt118.1 true) else (if (bt118.1.length : Int) > 32 then (cracknellaw04_ShapeMinkowski.j0 k t101 t107 t110 bt118.1 true) else ((cracknellaw04_lives.f k).bind fun t123 => (cracknellaw04_ShapeMinkowski.j0 k t101 t107 t110 bt118.1 (!t123))))) else (cracknellaw04_ShapeMinkowski.j0 k t101 t107 t110 bt118.1 true))) else (cracknellaw04_ShapeMinkowski.j0 k t101 t107 t110 bt118.1 true)) else (cracknellaw04_ShapeMinkowski.j0 k t101 t107 t110 bt118.1 true)) else (cracknellaw04_ShapeMinkowski.j0 k t101 t107 t110 bt118.1 true)))) = some r := H
 have A7 := Aside0.mk A70
 clear A70
 replace H := Option.bind_eq_some_iff.mp H
 obtain ⟨⟨t114, t117⟩, A80, H⟩ := H
 replace H : ((shape_Sum.f k t104 t107).bind fun bt118 => (if t113 = 0 then (if t117 = 0 then (if bt118.2 = 0 then ((cracknelref04_Same.f k t110 t114).bind fun t122 => (if t122 = true then (if (t110.length : Int) > 32 then (cracknellaw04_ShapeMinkowski.j0 k t101 t107 t110 bt118.1 true) else (if (bt118.1.length : Int) > 32 then (cracknellaw04_ShapeMinkowski.j0 k t101 t107 t110 bt118.1 true) else ((cracknellaw04_lives.f k).bind fun t123 => (cracknellaw04_ShapeMinkowski.j0 k t101 t107 t110 bt118.1 (!t123))))) else (cracknellaw04_ShapeMinkowski.j0 k t101 t107 t110 bt118.1 true))) else (cracknellaw04_ShapeMinkowski.j0 k t101 t107 t110 bt118.1 true)) else (cracknellaw04_ShapeMinkowski.j0 k t101 t107 t110 bt118.1 true)) else (cracknellaw04_ShapeMinkowski.j0 k t101 t107 t110 bt118.1 true))) = some r := H
 have A8 := Aside0.mk A80
 clear A80
 replace H := Option.bind_eq_some_iff.mp H
 obtain ⟨⟨t118, t121⟩, A90, H⟩ := H
 replace H : (if t113 = 0 then (if t117 = 0 then (if t121 = 0 then ((cracknelref04_Same.f k t110 t114).bind fun t122 => (if t122 = true then (if (t110.length : Int) > 32 then (cracknellaw04_ShapeMinkowski.j0 k t101 t107 t110 t118 true) else (if (t118.length : Int) > 32 then (cracknellaw04_ShapeMinkowski.j0 k t101 t107 t110 t118 true) else ((cracknellaw04_lives.f k).bind fun t123 => (cracknellaw04_ShapeMinkowski.j0 k t101 t107 t110 t118 (!t123))))) else (cracknellaw04_ShapeMinkowski.j0 k t101 t107 t110 t118 true))) else (cracknellaw04_ShapeMinkowski.j0 k t101 t107 t110 t118 true)) else (cracknellaw04_ShapeMinkowski.j0 k t101 t107 t110 t118 true)) else (cracknellaw04_ShapeMinkowski.j0 k t101 t107 t110 t118 true)) = some r := H
 have A9 := Aside0.mk A90
 clear A90
 have HC10 := Aside0.mk H
 clear H
 go_enter Try.func11, Try.ntmps11
 go_upto_region 5 with (first | ((with_reducible refine gate_callee (f := 23) rfl ?_); refine goesL_ (some 31) rfl rfl Try.func23 (by kernel_rfl) rfl #[.slice A0 l0.length c0, .int .i64 3000] rfl sg ?_; (with_reducible refine (cracknellaw04_hull.calls k _ _ l0 3000 t101 _ ?side1 ?side2 A4.out).mono ?_); (case side1 => repeat (first | exact HR0.out | (with_reducible refine Kd.C_alloc ?_ _) | (with_reducible refine Kd.C_drewN ?_ _) | (with_reducible refine Kd.C_drew ?_))); (case side2 => exact HC0.out); rintro e w11 ⟨v102, rfl, ho0, hb⟩; refine ⟨_, rfl, ?_⟩; have HO103 := Aside0.mk (Kd.R_lower ho0 (below_size bh)); replace HB := Aside0.mk (below_step bh hb); (try clear hb); (try clear hb2); (try clear hk); (try clear hi); (try clear ho0)) | ((with_reducible refine gate_callee (f := 23) rfl ?_); refine goesL_ (some 33) rfl rfl Try.func23 (by kernel_rfl) rfl #[.slice A1 l1.length c1, .int .i64 3000] rfl sg ?_; (with_reducible refine (cracknellaw04_hull.calls k _ _ l1 3000 t104 _ ?side1 ?side2 A5.out).mono ?_); (case side1 => exact cs (Kd.C_below HR1.out HB.out)); (case side2 => exact HC1.out); rintro e w12 ⟨v105, rfl, ho0, hb⟩; refine ⟨_, rfl, ?_⟩; have HO106 := Aside0.mk (Kd.R_lower (Kd.R_new' ho0 (Kd.R_lt (ro HO103))) (below_size bh)); replace HO103 := Aside0.mk (Kd.R_elder' (ro HO103) (Kd.R_base ho0) hb); replace HB := Aside0.mk (below_step bh hb); (try clear hb); (try clear hb2); (try clear hk); (try clear hi); (try clear ho0)) | ((with_reducible refine gate_callee (f := 23) rfl ?_); refine goesL_ (some 35) rfl rfl Try.func23 (by kernel_rfl) rfl #[.slice A2 l2.length c2, .int .i64 3000] rfl sg ?_; (with_reducible refine (cracknellaw04_hull.calls k _ _ l2 3000 t107 _ ?side1 ?side2 A6.out).mono ?_); (case side1 => exact cs (Kd.C_below HR2.out HB.out)); (case side2 => exact HC2.out); rintro e w13 ⟨v108, rfl, ho0, hb⟩; refine ⟨_, rfl, ?_⟩; have HO109 := Aside0.mk (Kd.R_lower (Kd.R_new' (Kd.R_new' ho0 (Kd.R_lt (ro HO103))) (Kd.R_lt (ro HO106))) (below_size bh)); replace HO103 := Aside0.mk (Kd.R_elder' (ro HO103) (Kd.R_base ho0) hb); replace HO106 := Aside0.mk (Kd.R_elder' (ro HO106) (Kd.R_base ho0) hb); replace HB := Aside0.mk (below_step bh hb); (try clear hb); (try clear hb2); (try clear hk); (try clear hi); (try clear ho0); obtain ⟨Ao14, co14, eo14⟩ := Kd.R_slice HO103.out; subst eo14; obtain ⟨Ao15, co15, eo15⟩ := Kd.R_slice HO106.out; subst eo15) | ((with_reducible refine gate_callee (f := 40) rfl ?_); refine goesL_ (some 39) rfl rfl Try.func40 (by kernel_rfl) rfl #[.slice Ao14 t101.length co14, .slice Ao15 t104.length co15] rfl sg ?_; (with_reducible refine (shape_Sum.calls k (fun k_ => some k_ = (.slice Ao14 t101.length co14 : Value).ownBlock) _ _ t101 (fun k_ => some k_ = (.slice Ao15 t104.length co15 : Value).ownBlock) _ _ t104 t110 t113 _ ?side1 ?side2 A7.out).mono ?_); (case side1 => exact Kd.R_V (Kd.R_tight rfl (HO103.out))); (case side2 => exact Kd.R_V (Kd.R_tight rfl (HO106.out))); rintro e w16 ⟨v111, rfl, ho0, hb⟩; refine ⟨_, rfl, ?_⟩; have HO112 := Aside0.mk (Kd.R_lower (Kd.R_new' (Kd.R_new' (Kd.R_new' (Kd.R_mono (ok' := fun k_ => True) ho0 (fun _ hk_ => trivial)) (Kd.R_lt (ro HO103))) (Kd.R_lt (ro HO106))) (Kd.R_lt (ro HO109))) (below_size bh)); replace HO103 := Aside0.mk (Kd.R_elder' (ro HO103) (Kd.R_base ho0) hb); replace HO106 := Aside0.mk (Kd.R_elder' (ro HO106) (Kd.R_base ho0) hb); replace HO109 := Aside0.mk (Kd.R_elder' (ro HO109) (Kd.R_base ho0) hb); replace HB := Aside0.mk (below_step bh hb); (try clear hb); (try clear hb2); (try clear hk); (try clear hi); (try clear ho0)) | ((with_reducible refine gate_callee (f := 40) rfl ?_); refine goesL_ (some 45) rfl rfl Try.func40 (by kernel_rfl) rfl #[.slice Ao15 t104.length co15, .slice Ao14 t101.length co14] rfl sg ?_; (with_reducible refine (shape_Sum.calls k (fun k_ => some k_ = (.slice Ao15 t104.length co15 : Value).ownBlock) _ _ t104 (fun k_ => some k_ = (.slice Ao14 t101.length co14 : Value).ownBlock) _ _ t101 t114 t117 _ ?side1 ?side2 A8.out).mono ?_); (case side1 => exact Kd.R_V (Kd.R_tight rfl (HO106.out))); (case side2 => exact Kd.R_V (Kd.R_tight rfl (HO103.out))); rintro e w17 ⟨v115, rfl, ho0, hb⟩; refine ⟨_, rfl, ?_⟩; have HO116 := Aside0.mk (Kd.R_lower (Kd.R_new' (Kd.R_new' (Kd.R_new' (Kd.R_new' (Kd.R_mono (ok' := fun k_ => True) ho0 (fun _ hk_ => trivial)) (Kd.R_lt (ro HO103))) (Kd.R_lt (ro HO106))) (Kd.R_lt (ro HO109))) (Kd.R_lt (ro HO112))) (below_size bh)); replace HO103 := Aside0.mk (Kd.R_elder' (ro HO103) (Kd.R_base ho0) hb); replace HO106 := Aside0.mk (Kd.R_elder' (ro HO106) (Kd.R_base ho0) hb); replace HO109 := Aside0.mk (Kd.R_elder' (ro HO109) (Kd.R_base ho0) hb); replace HO112 := Aside0.mk (Kd.R_elder' (ro HO112) (Kd.R_base ho0) hb); replace HB := Aside0.mk (below_step bh hb); (try clear hb); (try clear hb2); (try clear hk); (try clear hi); (try clear ho0); obtain ⟨Ao18, co18, eo18⟩ := Kd.R_slice HO109.out; subst eo18) | ((with_reducible refine gate_callee (f := 40) rfl ?_); refine goesL_ (some 51) rfl rfl Try.func40 (by kernel_rfl) rfl #[.slice Ao15 t104.length co15, .slice Ao18 t107.length co18] rfl sg ?_; (with_reducible refine (shape_Sum.calls k (fun k_ => some k_ = (.slice Ao15 t104.length co15 : Value).ownBlock) _ _ t104 (fun k_ => some k_ = (.slice Ao18 t107.length co18 : Value).ownBlock) _ _ t107 t118 t121 _ ?side1 ?side2 A9.out).mono ?_); (case side1 => exact Kd.R_V (Kd.R_tight rfl (HO106.out))); (case side2 => exact Kd.R_V (Kd.R_tight rfl (HO109.out))); rintro e w19 ⟨v119, rfl, ho0, hb⟩; refine ⟨_, rfl, ?_⟩; have HO120 := Aside0.mk (Kd.R_lower (Kd.R_new' (Kd.R_new' (Kd.R_new' (Kd.R_new' (Kd.R_new' (Kd.R_mono (ok' := fun k_ => True) ho0 (fun _ hk_ => trivial)) (Kd.R_lt (ro HO103))) (Kd.R_lt (ro HO106))) (Kd.R_lt (ro HO109))) (Kd.R_lt (ro HO112))) (Kd.R_lt (ro HO116))) (below_size bh)); replace HO103 := Aside0.mk (Kd.R_elder' (ro HO103) (Kd.R_base ho0) hb); replace HO106 := Aside0.mk (Kd.R_elder' (ro HO106) (Kd.R_base ho0) hb); replace HO109 := Aside0.mk (Kd.R_elder' (ro HO109) (Kd.R_base ho0) hb); replace HO112 := Aside0.mk (Kd.R_elder' (ro HO112) (Kd.R_base ho0) hb); replace HO116 := Aside0.mk (Kd.R_elder' (ro HO116) (Kd.R_base ho0) hb); replace HB := Aside0.mk (below_step bh hb); (try clear hb); (try clear hb2); (try clear hk); (try clear hi); (try clear ho0)))
 (try simp only [Act.put, List.setIfInBounds_toArray, List.set_cons_zero, List.set_cons_succ])
 go_cut [83] (fun v83 wc => ∃ (kq : Nat) (x83_9 : Bool), v83 = .bool x83_9 ∧ Aside0 (cracknellaw04_ShapeMinkowski.j0 kq t101 t107 t110 t118 x83_9 = some r) ∧ Aside0 (kq ≤ k) ∧ Aside0 (Kd.R k29 29 wc w.heap.size (fun k_ => some k_ ≠ ((.slice Ao18 t107.length co18) : Value).ownBlock ∧ some k_ ≠ (v111 : Value).ownBlock ∧ some k_ ≠ (v119 : Value).ownBlock) (.slice Ao14 t101.length co14) t101) ∧ Aside0 (Kd.R k29 29 wc w.heap.size (fun k_ => some k_ ≠ ((.slice Ao14 t101.length co14) : Value).ownBlock ∧ some k_ ≠ (v111 : Value).ownBlock ∧ some k_ ≠ (v119 : Value).ownBlock) (.slice Ao18 t107.length co18) t107) ∧ Aside0 (Kd.R k29 29 wc w.heap.size (fun k_ => some k_ ≠ ((.slice Ao14 t101.length co14) : Value).ownBlock ∧ some k_ ≠ ((.slice Ao18 t107.length co18) : Value).ownBlock ∧ some k_ ≠ (v119 : Value).ownBlock) v111 t110) ∧ Aside0 (Kd.R k29 29 wc w.heap.size (fun k_ => some k_ ≠ ((.slice Ao14 t101.length co14) : Value).ownBlock ∧ some k_ ≠ ((.slice Ao18 t107.length co18) : Value).ownBlock ∧ some k_ ≠ (v111 : Value).ownBlock) v119 t118) ∧ Aside0 (Below w.heap.size w wc))
 case first =>
  have H := HC10.out
  clear HC10
  by_cases c20 : t113 = 0
  ·rw [if_pos c20] at H
   have c20b0 : (t113 == 0) = true := beq_iff_eq.mpr c20
   have c20b1 : (t113 != 0) = false := bne_eq_false_iff_eq.mpr c20
   clear c20
   (first | rw [c20b0] | (simp only [i64_w, i32_w]; rw [c20b0]) | skip)
   by_cases c21 : t117 = 0
   ·rw [if_pos c21] at H
    have c21b0 : (t117 == 0) = true := beq_iff_eq.mpr c21
    have c21b1 : (t117 != 0) = false := bne_eq_false_iff_eq.mpr c21
    clear c21
    by_cases c22 : t121 = 0
    ·rw [if_pos c22] at H
     have c22b0 : (t121 == 0) = true := beq_iff_eq.mpr c22
     have c22b1 : (t121 != 0) = false := bne_eq_false_iff_eq.mpr c22
     clear c22
     replace H := Option.bind_eq_some_iff.mp H
     obtain ⟨t122, A230, H⟩ := H
     replace H : (if t122 = true then (if (t110.length : Int) > 32 then (cracknellaw04_ShapeMinkowski.j0 k t101 t107 t110 t118 true) else (if (t118.length : Int) > 32 then (cracknellaw04_ShapeMinkowski.j0 k t101 t107 t110 t118 true) else ((cracknellaw04_lives.f k).bind fun t123 => (cracknellaw04_ShapeMinkowski.j0 k t101 t107 t110 t118 (!t123))))) else (cracknellaw04_ShapeMinkowski.j0 k t101 t107 t110 t118 true)) = some r := H
     have A23 := Aside0.mk A230
     clear A230
     by_cases c24 : t122 = true
     ·subst c24
      rw [if_pos rfl] at H
      by_cases c25 : (t110.length : Int) > 32
      ·rw [if_pos c25] at H
       have c25b0 : decide (32 < (t110.length : Int)) = true := decide_eq_true c25
       have c25b1 : decide (32 < t110.length) = true := decide_eq_true (by omega)
       clear c25
       have H' := Aside0.mk H
       clear H
       obtain ⟨Ao26, co26, eo26⟩ := Kd.R_slice HO112.out
       subst eo26
       obtain ⟨Ao27, co27, eo27⟩ := Kd.R_slice HO116.out
       subst eo27
       go_wp2_with (first | (go_at_call 20; (with_reducible refine (cracknelref04_Same.calls k _ _ t110 _ _ t114 true _ ?side1 ?side2 ?side3 ?side4 A23.out).mono ?_); (case side1 => exact cs (Kd.R_reads' HO112.out).2.2); (case side2 => exact (Kd.R_reads' HO112.out).2.1); (case side3 => exact cs (Kd.R_reads' HO116.out).2.2); (case side4 => exact (Kd.R_reads' HO116.out).2.1); rintro e w' ⟨rfl, ⟨nd, rfl⟩⟩))
       go_meet
       case rel => exact ⟨_, (true), sd, H', ⟨om⟩, ⟨by (with_reducible repeat (first | apply Kd.R_alloc | apply Kd.R_drewN | apply Kd.R_drew)); exact Kd.R_mono HO103.out (fun _ hk => ⟨hk.1.1.1.2, ⟨hk.1.1.2, hk.2⟩⟩)⟩, ⟨by (with_reducible repeat (first | apply Kd.R_alloc | apply Kd.R_drewN | apply Kd.R_drew)); exact Kd.R_mono HO109.out (fun _ hk => ⟨hk.1.1.1.1.2, ⟨hk.1.1.2, hk.2⟩⟩)⟩, ⟨by (with_reducible repeat (first | apply Kd.R_alloc | apply Kd.R_drewN | apply Kd.R_drew)); exact Kd.R_mono HO112.out (fun _ hk => ⟨hk.1.1.1.1.2, ⟨hk.1.1.2, hk.2⟩⟩)⟩, ⟨by (with_reducible repeat (first | apply Kd.R_alloc | apply Kd.R_drewN | apply Kd.R_drew)); exact Kd.R_mono HO120.out (fun _ hk => ⟨hk.1.1.1.1.2, ⟨hk.1.1.2, hk.1.2⟩⟩)⟩, ⟨bh⟩⟩
      ·rw [if_neg c25] at H
       have c25b0 : decide (32 < (t110.length : Int)) = false := decide_eq_false c25
       have c25b1 : decide (32 < t110.length) = false := decide_eq_false (by omega)
       clear c25
       by_cases c28 : (t118.length : Int) > 32
       ·rw [if_pos c28] at H
        have c28b0 : decide (32 < (t118.length : Int)) = true := decide_eq_true c28
        have c28b1 : decide (32 < t118.length) = true := decide_eq_true (by omega)
        clear c28
        have H' := Aside0.mk H
        clear H
        obtain ⟨Ao29, co29, eo29⟩ := Kd.R_slice HO112.out
        subst eo29
        obtain ⟨Ao30, co30, eo30⟩ := Kd.R_slice HO116.out
        subst eo30
        go_wp2_with (first | (go_at_call 20; (with_reducible refine (cracknelref04_Same.calls k _ _ t110 _ _ t114 true _ ?side1 ?side2 ?side3 ?side4 A23.out).mono ?_); (case side1 => exact cs (Kd.R_reads' HO112.out).2.2); (case side2 => exact (Kd.R_reads' HO112.out).2.1); (case side3 => exact cs (Kd.R_reads' HO116.out).2.2); (case side4 => exact (Kd.R_reads' HO116.out).2.1); rintro e w' ⟨rfl, ⟨nd, rfl⟩⟩; obtain ⟨Ao31, co31, eo31⟩ := Kd.R_slice HO120.out; subst eo31))
        go_meet
        case rel => exact ⟨_, (true), sd, H', ⟨om⟩, ⟨by (with_reducible repeat (first | apply Kd.R_alloc | apply Kd.R_drewN | apply Kd.R_drew)); exact Kd.R_mono HO103.out (fun _ hk => ⟨hk.1.1.1.2, ⟨hk.1.1.2, hk.2⟩⟩)⟩, ⟨by (with_reducible repeat (first | apply Kd.R_alloc | apply Kd.R_drewN | apply Kd.R_drew)); exact Kd.R_mono HO109.out (fun _ hk => ⟨hk.1.1.1.1.2, ⟨hk.1.1.2, hk.2⟩⟩)⟩, ⟨by (with_reducible repeat (first | apply Kd.R_alloc | apply Kd.R_drewN | apply Kd.R_drew)); exact Kd.R_mono HO112.out (fun _ hk => ⟨hk.1.1.1.1.2, ⟨hk.1.1.2, hk.2⟩⟩)⟩, ⟨by (with_reducible repeat (first | apply Kd.R_alloc | apply Kd.R_drewN | apply Kd.R_drew)); exact Kd.R_mono HO120.out (fun _ hk => ⟨hk.1.1.1.1.2, ⟨hk.1.1.2, hk.1.2⟩⟩)⟩, ⟨bh⟩⟩
       ·rw [if_neg c28] at H
        have c28b0 : decide (32 < (t118.length : Int)) = false := decide_eq_false c28
        have c28b1 : decide (32 < t118.length) = false := decide_eq_false (by omega)
        clear c28
        replace H := Option.bind_eq_some_iff.mp H
        obtain ⟨t123, A320, H⟩ := H
        replace H : (cracknellaw04_ShapeMinkowski.j0 k t101 t107 t110 t118 (!t123)) = some r := H
        have A32 := Aside0.mk A320
        clear A320
        have H' := Aside0.mk H
        clear H
        obtain ⟨Ao33, co33, eo33⟩ := Kd.R_slice HO112.out
        subst eo33
        obtain ⟨Ao34, co34, eo34⟩ := Kd.R_slice HO116.out
        subst eo34
        go_wp2_with (first | (go_at_call 20; (with_reducible refine (cracknelref04_Same.calls k _ _ t110 _ _ t114 true _ ?side1 ?side2 ?side3 ?side4 A23.out).mono ?_); (case side1 => exact cs (Kd.R_reads' HO112.out).2.2); (case side2 => exact (Kd.R_reads' HO112.out).2.1); (case side3 => exact cs (Kd.R_reads' HO116.out).2.2); (case side4 => exact (Kd.R_reads' HO116.out).2.1); rintro e w' ⟨rfl, ⟨nd, rfl⟩⟩; obtain ⟨Ao35, co35, eo35⟩ := Kd.R_slice HO120.out; subst eo35) | (go_at_call 18; (with_reducible refine (cracknellaw04_lives.calls k  t123 _ A32.out).mono ?_); rintro e w36 ⟨rfl, hb⟩; replace HO103 := Aside0.mk (Kd.R_below (ro HO103) hb); replace HO106 := Aside0.mk (Kd.R_below (ro HO106) hb); replace HO109 := Aside0.mk (Kd.R_below (ro HO109) hb); replace HO112 := Aside0.mk (Kd.R_below (ro HO112) hb); replace HO116 := Aside0.mk (Kd.R_below (ro HO116) hb); replace HO120 := Aside0.mk (Kd.R_below (ro HO120) hb); replace HB := Aside0.mk (below_step bh hb); (try clear hb); (try clear hb2); (try clear hk); (try clear hi)))
        go_meet
        case rel => exact ⟨_, (!t123), sd, H', ⟨om⟩, ⟨by (with_reducible repeat (first | apply Kd.R_alloc | apply Kd.R_drewN | apply Kd.R_drew)); exact Kd.R_mono HO103.out (fun _ hk => ⟨hk.1.1.1.2, ⟨hk.1.1.2, hk.2⟩⟩)⟩, ⟨by (with_reducible repeat (first | apply Kd.R_alloc | apply Kd.R_drewN | apply Kd.R_drew)); exact Kd.R_mono HO109.out (fun _ hk => ⟨hk.1.1.1.1.2, ⟨hk.1.1.2, hk.2⟩⟩)⟩, ⟨by (with_reducible repeat (first | apply Kd.R_alloc | apply Kd.R_drewN | apply Kd.R_drew)); exact Kd.R_mono HO112.out (fun _ hk => ⟨hk.1.1.1.1.2, ⟨hk.1.1.2, hk.2⟩⟩)⟩, ⟨by (with_reducible repeat (first | apply Kd.R_alloc | apply Kd.R_drewN | apply Kd.R_drew)); exact Kd.R_mono HO120.out (fun _ hk => ⟨hk.1.1.1.1.2, ⟨hk.1.1.2, hk.1.2⟩⟩)⟩, ⟨bh⟩⟩
     ·replace c24 := Bool.eq_false_iff.mpr c24
      subst c24
      rw [if_neg (show ¬ (false = true) by decide)] at H
      have H' := Aside0.mk H
      clear H
      obtain ⟨Ao37, co37, eo37⟩ := Kd.R_slice HO112.out
      subst eo37
      obtain ⟨Ao38, co38, eo38⟩ := Kd.R_slice HO116.out
      subst eo38
      go_wp2_with (first | (go_at_call 20; (with_reducible refine (cracknelref04_Same.calls k _ _ t110 _ _ t114 false _ ?side1 ?side2 ?side3 ?side4 A23.out).mono ?_); (case side1 => exact cs (Kd.R_reads' HO112.out).2.2); (case side2 => exact (Kd.R_reads' HO112.out).2.1); (case side3 => exact cs (Kd.R_reads' HO116.out).2.2); (case side4 => exact (Kd.R_reads' HO116.out).2.1); rintro e w' ⟨rfl, ⟨nd, rfl⟩⟩))
      go_meet
      case rel => exact ⟨_, (true), sd, H', ⟨om⟩, ⟨by (with_reducible repeat (first | apply Kd.R_alloc | apply Kd.R_drewN | apply Kd.R_drew)); exact Kd.R_mono HO103.out (fun _ hk => ⟨hk.1.1.1.2, ⟨hk.1.1.2, hk.2⟩⟩)⟩, ⟨by (with_reducible repeat (first | apply Kd.R_alloc | apply Kd.R_drewN | apply Kd.R_drew)); exact Kd.R_mono HO109.out (fun _ hk => ⟨hk.1.1.1.1.2, ⟨hk.1.1.2, hk.2⟩⟩)⟩, ⟨by (with_reducible repeat (first | apply Kd.R_alloc | apply Kd.R_drewN | apply Kd.R_drew)); exact Kd.R_mono HO112.out (fun _ hk => ⟨hk.1.1.1.1.2, ⟨hk.1.1.2, hk.2⟩⟩)⟩, ⟨by (with_reducible repeat (first | apply Kd.R_alloc | apply Kd.R_drewN | apply Kd.R_drew)); exact Kd.R_mono HO120.out (fun _ hk => ⟨hk.1.1.1.1.2, ⟨hk.1.1.2, hk.1.2⟩⟩)⟩, ⟨bh⟩⟩
    ·rw [if_neg c22] at H
     have c22b0 : (t121 == 0) = false := beq_eq_false_iff_ne.mpr c22
     have c22b1 : (t121 != 0) = true := bne_iff_ne.mpr c22
     have H' := Aside0.mk H
     clear H
     go_wp2
     go_meet
     case rel => exact ⟨_, (true), sd, H', ⟨om⟩, ⟨by (with_reducible repeat (first | apply Kd.R_alloc | apply Kd.R_drewN | apply Kd.R_drew)); exact Kd.R_mono HO103.out (fun _ hk => ⟨hk.1.1.1.2, ⟨hk.1.1.2, hk.2⟩⟩)⟩, ⟨by (with_reducible repeat (first | apply Kd.R_alloc | apply Kd.R_drewN | apply Kd.R_drew)); exact Kd.R_mono HO109.out (fun _ hk => ⟨hk.1.1.1.1.2, ⟨hk.1.1.2, hk.2⟩⟩)⟩, ⟨by (with_reducible repeat (first | apply Kd.R_alloc | apply Kd.R_drewN | apply Kd.R_drew)); exact Kd.R_mono HO112.out (fun _ hk => ⟨hk.1.1.1.1.2, ⟨hk.1.1.2, hk.2⟩⟩)⟩, ⟨by (with_reducible repeat (first | apply Kd.R_alloc | apply Kd.R_drewN | apply Kd.R_drew)); exact Kd.R_mono HO120.out (fun _ hk => ⟨hk.1.1.1.1.2, ⟨hk.1.1.2, hk.1.2⟩⟩)⟩, ⟨bh⟩⟩
   ·rw [if_neg c21] at H
    have c21b0 : (t117 == 0) = false := beq_eq_false_iff_ne.mpr c21
    have c21b1 : (t117 != 0) = true := bne_iff_ne.mpr c21
    have H' := Aside0.mk H
    clear H
    go_wp2
    go_meet
    case rel => exact ⟨_, (true), sd, H', ⟨om⟩, ⟨by (with_reducible repeat (first | apply Kd.R_alloc | apply Kd.R_drewN | apply Kd.R_drew)); exact Kd.R_mono HO103.out (fun _ hk => ⟨hk.1.1.1.2, ⟨hk.1.1.2, hk.2⟩⟩)⟩, ⟨by (with_reducible repeat (first | apply Kd.R_alloc | apply Kd.R_drewN | apply Kd.R_drew)); exact Kd.R_mono HO109.out (fun _ hk => ⟨hk.1.1.1.1.2, ⟨hk.1.1.2, hk.2⟩⟩)⟩, ⟨by (with_reducible repeat (first | apply Kd.R_alloc | apply Kd.R_drewN | apply Kd.R_drew)); exact Kd.R_mono HO112.out (fun _ hk => ⟨hk.1.1.1.1.2, ⟨hk.1.1.2, hk.2⟩⟩)⟩, ⟨by (with_reducible repeat (first | apply Kd.R_alloc | apply Kd.R_drewN | apply Kd.R_drew)); exact Kd.R_mono HO120.out (fun _ hk => ⟨hk.1.1.1.1.2, ⟨hk.1.1.2, hk.1.2⟩⟩)⟩, ⟨bh⟩⟩
  ·rw [if_neg c20] at H
   have c20b0 : (t113 == 0) = false := beq_eq_false_iff_ne.mpr c20
   have c20b1 : (t113 != 0) = true := bne_iff_ne.mpr c20
   (first | rw [c20b0] | (simp only [i64_w, i32_w]; rw [c20b0]) | skip)
   have H' := Aside0.mk H
   clear H
   go_wp2
   go_meet
   case rel => exact ⟨_, (true), sd, H', ⟨om⟩, ⟨by (with_reducible repeat (first | apply Kd.R_alloc | apply Kd.R_drewN | apply Kd.R_drew)); exact Kd.R_mono HO103.out (fun _ hk => ⟨hk.1.1.1.2, ⟨hk.1.1.2, hk.2⟩⟩)⟩, ⟨by (with_reducible repeat (first | apply Kd.R_alloc | apply Kd.R_drewN | apply Kd.R_drew)); exact Kd.R_mono HO109.out (fun _ hk => ⟨hk.1.1.1.1.2, ⟨hk.1.1.2, hk.2⟩⟩)⟩, ⟨by (with_reducible repeat (first | apply Kd.R_alloc | apply Kd.R_drewN | apply Kd.R_drew)); exact Kd.R_mono HO112.out (fun _ hk => ⟨hk.1.1.1.1.2, ⟨hk.1.1.2, hk.2⟩⟩)⟩, ⟨by (with_reducible repeat (first | apply Kd.R_alloc | apply Kd.R_drewN | apply Kd.R_drew)); exact Kd.R_mono HO120.out (fun _ hk => ⟨hk.1.1.1.1.2, ⟨hk.1.1.2, hk.1.2⟩⟩)⟩, ⟨bh⟩⟩
 case rest =>
  clear HC10
  try clear c1
  try clear c2
  try clear p2
  try clear c4
  try clear c11
  try clear c20
  try clear c20b0
  try clear c20b1
  try clear c21
  try clear c21b0
  try clear c21b1
  try clear c22
  try clear c22b0
  try clear c22b1
  try clear c23
  try clear c24
  try clear c25
  try clear c25b0
  try clear c25b1
  try clear c28
  try clear c28b0
  try clear c28b1
  obtain ⟨kq, x83_9, rfl, HA, HJ9, HO_7, HO_9, HO_10, HO_14, HB⟩ := hcut
  cases kq with
  | zero => exact absurd HA.out (by simp [cracknellaw04_ShapeMinkowski.j0])
  | succ kj9 =>
   have H := HA.out
   clear HA
   simp only [cracknellaw04_ShapeMinkowski.j0] at H
   by_cases c39 : x83_9 = true
   ·subst c39
    rw [if_pos rfl] at H
    obtain rfl := Option.some.inj H
    go_wp2
    go_ret
    exact ⟨by exact er, bh⟩
   ·replace c39 := Bool.eq_false_iff.mpr c39
    subst c39
    rw [if_neg (show ¬ (false = true) by decide)] at H
    replace H := Option.bind_eq_some_iff.mp H
    obtain ⟨⟨t124, t127⟩, A400, H⟩ := H
    replace H : ((shape_Sum.f kj9 t101 t118).bind fun bt128 => ((shape_Sum.f kj9 t101 t101).bind fun bt132 => ((shape_Negative.f kj9 t101).bind fun bt136 => ((shape_Negative.f kj9 bt136.1).bind fun bt140 => ((shape_Area2.f kj9 t101).bind fun bt144 => ((shape_Area2.f kj9 bt132.1).bind fun bt146 => (if t127 = 0 then (if bt128.2 = 0 then (if bt132.2 = 0 then (if bt136.2 = 0 then (if bt140.2 = 0 then (if bt144.2 = 0 then (if bt146.2 = 0 then ((cracknelref04_Same.f kj9 t124 bt128.1).bind fun t148 => (if t148 = true then ((cracknelref04_Same.f kj9 bt140.1 t101).bind fun t149 => (if t149 = true then (some (bt146.1 == (wrap64 (4 * bt144.1)))) else (some false))) else (some false))) else (some false)) else (some false)) else (some false)) else (some false)) else (some false)) else (some false)) else (some false)))))))) = some r := H
    have A40 := Aside0.mk A400
    clear A400
    replace H := Option.bind_eq_some_iff.mp H
    obtain ⟨⟨t128, t131⟩, A410, H⟩ := H
    replace H : ((shape_Sum.f kj9 t101 t101).bind fun bt132 => ((shape_Negative.f kj9 t101).bind fun bt136 => ((shape_Negative.f kj9 bt136.1).bind fun bt140 => ((shape_Area2.f kj9 t101).bind fun bt144 => ((shape_Area2.f kj9 bt132.1).bind fun bt146 => (if t127 = 0 then (if t131 = 0 then (if bt132.2 = 0 then (if bt136.2 = 0 then (if bt140.2 = 0 then (if bt144.2 = 0 then (if bt146.2 = 0 then ((cracknelref04_Same.f kj9 t124 t128).bind fun t148 => (if t148 = true then ((cracknelref04_Same.f kj9 bt140.1 t101).bind fun t149 => (if t149 = true then (some (bt146.1 == (wrap64 (4 * bt144.1)))) else (some false))) else (some false))) else (some false)) else (some false)) else (some false)) else (some false)) else (some false)) else (some false)) else (some false))))))) = some r := H
    have A41 := Aside0.mk A410
    clear A410
    replace H := Option.bind_eq_some_iff.mp H
    obtain ⟨⟨t132, t135⟩, A420, H⟩ := H
    replace H : ((shape_Negative.f kj9 t101).bind fun bt136 => ((shape_Negative.f kj9 bt136.1).bind fun bt140 => ((shape_Area2.f kj9 t101).bind fun bt144 => ((shape_Area2.f kj9 t132).bind fun bt146 => (if t127 = 0 then (if t131 = 0 then (if t135 = 0 then (if bt136.2 = 0 then (if bt140.2 = 0 then (if bt144.2 = 0 then (if bt146.2 = 0 then ((cracknelref04_Same.f kj9 t124 t128).bind fun t148 => (if t148 = true then ((cracknelref04_Same.f kj9 bt140.1 t101).bind fun t149 => (if t149 = true then (some (bt146.1 == (wrap64 (4 * bt144.1)))) else (some false))) else (some false))) else (some false)) else (some false)) else (some false)) else (some false)) else (some false)) else (some false)) else (some false)))))) = some r := H
    have A42 := Aside0.mk A420
    clear A420
    replace H := Option.bind_eq_some_iff.mp H
    obtain ⟨⟨t136, t137⟩, A430, H⟩ := H
    replace H : ((shape_Negative.f kj9 t136).bind fun bt140 => ((shape_Area2.f kj9 t101).bind fun bt144 => ((shape_Area2.f kj9 t132).bind fun bt146 => (if t127 = 0 then (if t131 = 0 then (if t135 = 0 then (if t137 = 0 then (if bt140.2 = 0 then (if bt144.2 = 0 then (if bt146.2 = 0 then ((cracknelref04_Same.f kj9 t124 t128).bind fun t148 => (if t148 = true then ((cracknelref04_Same.f kj9 bt140.1 t101).bind fun t149 => (if t149 = true then (some (bt146.1 == (wrap64 (4 * bt144.1)))) else (some false))) else (some false))) else (some false)) else (some false)) else (some false)) else (some false)) else (some false)) else (some false)) else (some false))))) = some r := H
    have A43 := Aside0.mk A430
    clear A430
    replace H := Option.bind_eq_some_iff.mp H
    obtain ⟨⟨t140, t141⟩, A440, H⟩ := H
    replace H : ((shape_Area2.f kj9 t101).bind fun bt144 => ((shape_Area2.f kj9 t132).bind fun bt146 => (if t127 = 0 then (if t131 = 0 then (if t135 = 0 then (if t137 = 0 then (if t141 = 0 then (if bt144.2 = 0 then (if bt146.2 = 0 then ((cracknelref04_Same.f kj9 t124 t128).bind fun t148 => (if t148 = true then ((cracknelref04_Same.f kj9 t140 t101).bind fun t149 => (if t149 = true then (some (bt146.1 == (wrap64 (4 * bt144.1)))) else (some false))) else (some false))) else (some false)) else (some false)) else (some false)) else (some false)) else (some false)) else (some false)) else (some false)))) = some r := H
    have A44 := Aside0.mk A440
    clear A440
    replace H := Option.bind_eq_some_iff.mp H
    obtain ⟨⟨t144, t145⟩, A450, H⟩ := H
    replace H : ((shape_Area2.f kj9 t132).bind fun bt146 => (if t127 = 0 then (if t131 = 0 then (if t135 = 0 then (if t137 = 0 then (if t141 = 0 then (if t145 = 0 then (if bt146.2 = 0 then ((cracknelref04_Same.f kj9 t124 t128).bind fun t148 => (if t148 = true then ((cracknelref04_Same.f kj9 t140 t101).bind fun t149 => (if t149 = true then (some (bt146.1 == (wrap64 (4 * t144)))) else (some false))) else (some false))) else (some false)) else (some false)) else (some false)) else (some false)) else (some false)) else (some false)) else (some false))) = some r := H
    have A45 := Aside0.mk A450
    clear A450
    replace H := Option.bind_eq_some_iff.mp H
    obtain ⟨⟨t146, t147⟩, A460, H⟩ := H
    replace H : (if t127 = 0 then (if t131 = 0 then (if t135 = 0 then (if t137 = 0 then (if t141 = 0 then (if t145 = 0 then (if t147 = 0 then ((cracknelref04_Same.f kj9 t124 t128).bind fun t148 => (if t148 = true then ((cracknelref04_Same.f kj9 t140 t101).bind fun t149 => (if t149 = true then (some (t146 == (wrap64 (4 * t144)))) else (some false))) else (some false))) else (some false)) else (some false)) else (some false)) else (some false)) else (some false)) else (some false)) else (some false)) = some r := H
    have A46 := Aside0.mk A460
    clear A460
    by_cases c47 : t127 = 0
    ·rw [if_pos c47] at H
     have c47b0 : (t127 == 0) = true := beq_iff_eq.mpr c47
     have c47b1 : (t127 != 0) = false := bne_eq_false_iff_eq.mpr c47
     clear c47
     by_cases c48 : t131 = 0
     ·rw [if_pos c48] at H
      have c48b0 : (t131 == 0) = true := beq_iff_eq.mpr c48
      have c48b1 : (t131 != 0) = false := bne_eq_false_iff_eq.mpr c48
      clear c48
      by_cases c49 : t135 = 0
      ·rw [if_pos c49] at H
       have c49b0 : (t135 == 0) = true := beq_iff_eq.mpr c49
       have c49b1 : (t135 != 0) = false := bne_eq_false_iff_eq.mpr c49
       clear c49
       by_cases c50 : t137 = 0
       ·rw [if_pos c50] at H
        have c50b0 : (t137 == 0) = true := beq_iff_eq.mpr c50
        have c50b1 : (t137 != 0) = false := bne_eq_false_iff_eq.mpr c50
        clear c50
        by_cases c51 : t141 = 0
        ·rw [if_pos c51] at H
         have c51b0 : (t141 == 0) = true := beq_iff_eq.mpr c51
         have c51b1 : (t141 != 0) = false := bne_eq_false_iff_eq.mpr c51
         clear c51
         by_cases c52 : t145 = 0
         ·rw [if_pos c52] at H
          have c52b0 : (t145 == 0) = true := beq_iff_eq.mpr c52
          have c52b1 : (t145 != 0) = false := bne_eq_false_iff_eq.mpr c52
          clear c52
          by_cases c53 : t147 = 0
          ·rw [if_pos c53] at H
           have c53b0 : (t147 == 0) = true := beq_iff_eq.mpr c53
           have c53b1 : (t147 != 0) = false := bne_eq_false_iff_eq.mpr c53
           clear c53
           replace H := Option.bind_eq_some_iff.mp H
           obtain ⟨t148, A540, H⟩ := H
           replace H : (if t148 = true then ((cracknelref04_Same.f kj9 t140 t101).bind fun t149 => (if t149 = true then (some (t146 == (wrap64 (4 * t144)))) else (some false))) else (some false)) = some r := H
           have A54 := Aside0.mk A540
           clear A540
           by_cases c55 : t148 = true
           ·subst c55
            rw [if_pos rfl] at H
            replace H := Option.bind_eq_some_iff.mp H
            obtain ⟨t149, A560, H⟩ := H
            replace H : (if t149 = true then (some (t146 == (wrap64 (4 * t144)))) else (some false)) = some r := H
            have A56 := Aside0.mk A560
            clear A560
            by_cases c57 : t149 = true
            ·subst c57
             rw [if_pos rfl] at H
             obtain rfl := Option.some.inj H
             obtain ⟨Ao58, co58, eo58⟩ := Kd.R_slice HO_10.out
             subst eo58
             go_wp2_with (first | ((with_reducible refine gate_callee (f := 40) rfl ?_); refine goesL_ (some 87) rfl rfl Try.func40 (by kernel_rfl) rfl #[.slice Ao58 t110.length co58, .slice Ao18 t107.length co18] rfl sg ?_; (with_reducible refine (shape_Sum.calls kj9 (fun k_ => some k_ = (.slice Ao58 t110.length co58 : Value).ownBlock) _ _ t110 (fun k_ => some k_ = (.slice Ao18 t107.length co18 : Value).ownBlock) _ _ t107 t124 t127 _ ?side1 ?side2 A40.out).mono ?_); (case side1 => exact Kd.R_V (Kd.R_tight rfl (HO_10.out))); (case side2 => exact Kd.R_V (Kd.R_tight rfl (HO_9.out))); rintro e w59 ⟨v125, rfl, ho0, hb⟩; refine ⟨_, rfl, ?_⟩; have HO126 := Aside0.mk (Kd.R_lower (Kd.R_new' (Kd.R_new' (Kd.R_new' (Kd.R_new' (Kd.R_mono (ok' := fun k_ => True) ho0 (fun _ hk_ => trivial)) (Kd.R_lt (ro HO_7))) (Kd.R_lt (ro HO_9))) (Kd.R_lt (ro HO_10))) (Kd.R_lt (ro HO_14))) (below_size bh)); replace HO_7 := Aside0.mk (Kd.R_elder' (ro HO_7) (Kd.R_base ho0) hb); replace HO_9 := Aside0.mk (Kd.R_elder' (ro HO_9) (Kd.R_base ho0) hb); replace HO_10 := Aside0.mk (Kd.R_elder' (ro HO_10) (Kd.R_base ho0) hb); replace HO_14 := Aside0.mk (Kd.R_elder' (ro HO_14) (Kd.R_base ho0) hb); replace HB := Aside0.mk (below_step bh hb); (try clear hb); (try clear hb2); (try clear hk); (try clear hi); (try clear ho0); obtain ⟨Ao60, co60, eo60⟩ := Kd.R_slice HO_14.out; subst eo60) | ((with_reducible refine gate_callee (f := 40) rfl ?_); refine goesL_ (some 93) rfl rfl Try.func40 (by kernel_rfl) rfl #[.slice Ao14 t101.length co14, .slice Ao60 t118.length co60] rfl sg ?_; (with_reducible refine (shape_Sum.calls kj9 (fun k_ => some k_ = (.slice Ao14 t101.length co14 : Value).ownBlock) _ _ t101 (fun k_ => some k_ = (.slice Ao60 t118.length co60 : Value).ownBlock) _ _ t118 t128 t131 _ ?side1 ?side2 A41.out).mono ?_); (case side1 => exact Kd.R_V (Kd.R_tight rfl (HO_7.out))); (case side2 => exact Kd.R_V (Kd.R_tight rfl (HO_14.out))); rintro e w61 ⟨v129, rfl, ho0, hb⟩; refine ⟨_, rfl, ?_⟩; have HO130 := Aside0.mk (Kd.R_lower (Kd.R_new' (Kd.R_new' (Kd.R_new' (Kd.R_new' (Kd.R_new' (Kd.R_mono (ok' := fun k_ => True) ho0 (fun _ hk_ => trivial)) (Kd.R_lt (ro HO_7))) (Kd.R_lt (ro HO_9))) (Kd.R_lt (ro HO_10))) (Kd.R_lt (ro HO_14))) (Kd.R_lt (ro HO126))) (below_size bh)); replace HO_7 := Aside0.mk (Kd.R_elder' (ro HO_7) (Kd.R_base ho0) hb); replace HO_9 := Aside0.mk (Kd.R_elder' (ro HO_9) (Kd.R_base ho0) hb); replace HO_10 := Aside0.mk (Kd.R_elder' (ro HO_10) (Kd.R_base ho0) hb); replace HO_14 := Aside0.mk (Kd.R_elder' (ro HO_14) (Kd.R_base ho0) hb); replace HO126 := Aside0.mk (Kd.R_elder' (ro HO126) (Kd.R_base ho0) hb); replace HB := Aside0.mk (below_step bh hb); (try clear hb); (try clear hb2); (try clear hk); (try clear hi); (try clear ho0)) | ((with_reducible refine gate_callee (f := 40) rfl ?_); refine goesL_ (some 99) rfl rfl Try.func40 (by kernel_rfl) rfl #[.slice Ao14 t101.length co14, .slice Ao14 t101.length co14] rfl sg ?_; (with_reducible refine (shape_Sum.calls kj9 (fun k_ => some k_ = (.slice Ao14 t101.length co14 : Value).ownBlock) _ _ t101 (fun k_ => some k_ = (.slice Ao14 t101.length co14 : Value).ownBlock) _ _ t101 t132 t135 _ ?side1 ?side2 A42.out).mono ?_); (case side1 => exact Kd.R_V (Kd.R_tight rfl (HO_7.out))); (case side2 => exact Kd.R_V (Kd.R_tight rfl (HO_7.out))); rintro e w62 ⟨v133, rfl, ho0, hb⟩; refine ⟨_, rfl, ?_⟩; have HO134 := Aside0.mk (Kd.R_lower (Kd.R_new' (Kd.R_new' (Kd.R_new' (Kd.R_new' (Kd.R_new' (Kd.R_new' (Kd.R_mono (ok' := fun k_ => True) ho0 (fun _ hk_ => trivial)) (Kd.R_lt (ro HO_7))) (Kd.R_lt (ro HO_9))) (Kd.R_lt (ro HO_10))) (Kd.R_lt (ro HO_14))) (Kd.R_lt (ro HO126))) (Kd.R_lt (ro HO130))) (below_size bh)); replace HO_7 := Aside0.mk (Kd.R_elder' (ro HO_7) (Kd.R_base ho0) hb); replace HO_9 := Aside0.mk (Kd.R_elder' (ro HO_9) (Kd.R_base ho0) hb); replace HO_10 := Aside0.mk (Kd.R_elder' (ro HO_10) (Kd.R_base ho0) hb); replace HO_14 := Aside0.mk (Kd.R_elder' (ro HO_14) (Kd.R_base ho0) hb); replace HO126 := Aside0.mk (Kd.R_elder' (ro HO126) (Kd.R_base ho0) hb); replace HO130 := Aside0.mk (Kd.R_elder' (ro HO130) (Kd.R_base ho0) hb); replace HB := Aside0.mk (below_step bh hb); (try clear hb); (try clear hb2); (try clear hk); (try clear hi); (try clear ho0)) | ((with_reducible refine gate_callee (f := 41) rfl ?_); refine goesL_ (some 104) rfl rfl Try.func41 (by kernel_rfl) rfl #[.slice Ao14 t101.length co14] rfl sg ?_; (with_reducible refine (shape_Negative.calls kj9 _ _ t101 t136 t137 _ ?side1 ?side2 A43.out).mono ?_); (case side1 => exact cs (Kd.R_reads' HO_7.out).2.2); (case side2 => exact (Kd.R_reads' HO_7.out).2.1); rintro e w63 ⟨v138, rfl, ho0, hb⟩; refine ⟨_, rfl, ?_⟩; have HO139 := Aside0.mk (Kd.R_lower (Kd.R_new' (Kd.R_new' (Kd.R_new' (Kd.R_new' (Kd.R_new' (Kd.R_new' (Kd.R_new' ho0 (Kd.R_lt (ro HO_7))) (Kd.R_lt (ro HO_9))) (Kd.R_lt (ro HO_10))) (Kd.R_lt (ro HO_14))) (Kd.R_lt (ro HO126))) (Kd.R_lt (ro HO130))) (Kd.R_lt (ro HO134))) (below_size bh)); replace HO_7 := Aside0.mk (Kd.R_elder' (ro HO_7) (Kd.R_base ho0) hb); replace HO_9 := Aside0.mk (Kd.R_elder' (ro HO_9) (Kd.R_base ho0) hb); replace HO_10 := Aside0.mk (Kd.R_elder' (ro HO_10) (Kd.R_base ho0) hb); replace HO_14 := Aside0.mk (Kd.R_elder' (ro HO_14) (Kd.R_base ho0) hb); replace HO126 := Aside0.mk (Kd.R_elder' (ro HO126) (Kd.R_base ho0) hb); replace HO130 := Aside0.mk (Kd.R_elder' (ro HO130) (Kd.R_base ho0) hb); replace HO134 := Aside0.mk (Kd.R_elder' (ro HO134) (Kd.R_base ho0) hb); replace HB := Aside0.mk (below_step bh hb); (try clear hb); (try clear hb2); (try clear hk); (try clear hi); (try clear ho0); obtain ⟨Ao64, co64, eo64⟩ := Kd.R_slice HO139.out; subst eo64) | ((with_reducible refine gate_callee (f := 41) rfl ?_); refine goesL_ (some 109) rfl rfl Try.func41 (by kernel_rfl) rfl #[.slice Ao64 t136.length co64] rfl sg ?_; (with_reducible refine (shape_Negative.calls kj9 _ _ t136 t140 t141 _ ?side1 ?side2 A44.out).mono ?_); (case side1 => exact cs (Kd.R_reads' HO139.out).2.2); (case side2 => exact (Kd.R_reads' HO139.out).2.1); rintro e w65 ⟨v142, rfl, ho0, hb⟩; refine ⟨_, rfl, ?_⟩; have HO143 := Aside0.mk (Kd.R_lower (Kd.R_new' (Kd.R_new' (Kd.R_new' (Kd.R_new' (Kd.R_new' (Kd.R_new' (Kd.R_new' (Kd.R_new' ho0 (Kd.R_lt (ro HO_7))) (Kd.R_lt (ro HO_9))) (Kd.R_lt (ro HO_10))) (Kd.R_lt (ro HO_14))) (Kd.R_lt (ro HO126))) (Kd.R_lt (ro HO130))) (Kd.R_lt (ro HO134))) (Kd.R_lt (ro HO139))) (below_size bh)); replace HO_7 := Aside0.mk (Kd.R_elder' (ro HO_7) (Kd.R_base ho0) hb); replace HO_9 := Aside0.mk (Kd.R_elder' (ro HO_9) (Kd.R_base ho0) hb); replace HO_10 := Aside0.mk (Kd.R_elder' (ro HO_10) (Kd.R_base ho0) hb); replace HO_14 := Aside0.mk (Kd.R_elder' (ro HO_14) (Kd.R_base ho0) hb); replace HO126 := Aside0.mk (Kd.R_elder' (ro HO126) (Kd.R_base ho0) hb); replace HO130 := Aside0.mk (Kd.R_elder' (ro HO130) (Kd.R_base ho0) hb); replace HO134 := Aside0.mk (Kd.R_elder' (ro HO134) (Kd.R_base ho0) hb); replace HO139 := Aside0.mk (Kd.R_elder' (ro HO139) (Kd.R_base ho0) hb); replace HB := Aside0.mk (below_step bh hb); (try clear hb); (try clear hb2); (try clear hk); (try clear hi); (try clear ho0)) | ((with_reducible refine gate_callee (f := 24) rfl ?_); refine goesL_ (some 114) rfl rfl Try.func24 (by kernel_rfl) rfl #[.slice Ao14 t101.length co14] rfl sg ?_; (with_reducible refine (shape_Area2.calls kj9 _ _ t101 t144 t145 _ ?side1 ?side2 A45.out).mono ?_); (case side1 => exact cs (Kd.R_reads' HO_7.out).2.2); (case side2 => exact (Kd.R_reads' HO_7.out).2.1); rintro e w66 ⟨rfl, hb⟩; refine ⟨_, rfl, ?_⟩; replace HO_7 := Aside0.mk (Kd.R_below (ro HO_7) hb); replace HO_9 := Aside0.mk (Kd.R_below (ro HO_9) hb); replace HO_10 := Aside0.mk (Kd.R_below (ro HO_10) hb); replace HO_14 := Aside0.mk (Kd.R_below (ro HO_14) hb); replace HO126 := Aside0.mk (Kd.R_below (ro HO126) hb); replace HO130 := Aside0.mk (Kd.R_below (ro HO130) hb); replace HO134 := Aside0.mk (Kd.R_below (ro HO134) hb); replace HO139 := Aside0.mk (Kd.R_below (ro HO139) hb); replace HO143 := Aside0.mk (Kd.R_below (ro HO143) hb); replace HB := Aside0.mk (below_step bh hb); (try clear hb); (try clear hb2); (try clear hk); (try clear hi); obtain ⟨Ao67, co67, eo67⟩ := Kd.R_slice HO134.out; subst eo67) | ((with_reducible refine gate_callee (f := 24) rfl ?_); refine goesL_ (some 119) rfl rfl Try.func24 (by kernel_rfl) rfl #[.slice Ao67 t132.length co67] rfl sg ?_; (with_reducible refine (shape_Area2.calls kj9 _ _ t132 t146 t147 _ ?side1 ?side2 A46.out).mono ?_); (case side1 => exact cs (Kd.R_reads' HO134.out).2.2); (case side2 => exact (Kd.R_reads' HO134.out).2.1); rintro e w68 ⟨rfl, hb⟩; refine ⟨_, rfl, ?_⟩; replace HO_7 := Aside0.mk (Kd.R_below (ro HO_7) hb); replace HO_9 := Aside0.mk (Kd.R_below (ro HO_9) hb); replace HO_10 := Aside0.mk (Kd.R_below (ro HO_10) hb); replace HO_14 := Aside0.mk (Kd.R_below (ro HO_14) hb); replace HO126 := Aside0.mk (Kd.R_below (ro HO126) hb); replace HO130 := Aside0.mk (Kd.R_below (ro HO130) hb); replace HO134 := Aside0.mk (Kd.R_below (ro HO134) hb); replace HO139 := Aside0.mk (Kd.R_below (ro HO139) hb); replace HO143 := Aside0.mk (Kd.R_below (ro HO143) hb); replace HB := Aside0.mk (below_step bh hb); (try clear hb); (try clear hb2); (try clear hk); (try clear hi); obtain ⟨Ao69, co69, eo69⟩ := Kd.R_slice HO126.out; subst eo69; obtain ⟨Ao70, co70, eo70⟩ := Kd.R_slice HO130.out; subst eo70) | (go_at_call 20; (with_reducible refine (cracknelref04_Same.calls kj9 _ _ t124 _ _ t128 true _ ?side1 ?side2 ?side3 ?side4 A54.out).mono ?_); (case side1 => exact cs (Kd.R_reads' HO126.out).2.2); (case side2 => exact (Kd.R_reads' HO126.out).2.1); (case side3 => exact cs (Kd.R_reads' HO130.out).2.2); (case side4 => exact (Kd.R_reads' HO130.out).2.1); rintro e w' ⟨rfl, ⟨nd, rfl⟩⟩; obtain ⟨Ao71, co71, eo71⟩ := Kd.R_slice HO143.out; subst eo71) | (go_at_call 20; (with_reducible refine (cracknelref04_Same.calls kj9 _ _ t140 _ _ t101 true _ ?side1 ?side2 ?side3 ?side4 A56.out).mono ?_); (case side1 => exact cs (Kd.R_reads' HO143.out).2.2); (case side2 => exact (Kd.R_reads' HO143.out).2.1); (case side3 => exact cs (Kd.R_reads' HO_7.out).2.2); (case side4 => exact (Kd.R_reads' HO_7.out).2.1); rintro e w' ⟨rfl, ⟨nd, rfl⟩⟩))
             go_ret
             exact ⟨by exact er, bh⟩
            ·replace c57 := Bool.eq_false_iff.mpr c57
             subst c57
             rw [if_neg (show ¬ (false = true) by decide)] at H
             obtain rfl := Option.some.inj H
             obtain ⟨Ao72, co72, eo72⟩ := Kd.R_slice HO_10.out
             subst eo72
             go_wp2_with (first | ((with_reducible refine gate_callee (f := 40) rfl ?_); refine goesL_ (some 87) rfl rfl Try.func40 (by kernel_rfl) rfl #[.slice Ao72 t110.length co72, .slice Ao18 t107.length co18] rfl sg ?_; (with_reducible refine (shape_Sum.calls kj9 (fun k_ => some k_ = (.slice Ao72 t110.length co72 : Value).ownBlock) _ _ t110 (fun k_ => some k_ = (.slice Ao18 t107.length co18 : Value).ownBlock) _ _ t107 t124 t127 _ ?side1 ?side2 A40.out).mono ?_); (case side1 => exact Kd.R_V (Kd.R_tight rfl (HO_10.out))); (case side2 => exact Kd.R_V (Kd.R_tight rfl (HO_9.out))); rintro e w73 ⟨v125, rfl, ho0, hb⟩; refine ⟨_, rfl, ?_⟩; have HO126 := Aside0.mk (Kd.R_lower (Kd.R_new' (Kd.R_new' (Kd.R_new' (Kd.R_new' (Kd.R_mono (ok' := fun k_ => True) ho0 (fun _ hk_ => trivial)) (Kd.R_lt (ro HO_7))) (Kd.R_lt (ro HO_9))) (Kd.R_lt (ro HO_10))) (Kd.R_lt (ro HO_14))) (below_size bh)); replace HO_7 := Aside0.mk (Kd.R_elder' (ro HO_7) (Kd.R_base ho0) hb); replace HO_9 := Aside0.mk (Kd.R_elder' (ro HO_9) (Kd.R_base ho0) hb); replace HO_10 := Aside0.mk (Kd.R_elder' (ro HO_10) (Kd.R_base ho0) hb); replace HO_14 := Aside0.mk (Kd.R_elder' (ro HO_14) (Kd.R_base ho0) hb); replace HB := Aside0.mk (below_step bh hb); (try clear hb); (try clear hb2); (try clear hk); (try clear hi); (try clear ho0); obtain ⟨Ao74, co74, eo74⟩ := Kd.R_slice HO_14.out; subst eo74) | ((with_reducible refine gate_callee (f := 40) rfl ?_); refine goesL_ (some 93) rfl rfl Try.func40 (by kernel_rfl) rfl #[.slice Ao14 t101.length co14, .slice Ao74 t118.length co74] rfl sg ?_; (with_reducible refine (shape_Sum.calls kj9 (fun k_ => some k_ = (.slice Ao14 t101.length co14 : Value).ownBlock) _ _ t101 (fun k_ => some k_ = (.slice Ao74 t118.length co74 : Value).ownBlock) _ _ t118 t128 t131 _ ?side1 ?side2 A41.out).mono ?_); (case side1 => exact Kd.R_V (Kd.R_tight rfl (HO_7.out))); (case side2 => exact Kd.R_V (Kd.R_tight rfl (HO_14.out))); rintro e w75 ⟨v129, rfl, ho0, hb⟩; refine ⟨_, rfl, ?_⟩; have HO130 := Aside0.mk (Kd.R_lower (Kd.R_new' (Kd.R_new' (Kd.R_new' (Kd.R_new' (Kd.R_new' (Kd.R_mono (ok' := fun k_ => True) ho0 (fun _ hk_ => trivial)) (Kd.R_lt (ro HO_7))) (Kd.R_lt (ro HO_9))) (Kd.R_lt (ro HO_10))) (Kd.R_lt (ro HO_14))) (Kd.R_lt (ro HO126))) (below_size bh)); replace HO_7 := Aside0.mk (Kd.R_elder' (ro HO_7) (Kd.R_base ho0) hb); replace HO_9 := Aside0.mk (Kd.R_elder' (ro HO_9) (Kd.R_base ho0) hb); replace HO_10 := Aside0.mk (Kd.R_elder' (ro HO_10) (Kd.R_base ho0) hb); replace HO_14 := Aside0.mk (Kd.R_elder' (ro HO_14) (Kd.R_base ho0) hb); replace HO126 := Aside0.mk (Kd.R_elder' (ro HO126) (Kd.R_base ho0) hb); replace HB := Aside0.mk (below_step bh hb); (try clear hb); (try clear hb2); (try clear hk); (try clear hi); (try clear ho0)) | ((with_reducible refine gate_callee (f := 40) rfl ?_); refine goesL_ (some 99) rfl rfl Try.func40 (by kernel_rfl) rfl #[.slice Ao14 t101.length co14, .slice Ao14 t101.length co14] rfl sg ?_; (with_reducible refine (shape_Sum.calls kj9 (fun k_ => some k_ = (.slice Ao14 t101.length co14 : Value).ownBlock) _ _ t101 (fun k_ => some k_ = (.slice Ao14 t101.length co14 : Value).ownBlock) _ _ t101 t132 t135 _ ?side1 ?side2 A42.out).mono ?_); (case side1 => exact Kd.R_V (Kd.R_tight rfl (HO_7.out))); (case side2 => exact Kd.R_V (Kd.R_tight rfl (HO_7.out))); rintro e w76 ⟨v133, rfl, ho0, hb⟩; refine ⟨_, rfl, ?_⟩; have HO134 := Aside0.mk (Kd.R_lower (Kd.R_new' (Kd.R_new' (Kd.R_new' (Kd.R_new' (Kd.R_new' (Kd.R_new' (Kd.R_mono (ok' := fun k_ => True) ho0 (fun _ hk_ => trivial)) (Kd.R_lt (ro HO_7))) (Kd.R_lt (ro HO_9))) (Kd.R_lt (ro HO_10))) (Kd.R_lt (ro HO_14))) (Kd.R_lt (ro HO126))) (Kd.R_lt (ro HO130))) (below_size bh)); replace HO_7 := Aside0.mk (Kd.R_elder' (ro HO_7) (Kd.R_base ho0) hb); replace HO_9 := Aside0.mk (Kd.R_elder' (ro HO_9) (Kd.R_base ho0) hb); replace HO_10 := Aside0.mk (Kd.R_elder' (ro HO_10) (Kd.R_base ho0) hb); replace HO_14 := Aside0.mk (Kd.R_elder' (ro HO_14) (Kd.R_base ho0) hb); replace HO126 := Aside0.mk (Kd.R_elder' (ro HO126) (Kd.R_base ho0) hb); replace HO130 := Aside0.mk (Kd.R_elder' (ro HO130) (Kd.R_base ho0) hb); replace HB := Aside0.mk (below_step bh hb); (try clear hb); (try clear hb2); (try clear hk); (try clear hi); (try clear ho0)) | ((with_reducible refine gate_callee (f := 41) rfl ?_); refine goesL_ (some 104) rfl rfl Try.func41 (by kernel_rfl) rfl #[.slice Ao14 t101.length co14] rfl sg ?_; (with_reducible refine (shape_Negative.calls kj9 _ _ t101 t136 t137 _ ?side1 ?side2 A43.out).mono ?_); (case side1 => exact cs (Kd.R_reads' HO_7.out).2.2); (case side2 => exact (Kd.R_reads' HO_7.out).2.1); rintro e w77 ⟨v138, rfl, ho0, hb⟩; refine ⟨_, rfl, ?_⟩; have HO139 := Aside0.mk (Kd.R_lower (Kd.R_new' (Kd.R_new' (Kd.R_new' (Kd.R_new' (Kd.R_new' (Kd.R_new' (Kd.R_new' ho0 (Kd.R_lt (ro HO_7))) (Kd.R_lt (ro HO_9))) (Kd.R_lt (ro HO_10))) (Kd.R_lt (ro HO_14))) (Kd.R_lt (ro HO126))) (Kd.R_lt (ro HO130))) (Kd.R_lt (ro HO134))) (below_size bh)); replace HO_7 := Aside0.mk (Kd.R_elder' (ro HO_7) (Kd.R_base ho0) hb); replace HO_9 := Aside0.mk (Kd.R_elder' (ro HO_9) (Kd.R_base ho0) hb); replace HO_10 := Aside0.mk (Kd.R_elder' (ro HO_10) (Kd.R_base ho0) hb); replace HO_14 := Aside0.mk (Kd.R_elder' (ro HO_14) (Kd.R_base ho0) hb); replace HO126 := Aside0.mk (Kd.R_elder' (ro HO126) (Kd.R_base ho0) hb); replace HO130 := Aside0.mk (Kd.R_elder' (ro HO130) (Kd.R_base ho0) hb); replace HO134 := Aside0.mk (Kd.R_elder' (ro HO134) (Kd.R_base ho0) hb); replace HB := Aside0.mk (below_step bh hb); (try clear hb); (try clear hb2); (try clear hk); (try clear hi); (try clear ho0); obtain ⟨Ao78, co78, eo78⟩ := Kd.R_slice HO139.out; subst eo78) | ((with_reducible refine gate_callee (f := 41) rfl ?_); refine goesL_ (some 109) rfl rfl Try.func41 (by kernel_rfl) rfl #[.slice Ao78 t136.length co78] rfl sg ?_; (with_reducible refine (shape_Negative.calls kj9 _ _ t136 t140 t141 _ ?side1 ?side2 A44.out).mono ?_); (case side1 => exact cs (Kd.R_reads' HO139.out).2.2); (case side2 => exact (Kd.R_reads' HO139.out).2.1); rintro e w79 ⟨v142, rfl, ho0, hb⟩; refine ⟨_, rfl, ?_⟩; have HO143 := Aside0.mk (Kd.R_lower (Kd.R_new' (Kd.R_new' (Kd.R_new' (Kd.R_new' (Kd.R_new' (Kd.R_new' (Kd.R_new' (Kd.R_new' ho0 (Kd.R_lt (ro HO_7))) (Kd.R_lt (ro HO_9))) (Kd.R_lt (ro HO_10))) (Kd.R_lt (ro HO_14))) (Kd.R_lt (ro HO126))) (Kd.R_lt (ro HO130))) (Kd.R_lt (ro HO134))) (Kd.R_lt (ro HO139))) (below_size bh)); replace HO_7 := Aside0.mk (Kd.R_elder' (ro HO_7) (Kd.R_base ho0) hb); replace HO_9 := Aside0.mk (Kd.R_elder' (ro HO_9) (Kd.R_base ho0) hb); replace HO_10 := Aside0.mk (Kd.R_elder' (ro HO_10) (Kd.R_base ho0) hb); replace HO_14 := Aside0.mk (Kd.R_elder' (ro HO_14) (Kd.R_base ho0) hb); replace HO126 := Aside0.mk (Kd.R_elder' (ro HO126) (Kd.R_base ho0) hb); replace HO130 := Aside0.mk (Kd.R_elder' (ro HO130) (Kd.R_base ho0) hb); replace HO134 := Aside0.mk (Kd.R_elder' (ro HO134) (Kd.R_base ho0) hb); replace HO139 := Aside0.mk (Kd.R_elder' (ro HO139) (Kd.R_base ho0) hb); replace HB := Aside0.mk (below_step bh hb); (try clear hb); (try clear hb2); (try clear hk); (try clear hi); (try clear ho0)) | ((with_reducible refine gate_callee (f := 24) rfl ?_); refine goesL_ (some 114) rfl rfl Try.func24 (by kernel_rfl) rfl #[.slice Ao14 t101.length co14] rfl sg ?_; (with_reducible refine (shape_Area2.calls kj9 _ _ t101 t144 t145 _ ?side1 ?side2 A45.out).mono ?_); (case side1 => exact cs (Kd.R_reads' HO_7.out).2.2); (case side2 => exact (Kd.R_reads' HO_7.out).2.1); rintro e w80 ⟨rfl, hb⟩; refine ⟨_, rfl, ?_⟩; replace HO_7 := Aside0.mk (Kd.R_below (ro HO_7) hb); replace HO_9 := Aside0.mk (Kd.R_below (ro HO_9) hb); replace HO_10 := Aside0.mk (Kd.R_below (ro HO_10) hb); replace HO_14 := Aside0.mk (Kd.R_below (ro HO_14) hb); replace HO126 := Aside0.mk (Kd.R_below (ro HO126) hb); replace HO130 := Aside0.mk (Kd.R_below (ro HO130) hb); replace HO134 := Aside0.mk (Kd.R_below (ro HO134) hb); replace HO139 := Aside0.mk (Kd.R_below (ro HO139) hb); replace HO143 := Aside0.mk (Kd.R_below (ro HO143) hb); replace HB := Aside0.mk (below_step bh hb); (try clear hb); (try clear hb2); (try clear hk); (try clear hi); obtain ⟨Ao81, co81, eo81⟩ := Kd.R_slice HO134.out; subst eo81) | ((with_reducible refine gate_callee (f := 24) rfl ?_); refine goesL_ (some 119) rfl rfl Try.func24 (by kernel_rfl) rfl #[.slice Ao81 t132.length co81] rfl sg ?_; (with_reducible refine (shape_Area2.calls kj9 _ _ t132 t146 t147 _ ?side1 ?side2 A46.out).mono ?_); (case side1 => exact cs (Kd.R_reads' HO134.out).2.2); (case side2 => exact (Kd.R_reads' HO134.out).2.1); rintro e w82 ⟨rfl, hb⟩; refine ⟨_, rfl, ?_⟩; replace HO_7 := Aside0.mk (Kd.R_below (ro HO_7) hb); replace HO_9 := Aside0.mk (Kd.R_below (ro HO_9) hb); replace HO_10 := Aside0.mk (Kd.R_below (ro HO_10) hb); replace HO_14 := Aside0.mk (Kd.R_below (ro HO_14) hb); replace HO126 := Aside0.mk (Kd.R_below (ro HO126) hb); replace HO130 := Aside0.mk (Kd.R_below (ro HO130) hb); replace HO134 := Aside0.mk (Kd.R_below (ro HO134) hb); replace HO139 := Aside0.mk (Kd.R_below (ro HO139) hb); replace HO143 := Aside0.mk (Kd.R_below (ro HO143) hb); replace HB := Aside0.mk (below_step bh hb); (try clear hb); (try clear hb2); (try clear hk); (try clear hi); obtain ⟨Ao83, co83, eo83⟩ := Kd.R_slice HO126.out; subst eo83; obtain ⟨Ao84, co84, eo84⟩ := Kd.R_slice HO130.out; subst eo84) | (go_at_call 20; (with_reducible refine (cracknelref04_Same.calls kj9 _ _ t124 _ _ t128 true _ ?side1 ?side2 ?side3 ?side4 A54.out).mono ?_); (case side1 => exact cs (Kd.R_reads' HO126.out).2.2); (case side2 => exact (Kd.R_reads' HO126.out).2.1); (case side3 => exact cs (Kd.R_reads' HO130.out).2.2); (case side4 => exact (Kd.R_reads' HO130.out).2.1); rintro e w' ⟨rfl, ⟨nd, rfl⟩⟩; obtain ⟨Ao85, co85, eo85⟩ := Kd.R_slice HO143.out; subst eo85) | (go_at_call 20; (with_reducible refine (cracknelref04_Same.calls kj9 _ _ t140 _ _ t101 false _ ?side1 ?side2 ?side3 ?side4 A56.out).mono ?_); (case side1 => exact cs (Kd.R_reads' HO143.out).2.2); (case side2 => exact (Kd.R_reads' HO143.out).2.1); (case side3 => exact cs (Kd.R_reads' HO_7.out).2.2); (case side4 => exact (Kd.R_reads' HO_7.out).2.1); rintro e w' ⟨rfl, ⟨nd, rfl⟩⟩))
             go_ret
             exact ⟨by exact er, bh⟩
           ·replace c55 := Bool.eq_false_iff.mpr c55
            subst c55
            rw [if_neg (show ¬ (false = true) by decide)] at H
            obtain rfl := Option.some.inj H
            obtain ⟨Ao86, co86, eo86⟩ := Kd.R_slice HO_10.out
            subst eo86
            go_wp2_with (first | ((with_reducible refine gate_callee (f := 40) rfl ?_); refine goesL_ (some 87) rfl rfl Try.func40 (by kernel_rfl) rfl #[.slice Ao86 t110.length co86, .slice Ao18 t107.length co18] rfl sg ?_; (with_reducible refine (shape_Sum.calls kj9 (fun k_ => some k_ = (.slice Ao86 t110.length co86 : Value).ownBlock) _ _ t110 (fun k_ => some k_ = (.slice Ao18 t107.length co18 : Value).ownBlock) _ _ t107 t124 t127 _ ?side1 ?side2 A40.out).mono ?_); (case side1 => exact Kd.R_V (Kd.R_tight rfl (HO_10.out))); (case side2 => exact Kd.R_V (Kd.R_tight rfl (HO_9.out))); rintro e w87 ⟨v125, rfl, ho0, hb⟩; refine ⟨_, rfl, ?_⟩; have HO126 := Aside0.mk (Kd.R_lower (Kd.R_new' (Kd.R_new' (Kd.R_new' (Kd.R_new' (Kd.R_mono (ok' := fun k_ => True) ho0 (fun _ hk_ => trivial)) (Kd.R_lt (ro HO_7))) (Kd.R_lt (ro HO_9))) (Kd.R_lt (ro HO_10))) (Kd.R_lt (ro HO_14))) (below_size bh)); replace HO_7 := Aside0.mk (Kd.R_elder' (ro HO_7) (Kd.R_base ho0) hb); replace HO_9 := Aside0.mk (Kd.R_elder' (ro HO_9) (Kd.R_base ho0) hb); replace HO_10 := Aside0.mk (Kd.R_elder' (ro HO_10) (Kd.R_base ho0) hb); replace HO_14 := Aside0.mk (Kd.R_elder' (ro HO_14) (Kd.R_base ho0) hb); replace HB := Aside0.mk (below_step bh hb); (try clear hb); (try clear hb2); (try clear hk); (try clear hi); (try clear ho0); obtain ⟨Ao88, co88, eo88⟩ := Kd.R_slice HO_14.out; subst eo88) | ((with_reducible refine gate_callee (f := 40) rfl ?_); refine goesL_ (some 93) rfl rfl Try.func40 (by kernel_rfl) rfl #[.slice Ao14 t101.length co14, .slice Ao88 t118.length co88] rfl sg ?_; (with_reducible refine (shape_Sum.calls kj9 (fun k_ => some k_ = (.slice Ao14 t101.length co14 : Value).ownBlock) _ _ t101 (fun k_ => some k_ = (.slice Ao88 t118.length co88 : Value).ownBlock) _ _ t118 t128 t131 _ ?side1 ?side2 A41.out).mono ?_); (case side1 => exact Kd.R_V (Kd.R_tight rfl (HO_7.out))); (case side2 => exact Kd.R_V (Kd.R_tight rfl (HO_14.out))); rintro e w89 ⟨v129, rfl, ho0, hb⟩; refine ⟨_, rfl, ?_⟩; have HO130 := Aside0.mk (Kd.R_lower (Kd.R_new' (Kd.R_new' (Kd.R_new' (Kd.R_new' (Kd.R_new' (Kd.R_mono (ok' := fun k_ => True) ho0 (fun _ hk_ => trivial)) (Kd.R_lt (ro HO_7))) (Kd.R_lt (ro HO_9))) (Kd.R_lt (ro HO_10))) (Kd.R_lt (ro HO_14))) (Kd.R_lt (ro HO126))) (below_size bh)); replace HO_7 := Aside0.mk (Kd.R_elder' (ro HO_7) (Kd.R_base ho0) hb); replace HO_9 := Aside0.mk (Kd.R_elder' (ro HO_9) (Kd.R_base ho0) hb); replace HO_10 := Aside0.mk (Kd.R_elder' (ro HO_10) (Kd.R_base ho0) hb); replace HO_14 := Aside0.mk (Kd.R_elder' (ro HO_14) (Kd.R_base ho0) hb); replace HO126 := Aside0.mk (Kd.R_elder' (ro HO126) (Kd.R_base ho0) hb); replace HB := Aside0.mk (below_step bh hb); (try clear hb); (try clear hb2); (try clear hk); (try clear hi); (try clear ho0)) | ((with_reducible refine gate_callee (f := 40) rfl ?_); refine goesL_ (some 99) rfl rfl Try.func40 (by kernel_rfl) rfl #[.slice Ao14 t101.length co14, .slice Ao14 t101.length co14] rfl sg ?_; (with_reducible refine (shape_Sum.calls kj9 (fun k_ => some k_ = (.slice Ao14 t101.length co14 : Value).ownBlock) _ _ t101 (fun k_ => some k_ = (.slice Ao14 t101.length co14 : Value).ownBlock) _ _ t101 t132 t135 _ ?side1 ?side2 A42.out).mono ?_); (case side1 => exact Kd.R_V (Kd.R_tight rfl (HO_7.out))); (case side2 => exact Kd.R_V (Kd.R_tight rfl (HO_7.out))); rintro e w90 ⟨v133, rfl, ho0, hb⟩; refine ⟨_, rfl, ?_⟩; have HO134 := Aside0.mk (Kd.R_lower (Kd.R_new' (Kd.R_new' (Kd.R_new' (Kd.R_new' (Kd.R_new' (Kd.R_new' (Kd.R_mono (ok' := fun k_ => True) ho0 (fun _ hk_ => trivial)) (Kd.R_lt (ro HO_7))) (Kd.R_lt (ro HO_9))) (Kd.R_lt (ro HO_10))) (Kd.R_lt (ro HO_14))) (Kd.R_lt (ro HO126))) (Kd.R_lt (ro HO130))) (below_size bh)); replace HO_7 := Aside0.mk (Kd.R_elder' (ro HO_7) (Kd.R_base ho0) hb); replace HO_9 := Aside0.mk (Kd.R_elder' (ro HO_9) (Kd.R_base ho0) hb); replace HO_10 := Aside0.mk (Kd.R_elder' (ro HO_10) (Kd.R_base ho0) hb); replace HO_14 := Aside0.mk (Kd.R_elder' (ro HO_14) (Kd.R_base ho0) hb); replace HO126 := Aside0.mk (Kd.R_elder' (ro HO126) (Kd.R_base ho0) hb); replace HO130 := Aside0.mk (Kd.R_elder' (ro HO130) (Kd.R_base ho0) hb); replace HB := Aside0.mk (below_step bh hb); (try clear hb); (try clear hb2); (try clear hk); (try clear hi); (try clear ho0)) | ((with_reducible refine gate_callee (f := 41) rfl ?_); refine goesL_ (some 104) rfl rfl Try.func41 (by kernel_rfl) rfl #[.slice Ao14 t101.length co14] rfl sg ?_; (with_reducible refine (shape_Negative.calls kj9 _ _ t101 t136 t137 _ ?side1 ?side2 A43.out).mono ?_); (case side1 => exact cs (Kd.R_reads' HO_7.out).2.2); (case side2 => exact (Kd.R_reads' HO_7.out).2.1); rintro e w91 ⟨v138, rfl, ho0, hb⟩; refine ⟨_, rfl, ?_⟩; have HO139 := Aside0.mk (Kd.R_lower (Kd.R_new' (Kd.R_new' (Kd.R_new' (Kd.R_new' (Kd.R_new' (Kd.R_new' (Kd.R_new' ho0 (Kd.R_lt (ro HO_7))) (Kd.R_lt (ro HO_9))) (Kd.R_lt (ro HO_10))) (Kd.R_lt (ro HO_14))) (Kd.R_lt (ro HO126))) (Kd.R_lt (ro HO130))) (Kd.R_lt (ro HO134))) (below_size bh)); replace HO_7 := Aside0.mk (Kd.R_elder' (ro HO_7) (Kd.R_base ho0) hb); replace HO_9 := Aside0.mk (Kd.R_elder' (ro HO_9) (Kd.R_base ho0) hb); replace HO_10 := Aside0.mk (Kd.R_elder' (ro HO_10) (Kd.R_base ho0) hb); replace HO_14 := Aside0.mk (Kd.R_elder' (ro HO_14) (Kd.R_base ho0) hb); replace HO126 := Aside0.mk (Kd.R_elder' (ro HO126) (Kd.R_base ho0) hb); replace HO130 := Aside0.mk (Kd.R_elder' (ro HO130) (Kd.R_base ho0) hb); replace HO134 := Aside0.mk (Kd.R_elder' (ro HO134) (Kd.R_base ho0) hb); replace HB := Aside0.mk (below_step bh hb); (try clear hb); (try clear hb2); (try clear hk); (try clear hi); (try clear ho0); obtain ⟨Ao92, co92, eo92⟩ := Kd.R_slice HO139.out; subst eo92) | ((with_reducible refine gate_callee (f := 41) rfl ?_); refine goesL_ (some 109) rfl rfl Try.func41 (by kernel_rfl) rfl #[.slice Ao92 t136.length co92] rfl sg ?_; (with_reducible refine (shape_Negative.calls kj9 _ _ t136 t140 t141 _ ?side1 ?side2 A44.out).mono ?_); (case side1 => exact cs (Kd.R_reads' HO139.out).2.2); (case side2 => exact (Kd.R_reads' HO139.out).2.1); rintro e w93 ⟨v142, rfl, ho0, hb⟩; refine ⟨_, rfl, ?_⟩; have HO143 := Aside0.mk (Kd.R_lower (Kd.R_new' (Kd.R_new' (Kd.R_new' (Kd.R_new' (Kd.R_new' (Kd.R_new' (Kd.R_new' (Kd.R_new' ho0 (Kd.R_lt (ro HO_7))) (Kd.R_lt (ro HO_9))) (Kd.R_lt (ro HO_10))) (Kd.R_lt (ro HO_14))) (Kd.R_lt (ro HO126))) (Kd.R_lt (ro HO130))) (Kd.R_lt (ro HO134))) (Kd.R_lt (ro HO139))) (below_size bh)); replace HO_7 := Aside0.mk (Kd.R_elder' (ro HO_7) (Kd.R_base ho0) hb); replace HO_9 := Aside0.mk (Kd.R_elder' (ro HO_9) (Kd.R_base ho0) hb); replace HO_10 := Aside0.mk (Kd.R_elder' (ro HO_10) (Kd.R_base ho0) hb); replace HO_14 := Aside0.mk (Kd.R_elder' (ro HO_14) (Kd.R_base ho0) hb); replace HO126 := Aside0.mk (Kd.R_elder' (ro HO126) (Kd.R_base ho0) hb); replace HO130 := Aside0.mk (Kd.R_elder' (ro HO130) (Kd.R_base ho0) hb); replace HO134 := Aside0.mk (Kd.R_elder' (ro HO134) (Kd.R_base ho0) hb); replace HO139 := Aside0.mk (Kd.R_elder' (ro HO139) (Kd.R_base ho0) hb); replace HB := Aside0.mk (below_step bh hb); (try clear hb); (try clear hb2); (try clear hk); (try clear hi); (try clear ho0)) | ((with_reducible refine gate_callee (f := 24) rfl ?_); refine goesL_ (some 114) rfl rfl Try.func24 (by kernel_rfl) rfl #[.slice Ao14 t101.length co14] rfl sg ?_; (with_reducible refine (shape_Area2.calls kj9 _ _ t101 t144 t145 _ ?side1 ?side2 A45.out).mono ?_); (case side1 => exact cs (Kd.R_reads' HO_7.out).2.2); (case side2 => exact (Kd.R_reads' HO_7.out).2.1); rintro e w94 ⟨rfl, hb⟩; refine ⟨_, rfl, ?_⟩; replace HO_7 := Aside0.mk (Kd.R_below (ro HO_7) hb); replace HO_9 := Aside0.mk (Kd.R_below (ro HO_9) hb); replace HO_10 := Aside0.mk (Kd.R_below (ro HO_10) hb); replace HO_14 := Aside0.mk (Kd.R_below (ro HO_14) hb); replace HO126 := Aside0.mk (Kd.R_below (ro HO126) hb); replace HO130 := Aside0.mk (Kd.R_below (ro HO130) hb); replace HO134 := Aside0.mk (Kd.R_below (ro HO134) hb); replace HO139 := Aside0.mk (Kd.R_below (ro HO139) hb); replace HO143 := Aside0.mk (Kd.R_below (ro HO143) hb); replace HB := Aside0.mk (below_step bh hb); (try clear hb); (try clear hb2); (try clear hk); (try clear hi); obtain ⟨Ao95, co95, eo95⟩ := Kd.R_slice HO134.out; subst eo95) | ((with_reducible refine gate_callee (f := 24) rfl ?_); refine goesL_ (some 119) rfl rfl Try.func24 (by kernel_rfl) rfl #[.slice Ao95 t132.length co95] rfl sg ?_; (with_reducible refine (shape_Area2.calls kj9 _ _ t132 t146 t147 _ ?side1 ?side2 A46.out).mono ?_); (case side1 => exact cs (Kd.R_reads' HO134.out).2.2); (case side2 => exact (Kd.R_reads' HO134.out).2.1); rintro e w96 ⟨rfl, hb⟩; refine ⟨_, rfl, ?_⟩; replace HO_7 := Aside0.mk (Kd.R_below (ro HO_7) hb); replace HO_9 := Aside0.mk (Kd.R_below (ro HO_9) hb); replace HO_10 := Aside0.mk (Kd.R_below (ro HO_10) hb); replace HO_14 := Aside0.mk (Kd.R_below (ro HO_14) hb); replace HO126 := Aside0.mk (Kd.R_below (ro HO126) hb); replace HO130 := Aside0.mk (Kd.R_below (ro HO130) hb); replace HO134 := Aside0.mk (Kd.R_below (ro HO134) hb); replace HO139 := Aside0.mk (Kd.R_below (ro HO139) hb); replace HO143 := Aside0.mk (Kd.R_below (ro HO143) hb); replace HB := Aside0.mk (below_step bh hb); (try clear hb); (try clear hb2); (try clear hk); (try clear hi); obtain ⟨Ao97, co97, eo97⟩ := Kd.R_slice HO126.out; subst eo97; obtain ⟨Ao98, co98, eo98⟩ := Kd.R_slice HO130.out; subst eo98) | (go_at_call 20; (with_reducible refine (cracknelref04_Same.calls kj9 _ _ t124 _ _ t128 false _ ?side1 ?side2 ?side3 ?side4 A54.out).mono ?_); (case side1 => exact cs (Kd.R_reads' HO126.out).2.2); (case side2 => exact (Kd.R_reads' HO126.out).2.1); (case side3 => exact cs (Kd.R_reads' HO130.out).2.2); (case side4 => exact (Kd.R_reads' HO130.out).2.1); rintro e w' ⟨rfl, ⟨nd, rfl⟩⟩))
            go_ret
            exact ⟨by exact er, bh⟩
          ·rw [if_neg c53] at H
           have c53b0 : (t147 == 0) = false := beq_eq_false_iff_ne.mpr c53
           have c53b1 : (t147 != 0) = true := bne_iff_ne.mpr c53
           obtain rfl := Option.some.inj H
           obtain ⟨Ao99, co99, eo99⟩ := Kd.R_slice HO_10.out
           subst eo99
           go_wp2_with (first | ((with_reducible refine gate_callee (f := 40) rfl ?_); refine goesL_ (some 87) rfl rfl Try.func40 (by kernel_rfl) rfl #[.slice Ao99 t110.length co99, .slice Ao18 t107.length co18] rfl sg ?_; (with_reducible refine (shape_Sum.calls kj9 (fun k_ => some k_ = (.slice Ao99 t110.length co99 : Value).ownBlock) _ _ t110 (fun k_ => some k_ = (.slice Ao18 t107.length co18 : Value).ownBlock) _ _ t107 t124 t127 _ ?side1 ?side2 A40.out).mono ?_); (case side1 => exact Kd.R_V (Kd.R_tight rfl (HO_10.out))); (case side2 => exact Kd.R_V (Kd.R_tight rfl (HO_9.out))); rintro e w100 ⟨v125, rfl, ho0, hb⟩; refine ⟨_, rfl, ?_⟩; have HO126 := Aside0.mk (Kd.R_lower (Kd.R_new' (Kd.R_new' (Kd.R_new' (Kd.R_new' (Kd.R_mono (ok' := fun k_ => True) ho0 (fun _ hk_ => trivial)) (Kd.R_lt (ro HO_7))) (Kd.R_lt (ro HO_9))) (Kd.R_lt (ro HO_10))) (Kd.R_lt (ro HO_14))) (below_size bh)); replace HO_7 := Aside0.mk (Kd.R_elder' (ro HO_7) (Kd.R_base ho0) hb); replace HO_9 := Aside0.mk (Kd.R_elder' (ro HO_9) (Kd.R_base ho0) hb); replace HO_10 := Aside0.mk (Kd.R_elder' (ro HO_10) (Kd.R_base ho0) hb); replace HO_14 := Aside0.mk (Kd.R_elder' (ro HO_14) (Kd.R_base ho0) hb); replace HB := Aside0.mk (below_step bh hb); (try clear hb); (try clear hb2); (try clear hk); (try clear hi); (try clear ho0); obtain ⟨Ao101, co101, eo101⟩ := Kd.R_slice HO_14.out; subst eo101) | ((with_reducible refine gate_callee (f := 40) rfl ?_); refine goesL_ (some 93) rfl rfl Try.func40 (by kernel_rfl) rfl #[.slice Ao14 t101.length co14, .slice Ao101 t118.length co101] rfl sg ?_; (with_reducible refine (shape_Sum.calls kj9 (fun k_ => some k_ = (.slice Ao14 t101.length co14 : Value).ownBlock) _ _ t101 (fun k_ => some k_ = (.slice Ao101 t118.length co101 : Value).ownBlock) _ _ t118 t128 t131 _ ?side1 ?side2 A41.out).mono ?_); (case side1 => exact Kd.R_V (Kd.R_tight rfl (HO_7.out))); (case side2 => exact Kd.R_V (Kd.R_tight rfl (HO_14.out))); rintro e w102 ⟨v129, rfl, ho0, hb⟩; refine ⟨_, rfl, ?_⟩; have HO130 := Aside0.mk (Kd.R_lower (Kd.R_new' (Kd.R_new' (Kd.R_new' (Kd.R_new' (Kd.R_new' (Kd.R_mono (ok' := fun k_ => True) ho0 (fun _ hk_ => trivial)) (Kd.R_lt (ro HO_7))) (Kd.R_lt (ro HO_9))) (Kd.R_lt (ro HO_10))) (Kd.R_lt (ro HO_14))) (Kd.R_lt (ro HO126))) (below_size bh)); replace HO_7 := Aside0.mk (Kd.R_elder' (ro HO_7) (Kd.R_base ho0) hb); replace HO_9 := Aside0.mk (Kd.R_elder' (ro HO_9) (Kd.R_base ho0) hb); replace HO_10 := Aside0.mk (Kd.R_elder' (ro HO_10) (Kd.R_base ho0) hb); replace HO_14 := Aside0.mk (Kd.R_elder' (ro HO_14) (Kd.R_base ho0) hb); replace HO126 := Aside0.mk (Kd.R_elder' (ro HO126) (Kd.R_base ho0) hb); replace HB := Aside0.mk (below_step bh hb); (try clear hb); (try clear hb2); (try clear hk); (try clear hi); (try clear ho0)) | ((with_reducible refine gate_callee (f := 40) rfl ?_); refine goesL_ (some 99) rfl rfl Try.func40 (by kernel_rfl) rfl #[.slice Ao14 t101.length co14, .slice Ao14 t101.length co14] rfl sg ?_; (with_reducible refine (shape_Sum.calls kj9 (fun k_ => some k_ = (.slice Ao14 t101.length co14 : Value).ownBlock) _ _ t101 (fun k_ => some k_ = (.slice Ao14 t101.length co14 : Value).ownBlock) _ _ t101 t132 t135 _ ?side1 ?side2 A42.out).mono ?_); (case side1 => exact Kd.R_V (Kd.R_tight rfl (HO_7.out))); (case side2 => exact Kd.R_V (Kd.R_tight rfl (HO_7.out))); rintro e w103 ⟨v133, rfl, ho0, hb⟩; refine ⟨_, rfl, ?_⟩; have HO134 := Aside0.mk (Kd.R_lower (Kd.R_new' (Kd.R_new' (Kd.R_new' (Kd.R_new' (Kd.R_new' (Kd.R_new' (Kd.R_mono (ok' := fun k_ => True) ho0 (fun _ hk_ => trivial)) (Kd.R_lt (ro HO_7))) (Kd.R_lt (ro HO_9))) (Kd.R_lt (ro HO_10))) (Kd.R_lt (ro HO_14))) (Kd.R_lt (ro HO126))) (Kd.R_lt (ro HO130))) (below_size bh)); replace HO_7 := Aside0.mk (Kd.R_elder' (ro HO_7) (Kd.R_base ho0) hb); replace HO_9 := Aside0.mk (Kd.R_elder' (ro HO_9) (Kd.R_base ho0) hb); replace HO_10 := Aside0.mk (Kd.R_elder' (ro HO_10) (Kd.R_base ho0) hb); replace HO_14 := Aside0.mk (Kd.R_elder' (ro HO_14) (Kd.R_base ho0) hb); replace HO126 := Aside0.mk (Kd.R_elder' (ro HO126) (Kd.R_base ho0) hb); replace HO130 := Aside0.mk (Kd.R_elder' (ro HO130) (Kd.R_base ho0) hb); replace HB := Aside0.mk (below_step bh hb); (try clear hb); (try clear hb2); (try clear hk); (try clear hi); (try clear ho0)) | ((with_reducible refine gate_callee (f := 41) rfl ?_); refine goesL_ (some 104) rfl rfl Try.func41 (by kernel_rfl) rfl #[.slice Ao14 t101.length co14] rfl sg ?_; (with_reducible refine (shape_Negative.calls kj9 _ _ t101 t136 t137 _ ?side1 ?side2 A43.out).mono ?_); (case side1 => exact cs (Kd.R_reads' HO_7.out).2.2); (case side2 => exact (Kd.R_reads' HO_7.out).2.1); rintro e w104 ⟨v138, rfl, ho0, hb⟩; refine ⟨_, rfl, ?_⟩; have HO139 := Aside0.mk (Kd.R_lower (Kd.R_new' (Kd.R_new' (Kd.R_new' (Kd.R_new' (Kd.R_new' (Kd.R_new' (Kd.R_new' ho0 (Kd.R_lt (ro HO_7))) (Kd.R_lt (ro HO_9))) (Kd.R_lt (ro HO_10))) (Kd.R_lt (ro HO_14))) (Kd.R_lt (ro HO126))) (Kd.R_lt (ro HO130))) (Kd.R_lt (ro HO134))) (below_size bh)); replace HO_7 := Aside0.mk (Kd.R_elder' (ro HO_7) (Kd.R_base ho0) hb); replace HO_9 := Aside0.mk (Kd.R_elder' (ro HO_9) (Kd.R_base ho0) hb); replace HO_10 := Aside0.mk (Kd.R_elder' (ro HO_10) (Kd.R_base ho0) hb); replace HO_14 := Aside0.mk (Kd.R_elder' (ro HO_14) (Kd.R_base ho0) hb); replace HO126 := Aside0.mk (Kd.R_elder' (ro HO126) (Kd.R_base ho0) hb); replace HO130 := Aside0.mk (Kd.R_elder' (ro HO130) (Kd.R_base ho0) hb); replace HO134 := Aside0.mk (Kd.R_elder' (ro HO134) (Kd.R_base ho0) hb); replace HB := Aside0.mk (below_step bh hb); (try clear hb); (try clear hb2); (try clear hk); (try clear hi); (try clear ho0); obtain ⟨Ao105, co105, eo105⟩ := Kd.R_slice HO139.out; subst eo105) | ((with_reducible refine gate_callee (f := 41) rfl ?_); refine goesL_ (some 109) rfl rfl Try.func41 (by kernel_rfl) rfl #[.slice Ao105 t136.length co105] rfl sg ?_; (with_reducible refine (shape_Negative.calls kj9 _ _ t136 t140 t141 _ ?side1 ?side2 A44.out).mono ?_); (case side1 => exact cs (Kd.R_reads' HO139.out).2.2); (case side2 => exact (Kd.R_reads' HO139.out).2.1); rintro e w106 ⟨v142, rfl, ho0, hb⟩; refine ⟨_, rfl, ?_⟩; have HO143 := Aside0.mk (Kd.R_lower (Kd.R_new' (Kd.R_new' (Kd.R_new' (Kd.R_new' (Kd.R_new' (Kd.R_new' (Kd.R_new' (Kd.R_new' ho0 (Kd.R_lt (ro HO_7))) (Kd.R_lt (ro HO_9))) (Kd.R_lt (ro HO_10))) (Kd.R_lt (ro HO_14))) (Kd.R_lt (ro HO126))) (Kd.R_lt (ro HO130))) (Kd.R_lt (ro HO134))) (Kd.R_lt (ro HO139))) (below_size bh)); replace HO_7 := Aside0.mk (Kd.R_elder' (ro HO_7) (Kd.R_base ho0) hb); replace HO_9 := Aside0.mk (Kd.R_elder' (ro HO_9) (Kd.R_base ho0) hb); replace HO_10 := Aside0.mk (Kd.R_elder' (ro HO_10) (Kd.R_base ho0) hb); replace HO_14 := Aside0.mk (Kd.R_elder' (ro HO_14) (Kd.R_base ho0) hb); replace HO126 := Aside0.mk (Kd.R_elder' (ro HO126) (Kd.R_base ho0) hb); replace HO130 := Aside0.mk (Kd.R_elder' (ro HO130) (Kd.R_base ho0) hb); replace HO134 := Aside0.mk (Kd.R_elder' (ro HO134) (Kd.R_base ho0) hb); replace HO139 := Aside0.mk (Kd.R_elder' (ro HO139) (Kd.R_base ho0) hb); replace HB := Aside0.mk (below_step bh hb); (try clear hb); (try clear hb2); (try clear hk); (try clear hi); (try clear ho0)) | ((with_reducible refine gate_callee (f := 24) rfl ?_); refine goesL_ (some 114) rfl rfl Try.func24 (by kernel_rfl) rfl #[.slice Ao14 t101.length co14] rfl sg ?_; (with_reducible refine (shape_Area2.calls kj9 _ _ t101 t144 t145 _ ?side1 ?side2 A45.out).mono ?_); (case side1 => exact cs (Kd.R_reads' HO_7.out).2.2); (case side2 => exact (Kd.R_reads' HO_7.out).2.1); rintro e w107 ⟨rfl, hb⟩; refine ⟨_, rfl, ?_⟩; replace HO_7 := Aside0.mk (Kd.R_below (ro HO_7) hb); replace HO_9 := Aside0.mk (Kd.R_below (ro HO_9) hb); replace HO_10 := Aside0.mk (Kd.R_below (ro HO_10) hb); replace HO_14 := Aside0.mk (Kd.R_below (ro HO_14) hb); replace HO126 := Aside0.mk (Kd.R_below (ro HO126) hb); replace HO130 := Aside0.mk (Kd.R_below (ro HO130) hb); replace HO134 := Aside0.mk (Kd.R_below (ro HO134) hb); replace HO139 := Aside0.mk (Kd.R_below (ro HO139) hb); replace HO143 := Aside0.mk (Kd.R_below (ro HO143) hb); replace HB := Aside0.mk (below_step bh hb); (try clear hb); (try clear hb2); (try clear hk); (try clear hi); obtain ⟨Ao108, co108, eo108⟩ := Kd.R_slice HO134.out; subst eo108) | ((with_reducible refine gate_callee (f := 24) rfl ?_); refine goesL_ (some 119) rfl rfl Try.func24 (by kernel_rfl) rfl #[.slice Ao108 t132.length co108] rfl sg ?_; (with_reducible refine (shape_Area2.calls kj9 _ _ t132 t146 t147 _ ?side1 ?side2 A46.out).mono ?_); (case side1 => exact cs (Kd.R_reads' HO134.out).2.2); (case side2 => exact (Kd.R_reads' HO134.out).2.1); rintro e w109 ⟨rfl, hb⟩; refine ⟨_, rfl, ?_⟩; replace HO_7 := Aside0.mk (Kd.R_below (ro HO_7) hb); replace HO_9 := Aside0.mk (Kd.R_below (ro HO_9) hb); replace HO_10 := Aside0.mk (Kd.R_below (ro HO_10) hb); replace HO_14 := Aside0.mk (Kd.R_below (ro HO_14) hb); replace HO126 := Aside0.mk (Kd.R_below (ro HO126) hb); replace HO130 := Aside0.mk (Kd.R_below (ro HO130) hb); replace HO134 := Aside0.mk (Kd.R_below (ro HO134) hb); replace HO139 := Aside0.mk (Kd.R_below (ro HO139) hb); replace HO143 := Aside0.mk (Kd.R_below (ro HO143) hb); replace HB := Aside0.mk (below_step bh hb); (try clear hb); (try clear hb2); (try clear hk); (try clear hi)))
           go_ret
           exact ⟨by exact er, bh⟩
         ·rw [if_neg c52] at H
          have c52b0 : (t145 == 0) = false := beq_eq_false_iff_ne.mpr c52
          have c52b1 : (t145 != 0) = true := bne_iff_ne.mpr c52
          obtain rfl := Option.some.inj H
          obtain ⟨Ao110, co110, eo110⟩ := Kd.R_slice HO_10.out
          subst eo110
          go_wp2_with (first | ((with_reducible refine gate_callee (f := 40) rfl ?_); refine goesL_ (some 87) rfl rfl Try.func40 (by kernel_rfl) rfl #[.slice Ao110 t110.length co110, .slice Ao18 t107.length co18] rfl sg ?_; (with_reducible refine (shape_Sum.calls kj9 (fun k_ => some k_ = (.slice Ao110 t110.length co110 : Value).ownBlock) _ _ t110 (fun k_ => some k_ = (.slice Ao18 t107.length co18 : Value).ownBlock) _ _ t107 t124 t127 _ ?side1 ?side2 A40.out).mono ?_); (case side1 => exact Kd.R_V (Kd.R_tight rfl (HO_10.out))); (case side2 => exact Kd.R_V (Kd.R_tight rfl (HO_9.out))); rintro e w111 ⟨v125, rfl, ho0, hb⟩; refine ⟨_, rfl, ?_⟩; have HO126 := Aside0.mk (Kd.R_lower (Kd.R_new' (Kd.R_new' (Kd.R_new' (Kd.R_new' (Kd.R_mono (ok' := fun k_ => True) ho0 (fun _ hk_ => trivial)) (Kd.R_lt (ro HO_7))) (Kd.R_lt (ro HO_9))) (Kd.R_lt (ro HO_10))) (Kd.R_lt (ro HO_14))) (below_size bh)); replace HO_7 := Aside0.mk (Kd.R_elder' (ro HO_7) (Kd.R_base ho0) hb); replace HO_9 := Aside0.mk (Kd.R_elder' (ro HO_9) (Kd.R_base ho0) hb); replace HO_10 := Aside0.mk (Kd.R_elder' (ro HO_10) (Kd.R_base ho0) hb); replace HO_14 := Aside0.mk (Kd.R_elder' (ro HO_14) (Kd.R_base ho0) hb); replace HB := Aside0.mk (below_step bh hb); (try clear hb); (try clear hb2); (try clear hk); (try clear hi); (try clear ho0); obtain ⟨Ao112, co112, eo112⟩ := Kd.R_slice HO_14.out; subst eo112) | ((with_reducible refine gate_callee (f := 40) rfl ?_); refine goesL_ (some 93) rfl rfl Try.func40 (by kernel_rfl) rfl #[.slice Ao14 t101.length co14, .slice Ao112 t118.length co112] rfl sg ?_; (with_reducible refine (shape_Sum.calls kj9 (fun k_ => some k_ = (.slice Ao14 t101.length co14 : Value).ownBlock) _ _ t101 (fun k_ => some k_ = (.slice Ao112 t118.length co112 : Value).ownBlock) _ _ t118 t128 t131 _ ?side1 ?side2 A41.out).mono ?_); (case side1 => exact Kd.R_V (Kd.R_tight rfl (HO_7.out))); (case side2 => exact Kd.R_V (Kd.R_tight rfl (HO_14.out))); rintro e w113 ⟨v129, rfl, ho0, hb⟩; refine ⟨_, rfl, ?_⟩; have HO130 := Aside0.mk (Kd.R_lower (Kd.R_new' (Kd.R_new' (Kd.R_new' (Kd.R_new' (Kd.R_new' (Kd.R_mono (ok' := fun k_ => True) ho0 (fun _ hk_ => trivial)) (Kd.R_lt (ro HO_7))) (Kd.R_lt (ro HO_9))) (Kd.R_lt (ro HO_10))) (Kd.R_lt (ro HO_14))) (Kd.R_lt (ro HO126))) (below_size bh)); replace HO_7 := Aside0.mk (Kd.R_elder' (ro HO_7) (Kd.R_base ho0) hb); replace HO_9 := Aside0.mk (Kd.R_elder' (ro HO_9) (Kd.R_base ho0) hb); replace HO_10 := Aside0.mk (Kd.R_elder' (ro HO_10) (Kd.R_base ho0) hb); replace HO_14 := Aside0.mk (Kd.R_elder' (ro HO_14) (Kd.R_base ho0) hb); replace HO126 := Aside0.mk (Kd.R_elder' (ro HO126) (Kd.R_base ho0) hb); replace HB := Aside0.mk (below_step bh hb); (try clear hb); (try clear hb2); (try clear hk); (try clear hi); (try clear ho0)) | ((with_reducible refine gate_callee (f := 40) rfl ?_); refine goesL_ (some 99) rfl rfl Try.func40 (by kernel_rfl) rfl #[.slice Ao14 t101.length co14, .slice Ao14 t101.length co14] rfl sg ?_; (with_reducible refine (shape_Sum.calls kj9 (fun k_ => some k_ = (.slice Ao14 t101.length co14 : Value).ownBlock) _ _ t101 (fun k_ => some k_ = (.slice Ao14 t101.length co14 : Value).ownBlock) _ _ t101 t132 t135 _ ?side1 ?side2 A42.out).mono ?_); (case side1 => exact Kd.R_V (Kd.R_tight rfl (HO_7.out))); (case side2 => exact Kd.R_V (Kd.R_tight rfl (HO_7.out))); rintro e w114 ⟨v133, rfl, ho0, hb⟩; refine ⟨_, rfl, ?_⟩; have HO134 := Aside0.mk (Kd.R_lower (Kd.R_new' (Kd.R_new' (Kd.R_new' (Kd.R_new' (Kd.R_new' (Kd.R_new' (Kd.R_mono (ok' := fun k_ => True) ho0 (fun _ hk_ => trivial)) (Kd.R_lt (ro HO_7))) (Kd.R_lt (ro HO_9))) (Kd.R_lt (ro HO_10))) (Kd.R_lt (ro HO_14))) (Kd.R_lt (ro HO126))) (Kd.R_lt (ro HO130))) (below_size bh)); replace HO_7 := Aside0.mk (Kd.R_elder' (ro HO_7) (Kd.R_base ho0) hb); replace HO_9 := Aside0.mk (Kd.R_elder' (ro HO_9) (Kd.R_base ho0) hb); replace HO_10 := Aside0.mk (Kd.R_elder' (ro HO_10) (Kd.R_base ho0) hb); replace HO_14 := Aside0.mk (Kd.R_elder' (ro HO_14) (Kd.R_base ho0) hb); replace HO126 := Aside0.mk (Kd.R_elder' (ro HO126) (Kd.R_base ho0) hb); replace HO130 := Aside0.mk (Kd.R_elder' (ro HO130) (Kd.R_base ho0) hb); replace HB := Aside0.mk (below_step bh hb); (try clear hb); (try clear hb2); (try clear hk); (try clear hi); (try clear ho0)) | ((with_reducible refine gate_callee (f := 41) rfl ?_); refine goesL_ (some 104) rfl rfl Try.func41 (by kernel_rfl) rfl #[.slice Ao14 t101.length co14] rfl sg ?_; (with_reducible refine (shape_Negative.calls kj9 _ _ t101 t136 t137 _ ?side1 ?side2 A43.out).mono ?_); (case side1 => exact cs (Kd.R_reads' HO_7.out).2.2); (case side2 => exact (Kd.R_reads' HO_7.out).2.1); rintro e w115 ⟨v138, rfl, ho0, hb⟩; refine ⟨_, rfl, ?_⟩; have HO139 := Aside0.mk (Kd.R_lower (Kd.R_new' (Kd.R_new' (Kd.R_new' (Kd.R_new' (Kd.R_new' (Kd.R_new' (Kd.R_new' ho0 (Kd.R_lt (ro HO_7))) (Kd.R_lt (ro HO_9))) (Kd.R_lt (ro HO_10))) (Kd.R_lt (ro HO_14))) (Kd.R_lt (ro HO126))) (Kd.R_lt (ro HO130))) (Kd.R_lt (ro HO134))) (below_size bh)); replace HO_7 := Aside0.mk (Kd.R_elder' (ro HO_7) (Kd.R_base ho0) hb); replace HO_9 := Aside0.mk (Kd.R_elder' (ro HO_9) (Kd.R_base ho0) hb); replace HO_10 := Aside0.mk (Kd.R_elder' (ro HO_10) (Kd.R_base ho0) hb); replace HO_14 := Aside0.mk (Kd.R_elder' (ro HO_14) (Kd.R_base ho0) hb); replace HO126 := Aside0.mk (Kd.R_elder' (ro HO126) (Kd.R_base ho0) hb); replace HO130 := Aside0.mk (Kd.R_elder' (ro HO130) (Kd.R_base ho0) hb); replace HO134 := Aside0.mk (Kd.R_elder' (ro HO134) (Kd.R_base ho0) hb); replace HB := Aside0.mk (below_step bh hb); (try clear hb); (try clear hb2); (try clear hk); (try clear hi); (try clear ho0); obtain ⟨Ao116, co116, eo116⟩ := Kd.R_slice HO139.out; subst eo116) | ((with_reducible refine gate_callee (f := 41) rfl ?_); refine goesL_ (some 109) rfl rfl Try.func41 (by kernel_rfl) rfl #[.slice Ao116 t136.length co116] rfl sg ?_; (with_reducible refine (shape_Negative.calls kj9 _ _ t136 t140 t141 _ ?side1 ?side2 A44.out).mono ?_); (case side1 => exact cs (Kd.R_reads' HO139.out).2.2); (case side2 => exact (Kd.R_reads' HO139.out).2.1); rintro e w117 ⟨v142, rfl, ho0, hb⟩; refine ⟨_, rfl, ?_⟩; have HO143 := Aside0.mk (Kd.R_lower (Kd.R_new' (Kd.R_new' (Kd.R_new' (Kd.R_new' (Kd.R_new' (Kd.R_new' (Kd.R_new' (Kd.R_new' ho0 (Kd.R_lt (ro HO_7))) (Kd.R_lt (ro HO_9))) (Kd.R_lt (ro HO_10))) (Kd.R_lt (ro HO_14))) (Kd.R_lt (ro HO126))) (Kd.R_lt (ro HO130))) (Kd.R_lt (ro HO134))) (Kd.R_lt (ro HO139))) (below_size bh)); replace HO_7 := Aside0.mk (Kd.R_elder' (ro HO_7) (Kd.R_base ho0) hb); replace HO_9 := Aside0.mk (Kd.R_elder' (ro HO_9) (Kd.R_base ho0) hb); replace HO_10 := Aside0.mk (Kd.R_elder' (ro HO_10) (Kd.R_base ho0) hb); replace HO_14 := Aside0.mk (Kd.R_elder' (ro HO_14) (Kd.R_base ho0) hb); replace HO126 := Aside0.mk (Kd.R_elder' (ro HO126) (Kd.R_base ho0) hb); replace HO130 := Aside0.mk (Kd.R_elder' (ro HO130) (Kd.R_base ho0) hb); replace HO134 := Aside0.mk (Kd.R_elder' (ro HO134) (Kd.R_base ho0) hb); replace HO139 := Aside0.mk (Kd.R_elder' (ro HO139) (Kd.R_base ho0) hb); replace HB := Aside0.mk (below_step bh hb); (try clear hb); (try clear hb2); (try clear hk); (try clear hi); (try clear ho0)) | ((with_reducible refine gate_callee (f := 24) rfl ?_); refine goesL_ (some 114) rfl rfl Try.func24 (by kernel_rfl) rfl #[.slice Ao14 t101.length co14] rfl sg ?_; (with_reducible refine (shape_Area2.calls kj9 _ _ t101 t144 t145 _ ?side1 ?side2 A45.out).mono ?_); (case side1 => exact cs (Kd.R_reads' HO_7.out).2.2); (case side2 => exact (Kd.R_reads' HO_7.out).2.1); rintro e w118 ⟨rfl, hb⟩; refine ⟨_, rfl, ?_⟩; replace HO_7 := Aside0.mk (Kd.R_below (ro HO_7) hb); replace HO_9 := Aside0.mk (Kd.R_below (ro HO_9) hb); replace HO_10 := Aside0.mk (Kd.R_below (ro HO_10) hb); replace HO_14 := Aside0.mk (Kd.R_below (ro HO_14) hb); replace HO126 := Aside0.mk (Kd.R_below (ro HO126) hb); replace HO130 := Aside0.mk (Kd.R_below (ro HO130) hb); replace HO134 := Aside0.mk (Kd.R_below (ro HO134) hb); replace HO139 := Aside0.mk (Kd.R_below (ro HO139) hb); replace HO143 := Aside0.mk (Kd.R_below (ro HO143) hb); replace HB := Aside0.mk (below_step bh hb); (try clear hb); (try clear hb2); (try clear hk); (try clear hi); obtain ⟨Ao119, co119, eo119⟩ := Kd.R_slice HO134.out; subst eo119) | ((with_reducible refine gate_callee (f := 24) rfl ?_); refine goesL_ (some 119) rfl rfl Try.func24 (by kernel_rfl) rfl #[.slice Ao119 t132.length co119] rfl sg ?_; (with_reducible refine (shape_Area2.calls kj9 _ _ t132 t146 t147 _ ?side1 ?side2 A46.out).mono ?_); (case side1 => exact cs (Kd.R_reads' HO134.out).2.2); (case side2 => exact (Kd.R_reads' HO134.out).2.1); rintro e w120 ⟨rfl, hb⟩; refine ⟨_, rfl, ?_⟩; replace HO_7 := Aside0.mk (Kd.R_below (ro HO_7) hb); replace HO_9 := Aside0.mk (Kd.R_below (ro HO_9) hb); replace HO_10 := Aside0.mk (Kd.R_below (ro HO_10) hb); replace HO_14 := Aside0.mk (Kd.R_below (ro HO_14) hb); replace HO126 := Aside0.mk (Kd.R_below (ro HO126) hb); replace HO130 := Aside0.mk (Kd.R_below (ro HO130) hb); replace HO134 := Aside0.mk (Kd.R_below (ro HO134) hb); replace HO139 := Aside0.mk (Kd.R_below (ro HO139) hb); replace HO143 := Aside0.mk (Kd.R_below (ro HO143) hb); replace HB := Aside0.mk (below_step bh hb); (try clear hb); (try clear hb2); (try clear hk); (try clear hi)))
          go_ret
          exact ⟨by exact er, bh⟩
        ·rw [if_neg c51] at H
         have c51b0 : (t141 == 0) = false := beq_eq_false_iff_ne.mpr c51
         have c51b1 : (t141 != 0) = true := bne_iff_ne.mpr c51
         obtain rfl := Option.some.inj H
         obtain ⟨Ao121, co121, eo121⟩ := Kd.R_slice HO_10.out
         subst eo121
         go_wp2_with (first | ((with_reducible refine gate_callee (f := 40) rfl ?_); refine goesL_ (some 87) rfl rfl Try.func40 (by kernel_rfl) rfl #[.slice Ao121 t110.length co121, .slice Ao18 t107.length co18] rfl sg ?_; (with_reducible refine (shape_Sum.calls kj9 (fun k_ => some k_ = (.slice Ao121 t110.length co121 : Value).ownBlock) _ _ t110 (fun k_ => some k_ = (.slice Ao18 t107.length co18 : Value).ownBlock) _ _ t107 t124 t127 _ ?side1 ?side2 A40.out).mono ?_); (case side1 => exact Kd.R_V (Kd.R_tight rfl (HO_10.out))); (case side2 => exact Kd.R_V (Kd.R_tight rfl (HO_9.out))); rintro e w122 ⟨v125, rfl, ho0, hb⟩; refine ⟨_, rfl, ?_⟩; have HO126 := Aside0.mk (Kd.R_lower (Kd.R_new' (Kd.R_new' (Kd.R_new' (Kd.R_new' (Kd.R_mono (ok' := fun k_ => True) ho0 (fun _ hk_ => trivial)) (Kd.R_lt (ro HO_7))) (Kd.R_lt (ro HO_9))) (Kd.R_lt (ro HO_10))) (Kd.R_lt (ro HO_14))) (below_size bh)); replace HO_7 := Aside0.mk (Kd.R_elder' (ro HO_7) (Kd.R_base ho0) hb); replace HO_9 := Aside0.mk (Kd.R_elder' (ro HO_9) (Kd.R_base ho0) hb); replace HO_10 := Aside0.mk (Kd.R_elder' (ro HO_10) (Kd.R_base ho0) hb); replace HO_14 := Aside0.mk (Kd.R_elder' (ro HO_14) (Kd.R_base ho0) hb); replace HB := Aside0.mk (below_step bh hb); (try clear hb); (try clear hb2); (try clear hk); (try clear hi); (try clear ho0); obtain ⟨Ao123, co123, eo123⟩ := Kd.R_slice HO_14.out; subst eo123) | ((with_reducible refine gate_callee (f := 40) rfl ?_); refine goesL_ (some 93) rfl rfl Try.func40 (by kernel_rfl) rfl #[.slice Ao14 t101.length co14, .slice Ao123 t118.length co123] rfl sg ?_; (with_reducible refine (shape_Sum.calls kj9 (fun k_ => some k_ = (.slice Ao14 t101.length co14 : Value).ownBlock) _ _ t101 (fun k_ => some k_ = (.slice Ao123 t118.length co123 : Value).ownBlock) _ _ t118 t128 t131 _ ?side1 ?side2 A41.out).mono ?_); (case side1 => exact Kd.R_V (Kd.R_tight rfl (HO_7.out))); (case side2 => exact Kd.R_V (Kd.R_tight rfl (HO_14.out))); rintro e w124 ⟨v129, rfl, ho0, hb⟩; refine ⟨_, rfl, ?_⟩; have HO130 := Aside0.mk (Kd.R_lower (Kd.R_new' (Kd.R_new' (Kd.R_new' (Kd.R_new' (Kd.R_new' (Kd.R_mono (ok' := fun k_ => True) ho0 (fun _ hk_ => trivial)) (Kd.R_lt (ro HO_7))) (Kd.R_lt (ro HO_9))) (Kd.R_lt (ro HO_10))) (Kd.R_lt (ro HO_14))) (Kd.R_lt (ro HO126))) (below_size bh)); replace HO_7 := Aside0.mk (Kd.R_elder' (ro HO_7) (Kd.R_base ho0) hb); replace HO_9 := Aside0.mk (Kd.R_elder' (ro HO_9) (Kd.R_base ho0) hb); replace HO_10 := Aside0.mk (Kd.R_elder' (ro HO_10) (Kd.R_base ho0) hb); replace HO_14 := Aside0.mk (Kd.R_elder' (ro HO_14) (Kd.R_base ho0) hb); replace HO126 := Aside0.mk (Kd.R_elder' (ro HO126) (Kd.R_base ho0) hb); replace HB := Aside0.mk (below_step bh hb); (try clear hb); (try clear hb2); (try clear hk); (try clear hi); (try clear ho0)) | ((with_reducible refine gate_callee (f := 40) rfl ?_); refine goesL_ (some 99) rfl rfl Try.func40 (by kernel_rfl) rfl #[.slice Ao14 t101.length co14, .slice Ao14 t101.length co14] rfl sg ?_; (with_reducible refine (shape_Sum.calls kj9 (fun k_ => some k_ = (.slice Ao14 t101.length co14 : Value).ownBlock) _ _ t101 (fun k_ => some k_ = (.slice Ao14 t101.length co14 : Value).ownBlock) _ _ t101 t132 t135 _ ?side1 ?side2 A42.out).mono ?_); (case side1 => exact Kd.R_V (Kd.R_tight rfl (HO_7.out))); (case side2 => exact Kd.R_V (Kd.R_tight rfl (HO_7.out))); rintro e w125 ⟨v133, rfl, ho0, hb⟩; refine ⟨_, rfl, ?_⟩; have HO134 := Aside0.mk (Kd.R_lower (Kd.R_new' (Kd.R_new' (Kd.R_new' (Kd.R_new' (Kd.R_new' (Kd.R_new' (Kd.R_mono (ok' := fun k_ => True) ho0 (fun _ hk_ => trivial)) (Kd.R_lt (ro HO_7))) (Kd.R_lt (ro HO_9))) (Kd.R_lt (ro HO_10))) (Kd.R_lt (ro HO_14))) (Kd.R_lt (ro HO126))) (Kd.R_lt (ro HO130))) (below_size bh)); replace HO_7 := Aside0.mk (Kd.R_elder' (ro HO_7) (Kd.R_base ho0) hb); replace HO_9 := Aside0.mk (Kd.R_elder' (ro HO_9) (Kd.R_base ho0) hb); replace HO_10 := Aside0.mk (Kd.R_elder' (ro HO_10) (Kd.R_base ho0) hb); replace HO_14 := Aside0.mk (Kd.R_elder' (ro HO_14) (Kd.R_base ho0) hb); replace HO126 := Aside0.mk (Kd.R_elder' (ro HO126) (Kd.R_base ho0) hb); replace HO130 := Aside0.mk (Kd.R_elder' (ro HO130) (Kd.R_base ho0) hb); replace HB := Aside0.mk (below_step bh hb); (try clear hb); (try clear hb2); (try clear hk); (try clear hi); (try clear ho0)) | ((with_reducible refine gate_callee (f := 41) rfl ?_); refine goesL_ (some 104) rfl rfl Try.func41 (by kernel_rfl) rfl #[.slice Ao14 t101.length co14] rfl sg ?_; (with_reducible refine (shape_Negative.calls kj9 _ _ t101 t136 t137 _ ?side1 ?side2 A43.out).mono ?_); (case side1 => exact cs (Kd.R_reads' HO_7.out).2.2); (case side2 => exact (Kd.R_reads' HO_7.out).2.1); rintro e w126 ⟨v138, rfl, ho0, hb⟩; refine ⟨_, rfl, ?_⟩; have HO139 := Aside0.mk (Kd.R_lower (Kd.R_new' (Kd.R_new' (Kd.R_new' (Kd.R_new' (Kd.R_new' (Kd.R_new' (Kd.R_new' ho0 (Kd.R_lt (ro HO_7))) (Kd.R_lt (ro HO_9))) (Kd.R_lt (ro HO_10))) (Kd.R_lt (ro HO_14))) (Kd.R_lt (ro HO126))) (Kd.R_lt (ro HO130))) (Kd.R_lt (ro HO134))) (below_size bh)); replace HO_7 := Aside0.mk (Kd.R_elder' (ro HO_7) (Kd.R_base ho0) hb); replace HO_9 := Aside0.mk (Kd.R_elder' (ro HO_9) (Kd.R_base ho0) hb); replace HO_10 := Aside0.mk (Kd.R_elder' (ro HO_10) (Kd.R_base ho0) hb); replace HO_14 := Aside0.mk (Kd.R_elder' (ro HO_14) (Kd.R_base ho0) hb); replace HO126 := Aside0.mk (Kd.R_elder' (ro HO126) (Kd.R_base ho0) hb); replace HO130 := Aside0.mk (Kd.R_elder' (ro HO130) (Kd.R_base ho0) hb); replace HO134 := Aside0.mk (Kd.R_elder' (ro HO134) (Kd.R_base ho0) hb); replace HB := Aside0.mk (below_step bh hb); (try clear hb); (try clear hb2); (try clear hk); (try clear hi); (try clear ho0); obtain ⟨Ao127, co127, eo127⟩ := Kd.R_slice HO139.out; subst eo127) | ((with_reducible refine gate_callee (f := 41) rfl ?_); refine goesL_ (some 109) rfl rfl Try.func41 (by kernel_rfl) rfl #[.slice Ao127 t136.length co127] rfl sg ?_; (with_reducible refine (shape_Negative.calls kj9 _ _ t136 t140 t141 _ ?side1 ?side2 A44.out).mono ?_); (case side1 => exact cs (Kd.R_reads' HO139.out).2.2); (case side2 => exact (Kd.R_reads' HO139.out).2.1); rintro e w128 ⟨v142, rfl, ho0, hb⟩; refine ⟨_, rfl, ?_⟩; have HO143 := Aside0.mk (Kd.R_lower (Kd.R_new' (Kd.R_new' (Kd.R_new' (Kd.R_new' (Kd.R_new' (Kd.R_new' (Kd.R_new' (Kd.R_new' ho0 (Kd.R_lt (ro HO_7))) (Kd.R_lt (ro HO_9))) (Kd.R_lt (ro HO_10))) (Kd.R_lt (ro HO_14))) (Kd.R_lt (ro HO126))) (Kd.R_lt (ro HO130))) (Kd.R_lt (ro HO134))) (Kd.R_lt (ro HO139))) (below_size bh)); replace HO_7 := Aside0.mk (Kd.R_elder' (ro HO_7) (Kd.R_base ho0) hb); replace HO_9 := Aside0.mk (Kd.R_elder' (ro HO_9) (Kd.R_base ho0) hb); replace HO_10 := Aside0.mk (Kd.R_elder' (ro HO_10) (Kd.R_base ho0) hb); replace HO_14 := Aside0.mk (Kd.R_elder' (ro HO_14) (Kd.R_base ho0) hb); replace HO126 := Aside0.mk (Kd.R_elder' (ro HO126) (Kd.R_base ho0) hb); replace HO130 := Aside0.mk (Kd.R_elder' (ro HO130) (Kd.R_base ho0) hb); replace HO134 := Aside0.mk (Kd.R_elder' (ro HO134) (Kd.R_base ho0) hb); replace HO139 := Aside0.mk (Kd.R_elder' (ro HO139) (Kd.R_base ho0) hb); replace HB := Aside0.mk (below_step bh hb); (try clear hb); (try clear hb2); (try clear hk); (try clear hi); (try clear ho0)) | ((with_reducible refine gate_callee (f := 24) rfl ?_); refine goesL_ (some 114) rfl rfl Try.func24 (by kernel_rfl) rfl #[.slice Ao14 t101.length co14] rfl sg ?_; (with_reducible refine (shape_Area2.calls kj9 _ _ t101 t144 t145 _ ?side1 ?side2 A45.out).mono ?_); (case side1 => exact cs (Kd.R_reads' HO_7.out).2.2); (case side2 => exact (Kd.R_reads' HO_7.out).2.1); rintro e w129 ⟨rfl, hb⟩; refine ⟨_, rfl, ?_⟩; replace HO_7 := Aside0.mk (Kd.R_below (ro HO_7) hb); replace HO_9 := Aside0.mk (Kd.R_below (ro HO_9) hb); replace HO_10 := Aside0.mk (Kd.R_below (ro HO_10) hb); replace HO_14 := Aside0.mk (Kd.R_below (ro HO_14) hb); replace HO126 := Aside0.mk (Kd.R_below (ro HO126) hb); replace HO130 := Aside0.mk (Kd.R_below (ro HO130) hb); replace HO134 := Aside0.mk (Kd.R_below (ro HO134) hb); replace HO139 := Aside0.mk (Kd.R_below (ro HO139) hb); replace HO143 := Aside0.mk (Kd.R_below (ro HO143) hb); replace HB := Aside0.mk (below_step bh hb); (try clear hb); (try clear hb2); (try clear hk); (try clear hi); obtain ⟨Ao130, co130, eo130⟩ := Kd.R_slice HO134.out; subst eo130) | ((with_reducible refine gate_callee (f := 24) rfl ?_); refine goesL_ (some 119) rfl rfl Try.func24 (by kernel_rfl) rfl #[.slice Ao130 t132.length co130] rfl sg ?_; (with_reducible refine (shape_Area2.calls kj9 _ _ t132 t146 t147 _ ?side1 ?side2 A46.out).mono ?_); (case side1 => exact cs (Kd.R_reads' HO134.out).2.2); (case side2 => exact (Kd.R_reads' HO134.out).2.1); rintro e w131 ⟨rfl, hb⟩; refine ⟨_, rfl, ?_⟩; replace HO_7 := Aside0.mk (Kd.R_below (ro HO_7) hb); replace HO_9 := Aside0.mk (Kd.R_below (ro HO_9) hb); replace HO_10 := Aside0.mk (Kd.R_below (ro HO_10) hb); replace HO_14 := Aside0.mk (Kd.R_below (ro HO_14) hb); replace HO126 := Aside0.mk (Kd.R_below (ro HO126) hb); replace HO130 := Aside0.mk (Kd.R_below (ro HO130) hb); replace HO134 := Aside0.mk (Kd.R_below (ro HO134) hb); replace HO139 := Aside0.mk (Kd.R_below (ro HO139) hb); replace HO143 := Aside0.mk (Kd.R_below (ro HO143) hb); replace HB := Aside0.mk (below_step bh hb); (try clear hb); (try clear hb2); (try clear hk); (try clear hi)))
         go_ret
         exact ⟨by exact er, bh⟩
       ·rw [if_neg c50] at H
        have c50b0 : (t137 == 0) = false := beq_eq_false_iff_ne.mpr c50
        have c50b1 : (t137 != 0) = true := bne_iff_ne.mpr c50
        obtain rfl := Option.some.inj H
        obtain ⟨Ao132, co132, eo132⟩ := Kd.R_slice HO_10.out
        subst eo132
        go_wp2_with (first | ((with_reducible refine gate_callee (f := 40) rfl ?_); refine goesL_ (some 87) rfl rfl Try.func40 (by kernel_rfl) rfl #[.slice Ao132 t110.length co132, .slice Ao18 t107.length co18] rfl sg ?_; (with_reducible refine (shape_Sum.calls kj9 (fun k_ => some k_ = (.slice Ao132 t110.length co132 : Value).ownBlock) _ _ t110 (fun k_ => some k_ = (.slice Ao18 t107.length co18 : Value).ownBlock) _ _ t107 t124 t127 _ ?side1 ?side2 A40.out).mono ?_); (case side1 => exact Kd.R_V (Kd.R_tight rfl (HO_10.out))); (case side2 => exact Kd.R_V (Kd.R_tight rfl (HO_9.out))); rintro e w133 ⟨v125, rfl, ho0, hb⟩; refine ⟨_, rfl, ?_⟩; have HO126 := Aside0.mk (Kd.R_lower (Kd.R_new' (Kd.R_new' (Kd.R_new' (Kd.R_new' (Kd.R_mono (ok' := fun k_ => True) ho0 (fun _ hk_ => trivial)) (Kd.R_lt (ro HO_7))) (Kd.R_lt (ro HO_9))) (Kd.R_lt (ro HO_10))) (Kd.R_lt (ro HO_14))) (below_size bh)); replace HO_7 := Aside0.mk (Kd.R_elder' (ro HO_7) (Kd.R_base ho0) hb); replace HO_9 := Aside0.mk (Kd.R_elder' (ro HO_9) (Kd.R_base ho0) hb); replace HO_10 := Aside0.mk (Kd.R_elder' (ro HO_10) (Kd.R_base ho0) hb); replace HO_14 := Aside0.mk (Kd.R_elder' (ro HO_14) (Kd.R_base ho0) hb); replace HB := Aside0.mk (below_step bh hb); (try clear hb); (try clear hb2); (try clear hk); (try clear hi); (try clear ho0); obtain ⟨Ao134, co134, eo134⟩ := Kd.R_slice HO_14.out; subst eo134) | ((with_reducible refine gate_callee (f := 40) rfl ?_); refine goesL_ (some 93) rfl rfl Try.func40 (by kernel_rfl) rfl #[.slice Ao14 t101.length co14, .slice Ao134 t118.length co134] rfl sg ?_; (with_reducible refine (shape_Sum.calls kj9 (fun k_ => some k_ = (.slice Ao14 t101.length co14 : Value).ownBlock) _ _ t101 (fun k_ => some k_ = (.slice Ao134 t118.length co134 : Value).ownBlock) _ _ t118 t128 t131 _ ?side1 ?side2 A41.out).mono ?_); (case side1 => exact Kd.R_V (Kd.R_tight rfl (HO_7.out))); (case side2 => exact Kd.R_V (Kd.R_tight rfl (HO_14.out))); rintro e w135 ⟨v129, rfl, ho0, hb⟩; refine ⟨_, rfl, ?_⟩; have HO130 := Aside0.mk (Kd.R_lower (Kd.R_new' (Kd.R_new' (Kd.R_new' (Kd.R_new' (Kd.R_new' (Kd.R_mono (ok' := fun k_ => True) ho0 (fun _ hk_ => trivial)) (Kd.R_lt (ro HO_7))) (Kd.R_lt (ro HO_9))) (Kd.R_lt (ro HO_10))) (Kd.R_lt (ro HO_14))) (Kd.R_lt (ro HO126))) (below_size bh)); replace HO_7 := Aside0.mk (Kd.R_elder' (ro HO_7) (Kd.R_base ho0) hb); replace HO_9 := Aside0.mk (Kd.R_elder' (ro HO_9) (Kd.R_base ho0) hb); replace HO_10 := Aside0.mk (Kd.R_elder' (ro HO_10) (Kd.R_base ho0) hb); replace HO_14 := Aside0.mk (Kd.R_elder' (ro HO_14) (Kd.R_base ho0) hb); replace HO126 := Aside0.mk (Kd.R_elder' (ro HO126) (Kd.R_base ho0) hb); replace HB := Aside0.mk (below_step bh hb); (try clear hb); (try clear hb2); (try clear hk); (try clear hi); (try clear ho0)) | ((with_reducible refine gate_callee (f := 40) rfl ?_); refine goesL_ (some 99) rfl rfl Try.func40 (by kernel_rfl) rfl #[.slice Ao14 t101.length co14, .slice Ao14 t101.length co14] rfl sg ?_; (with_reducible refine (shape_Sum.calls kj9 (fun k_ => some k_ = (.slice Ao14 t101.length co14 : Value).ownBlock) _ _ t101 (fun k_ => some k_ = (.slice Ao14 t101.length co14 : Value).ownBlock) _ _ t101 t132 t135 _ ?side1 ?side2 A42.out).mono ?_); (case side1 => exact Kd.R_V (Kd.R_tight rfl (HO_7.out))); (case side2 => exact Kd.R_V (Kd.R_tight rfl (HO_7.out))); rintro e w136 ⟨v133, rfl, ho0, hb⟩; refine ⟨_, rfl, ?_⟩; have HO134 := Aside0.mk (Kd.R_lower (Kd.R_new' (Kd.R_new' (Kd.R_new' (Kd.R_new' (Kd.R_new' (Kd.R_new' (Kd.R_mono (ok' := fun k_ => True) ho0 (fun _ hk_ => trivial)) (Kd.R_lt (ro HO_7))) (Kd.R_lt (ro HO_9))) (Kd.R_lt (ro HO_10))) (Kd.R_lt (ro HO_14))) (Kd.R_lt (ro HO126))) (Kd.R_lt (ro HO130))) (below_size bh)); replace HO_7 := Aside0.mk (Kd.R_elder' (ro HO_7) (Kd.R_base ho0) hb); replace HO_9 := Aside0.mk (Kd.R_elder' (ro HO_9) (Kd.R_base ho0) hb); replace HO_10 := Aside0.mk (Kd.R_elder' (ro HO_10) (Kd.R_base ho0) hb); replace HO_14 := Aside0.mk (Kd.R_elder' (ro HO_14) (Kd.R_base ho0) hb); replace HO126 := Aside0.mk (Kd.R_elder' (ro HO126) (Kd.R_base ho0) hb); replace HO130 := Aside0.mk (Kd.R_elder' (ro HO130) (Kd.R_base ho0) hb); replace HB := Aside0.mk (below_step bh hb); (try clear hb); (try clear hb2); (try clear hk); (try clear hi); (try clear ho0)) | ((with_reducible refine gate_callee (f := 41) rfl ?_); refine goesL_ (some 104) rfl rfl Try.func41 (by kernel_rfl) rfl #[.slice Ao14 t101.length co14] rfl sg ?_; (with_reducible refine (shape_Negative.calls kj9 _ _ t101 t136 t137 _ ?side1 ?side2 A43.out).mono ?_); (case side1 => exact cs (Kd.R_reads' HO_7.out).2.2); (case side2 => exact (Kd.R_reads' HO_7.out).2.1); rintro e w137 ⟨v138, rfl, ho0, hb⟩; refine ⟨_, rfl, ?_⟩; have HO139 := Aside0.mk (Kd.R_lower (Kd.R_new' (Kd.R_new' (Kd.R_new' (Kd.R_new' (Kd.R_new' (Kd.R_new' (Kd.R_new' ho0 (Kd.R_lt (ro HO_7))) (Kd.R_lt (ro HO_9))) (Kd.R_lt (ro HO_10))) (Kd.R_lt (ro HO_14))) (Kd.R_lt (ro HO126))) (Kd.R_lt (ro HO130))) (Kd.R_lt (ro HO134))) (below_size bh)); replace HO_7 := Aside0.mk (Kd.R_elder' (ro HO_7) (Kd.R_base ho0) hb); replace HO_9 := Aside0.mk (Kd.R_elder' (ro HO_9) (Kd.R_base ho0) hb); replace HO_10 := Aside0.mk (Kd.R_elder' (ro HO_10) (Kd.R_base ho0) hb); replace HO_14 := Aside0.mk (Kd.R_elder' (ro HO_14) (Kd.R_base ho0) hb); replace HO126 := Aside0.mk (Kd.R_elder' (ro HO126) (Kd.R_base ho0) hb); replace HO130 := Aside0.mk (Kd.R_elder' (ro HO130) (Kd.R_base ho0) hb); replace HO134 := Aside0.mk (Kd.R_elder' (ro HO134) (Kd.R_base ho0) hb); replace HB := Aside0.mk (below_step bh hb); (try clear hb); (try clear hb2); (try clear hk); (try clear hi); (try clear ho0); obtain ⟨Ao138, co138, eo138⟩ := Kd.R_slice HO139.out; subst eo138) | ((with_reducible refine gate_callee (f := 41) rfl ?_); refine goesL_ (some 109) rfl rfl Try.func41 (by kernel_rfl) rfl #[.slice Ao138 t136.length co138] rfl sg ?_; (with_reducible refine (shape_Negative.calls kj9 _ _ t136 t140 t141 _ ?side1 ?side2 A44.out).mono ?_); (case side1 => exact cs (Kd.R_reads' HO139.out).2.2); (case side2 => exact (Kd.R_reads' HO139.out).2.1); rintro e w139 ⟨v142, rfl, ho0, hb⟩; refine ⟨_, rfl, ?_⟩; have HO143 := Aside0.mk (Kd.R_lower (Kd.R_new' (Kd.R_new' (Kd.R_new' (Kd.R_new' (Kd.R_new' (Kd.R_new' (Kd.R_new' (Kd.R_new' ho0 (Kd.R_lt (ro HO_7))) (Kd.R_lt (ro HO_9))) (Kd.R_lt (ro HO_10))) (Kd.R_lt (ro HO_14))) (Kd.R_lt (ro HO126))) (Kd.R_lt (ro HO130))) (Kd.R_lt (ro HO134))) (Kd.R_lt (ro HO139))) (below_size bh)); replace HO_7 := Aside0.mk (Kd.R_elder' (ro HO_7) (Kd.R_base ho0) hb); replace HO_9 := Aside0.mk (Kd.R_elder' (ro HO_9) (Kd.R_base ho0) hb); replace HO_10 := Aside0.mk (Kd.R_elder' (ro HO_10) (Kd.R_base ho0) hb); replace HO_14 := Aside0.mk (Kd.R_elder' (ro HO_14) (Kd.R_base ho0) hb); replace HO126 := Aside0.mk (Kd.R_elder' (ro HO126) (Kd.R_base ho0) hb); replace HO130 := Aside0.mk (Kd.R_elder' (ro HO130) (Kd.R_base ho0) hb); replace HO134 := Aside0.mk (Kd.R_elder' (ro HO134) (Kd.R_base ho0) hb); replace HO139 := Aside0.mk (Kd.R_elder' (ro HO139) (Kd.R_base ho0) hb); replace HB := Aside0.mk (below_step bh hb); (try clear hb); (try clear hb2); (try clear hk); (try clear hi); (try clear ho0)) | ((with_reducible refine gate_callee (f := 24) rfl ?_); refine goesL_ (some 114) rfl rfl Try.func24 (by kernel_rfl) rfl #[.slice Ao14 t101.length co14] rfl sg ?_; (with_reducible refine (shape_Area2.calls kj9 _ _ t101 t144 t145 _ ?side1 ?side2 A45.out).mono ?_); (case side1 => exact cs (Kd.R_reads' HO_7.out).2.2); (case side2 => exact (Kd.R_reads' HO_7.out).2.1); rintro e w140 ⟨rfl, hb⟩; refine ⟨_, rfl, ?_⟩; replace HO_7 := Aside0.mk (Kd.R_below (ro HO_7) hb); replace HO_9 := Aside0.mk (Kd.R_below (ro HO_9) hb); replace HO_10 := Aside0.mk (Kd.R_below (ro HO_10) hb); replace HO_14 := Aside0.mk (Kd.R_below (ro HO_14) hb); replace HO126 := Aside0.mk (Kd.R_below (ro HO126) hb); replace HO130 := Aside0.mk (Kd.R_below (ro HO130) hb); replace HO134 := Aside0.mk (Kd.R_below (ro HO134) hb); replace HO139 := Aside0.mk (Kd.R_below (ro HO139) hb); replace HO143 := Aside0.mk (Kd.R_below (ro HO143) hb); replace HB := Aside0.mk (below_step bh hb); (try clear hb); (try clear hb2); (try clear hk); (try clear hi); obtain ⟨Ao141, co141, eo141⟩ := Kd.R_slice HO134.out; subst eo141) | ((with_reducible refine gate_callee (f := 24) rfl ?_); refine goesL_ (some 119) rfl rfl Try.func24 (by kernel_rfl) rfl #[.slice Ao141 t132.length co141] rfl sg ?_; (with_reducible refine (shape_Area2.calls kj9 _ _ t132 t146 t147 _ ?side1 ?side2 A46.out).mono ?_); (case side1 => exact cs (Kd.R_reads' HO134.out).2.2); (case side2 => exact (Kd.R_reads' HO134.out).2.1); rintro e w142 ⟨rfl, hb⟩; refine ⟨_, rfl, ?_⟩; replace HO_7 := Aside0.mk (Kd.R_below (ro HO_7) hb); replace HO_9 := Aside0.mk (Kd.R_below (ro HO_9) hb); replace HO_10 := Aside0.mk (Kd.R_below (ro HO_10) hb); replace HO_14 := Aside0.mk (Kd.R_below (ro HO_14) hb); replace HO126 := Aside0.mk (Kd.R_below (ro HO126) hb); replace HO130 := Aside0.mk (Kd.R_below (ro HO130) hb); replace HO134 := Aside0.mk (Kd.R_below (ro HO134) hb); replace HO139 := Aside0.mk (Kd.R_below (ro HO139) hb); replace HO143 := Aside0.mk (Kd.R_below (ro HO143) hb); replace HB := Aside0.mk (below_step bh hb); (try clear hb); (try clear hb2); (try clear hk); (try clear hi)))
        go_ret
        exact ⟨by exact er, bh⟩
      ·rw [if_neg c49] at H
       have c49b0 : (t135 == 0) = false := beq_eq_false_iff_ne.mpr c49
       have c49b1 : (t135 != 0) = true := bne_iff_ne.mpr c49
       obtain rfl := Option.some.inj H
       obtain ⟨Ao143, co143, eo143⟩ := Kd.R_slice HO_10.out
       subst eo143
       go_wp2_with (first | ((with_reducible refine gate_callee (f := 40) rfl ?_); refine goesL_ (some 87) rfl rfl Try.func40 (by kernel_rfl) rfl #[.slice Ao143 t110.length co143, .slice Ao18 t107.length co18] rfl sg ?_; (with_reducible refine (shape_Sum.calls kj9 (fun k_ => some k_ = (.slice Ao143 t110.length co143 : Value).ownBlock) _ _ t110 (fun k_ => some k_ = (.slice Ao18 t107.length co18 : Value).ownBlock) _ _ t107 t124 t127 _ ?side1 ?side2 A40.out).mono ?_); (case side1 => exact Kd.R_V (Kd.R_tight rfl (HO_10.out))); (case side2 => exact Kd.R_V (Kd.R_tight rfl (HO_9.out))); rintro e w144 ⟨v125, rfl, ho0, hb⟩; refine ⟨_, rfl, ?_⟩; have HO126 := Aside0.mk (Kd.R_lower (Kd.R_new' (Kd.R_new' (Kd.R_new' (Kd.R_new' (Kd.R_mono (ok' := fun k_ => True) ho0 (fun _ hk_ => trivial)) (Kd.R_lt (ro HO_7))) (Kd.R_lt (ro HO_9))) (Kd.R_lt (ro HO_10))) (Kd.R_lt (ro HO_14))) (below_size bh)); replace HO_7 := Aside0.mk (Kd.R_elder' (ro HO_7) (Kd.R_base ho0) hb); replace HO_9 := Aside0.mk (Kd.R_elder' (ro HO_9) (Kd.R_base ho0) hb); replace HO_10 := Aside0.mk (Kd.R_elder' (ro HO_10) (Kd.R_base ho0) hb); replace HO_14 := Aside0.mk (Kd.R_elder' (ro HO_14) (Kd.R_base ho0) hb); replace HB := Aside0.mk (below_step bh hb); (try clear hb); (try clear hb2); (try clear hk); (try clear hi); (try clear ho0); obtain ⟨Ao145, co145, eo145⟩ := Kd.R_slice HO_14.out; subst eo145) | ((with_reducible refine gate_callee (f := 40) rfl ?_); refine goesL_ (some 93) rfl rfl Try.func40 (by kernel_rfl) rfl #[.slice Ao14 t101.length co14, .slice Ao145 t118.length co145] rfl sg ?_; (with_reducible refine (shape_Sum.calls kj9 (fun k_ => some k_ = (.slice Ao14 t101.length co14 : Value).ownBlock) _ _ t101 (fun k_ => some k_ = (.slice Ao145 t118.length co145 : Value).ownBlock) _ _ t118 t128 t131 _ ?side1 ?side2 A41.out).mono ?_); (case side1 => exact Kd.R_V (Kd.R_tight rfl (HO_7.out))); (case side2 => exact Kd.R_V (Kd.R_tight rfl (HO_14.out))); rintro e w146 ⟨v129, rfl, ho0, hb⟩; refine ⟨_, rfl, ?_⟩; have HO130 := Aside0.mk (Kd.R_lower (Kd.R_new' (Kd.R_new' (Kd.R_new' (Kd.R_new' (Kd.R_new' (Kd.R_mono (ok' := fun k_ => True) ho0 (fun _ hk_ => trivial)) (Kd.R_lt (ro HO_7))) (Kd.R_lt (ro HO_9))) (Kd.R_lt (ro HO_10))) (Kd.R_lt (ro HO_14))) (Kd.R_lt (ro HO126))) (below_size bh)); replace HO_7 := Aside0.mk (Kd.R_elder' (ro HO_7) (Kd.R_base ho0) hb); replace HO_9 := Aside0.mk (Kd.R_elder' (ro HO_9) (Kd.R_base ho0) hb); replace HO_10 := Aside0.mk (Kd.R_elder' (ro HO_10) (Kd.R_base ho0) hb); replace HO_14 := Aside0.mk (Kd.R_elder' (ro HO_14) (Kd.R_base ho0) hb); replace HO126 := Aside0.mk (Kd.R_elder' (ro HO126) (Kd.R_base ho0) hb); replace HB := Aside0.mk (below_step bh hb); (try clear hb); (try clear hb2); (try clear hk); (try clear hi); (try clear ho0)) | ((with_reducible refine gate_callee (f := 40) rfl ?_); refine goesL_ (some 99) rfl rfl Try.func40 (by kernel_rfl) rfl #[.slice Ao14 t101.length co14, .slice Ao14 t101.length co14] rfl sg ?_; (with_reducible refine (shape_Sum.calls kj9 (fun k_ => some k_ = (.slice Ao14 t101.length co14 : Value).ownBlock) _ _ t101 (fun k_ => some k_ = (.slice Ao14 t101.length co14 : Value).ownBlock) _ _ t101 t132 t135 _ ?side1 ?side2 A42.out).mono ?_); (case side1 => exact Kd.R_V (Kd.R_tight rfl (HO_7.out))); (case side2 => exact Kd.R_V (Kd.R_tight rfl (HO_7.out))); rintro e w147 ⟨v133, rfl, ho0, hb⟩; refine ⟨_, rfl, ?_⟩; have HO134 := Aside0.mk (Kd.R_lower (Kd.R_new' (Kd.R_new' (Kd.R_new' (Kd.R_new' (Kd.R_new' (Kd.R_new' (Kd.R_mono (ok' := fun k_ => True) ho0 (fun _ hk_ => trivial)) (Kd.R_lt (ro HO_7))) (Kd.R_lt (ro HO_9))) (Kd.R_lt (ro HO_10))) (Kd.R_lt (ro HO_14))) (Kd.R_lt (ro HO126))) (Kd.R_lt (ro HO130))) (below_size bh)); replace HO_7 := Aside0.mk (Kd.R_elder' (ro HO_7) (Kd.R_base ho0) hb); replace HO_9 := Aside0.mk (Kd.R_elder' (ro HO_9) (Kd.R_base ho0) hb); replace HO_10 := Aside0.mk (Kd.R_elder' (ro HO_10) (Kd.R_base ho0) hb); replace HO_14 := Aside0.mk (Kd.R_elder' (ro HO_14) (Kd.R_base ho0) hb); replace HO126 := Aside0.mk (Kd.R_elder' (ro HO126) (Kd.R_base ho0) hb); replace HO130 := Aside0.mk (Kd.R_elder' (ro HO130) (Kd.R_base ho0) hb); replace HB := Aside0.mk (below_step bh hb); (try clear hb); (try clear hb2); (try clear hk); (try clear hi); (try clear ho0)) | ((with_reducible refine gate_callee (f := 41) rfl ?_); refine goesL_ (some 104) rfl rfl Try.func41 (by kernel_rfl) rfl #[.slice Ao14 t101.length co14] rfl sg ?_; (with_reducible refine (shape_Negative.calls kj9 _ _ t101 t136 t137 _ ?side1 ?side2 A43.out).mono ?_); (case side1 => exact cs (Kd.R_reads' HO_7.out).2.2); (case side2 => exact (Kd.R_reads' HO_7.out).2.1); rintro e w148 ⟨v138, rfl, ho0, hb⟩; refine ⟨_, rfl, ?_⟩; have HO139 := Aside0.mk (Kd.R_lower (Kd.R_new' (Kd.R_new' (Kd.R_new' (Kd.R_new' (Kd.R_new' (Kd.R_new' (Kd.R_new' ho0 (Kd.R_lt (ro HO_7))) (Kd.R_lt (ro HO_9))) (Kd.R_lt (ro HO_10))) (Kd.R_lt (ro HO_14))) (Kd.R_lt (ro HO126))) (Kd.R_lt (ro HO130))) (Kd.R_lt (ro HO134))) (below_size bh)); replace HO_7 := Aside0.mk (Kd.R_elder' (ro HO_7) (Kd.R_base ho0) hb); replace HO_9 := Aside0.mk (Kd.R_elder' (ro HO_9) (Kd.R_base ho0) hb); replace HO_10 := Aside0.mk (Kd.R_elder' (ro HO_10) (Kd.R_base ho0) hb); replace HO_14 := Aside0.mk (Kd.R_elder' (ro HO_14) (Kd.R_base ho0) hb); replace HO126 := Aside0.mk (Kd.R_elder' (ro HO126) (Kd.R_base ho0) hb); replace HO130 := Aside0.mk (Kd.R_elder' (ro HO130) (Kd.R_base ho0) hb); replace HO134 := Aside0.mk (Kd.R_elder' (ro HO134) (Kd.R_base ho0) hb); replace HB := Aside0.mk (below_step bh hb); (try clear hb); (try clear hb2); (try clear hk); (try clear hi); (try clear ho0); obtain ⟨Ao149, co149, eo149⟩ := Kd.R_slice HO139.out; subst eo149) | ((with_reducible refine gate_callee (f := 41) rfl ?_); refine goesL_ (some 109) rfl rfl Try.func41 (by kernel_rfl) rfl #[.slice Ao149 t136.length co149] rfl sg ?_; (with_reducible refine (shape_Negative.calls kj9 _ _ t136 t140 t141 _ ?side1 ?side2 A44.out).mono ?_); (case side1 => exact cs (Kd.R_reads' HO139.out).2.2); (case side2 => exact (Kd.R_reads' HO139.out).2.1); rintro e w150 ⟨v142, rfl, ho0, hb⟩; refine ⟨_, rfl, ?_⟩; have HO143 := Aside0.mk (Kd.R_lower (Kd.R_new' (Kd.R_new' (Kd.R_new' (Kd.R_new' (Kd.R_new' (Kd.R_new' (Kd.R_new' (Kd.R_new' ho0 (Kd.R_lt (ro HO_7))) (Kd.R_lt (ro HO_9))) (Kd.R_lt (ro HO_10))) (Kd.R_lt (ro HO_14))) (Kd.R_lt (ro HO126))) (Kd.R_lt (ro HO130))) (Kd.R_lt (ro HO134))) (Kd.R_lt (ro HO139))) (below_size bh)); replace HO_7 := Aside0.mk (Kd.R_elder' (ro HO_7) (Kd.R_base ho0) hb); replace HO_9 := Aside0.mk (Kd.R_elder' (ro HO_9) (Kd.R_base ho0) hb); replace HO_10 := Aside0.mk (Kd.R_elder' (ro HO_10) (Kd.R_base ho0) hb); replace HO_14 := Aside0.mk (Kd.R_elder' (ro HO_14) (Kd.R_base ho0) hb); replace HO126 := Aside0.mk (Kd.R_elder' (ro HO126) (Kd.R_base ho0) hb); replace HO130 := Aside0.mk (Kd.R_elder' (ro HO130) (Kd.R_base ho0) hb); replace HO134 := Aside0.mk (Kd.R_elder' (ro HO134) (Kd.R_base ho0) hb); replace HO139 := Aside0.mk (Kd.R_elder' (ro HO139) (Kd.R_base ho0) hb); replace HB := Aside0.mk (below_step bh hb); (try clear hb); (try clear hb2); (try clear hk); (try clear hi); (try clear ho0)) | ((with_reducible refine gate_callee (f := 24) rfl ?_); refine goesL_ (some 114) rfl rfl Try.func24 (by kernel_rfl) rfl #[.slice Ao14 t101.length co14] rfl sg ?_; (with_reducible refine (shape_Area2.calls kj9 _ _ t101 t144 t145 _ ?side1 ?side2 A45.out).mono ?_); (case side1 => exact cs (Kd.R_reads' HO_7.out).2.2); (case side2 => exact (Kd.R_reads' HO_7.out).2.1); rintro e w151 ⟨rfl, hb⟩; refine ⟨_, rfl, ?_⟩; replace HO_7 := Aside0.mk (Kd.R_below (ro HO_7) hb); replace HO_9 := Aside0.mk (Kd.R_below (ro HO_9) hb); replace HO_10 := Aside0.mk (Kd.R_below (ro HO_10) hb); replace HO_14 := Aside0.mk (Kd.R_below (ro HO_14) hb); replace HO126 := Aside0.mk (Kd.R_below (ro HO126) hb); replace HO130 := Aside0.mk (Kd.R_below (ro HO130) hb); replace HO134 := Aside0.mk (Kd.R_below (ro HO134) hb); replace HO139 := Aside0.mk (Kd.R_below (ro HO139) hb); replace HO143 := Aside0.mk (Kd.R_below (ro HO143) hb); replace HB := Aside0.mk (below_step bh hb); (try clear hb); (try clear hb2); (try clear hk); (try clear hi); obtain ⟨Ao152, co152, eo152⟩ := Kd.R_slice HO134.out; subst eo152) | ((with_reducible refine gate_callee (f := 24) rfl ?_); refine goesL_ (some 119) rfl rfl Try.func24 (by kernel_rfl) rfl #[.slice Ao152 t132.length co152] rfl sg ?_; (with_reducible refine (shape_Area2.calls kj9 _ _ t132 t146 t147 _ ?side1 ?side2 A46.out).mono ?_); (case side1 => exact cs (Kd.R_reads' HO134.out).2.2); (case side2 => exact (Kd.R_reads' HO134.out).2.1); rintro e w153 ⟨rfl, hb⟩; refine ⟨_, rfl, ?_⟩; replace HO_7 := Aside0.mk (Kd.R_below (ro HO_7) hb); replace HO_9 := Aside0.mk (Kd.R_below (ro HO_9) hb); replace HO_10 := Aside0.mk (Kd.R_below (ro HO_10) hb); replace HO_14 := Aside0.mk (Kd.R_below (ro HO_14) hb); replace HO126 := Aside0.mk (Kd.R_below (ro HO126) hb); replace HO130 := Aside0.mk (Kd.R_below (ro HO130) hb); replace HO134 := Aside0.mk (Kd.R_below (ro HO134) hb); replace HO139 := Aside0.mk (Kd.R_below (ro HO139) hb); replace HO143 := Aside0.mk (Kd.R_below (ro HO143) hb); replace HB := Aside0.mk (below_step bh hb); (try clear hb); (try clear hb2); (try clear hk); (try clear hi)))
       go_ret
       exact ⟨by exact er, bh⟩
     ·rw [if_neg c48] at H
      have c48b0 : (t131 == 0) = false := beq_eq_false_iff_ne.mpr c48
      have c48b1 : (t131 != 0) = true := bne_iff_ne.mpr c48
      obtain rfl := Option.some.inj H
      obtain ⟨Ao154, co154, eo154⟩ := Kd.R_slice HO_10.out
      subst eo154
      go_wp2_with (first | ((with_reducible refine gate_callee (f := 40) rfl ?_); refine goesL_ (some 87) rfl rfl Try.func40 (by kernel_rfl) rfl #[.slice Ao154 t110.length co154, .slice Ao18 t107.length co18] rfl sg ?_; (with_reducible refine (shape_Sum.calls kj9 (fun k_ => some k_ = (.slice Ao154 t110.length co154 : Value).ownBlock) _ _ t110 (fun k_ => some k_ = (.slice Ao18 t107.length co18 : Value).ownBlock) _ _ t107 t124 t127 _ ?side1 ?side2 A40.out).mono ?_); (case side1 => exact Kd.R_V (Kd.R_tight rfl (HO_10.out))); (case side2 => exact Kd.R_V (Kd.R_tight rfl (HO_9.out))); rintro e w155 ⟨v125, rfl, ho0, hb⟩; refine ⟨_, rfl, ?_⟩; have HO126 := Aside0.mk (Kd.R_lower (Kd.R_new' (Kd.R_new' (Kd.R_new' (Kd.R_new' (Kd.R_mono (ok' := fun k_ => True) ho0 (fun _ hk_ => trivial)) (Kd.R_lt (ro HO_7))) (Kd.R_lt (ro HO_9))) (Kd.R_lt (ro HO_10))) (Kd.R_lt (ro HO_14))) (below_size bh)); replace HO_7 := Aside0.mk (Kd.R_elder' (ro HO_7) (Kd.R_base ho0) hb); replace HO_9 := Aside0.mk (Kd.R_elder' (ro HO_9) (Kd.R_base ho0) hb); replace HO_10 := Aside0.mk (Kd.R_elder' (ro HO_10) (Kd.R_base ho0) hb); replace HO_14 := Aside0.mk (Kd.R_elder' (ro HO_14) (Kd.R_base ho0) hb); replace HB := Aside0.mk (below_step bh hb); (try clear hb); (try clear hb2); (try clear hk); (try clear hi); (try clear ho0); obtain ⟨Ao156, co156, eo156⟩ := Kd.R_slice HO_14.out; subst eo156) | ((with_reducible refine gate_callee (f := 40) rfl ?_); refine goesL_ (some 93) rfl rfl Try.func40 (by kernel_rfl) rfl #[.slice Ao14 t101.length co14, .slice Ao156 t118.length co156] rfl sg ?_; (with_reducible refine (shape_Sum.calls kj9 (fun k_ => some k_ = (.slice Ao14 t101.length co14 : Value).ownBlock) _ _ t101 (fun k_ => some k_ = (.slice Ao156 t118.length co156 : Value).ownBlock) _ _ t118 t128 t131 _ ?side1 ?side2 A41.out).mono ?_); (case side1 => exact Kd.R_V (Kd.R_tight rfl (HO_7.out))); (case side2 => exact Kd.R_V (Kd.R_tight rfl (HO_14.out))); rintro e w157 ⟨v129, rfl, ho0, hb⟩; refine ⟨_, rfl, ?_⟩; have HO130 := Aside0.mk (Kd.R_lower (Kd.R_new' (Kd.R_new' (Kd.R_new' (Kd.R_new' (Kd.R_new' (Kd.R_mono (ok' := fun k_ => True) ho0 (fun _ hk_ => trivial)) (Kd.R_lt (ro HO_7))) (Kd.R_lt (ro HO_9))) (Kd.R_lt (ro HO_10))) (Kd.R_lt (ro HO_14))) (Kd.R_lt (ro HO126))) (below_size bh)); replace HO_7 := Aside0.mk (Kd.R_elder' (ro HO_7) (Kd.R_base ho0) hb); replace HO_9 := Aside0.mk (Kd.R_elder' (ro HO_9) (Kd.R_base ho0) hb); replace HO_10 := Aside0.mk (Kd.R_elder' (ro HO_10) (Kd.R_base ho0) hb); replace HO_14 := Aside0.mk (Kd.R_elder' (ro HO_14) (Kd.R_base ho0) hb); replace HO126 := Aside0.mk (Kd.R_elder' (ro HO126) (Kd.R_base ho0) hb); replace HB := Aside0.mk (below_step bh hb); (try clear hb); (try clear hb2); (try clear hk); (try clear hi); (try clear ho0)) | ((with_reducible refine gate_callee (f := 40) rfl ?_); refine goesL_ (some 99) rfl rfl Try.func40 (by kernel_rfl) rfl #[.slice Ao14 t101.length co14, .slice Ao14 t101.length co14] rfl sg ?_; (with_reducible refine (shape_Sum.calls kj9 (fun k_ => some k_ = (.slice Ao14 t101.length co14 : Value).ownBlock) _ _ t101 (fun k_ => some k_ = (.slice Ao14 t101.length co14 : Value).ownBlock) _ _ t101 t132 t135 _ ?side1 ?side2 A42.out).mono ?_); (case side1 => exact Kd.R_V (Kd.R_tight rfl (HO_7.out))); (case side2 => exact Kd.R_V (Kd.R_tight rfl (HO_7.out))); rintro e w158 ⟨v133, rfl, ho0, hb⟩; refine ⟨_, rfl, ?_⟩; have HO134 := Aside0.mk (Kd.R_lower (Kd.R_new' (Kd.R_new' (Kd.R_new' (Kd.R_new' (Kd.R_new' (Kd.R_new' (Kd.R_mono (ok' := fun k_ => True) ho0 (fun _ hk_ => trivial)) (Kd.R_lt (ro HO_7))) (Kd.R_lt (ro HO_9))) (Kd.R_lt (ro HO_10))) (Kd.R_lt (ro HO_14))) (Kd.R_lt (ro HO126))) (Kd.R_lt (ro HO130))) (below_size bh)); replace HO_7 := Aside0.mk (Kd.R_elder' (ro HO_7) (Kd.R_base ho0) hb); replace HO_9 := Aside0.mk (Kd.R_elder' (ro HO_9) (Kd.R_base ho0) hb); replace HO_10 := Aside0.mk (Kd.R_elder' (ro HO_10) (Kd.R_base ho0) hb); replace HO_14 := Aside0.mk (Kd.R_elder' (ro HO_14) (Kd.R_base ho0) hb); replace HO126 := Aside0.mk (Kd.R_elder' (ro HO126) (Kd.R_base ho0) hb); replace HO130 := Aside0.mk (Kd.R_elder' (ro HO130) (Kd.R_base ho0) hb); replace HB := Aside0.mk (below_step bh hb); (try clear hb); (try clear hb2); (try clear hk); (try clear hi); (try clear ho0)) | ((with_reducible refine gate_callee (f := 41) rfl ?_); refine goesL_ (some 104) rfl rfl Try.func41 (by kernel_rfl) rfl #[.slice Ao14 t101.length co14] rfl sg ?_; (with_reducible refine (shape_Negative.calls kj9 _ _ t101 t136 t137 _ ?side1 ?side2 A43.out).mono ?_); (case side1 => exact cs (Kd.R_reads' HO_7.out).2.2); (case side2 => exact (Kd.R_reads' HO_7.out).2.1); rintro e w159 ⟨v138, rfl, ho0, hb⟩; refine ⟨_, rfl, ?_⟩; have HO139 := Aside0.mk (Kd.R_lower (Kd.R_new' (Kd.R_new' (Kd.R_new' (Kd.R_new' (Kd.R_new' (Kd.R_new' (Kd.R_new' ho0 (Kd.R_lt (ro HO_7))) (Kd.R_lt (ro HO_9))) (Kd.R_lt (ro HO_10))) (Kd.R_lt (ro HO_14))) (Kd.R_lt (ro HO126))) (Kd.R_lt (ro HO130))) (Kd.R_lt (ro HO134))) (below_size bh)); replace HO_7 := Aside0.mk (Kd.R_elder' (ro HO_7) (Kd.R_base ho0) hb); replace HO_9 := Aside0.mk (Kd.R_elder' (ro HO_9) (Kd.R_base ho0) hb); replace HO_10 := Aside0.mk (Kd.R_elder' (ro HO_10) (Kd.R_base ho0) hb); replace HO_14 := Aside0.mk (Kd.R_elder' (ro HO_14) (Kd.R_base ho0) hb); replace HO126 := Aside0.mk (Kd.R_elder' (ro HO126) (Kd.R_base ho0) hb); replace HO130 := Aside0.mk (Kd.R_elder' (ro HO130) (Kd.R_base ho0) hb); replace HO134 := Aside0.mk (Kd.R_elder' (ro HO134) (Kd.R_base ho0) hb); replace HB := Aside0.mk (below_step bh hb); (try clear hb); (try clear hb2); (try clear hk); (try clear hi); (try clear ho0); obtain ⟨Ao160, co160, eo160⟩ := Kd.R_slice HO139.out; subst eo160) | ((with_reducible refine gate_callee (f := 41) rfl ?_); refine goesL_ (some 109) rfl rfl Try.func41 (by kernel_rfl) rfl #[.slice Ao160 t136.length co160] rfl sg ?_; (with_reducible refine (shape_Negative.calls kj9 _ _ t136 t140 t141 _ ?side1 ?side2 A44.out).mono ?_); (case side1 => exact cs (Kd.R_reads' HO139.out).2.2); (case side2 => exact (Kd.R_reads' HO139.out).2.1); rintro e w161 ⟨v142, rfl, ho0, hb⟩; refine ⟨_, rfl, ?_⟩; have HO143 := Aside0.mk (Kd.R_lower (Kd.R_new' (Kd.R_new' (Kd.R_new' (Kd.R_new' (Kd.R_new' (Kd.R_new' (Kd.R_new' (Kd.R_new' ho0 (Kd.R_lt (ro HO_7))) (Kd.R_lt (ro HO_9))) (Kd.R_lt (ro HO_10))) (Kd.R_lt (ro HO_14))) (Kd.R_lt (ro HO126))) (Kd.R_lt (ro HO130))) (Kd.R_lt (ro HO134))) (Kd.R_lt (ro HO139))) (below_size bh)); replace HO_7 := Aside0.mk (Kd.R_elder' (ro HO_7) (Kd.R_base ho0) hb); replace HO_9 := Aside0.mk (Kd.R_elder' (ro HO_9) (Kd.R_base ho0) hb); replace HO_10 := Aside0.mk (Kd.R_elder' (ro HO_10) (Kd.R_base ho0) hb); replace HO_14 := Aside0.mk (Kd.R_elder' (ro HO_14) (Kd.R_base ho0) hb); replace HO126 := Aside0.mk (Kd.R_elder' (ro HO126) (Kd.R_base ho0) hb); replace HO130 := Aside0.mk (Kd.R_elder' (ro HO130) (Kd.R_base ho0) hb); replace HO134 := Aside0.mk (Kd.R_elder' (ro HO134) (Kd.R_base ho0) hb); replace HO139 := Aside0.mk (Kd.R_elder' (ro HO139) (Kd.R_base ho0) hb); replace HB := Aside0.mk (below_step bh hb); (try clear hb); (try clear hb2); (try clear hk); (try clear hi); (try clear ho0)) | ((with_reducible refine gate_callee (f := 24) rfl ?_); refine goesL_ (some 114) rfl rfl Try.func24 (by kernel_rfl) rfl #[.slice Ao14 t101.length co14] rfl sg ?_; (with_reducible refine (shape_Area2.calls kj9 _ _ t101 t144 t145 _ ?side1 ?side2 A45.out).mono ?_); (case side1 => exact cs (Kd.R_reads' HO_7.out).2.2); (case side2 => exact (Kd.R_reads' HO_7.out).2.1); rintro e w162 ⟨rfl, hb⟩; refine ⟨_, rfl, ?_⟩; replace HO_7 := Aside0.mk (Kd.R_below (ro HO_7) hb); replace HO_9 := Aside0.mk (Kd.R_below (ro HO_9) hb); replace HO_10 := Aside0.mk (Kd.R_below (ro HO_10) hb); replace HO_14 := Aside0.mk (Kd.R_below (ro HO_14) hb); replace HO126 := Aside0.mk (Kd.R_below (ro HO126) hb); replace HO130 := Aside0.mk (Kd.R_below (ro HO130) hb); replace HO134 := Aside0.mk (Kd.R_below (ro HO134) hb); replace HO139 := Aside0.mk (Kd.R_below (ro HO139) hb); replace HO143 := Aside0.mk (Kd.R_below (ro HO143) hb); replace HB := Aside0.mk (below_step bh hb); (try clear hb); (try clear hb2); (try clear hk); (try clear hi); obtain ⟨Ao163, co163, eo163⟩ := Kd.R_slice HO134.out; subst eo163) | ((with_reducible refine gate_callee (f := 24) rfl ?_); refine goesL_ (some 119) rfl rfl Try.func24 (by kernel_rfl) rfl #[.slice Ao163 t132.length co163] rfl sg ?_; (with_reducible refine (shape_Area2.calls kj9 _ _ t132 t146 t147 _ ?side1 ?side2 A46.out).mono ?_); (case side1 => exact cs (Kd.R_reads' HO134.out).2.2); (case side2 => exact (Kd.R_reads' HO134.out).2.1); rintro e w164 ⟨rfl, hb⟩; refine ⟨_, rfl, ?_⟩; replace HO_7 := Aside0.mk (Kd.R_below (ro HO_7) hb); replace HO_9 := Aside0.mk (Kd.R_below (ro HO_9) hb); replace HO_10 := Aside0.mk (Kd.R_below (ro HO_10) hb); replace HO_14 := Aside0.mk (Kd.R_below (ro HO_14) hb); replace HO126 := Aside0.mk (Kd.R_below (ro HO126) hb); replace HO130 := Aside0.mk (Kd.R_below (ro HO130) hb); replace HO134 := Aside0.mk (Kd.R_below (ro HO134) hb); replace HO139 := Aside0.mk (Kd.R_below (ro HO139) hb); replace HO143 := Aside0.mk (Kd.R_below (ro HO143) hb); replace HB := Aside0.mk (below_step bh hb); (try clear hb); (try clear hb2); (try clear hk); (try clear hi)))
      go_ret
      exact ⟨by exact er, bh⟩
    ·rw [if_neg c47] at H
     have c47b0 : (t127 == 0) = false := beq_eq_false_iff_ne.mpr c47
     have c47b1 : (t127 != 0) = true := bne_iff_ne.mpr c47
     obtain rfl := Option.some.inj H
     obtain ⟨Ao165, co165, eo165⟩ := Kd.R_slice HO_10.out
     subst eo165
     go_wp2_with (first | ((with_reducible refine gate_callee (f := 40) rfl ?_); refine goesL_ (some 87) rfl rfl Try.func40 (by kernel_rfl) rfl #[.slice Ao165 t110.length co165, .slice Ao18 t107.length co18] rfl sg ?_; (with_reducible refine (shape_Sum.calls kj9 (fun k_ => some k_ = (.slice Ao165 t110.length co165 : Value).ownBlock) _ _ t110 (fun k_ => some k_ = (.slice Ao18 t107.length co18 : Value).ownBlock) _ _ t107 t124 t127 _ ?side1 ?side2 A40.out).mono ?_); (case side1 => exact Kd.R_V (Kd.R_tight rfl (HO_10.out))); (case side2 => exact Kd.R_V (Kd.R_tight rfl (HO_9.out))); rintro e w166 ⟨v125, rfl, ho0, hb⟩; refine ⟨_, rfl, ?_⟩; have HO126 := Aside0.mk (Kd.R_lower (Kd.R_new' (Kd.R_new' (Kd.R_new' (Kd.R_new' (Kd.R_mono (ok' := fun k_ => True) ho0 (fun _ hk_ => trivial)) (Kd.R_lt (ro HO_7))) (Kd.R_lt (ro HO_9))) (Kd.R_lt (ro HO_10))) (Kd.R_lt (ro HO_14))) (below_size bh)); replace HO_7 := Aside0.mk (Kd.R_elder' (ro HO_7) (Kd.R_base ho0) hb); replace HO_9 := Aside0.mk (Kd.R_elder' (ro HO_9) (Kd.R_base ho0) hb); replace HO_10 := Aside0.mk (Kd.R_elder' (ro HO_10) (Kd.R_base ho0) hb); replace HO_14 := Aside0.mk (Kd.R_elder' (ro HO_14) (Kd.R_base ho0) hb); replace HB := Aside0.mk (below_step bh hb); (try clear hb); (try clear hb2); (try clear hk); (try clear hi); (try clear ho0); obtain ⟨Ao167, co167, eo167⟩ := Kd.R_slice HO_14.out; subst eo167) | ((with_reducible refine gate_callee (f := 40) rfl ?_); refine goesL_ (some 93) rfl rfl Try.func40 (by kernel_rfl) rfl #[.slice Ao14 t101.length co14, .slice Ao167 t118.length co167] rfl sg ?_; (with_reducible refine (shape_Sum.calls kj9 (fun k_ => some k_ = (.slice Ao14 t101.length co14 : Value).ownBlock) _ _ t101 (fun k_ => some k_ = (.slice Ao167 t118.length co167 : Value).ownBlock) _ _ t118 t128 t131 _ ?side1 ?side2 A41.out).mono ?_); (case side1 => exact Kd.R_V (Kd.R_tight rfl (HO_7.out))); (case side2 => exact Kd.R_V (Kd.R_tight rfl (HO_14.out))); rintro e w168 ⟨v129, rfl, ho0, hb⟩; refine ⟨_, rfl, ?_⟩; have HO130 := Aside0.mk (Kd.R_lower (Kd.R_new' (Kd.R_new' (Kd.R_new' (Kd.R_new' (Kd.R_new' (Kd.R_mono (ok' := fun k_ => True) ho0 (fun _ hk_ => trivial)) (Kd.R_lt (ro HO_7))) (Kd.R_lt (ro HO_9))) (Kd.R_lt (ro HO_10))) (Kd.R_lt (ro HO_14))) (Kd.R_lt (ro HO126))) (below_size bh)); replace HO_7 := Aside0.mk (Kd.R_elder' (ro HO_7) (Kd.R_base ho0) hb); replace HO_9 := Aside0.mk (Kd.R_elder' (ro HO_9) (Kd.R_base ho0) hb); replace HO_10 := Aside0.mk (Kd.R_elder' (ro HO_10) (Kd.R_base ho0) hb); replace HO_14 := Aside0.mk (Kd.R_elder' (ro HO_14) (Kd.R_base ho0) hb); replace HO126 := Aside0.mk (Kd.R_elder' (ro HO126) (Kd.R_base ho0) hb); replace HB := Aside0.mk (below_step bh hb); (try clear hb); (try clear hb2); (try clear hk); (try clear hi); (try clear ho0)) | ((with_reducible refine gate_callee (f := 40) rfl ?_); refine goesL_ (some 99) rfl rfl Try.func40 (by kernel_rfl) rfl #[.slice Ao14 t101.length co14, .slice Ao14 t101.length co14] rfl sg ?_; (with_reducible refine (shape_Sum.calls kj9 (fun k_ => some k_ = (.slice Ao14 t101.length co14 : Value).ownBlock) _ _ t101 (fun k_ => some k_ = (.slice Ao14 t101.length co14 : Value).ownBlock) _ _ t101 t132 t135 _ ?side1 ?side2 A42.out).mono ?_); (case side1 => exact Kd.R_V (Kd.R_tight rfl (HO_7.out))); (case side2 => exact Kd.R_V (Kd.R_tight rfl (HO_7.out))); rintro e w169 ⟨v133, rfl, ho0, hb⟩; refine ⟨_, rfl, ?_⟩; have HO134 := Aside0.mk (Kd.R_lower (Kd.R_new' (Kd.R_new' (Kd.R_new' (Kd.R_new' (Kd.R_new' (Kd.R_new' (Kd.R_mono (ok' := fun k_ => True) ho0 (fun _ hk_ => trivial)) (Kd.R_lt (ro HO_7))) (Kd.R_lt (ro HO_9))) (Kd.R_lt (ro HO_10))) (Kd.R_lt (ro HO_14))) (Kd.R_lt (ro HO126))) (Kd.R_lt (ro HO130))) (below_size bh)); replace HO_7 := Aside0.mk (Kd.R_elder' (ro HO_7) (Kd.R_base ho0) hb); replace HO_9 := Aside0.mk (Kd.R_elder' (ro HO_9) (Kd.R_base ho0) hb); replace HO_10 := Aside0.mk (Kd.R_elder' (ro HO_10) (Kd.R_base ho0) hb); replace HO_14 := Aside0.mk (Kd.R_elder' (ro HO_14) (Kd.R_base ho0) hb); replace HO126 := Aside0.mk (Kd.R_elder' (ro HO126) (Kd.R_base ho0) hb); replace HO130 := Aside0.mk (Kd.R_elder' (ro HO130) (Kd.R_base ho0) hb); replace HB := Aside0.mk (below_step bh hb); (try clear hb); (try clear hb2); (try clear hk); (try clear hi); (try clear ho0)) | ((with_reducible refine gate_callee (f := 41) rfl ?_); refine goesL_ (some 104) rfl rfl Try.func41 (by kernel_rfl) rfl #[.slice Ao14 t101.length co14] rfl sg ?_; (with_reducible refine (shape_Negative.calls kj9 _ _ t101 t136 t137 _ ?side1 ?side2 A43.out).mono ?_); (case side1 => exact cs (Kd.R_reads' HO_7.out).2.2); (case side2 => exact (Kd.R_reads' HO_7.out).2.1); rintro e w170 ⟨v138, rfl, ho0, hb⟩; refine ⟨_, rfl, ?_⟩; have HO139 := Aside0.mk (Kd.R_lower (Kd.R_new' (Kd.R_new' (Kd.R_new' (Kd.R_new' (Kd.R_new' (Kd.R_new' (Kd.R_new' ho0 (Kd.R_lt (ro HO_7))) (Kd.R_lt (ro HO_9))) (Kd.R_lt (ro HO_10))) (Kd.R_lt (ro HO_14))) (Kd.R_lt (ro HO126))) (Kd.R_lt (ro HO130))) (Kd.R_lt (ro HO134))) (below_size bh)); replace HO_7 := Aside0.mk (Kd.R_elder' (ro HO_7) (Kd.R_base ho0) hb); replace HO_9 := Aside0.mk (Kd.R_elder' (ro HO_9) (Kd.R_base ho0) hb); replace HO_10 := Aside0.mk (Kd.R_elder' (ro HO_10) (Kd.R_base ho0) hb); replace HO_14 := Aside0.mk (Kd.R_elder' (ro HO_14) (Kd.R_base ho0) hb); replace HO126 := Aside0.mk (Kd.R_elder' (ro HO126) (Kd.R_base ho0) hb); replace HO130 := Aside0.mk (Kd.R_elder' (ro HO130) (Kd.R_base ho0) hb); replace HO134 := Aside0.mk (Kd.R_elder' (ro HO134) (Kd.R_base ho0) hb); replace HB := Aside0.mk (below_step bh hb); (try clear hb); (try clear hb2); (try clear hk); (try clear hi); (try clear ho0); obtain ⟨Ao171, co171, eo171⟩ := Kd.R_slice HO139.out; subst eo171) | ((with_reducible refine gate_callee (f := 41) rfl ?_); refine goesL_ (some 109) rfl rfl Try.func41 (by kernel_rfl) rfl #[.slice Ao171 t136.length co171] rfl sg ?_; (with_reducible refine (shape_Negative.calls kj9 _ _ t136 t140 t141 _ ?side1 ?side2 A44.out).mono ?_); (case side1 => exact cs (Kd.R_reads' HO139.out).2.2); (case side2 => exact (Kd.R_reads' HO139.out).2.1); rintro e w172 ⟨v142, rfl, ho0, hb⟩; refine ⟨_, rfl, ?_⟩; have HO143 := Aside0.mk (Kd.R_lower (Kd.R_new' (Kd.R_new' (Kd.R_new' (Kd.R_new' (Kd.R_new' (Kd.R_new' (Kd.R_new' (Kd.R_new' ho0 (Kd.R_lt (ro HO_7))) (Kd.R_lt (ro HO_9))) (Kd.R_lt (ro HO_10))) (Kd.R_lt (ro HO_14))) (Kd.R_lt (ro HO126))) (Kd.R_lt (ro HO130))) (Kd.R_lt (ro HO134))) (Kd.R_lt (ro HO139))) (below_size bh)); replace HO_7 := Aside0.mk (Kd.R_elder' (ro HO_7) (Kd.R_base ho0) hb); replace HO_9 := Aside0.mk (Kd.R_elder' (ro HO_9) (Kd.R_base ho0) hb); replace HO_10 := Aside0.mk (Kd.R_elder' (ro HO_10) (Kd.R_base ho0) hb); replace HO_14 := Aside0.mk (Kd.R_elder' (ro HO_14) (Kd.R_base ho0) hb); replace HO126 := Aside0.mk (Kd.R_elder' (ro HO126) (Kd.R_base ho0) hb); replace HO130 := Aside0.mk (Kd.R_elder' (ro HO130) (Kd.R_base ho0) hb); replace HO134 := Aside0.mk (Kd.R_elder' (ro HO134) (Kd.R_base ho0) hb); replace HO139 := Aside0.mk (Kd.R_elder' (ro HO139) (Kd.R_base ho0) hb); replace HB := Aside0.mk (below_step bh hb); (try clear hb); (try clear hb2); (try clear hk); (try clear hi); (try clear ho0)) | ((with_reducible refine gate_callee (f := 24) rfl ?_); refine goesL_ (some 114) rfl rfl Try.func24 (by kernel_rfl) rfl #[.slice Ao14 t101.length co14] rfl sg ?_; (with_reducible refine (shape_Area2.calls kj9 _ _ t101 t144 t145 _ ?side1 ?side2 A45.out).mono ?_); (case side1 => exact cs (Kd.R_reads' HO_7.out).2.2); (case side2 => exact (Kd.R_reads' HO_7.out).2.1); rintro e w173 ⟨rfl, hb⟩; refine ⟨_, rfl, ?_⟩; replace HO_7 := Aside0.mk (Kd.R_below (ro HO_7) hb); replace HO_9 := Aside0.mk (Kd.R_below (ro HO_9) hb); replace HO_10 := Aside0.mk (Kd.R_below (ro HO_10) hb); replace HO_14 := Aside0.mk (Kd.R_below (ro HO_14) hb); replace HO126 := Aside0.mk (Kd.R_below (ro HO126) hb); replace HO130 := Aside0.mk (Kd.R_below (ro HO130) hb); replace HO134 := Aside0.mk (Kd.R_below (ro HO134) hb); replace HO139 := Aside0.mk (Kd.R_below (ro HO139) hb); replace HO143 := Aside0.mk (Kd.R_below (ro HO143) hb); replace HB := Aside0.mk (below_step bh hb); (try clear hb); (try clear hb2); (try clear hk); (try clear hi); obtain ⟨Ao174, co174, eo174⟩ := Kd.R_slice HO134.out; subst eo174) | ((with_reducible refine gate_callee (f := 24) rfl ?_); refine goesL_ (some 119) rfl rfl Try.func24 (by kernel_rfl) rfl #[.slice Ao174 t132.length co174] rfl sg ?_; (with_reducible refine (shape_Area2.calls kj9 _ _ t132 t146 t147 _ ?side1 ?side2 A46.out).mono ?_); (case side1 => exact cs (Kd.R_reads' HO134.out).2.2); (case side2 => exact (Kd.R_reads' HO134.out).2.1); rintro e w175 ⟨rfl, hb⟩; refine ⟨_, rfl, ?_⟩; replace HO_7 := Aside0.mk (Kd.R_below (ro HO_7) hb); replace HO_9 := Aside0.mk (Kd.R_below (ro HO_9) hb); replace HO_10 := Aside0.mk (Kd.R_below (ro HO_10) hb); replace HO_14 := Aside0.mk (Kd.R_below (ro HO_14) hb); replace HO126 := Aside0.mk (Kd.R_below (ro HO126) hb); replace HO130 := Aside0.mk (Kd.R_below (ro HO130) hb); replace HO134 := Aside0.mk (Kd.R_below (ro HO134) hb); replace HO139 := Aside0.mk (Kd.R_below (ro HO139) hb); replace HO143 := Aside0.mk (Kd.R_below (ro HO143) hb); replace HB := Aside0.mk (below_step bh hb); (try clear hb); (try clear hb2); (try clear hk); (try clear hi)))
     go_ret
     exact ⟨by exact er, bh⟩
end Go.Proofs.Ytoffmpkgickfhaa.PG
end
