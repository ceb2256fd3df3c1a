/- Parts of the proof of YthehmkpcddafnaaLawShapeShows: printed walks, their words, and plain laws. -/
import Derived.Test.YthehmkpcddafnaaQS1
import Derived.Test.YthehmkpcddafnaaQS2
import Derived.Shelf.Abstract
section
namespace Go.Proofs.Ythehmkpcddafnaa.PG
open Go.RowKit Go.Proofs.YthehmkpcddafnaaW.PrintWords Go.Proofs.YthehmkpcddafnaaW.PrintLast Go.Proofs.YthehmkpcddafnaaW.PrintMore
attribute [local go_sem] max2_int min2_int max_two min_two max_three min_three max_four min_four
set_option linter.unusedVariables false
set_option linter.unusedSimpArgs false
/-! ### cracknelref04_Within: function 44 -/
mutual
def cracknelref04_Within.l0 : Nat → List (S41) → List (S41) → Int → Option (Bool)
 | 0, _, _, _ => none
 | k + 1, x0, x1, x5 => if x5 < 3 then (if 0 ≤ x5 then (if x5 < (x1.length : Int) then ((cracknelref04_Where.f k x0 ((rd_T41 x1 x5).f0) ((rd_T41 x1 x5).f1)).bind fun t102 => (if t102 < 0 then (some false) else (cracknelref04_Within.l0 k x0 x1 (wrap64 (x5 + 1))))) else (none)) else (none)) else (cracknelref04_Within.l1 k x0 x1 0)
def cracknelref04_Within.l1 : Nat → List (S41) → List (S41) → Int → Option (Bool)
 | 0, _, _, _ => none
 | k + 1, x0, x1, x6 => if x6 < (x0.length : Int) then (if 0 ≤ x6 then ((cracknelref04_next.f x0 x6).bind fun bt104 => ((cracknelref04_cuts.f k x1 ((rd_T41 x0 x6).f0) ((rd_T41 x0 x6).f1) bt104.1 bt104.2).bind fun t106 => (if t106 = true then (some false) else (cracknelref04_Within.l1 k x0 x1 (wrap64 (x6 + 1)))))) else (none)) else (cracknelref04_Within.l2 k x0 x1 (([] : List (S41))) 0)
def cracknelref04_Within.l2 : Nat → List (S41) → List (S41) → List (S41) → Int → Option (Bool)
 | 0, _, _, _, _ => none
 | k + 1, x0, x1, x7, x8 => if x8 < (x0.length : Int) then (if 0 ≤ x8 then (if x7.length < 8796093022208 then (cracknelref04_Within.l2 k x0 x1 (x7 ++ [(⟨wrap64 (3 * ((rd_T41 x0 x8).f0)), wrap64 (3 * ((rd_T41 x0 x8).f1))⟩ : S41)]) (wrap64 (x8 + 1))) else (none)) else (none)) else (if 0 < (x1.length : Int) then (if 1 < (x1.length : Int) then (if 2 < (x1.length : Int) then ((cracknelref04_Where.f k x7 (wrap64 ((wrap64 (((rd_T41 x1 0).f0) + ((rd_T41 x1 1).f0))) + ((rd_T41 x1 2).f0))) (wrap64 ((wrap64 (((rd_T41 x1 0).f1) + ((rd_T41 x1 1).f1))) + ((rd_T41 x1 2).f1)))).bind fun t121 => (some (decide (t121 > 0)))) else (none)) else (none)) else (none))
end
def cracknelref04_Within.f (k : Nat) (l0 : List (S41)) (l1 : List (S41)) : Option (Bool) := cracknelref04_Within.l0 k l0 l1 0
def cracknelref04_Within.T9 : Bool × List (List Nat × List Nat) := (true, [([], []), ([], []), ([], []), ([1, 2], [1, 2]), ([3], [3]), ([], []), ([], []), ([5, 6], [5, 6]), ([0, 4, 7, 7], [0, 4, 7])])
def cracknelref04_Within.B9 : List Nat := [0, 0, 0, 6, 14, 0, 0, 96, 255]
theorem cracknelref04_Within.tab9 : rtab .any (opsOf Try.f44 9) = cracknelref04_Within.T9 := by kernel_rfl
theorem cracknelref04_Within.bits9 : waitsOk cracknelref04_Within.T9.2 cracknelref04_Within.B9 = true := by kernel_rfl
def cracknelref04_Within.T15 : Bool × List (List Nat × List Nat) := (true, [([], []), ([], []), ([], []), ([1, 2], [1, 2]), ([3], [3]), ([4], [4]), ([5], [5]), ([], []), ([], []), ([7, 8], [7, 8]), ([9], [9]), ([10], [10]), ([11], [11]), ([6, 12], [6, 12]), ([13], [13]), ([0, 14], [0, 14]), ([15, 15, 0, 1, 2, 3, 4, 5, 6, 7, 8, 9, 10, 11, 12, 13, 14, 15], [0, 15])])
def cracknelref04_Within.B15 : List Nat := [0, 0, 0, 6, 14, 30, 62, 0, 0, 384, 896, 1920, 3968, 8190, 16382, 32767, 65535]
theorem cracknelref04_Within.tab15 : rtab .any (opsOf Try.f44 15) = cracknelref04_Within.T15 := by kernel_rfl
theorem cracknelref04_Within.bits15 : waitsOk cracknelref04_Within.T15.2 cracknelref04_Within.B15 = true := by kernel_rfl
def cracknelref04_Within.T16 : Bool × List (List Nat × List Nat) := (true, [([], []), ([], []), ([1], [1]), ([2], [2]), ([3], [3]), ([], []), ([5], [5]), ([6], [6]), ([7], [7]), ([4, 8], [4, 8]), ([], []), ([10], [10]), ([11], [11]), ([12], [12]), ([9, 13], [9, 13]), ([], []), ([15], [15]), ([16], [16]), ([17], [17]), ([], []), ([19], [19]), ([20], [20]), ([21], [21]), ([18, 22], [18, 22]), ([], []), ([24], [24]), ([25], [25]), ([26], [26]), ([23, 27], [23, 27]), ([14, 28], [14, 28]), ([0, 29], [0, 29]), ([30], [30]), ([31, 30, 0, 1, 2, 3, 4, 5, 6, 7, 8, 9, 10, 11, 12, 13, 14, 15, 16, 17, 18, 19, 20, 21, 22, 23, 24, 25, 26, 27, 28, 29, 30, 31], [31])])
def cracknelref04_Within.B16 : List Nat := [0, 0, 2, 6, 14, 0, 32, 96, 224, 510, 0, 1024, 3072, 7168, 16382, 0, 32768, 98304, 229376, 0, 524288, 1572864, 3670016, 8355840, 0, 16777216, 50331648, 117440512, 268402688, 536870910, 1073741823, 2147483647, 4294967295]
theorem cracknelref04_Within.tab16 : rtab .any (opsOf Try.f44 16) = cracknelref04_Within.T16 := by kernel_rfl
theorem cracknelref04_Within.bits16 : waitsOk cracknelref04_Within.T16.2 cracknelref04_Within.B16 = true := by kernel_rfl
set_option maxHeartbeats 8000000 in
set_option maxRecDepth 100000 in
theorem cracknelref04_Within.calls (k : Nat) (A0 : Option Addr) (c0 : Nat) (l0 : List (S41)) (A1 : Option Addr) (c1 : Nat) (l1 : List (S41)) (r : Bool) (w : World) (hr0 : Kd.C k41 w A0 l0.length l0) (hc0 : l0.length ≤ c0) (hr1 : Kd.C k41 w A1 l1.length l1) (hc1 : l1.length ≤ c1) (h : cracknelref04_Within.f k l0 l1 = some r) :
  Calls Try.prog 44 #[.slice A0 l0.length c0, .slice A1 l1.length c1] w fun e w' => e = .returned (.bool r) ∧ Below w.heap.size w w' := by
 have hu41 := Try.underlying41
 have HR0 := Aside0.mk hr0
 have HC0 := Aside0.mk hc0
 clear hr0 hc0
 have HR1 := Aside0.mk hr1
 have HC1 := Aside0.mk hc1
 clear hr1 hc1
 have HB := Aside0.mk (Below.refl w.heap.size w)
 have H : (cracknelref04_Within.l0 k l0 l1 0) = some r := h
 clear h
 have H' := Aside0.mk H
 clear H
 go_enter Try.func44, Try.ntmps44
 go_wp2
 go_loopg [5] k (fun kq v5 w' => ∃ (x5_1 : Int), v5 = .int .i64 x5_1 ∧ Aside0 (cracknelref04_Within.l0 kq l0 l1 x5_1 = some r) ∧ Aside0 (kq ≤ k) ∧ Aside0 (Below w.heap.size w w'))
 case atStart => exact ⟨(0), sd, H', ⟨Nat.le_refl _⟩, ⟨bh⟩⟩
 case round =>
  clear H'
  (try clear c1)
  obtain ⟨x5_1, rfl, HA, HK1, HB⟩ := hrel
  cases gk with
  | zero => exact absurd HA.out (by simp [cracknelref04_Within.l0])
  | succ k1 =>
   have H := HA.out
   clear HA
   simp only [cracknelref04_Within.l0] at H
   by_cases c3 : x5_1 < 3
   ·rw [if_pos c3] at H
    have c3b0 := decide_eq_true c3
    clear c3
    obtain ⟨c4, H⟩ := oi H
    have c4b0 := decide_eq_true c4
    clear c4
    obtain ⟨c5, H⟩ := oi H
    have c5b0 := decide_eq_true c5
    clear c5
    replace H := Option.bind_eq_some_iff.mp H
    obtain ⟨t102, A60, H⟩ := H
    try dsimp only at H
    have A6 := Aside0.mk A60
    clear A60
    by_cases c7 : t102 < 0
    ·rw [if_pos c7] at H
     have c7b0 := decide_eq_true c7
     clear c7
     obtain rfl := Option.some.inj H
     have p101 : 0 ≤ (x5_1 : Int) := dt
     have q101 : x5_1 < (l1.length : Int) := dt
     obtain ⟨ad101, e101, hx101_0, hx101_1⟩ := at_T41 HR1.out x5_1 p101 q101
     cases e101
     replace hx101_0 := hc HB hx101_0
     replace hx101_1 := hc HB hx101_1
     replace p101 := eq_true p101
     replace q101 := eq_true q101
     go_wp2_with (first | ((with_reducible refine gc 56 rfl ?_); refine goesL_ (some 18) rfl rfl Try.func56 (by kernel_rfl) rfl #[.slice A0 l0.length c0, .agg #[.int .i64 ((rd_T41 l1 x5_1).f0), .int .i64 ((rd_T41 l1 x5_1).f1)]] rfl sg ?_; (with_reducible refine (cracknelref04_Where.calls k1 _ _ l0 ((rd_T41 l1 x5_1).f0) ((rd_T41 l1 x5_1).f1) t102 _ ?side1 ?side2 A6.out).mono ?_); (case side1 => exact cs (Kd.C_below HR0.out HB.out)); (case side2 => exact HC0.out); rintro e w8 ⟨rfl, hb⟩; refine ⟨_, rfl, ?_⟩; replace HB := bz hb; (try clear hb)))
     go_ret
     exact ⟨by exact er, bh⟩
    ·rw [if_neg c7] at H
     have c7b0 := decide_eq_false c7
     clear c7
     have H' := Aside0.mk H
     clear H
     have p101 : 0 ≤ (x5_1 : Int) := dt
     have q101 : x5_1 < (l1.length : Int) := dt
     obtain ⟨ad101, e101, hx101_0, hx101_1⟩ := at_T41 HR1.out x5_1 p101 q101
     cases e101
     replace hx101_0 := hc HB hx101_0
     replace hx101_1 := hc HB hx101_1
     replace p101 := eq_true p101
     replace q101 := eq_true q101
     go_wp2_with (first | ((with_reducible refine gc 56 rfl ?_); refine goesL_ (some 18) rfl rfl Try.func56 (by kernel_rfl) rfl #[.slice A0 l0.length c0, .agg #[.int .i64 ((rd_T41 l1 x5_1).f0), .int .i64 ((rd_T41 l1 x5_1).f1)]] rfl sg ?_; (with_reducible refine (cracknelref04_Where.calls k1 _ _ l0 ((rd_T41 l1 x5_1).f0) ((rd_T41 l1 x5_1).f1) t102 _ ?side1 ?side2 A6.out).mono ?_); (case side1 => exact cs (Kd.C_below HR0.out HB.out)); (case side2 => exact HC0.out); rintro e w9 ⟨rfl, hb⟩; refine ⟨_, rfl, ?_⟩; replace HB := bz hb; (try clear hb)))
     go_roundg k1
     case measure => have := HK1.out; omega
     case rel => exact ⟨(wrap64 (x5_1 + 1)), sd, H', ⟨by have := HK1.out; omega⟩, ⟨bh⟩⟩
   ·rw [if_neg c3] at H
    have c3b0 := decide_eq_false c3
    clear c3
    have H' := Aside0.mk H
    clear H
    go_wp2
    go_loopg [6] k1 (fun kq v6 w' => ∃ (x6_2 : Int), v6 = .int .i64 x6_2 ∧ Aside0 (cracknelref04_Within.l1 kq l0 l1 x6_2 = some r) ∧ Aside0 (kq ≤ k1) ∧ Aside0 (Below w.heap.size w w'))
    case atStart => exact ⟨(0), sd, H', ⟨Nat.le_refl _⟩, ⟨bh⟩⟩
    case round =>
     clear H'
     (try clear c3b0)
     obtain ⟨x6_2, rfl, HA, HK2, HB⟩ := hrel
     cases gk with
     | zero => exact absurd HA.out (by simp [cracknelref04_Within.l1])
     | succ k2 =>
      have H := HA.out
      clear HA
      simp only [cracknelref04_Within.l1] at H
      by_cases c10 : x6_2 < (l0.length : Int)
      ·rw [if_pos c10] at H
       have c10b0 := decide_eq_true c10
       clear c10
       obtain ⟨c11, H⟩ := oi H
       have c11b0 := decide_eq_true c11
       clear c11
       replace H := Option.bind_eq_some_iff.mp H
       obtain ⟨⟨t104, t105⟩, A120, H⟩ := H
       try dsimp only at H
       have A12 := Aside0.mk A120
       clear A120
       replace H := Option.bind_eq_some_iff.mp H
       obtain ⟨t106, A130, H⟩ := H
       try dsimp only at H
       have A13 := Aside0.mk A130
       clear A130
       by_cases c14 : t106 = true
       ·subst c14
        rw [if_pos rfl] at H
        obtain rfl := Option.some.inj H
        try go_wp2
        replace HB := Aside0.mk (below_drew1 HB.out)
        have p103 : 0 ≤ (x6_2 : Int) := dt
        have q103 : x6_2 < (l0.length : Int) := dt
        obtain ⟨ad103, e103, hx103_0, hx103_1⟩ := at_T41 HR0.out x6_2 p103 q103
        have hw103_1 := hx103_1
        have hw103_0 := hx103_0
        cases e103
        replace hx103_0 := hc HB hx103_0
        replace hx103_1 := hc HB hx103_1
        replace p103 := eq_true p103
        replace q103 := eq_true q103
        refine start_ (n := 9) (S := fun w' => w'.cell? (ad103.add ((x6_2).toNat * 2)) = some (.int .i64 ((rd_T41 l0 x6_2).f0)) ∧ w'.cell? ⟨(ad103.add ((x6_2).toNat * 2)).block, (ad103.add ((x6_2).toNat * 2)).off + 1, none⟩ = some (.int .i64 ((rd_T41 l0 x6_2).f1))) (ds := []) #[N,N,N,N,N,N,N,N,N] (by kernel_rfl) rfl rfl ⟨(hc HB hw103_0), (hc HB hw103_1)⟩ (fun hHeld => ?_); refine with_tabW cracknelref04_Within.tab9 cracknelref04_Within.bits9 (fun HT_ HW_ => ?_)
        generalize wr.drew = w15 at HB hx103_0 hx103_1 hHeld ⊢
        refine pu 0 26 HT_ ?_
        refine pu 1 27 HT_ ?_
        refine pu 2 28 HT_ ?_
        refine pu 3 29 HT_ ?_
        refine pu 5 31 HT_ ?_
        refine pu 6 32 HT_ ?_
        refine tk2 4 30 hHeld HT_ HW_ ?_
        refine one_ (i := 7) (N := some 33) #[T,T,T,T,T,T,T,T,N] rfl rfl (on1 HT_) (by decide) (fun K hK => ?_)
        refine goes_ Try.func58 (by kernel_rfl) rfl #[.slice (some ad103) l0.length c0, .int .i64 x6_2] (by rfl) rfl rfl sg ?_
        with_reducible refine (cracknelref04_next.calls _ _ l0 x6_2 t104 t105 _ ?side1 ?side2 A12.out).mono ?_
        (case side1 => exact cs (Kd.C_below HR0.out HB.out))
        (case side2 => exact HC0.out)
        rintro e w16 ⟨rfl, hb⟩
        refine ⟨_, rfl, ?_⟩
        replace HB := bz hb
        (try clear hb)
        refine hK.out _ _ ⟨(hc HB hw103_0), (hc HB hw103_1)⟩ (fun hHeld => ?_)
        clear hK K
        refine nm 33 ?_
        refine one_ (i := 8) (N := some 34) #[T,T,T,T,T,T,T,T,T] rfl rfl (on1 HT_) (by decide) (fun K hK => ?_)
        refine goes_ Try.func97 (by kernel_rfl) rfl #[.slice A1 l1.length c1, .agg #[.int .i64 ((rd_T41 l0 x6_2).f0), .int .i64 ((rd_T41 l0 x6_2).f1)], .agg #[.int .i64 t104, .int .i64 t105]] (by rfl) rfl rfl sg ?_
        with_reducible refine (cracknelref04_cuts.calls k2 _ _ l1 ((rd_T41 l0 x6_2).f0) ((rd_T41 l0 x6_2).f1) t104 t105 true _ ?side1 ?side2 A13.out).mono ?_
        (case side1 => exact cs (Kd.C_below HR1.out HB.out))
        (case side2 => exact HC1.out)
        rintro e w17 ⟨rfl, hb⟩
        refine ⟨_, rfl, ?_⟩
        replace HB := bz hb
        (try clear hb)
        refine hK.out _ _ ⟨(hc HB hw103_0), (hc HB hw103_1)⟩ (fun hHeld => ?_)
        clear hK K
        refine nm 34 ?_
        refine done_ (done_of HT_.out (by kernel_rfl)) ?_
        try go_wp2
        go_ret
        exact ⟨by exact er, bh⟩
       ·replace c14 := Bool.eq_false_iff.mpr c14
        subst c14
        rw [if_neg (show ¬ (false = true) by decide)] at H
        have H' := Aside0.mk H
        clear H
        try go_wp2
        replace HB := Aside0.mk (below_drew1 HB.out)
        have p103 : 0 ≤ (x6_2 : Int) := dt
        have q103 : x6_2 < (l0.length : Int) := dt
        obtain ⟨ad103, e103, hx103_0, hx103_1⟩ := at_T41 HR0.out x6_2 p103 q103
        have hw103_1 := hx103_1
        have hw103_0 := hx103_0
        cases e103
        replace hx103_0 := hc HB hx103_0
        replace hx103_1 := hc HB hx103_1
        replace p103 := eq_true p103
        replace q103 := eq_true q103
        refine start_ (n := 9) (S := fun w' => w'.cell? (ad103.add ((x6_2).toNat * 2)) = some (.int .i64 ((rd_T41 l0 x6_2).f0)) ∧ w'.cell? ⟨(ad103.add ((x6_2).toNat * 2)).block, (ad103.add ((x6_2).toNat * 2)).off + 1, none⟩ = some (.int .i64 ((rd_T41 l0 x6_2).f1))) (ds := []) #[N,N,N,N,N,N,N,N,N] (by kernel_rfl) rfl rfl ⟨(hc HB hw103_0), (hc HB hw103_1)⟩ (fun hHeld => ?_); refine with_tabW cracknelref04_Within.tab9 cracknelref04_Within.bits9 (fun HT_ HW_ => ?_)
        generalize wr.drew = w18 at HB hx103_0 hx103_1 hHeld ⊢
        refine pu 0 26 HT_ ?_
        refine pu 1 27 HT_ ?_
        refine pu 2 28 HT_ ?_
        refine pu 3 29 HT_ ?_
        refine pu 5 31 HT_ ?_
        refine pu 6 32 HT_ ?_
        refine tk2 4 30 hHeld HT_ HW_ ?_
        refine one_ (i := 7) (N := some 33) #[T,T,T,T,T,T,T,T,N] rfl rfl (on1 HT_) (by decide) (fun K hK => ?_)
        refine goes_ Try.func58 (by kernel_rfl) rfl #[.slice (some ad103) l0.length c0, .int .i64 x6_2] (by rfl) rfl rfl sg ?_
        with_reducible refine (cracknelref04_next.calls _ _ l0 x6_2 t104 t105 _ ?side1 ?side2 A12.out).mono ?_
        (case side1 => exact cs (Kd.C_below HR0.out HB.out))
        (case side2 => exact HC0.out)
        rintro e w19 ⟨rfl, hb⟩
        refine ⟨_, rfl, ?_⟩
        replace HB := bz hb
        (try clear hb)
        refine hK.out _ _ ⟨(hc HB hw103_0), (hc HB hw103_1)⟩ (fun hHeld => ?_)
        clear hK K
        refine nm 33 ?_
        refine one_ (i := 8) (N := some 34) #[T,T,T,T,T,T,T,T,T] rfl rfl (on1 HT_) (by decide) (fun K hK => ?_)
        refine goes_ Try.func97 (by kernel_rfl) rfl #[.slice A1 l1.length c1, .agg #[.int .i64 ((rd_T41 l0 x6_2).f0), .int .i64 ((rd_T41 l0 x6_2).f1)], .agg #[.int .i64 t104, .int .i64 t105]] (by rfl) rfl rfl sg ?_
        with_reducible refine (cracknelref04_cuts.calls k2 _ _ l1 ((rd_T41 l0 x6_2).f0) ((rd_T41 l0 x6_2).f1) t104 t105 false _ ?side1 ?side2 A13.out).mono ?_
        (case side1 => exact cs (Kd.C_below HR1.out HB.out))
        (case side2 => exact HC1.out)
        rintro e w20 ⟨rfl, hb⟩
        refine ⟨_, rfl, ?_⟩
        replace HB := bz hb
        (try clear hb)
        refine hK.out _ _ ⟨(hc HB hw103_0), (hc HB hw103_1)⟩ (fun hHeld => ?_)
        clear hK K
        refine nm 34 ?_
        refine done_ (done_of HT_.out (by kernel_rfl)) ?_
        try go_wp2
        go_roundg k2
        case measure => have := HK1.out; have := HK2.out; omega
        case rel => exact ⟨(wrap64 (x6_2 + 1)), sd, H', ⟨by have := HK1.out; have := HK2.out; omega⟩, ⟨bh⟩⟩
      ·rw [if_neg c10] at H
       have c10b0 := decide_eq_false c10
       clear c10
       obtain ⟨y107, hy107⟩ : ∃ y_ : List (S41), y_ = (([] : List (S41))) := ⟨_, rfl⟩
       replace H : (cracknelref04_Within.l2 k2 l0 l1 y107 0) = some r := by first | (rw [hy107]; with_reducible exact H) | (have H2_ := (Option.bind_some _ _).symm.trans H; rw [hy107]; with_reducible exact H2_) | (have H2_ := (Option.bind_some _ _).symm.trans H; with_reducible exact H2_) | with_reducible exact H | (rw [hy107]; exact H) | exact H
       have Ny107 := Aside0.mk hy107
       clear hy107
       have H' := Aside0.mk H
       clear H
       go_wp2_with (first | ((with_reducible refine gate_dst (N := 35) rfl ?_); refine Kd.R_lit k41 _ 41 ?hg (N := 35) ?hd (xs := ([] : List (S41))) (inner := []) (ok := fun _ => True) (okp := fun _ => True) ?hr ?hp (fun _ hk => hk) trivial (Below.refl _ _) (Nat.le_refl _) (by simp) ?_; (case hd => rfl); (case hg => rfl); (case hr => first | (go_simp; done) | (go_simp; rfl)); (case hp => exact (Reps.none _ _)); intro v108 w21 ho22 hb hg_ hnew_; clear hg_ hnew_; (first | rw [← Ny107.out] at ho22 | (simp only [Int.reduceToNat] at ho22; rw [← Ny107.out] at ho22)); have HO109 := Aside0.mk (Kd.R_lower ho22 (below_size bh)); replace HB := bz hb; clear hb ho22))
       go_loopg [7, 8] k2 (fun kq v7 v8 w' => ∃ (x7_3 : List (S41)) (x8_3 : Int), v8 = .int .i64 x8_3 ∧ Aside0 (cracknelref04_Within.l2 kq l0 l1 x7_3 x8_3 = some r) ∧ Aside0 (kq ≤ k2) ∧ Aside0 (Kd.R k41 41 w' w.heap.size (fun _ => True) v7 x7_3) ∧ Aside0 (Below w.heap.size w w'))
       case atStart => exact ⟨(y107), (0), sd, H', ⟨Nat.le_refl _⟩, ⟨ro HO109⟩, ⟨bh⟩⟩
       case round =>
        clear H'
        (try clear c10b0)
        obtain ⟨x7_3, x8_3, rfl, HA, HK3, HO_7, HB⟩ := hrel
        cases gk with
        | zero => exact absurd HA.out (by simp [cracknelref04_Within.l2])
        | succ k3 =>
         have H := HA.out
         clear HA
         simp only [cracknelref04_Within.l2] at H
         by_cases c23 : x8_3 < (l0.length : Int)
         ·rw [if_pos c23] at H
          have c23b0 := decide_eq_true c23
          clear c23
          obtain ⟨c24, H⟩ := oi H
          have c24b0 := decide_eq_true c24
          clear c24
          obtain ⟨c25, H⟩ := oi H
          have LMc25 := Aside0.mk c25
          clear c25
          obtain ⟨y112, hy112⟩ : ∃ y_ : List (S41), y_ = (x7_3 ++ [(⟨wrap64 (3 * ((rd_T41 l0 x8_3).f0)), wrap64 (3 * ((rd_T41 l0 x8_3).f1))⟩ : S41)]) := ⟨_, rfl⟩
          replace H : (cracknelref04_Within.l2 k3 l0 l1 y112 (wrap64 (x8_3 + 1))) = some r := by first | (rw [hy112]; with_reducible exact H) | (have H2_ := (Option.bind_some _ _).symm.trans H; rw [hy112]; with_reducible exact H2_) | (have H2_ := (Option.bind_some _ _).symm.trans H; with_reducible exact H2_) | with_reducible exact H | (rw [hy112]; exact H) | exact H
          have Ny112 := Aside0.mk hy112
          clear hy112
          have H' := Aside0.mk H
          clear H
          try go_wp2
          replace HO_7 := Aside0.mk (Kd.R_drew HO_7.out)
          replace HB := Aside0.mk (below_drew1 HB.out)
          have p110 : 0 ≤ (x8_3 : Int) := dt
          have q110 : x8_3 < (l0.length : Int) := dt
          obtain ⟨ad110, e110, hx110_0, hx110_1⟩ := at_T41 HR0.out x8_3 p110 q110
          have hw110_1 := hx110_1
          have hw110_0 := hx110_0
          cases e110
          replace hx110_0 := hc HB hx110_0
          replace hx110_1 := hc HB hx110_1
          replace p110 := eq_true p110
          replace q110 := eq_true q110
          have p111 : 0 ≤ (x8_3 : Int) := dt
          have q111 : x8_3 < (l0.length : Int) := dt
          obtain ⟨ad111, e111, hx111_0, hx111_1⟩ := at_T41 HR0.out x8_3 p111 q111
          have hw111_1 := hx111_1
          have hw111_0 := hx111_0
          obtain rfl : ad110 = ad111 := (by injection e111)
          replace hx111_0 := hc HB hx111_0
          replace hx111_1 := hc HB hx111_1
          replace p111 := eq_true p111
          replace q111 := eq_true q111
          refine start_ (n := 17) (S := fun w' => w'.cell? (ad110.add ((x8_3).toNat * 2)) = some (.int .i64 ((rd_T41 l0 x8_3).f0)) ∧ w'.cell? ⟨(ad110.add ((x8_3).toNat * 2)).block, (ad110.add ((x8_3).toNat * 2)).off + 1, none⟩ = some (.int .i64 ((rd_T41 l0 x8_3).f1)) ∧ w'.cell? (ad110.add ((x8_3).toNat * 2)) = some (.int .i64 ((rd_T41 l0 x8_3).f0)) ∧ w'.cell? ⟨(ad110.add ((x8_3).toNat * 2)).block, (ad110.add ((x8_3).toNat * 2)).off + 1, none⟩ = some (.int .i64 ((rd_T41 l0 x8_3).f1))) (ds := []) #[N,N,N,N,N,N,N,N,N,N,N,N,N,N,N,N,N] (by kernel_rfl) rfl rfl ⟨(hc HB hw110_0), (hc HB hw110_1), (hc HB hw111_0), (hc HB hw111_1)⟩ (fun hHeld => ?_); refine with_tabW cracknelref04_Within.tab15 cracknelref04_Within.bits15 (fun HT_ HW_ => ?_)
          generalize wr.drew = w26 at HO_7 HB hx110_0 hx110_1 hx111_0 hx111_1 hHeld ⊢
          refine pu 0 42 HT_ ?_
          refine pu 1 43 HT_ ?_
          refine pu 2 44 HT_ ?_
          refine pu 3 45 HT_ ?_
          refine pu 4 46 HT_ ?_
          refine pu 7 49 HT_ ?_
          refine pu 8 50 HT_ ?_
          refine pu 9 51 HT_ ?_
          refine pu 10 52 HT_ ?_
          refine tk4 5 47 hHeld HT_ HW_ ?_
          refine pu 6 48 HT_ ?_
          refine tk4 11 53 hHeld HT_ HW_ ?_
          refine pu 12 54 HT_ ?_
          refine pu 13 55 HT_ ?_
          refine one_ (i := 14) (N := some 56) #[T,T,T,T,T,T,T,T,T,T,T,T,T,T,T,N,N] rfl rfl (on1 HT_) (by decide) (fun K hK => ?_)
          refine value_ (w1 := ?_) (v := ?_) (by rfl) rfl ?_ ?_
          rotate_left 2
          ·go_simp
           constructor
           ·rfl
           ·rfl
          refine hK.out _ _ ⟨(World.cell?_alloc_lt _ _ _ (World.block_lt_of_cell? _ _ ((hc HB hw110_0)))).trans ((hc HB hw110_0)), (World.cell?_alloc_lt _ _ _ (World.block_lt_of_cell? _ _ ((hc HB hw110_1)))).trans ((hc HB hw110_1)), (World.cell?_alloc_lt _ _ _ (World.block_lt_of_cell? _ _ ((hc HB hw111_0)))).trans ((hc HB hw111_0)), (World.cell?_alloc_lt _ _ _ (World.block_lt_of_cell? _ _ ((hc HB hw111_1)))).trans ((hc HB hw111_1))⟩ (fun hHeld => ?_)
          clear hK K
          refine nm 56 ?_
          refine one_ (i := 15) (N := some 57) #[T,T,T,T,T,T,T,T,T,T,T,T,T,T,T,T,N] rfl rfl (on1 HT_) (by decide) (fun K hK => ?_)
          refine Kd.R_append_step k41 (w0 := w) w.heap.size (by rfl) (.tmp 42) (.tmp 56) 22 41 (.agg #[(.int .i64 0), (.int .i64 0)]) 16 rfl Try.underlying22 info41 rfl (by decide) (by omega) u7 x7_3 (⟨wrap64 (3 * ((rd_T41 l0 x8_3).f0)), wrap64 (3 * ((rd_T41 l0 x8_3).f1))⟩ : S41) [.int .i64 (wrap64 (3 * ((rd_T41 l0 x8_3).f0))), .int .i64 (wrap64 (3 * ((rd_T41 l0 x8_3).f1)))] (fun _ => True) (fun _ => False) rfl rfl ?aP (fun _ hk => hk.elim) ?aF ?aO ?aB ?aS ?aL ?_
          (case aP => exact k41_mkM _ _ _ (⟨wrap64 (3 * ((rd_T41 l0 x8_3).f0)), wrap64 (3 * ((rd_T41 l0 x8_3).f1))⟩ : S41))
          (case aB => exact bh)
          (case aF => exact (fun _ _ => trivial))
          (case aO => exact (ro HO_7))
          (case aS => exact (below_size bh))
          (case aL => have := LMc25.out; omega)
          intro v113 w27 ho hb hg hat
          rw [← Ny112.out] at ho
          have HO114 := Aside0.mk (ho)
          replace HB := Aside0.mk (hb)
          clear HO_7
          clear ho hb hg hat
          refine hK.out _ _ ⟨(hc HB hw110_0), (hc HB hw110_1), (hc HB hw111_0), (hc HB hw111_1)⟩ (fun hHeld => ?_)
          clear hK K
          refine nm 57 ?_
          refine pu 16 7 HT_ ?_
          refine done_ (done_of HT_.out (by kernel_rfl)) ?_
          try go_wp2
          go_roundg k3
          case measure => have := HK1.out; have := HK2.out; have := HK3.out; omega
          case rel => exact ⟨(y112), (wrap64 (x8_3 + 1)), sd, H', ⟨by have := HK1.out; have := HK2.out; have := HK3.out; omega⟩, ⟨ro HO114⟩, ⟨bh⟩⟩
         ·rw [if_neg c23] at H
          have c23b0 := decide_eq_false c23
          clear c23
          obtain ⟨c28, H⟩ := oi H
          have c28b0 := decide_eq_true c28
          have c28b1 : decide (0 < l1.length) = true := decide_eq_true (by omega)
          clear c28
          obtain ⟨c29, H⟩ := oi H
          have c29b0 := decide_eq_true c29
          have c29b1 : decide (1 < l1.length) = true := decide_eq_true (by omega)
          clear c29
          obtain ⟨c30, H⟩ := oi H
          have c30b0 := decide_eq_true c30
          have c30b1 : decide (2 < l1.length) = true := decide_eq_true (by omega)
          clear c30
          replace H := Option.bind_eq_some_iff.mp H
          obtain ⟨t121, A310, H⟩ := H
          try dsimp only at H
          have A31 := Aside0.mk A310
          clear A310
          obtain rfl := Option.some.inj H
          try go_wp2
          replace HO_7 := Aside0.mk (Kd.R_drew HO_7.out)
          replace HB := Aside0.mk (below_drew1 HB.out)
          have p115 : 0 ≤ (0 : Int) := (by omega)
          have q115 : 0 < (l1.length : Int) := dt
          obtain ⟨ad115, e115, hx115_0, hx115_1⟩ := at_T41 HR1.out 0 p115 q115
          have hw115_1 := hx115_1
          (try rw [show ((0 : Int)).toNat = 0 from rfl] at hw115_1)
          (try rw [show 0 * 2 = 0 from rfl] at hw115_1)
          (try rw [Addr.add_zero'] at hw115_1)
          have hw115_0 := hx115_0
          (try rw [show ((0 : Int)).toNat = 0 from rfl] at hw115_0)
          (try rw [show 0 * 2 = 0 from rfl] at hw115_0)
          (try rw [Addr.add_zero'] at hw115_0)
          cases e115
          have qi115 : (0 < l1.length) = True := eq_true (by omega)
          (try rw [show ((0 : Int)).toNat = 0 from rfl] at hx115_0)
          (try rw [show 0 * 2 = 0 from rfl] at hx115_0)
          (try rw [Addr.add_zero'] at hx115_0)
          (try rw [show ((0 : Int)).toNat = 0 from rfl] at hx115_1)
          (try rw [show 0 * 2 = 0 from rfl] at hx115_1)
          (try rw [Addr.add_zero'] at hx115_1)
          replace hx115_0 := hc HB hx115_0
          replace hx115_1 := hc HB hx115_1
          replace p115 := eq_true p115
          replace q115 := eq_true q115
          have p116 : 0 ≤ (1 : Int) := (by omega)
          have q116 : 1 < (l1.length : Int) := dt
          obtain ⟨ad116, e116, hx116_0, hx116_1⟩ := at_T41 HR1.out 1 p116 q116
          have hw116_1 := hx116_1
          (try rw [show ((1 : Int)).toNat = 1 from rfl] at hw116_1)
          (try rw [show 1 * 2 = 2 from rfl] at hw116_1)
          (try simp only [Nat.reduceMul, Nat.reduceEqDiff, Go.Addr.add, ↓reduceIte] at hw116_1)
          have hw116_0 := hx116_0
          (try rw [show ((1 : Int)).toNat = 1 from rfl] at hw116_0)
          (try rw [show 1 * 2 = 2 from rfl] at hw116_0)
          (try simp only [Nat.reduceMul, Nat.reduceEqDiff, Go.Addr.add, ↓reduceIte] at hw116_0)
          obtain rfl : ad115 = ad116 := (by injection e116)
          (try simp only [show (1 : Int).toNat = 1 from rfl, Nat.reduceMul, Nat.reduceEqDiff, Go.Addr.add, ↓reduceIte] at hx116_0)
          (try simp only [show (1 : Int).toNat = 1 from rfl, Nat.reduceMul, Nat.reduceEqDiff, Go.Addr.add, ↓reduceIte] at hx116_1)
          have qi116 : (1 < l1.length) = True := eq_true (by omega)
          (try rw [show ((1 : Int)).toNat = 1 from rfl] at hx116_0)
          (try rw [show 1 * 2 = 2 from rfl] at hx116_0)
          (try rw [show ((1 : Int)).toNat = 1 from rfl] at hx116_1)
          (try rw [show 1 * 2 = 2 from rfl] at hx116_1)
          replace hx116_0 := hc HB hx116_0
          replace hx116_1 := hc HB hx116_1
          replace p116 := eq_true p116
          replace q116 := eq_true q116
          have p117 : 0 ≤ (2 : Int) := (by omega)
          have q117 : 2 < (l1.length : Int) := dt
          obtain ⟨ad117, e117, hx117_0, hx117_1⟩ := at_T41 HR1.out 2 p117 q117
          have hw117_1 := hx117_1
          (try rw [show ((2 : Int)).toNat = 2 from rfl] at hw117_1)
          (try rw [show 2 * 2 = 4 from rfl] at hw117_1)
          (try simp only [Nat.reduceMul, Nat.reduceEqDiff, Go.Addr.add, ↓reduceIte] at hw117_1)
          have hw117_0 := hx117_0
          (try rw [show ((2 : Int)).toNat = 2 from rfl] at hw117_0)
          (try rw [show 2 * 2 = 4 from rfl] at hw117_0)
          (try simp only [Nat.reduceMul, Nat.reduceEqDiff, Go.Addr.add, ↓reduceIte] at hw117_0)
          obtain rfl : ad115 = ad117 := (by injection e117)
          (try simp only [show (2 : Int).toNat = 2 from rfl, Nat.reduceMul, Nat.reduceEqDiff, Go.Addr.add, ↓reduceIte] at hx117_0)
          (try simp only [show (2 : Int).toNat = 2 from rfl, Nat.reduceMul, Nat.reduceEqDiff, Go.Addr.add, ↓reduceIte] at hx117_1)
          have qi117 : (2 < l1.length) = True := eq_true (by omega)
          (try rw [show ((2 : Int)).toNat = 2 from rfl] at hx117_0)
          (try rw [show 2 * 2 = 4 from rfl] at hx117_0)
          (try rw [show ((2 : Int)).toNat = 2 from rfl] at hx117_1)
          (try rw [show 2 * 2 = 4 from rfl] at hx117_1)
          replace hx117_0 := hc HB hx117_0
          replace hx117_1 := hc HB hx117_1
          replace p117 := eq_true p117
          replace q117 := eq_true q117
          have p118 : 0 ≤ (0 : Int) := (by omega)
          have q118 : 0 < (l1.length : Int) := dt
          obtain ⟨ad118, e118, hx118_0, hx118_1⟩ := at_T41 HR1.out 0 p118 q118
          have hw118_1 := hx118_1
          (try rw [show ((0 : Int)).toNat = 0 from rfl] at hw118_1)
          (try rw [show 0 * 2 = 0 from rfl] at hw118_1)
          (try rw [Addr.add_zero'] at hw118_1)
          have hw118_0 := hx118_0
          (try rw [show ((0 : Int)).toNat = 0 from rfl] at hw118_0)
          (try rw [show 0 * 2 = 0 from rfl] at hw118_0)
          (try rw [Addr.add_zero'] at hw118_0)
          obtain rfl : ad115 = ad118 := (by injection e118)
          have qi118 : (0 < l1.length) = True := eq_true (by omega)
          (try rw [show ((0 : Int)).toNat = 0 from rfl] at hx118_0)
          (try rw [show 0 * 2 = 0 from rfl] at hx118_0)
          (try rw [Addr.add_zero'] at hx118_0)
          (try rw [show ((0 : Int)).toNat = 0 from rfl] at hx118_1)
          (try rw [show 0 * 2 = 0 from rfl] at hx118_1)
          (try rw [Addr.add_zero'] at hx118_1)
          replace hx118_0 := hc HB hx118_0
          replace hx118_1 := hc HB hx118_1
          replace p118 := eq_true p118
          replace q118 := eq_true q118
          have p119 : 0 ≤ (1 : Int) := (by omega)
          have q119 : 1 < (l1.length : Int) := dt
          obtain ⟨ad119, e119, hx119_0, hx119_1⟩ := at_T41 HR1.out 1 p119 q119
          have hw119_1 := hx119_1
          (try rw [show ((1 : Int)).toNat = 1 from rfl] at hw119_1)
          (try rw [show 1 * 2 = 2 from rfl] at hw119_1)
          (try simp only [Nat.reduceMul, Nat.reduceEqDiff, Go.Addr.add, ↓reduceIte] at hw119_1)
          have hw119_0 := hx119_0
          (try rw [show ((1 : Int)).toNat = 1 from rfl] at hw119_0)
          (try rw [show 1 * 2 = 2 from rfl] at hw119_0)
          (try simp only [Nat.reduceMul, Nat.reduceEqDiff, Go.Addr.add, ↓reduceIte] at hw119_0)
          obtain rfl : ad115 = ad119 := (by injection e119)
          (try simp only [show (1 : Int).toNat = 1 from rfl, Nat.reduceMul, Nat.reduceEqDiff, Go.Addr.add, ↓reduceIte] at hx119_0)
          (try simp only [show (1 : Int).toNat = 1 from rfl, Nat.reduceMul, Nat.reduceEqDiff, Go.Addr.add, ↓reduceIte] at hx119_1)
          have qi119 : (1 < l1.length) = True := eq_true (by omega)
          (try rw [show ((1 : Int)).toNat = 1 from rfl] at hx119_0)
          (try rw [show 1 * 2 = 2 from rfl] at hx119_0)
          (try rw [show ((1 : Int)).toNat = 1 from rfl] at hx119_1)
          (try rw [show 1 * 2 = 2 from rfl] at hx119_1)
          replace hx119_0 := hc HB hx119_0
          replace hx119_1 := hc HB hx119_1
          replace p119 := eq_true p119
          replace q119 := eq_true q119
          have p120 : 0 ≤ (2 : Int) := (by omega)
          have q120 : 2 < (l1.length : Int) := dt
          obtain ⟨ad120, e120, hx120_0, hx120_1⟩ := at_T41 HR1.out 2 p120 q120
          have hw120_1 := hx120_1
          (try rw [show ((2 : Int)).toNat = 2 from rfl] at hw120_1)
          (try rw [show 2 * 2 = 4 from rfl] at hw120_1)
          (try simp only [Nat.reduceMul, Nat.reduceEqDiff, Go.Addr.add, ↓reduceIte] at hw120_1)
          have hw120_0 := hx120_0
          (try rw [show ((2 : Int)).toNat = 2 from rfl] at hw120_0)
          (try rw [show 2 * 2 = 4 from rfl] at hw120_0)
          (try simp only [Nat.reduceMul, Nat.reduceEqDiff, Go.Addr.add, ↓reduceIte] at hw120_0)
          obtain rfl : ad115 = ad120 := (by injection e120)
          (try simp only [show (2 : Int).toNat = 2 from rfl, Nat.reduceMul, Nat.reduceEqDiff, Go.Addr.add, ↓reduceIte] at hx120_0)
          (try simp only [show (2 : Int).toNat = 2 from rfl, Nat.reduceMul, Nat.reduceEqDiff, Go.Addr.add, ↓reduceIte] at hx120_1)
          have qi120 : (2 < l1.length) = True := eq_true (by omega)
          (try rw [show ((2 : Int)).toNat = 2 from rfl] at hx120_0)
          (try rw [show 2 * 2 = 4 from rfl] at hx120_0)
          (try rw [show ((2 : Int)).toNat = 2 from rfl] at hx120_1)
          (try rw [show 2 * 2 = 4 from rfl] at hx120_1)
          replace hx120_0 := hc HB hx120_0
          replace hx120_1 := hc HB hx120_1
          replace p120 := eq_true p120
          replace q120 := eq_true q120
          obtain ⟨Ao33, co33, eo33⟩ := Kd.R_slice HO_7.out
          (first | subst eo33 | (injection eo33 with f1_ f2_ f3_; have f4_ := f1_.symm; have f5_ := f3_.symm; clear f1_ f2_ f3_; subst f4_; subst f5_))
          refine start_ (n := 33) (S := fun w' => w'.cell? ad115 = some (.int .i64 ((rd_T41 l1 0).f0)) ∧ w'.cell? ⟨ad115.block, ad115.off + 1, none⟩ = some (.int .i64 ((rd_T41 l1 0).f1)) ∧ w'.cell? ⟨ad115.block, ad115.off + 2, none⟩ = some (.int .i64 ((rd_T41 l1 1).f0)) ∧ w'.cell? ⟨ad115.block, ad115.off + 2 + 1, none⟩ = some (.int .i64 ((rd_T41 l1 1).f1)) ∧ w'.cell? ⟨ad115.block, ad115.off + 4, none⟩ = some (.int .i64 ((rd_T41 l1 2).f0)) ∧ w'.cell? ⟨ad115.block, ad115.off + 4 + 1, none⟩ = some (.int .i64 ((rd_T41 l1 2).f1)) ∧ w'.cell? ad115 = some (.int .i64 ((rd_T41 l1 0).f0)) ∧ w'.cell? ⟨ad115.block, ad115.off + 1, none⟩ = some (.int .i64 ((rd_T41 l1 0).f1)) ∧ w'.cell? ⟨ad115.block, ad115.off + 2, none⟩ = some (.int .i64 ((rd_T41 l1 1).f0)) ∧ w'.cell? ⟨ad115.block, ad115.off + 2 + 1, none⟩ = some (.int .i64 ((rd_T41 l1 1).f1)) ∧ w'.cell? ⟨ad115.block, ad115.off + 4, none⟩ = some (.int .i64 ((rd_T41 l1 2).f0)) ∧ w'.cell? ⟨ad115.block, ad115.off + 4 + 1, none⟩ = some (.int .i64 ((rd_T41 l1 2).f1))) (ds := []) #[N,N,N,N,N,N,N,N,N,N,N,N,N,N,N,N,N,N,N,N,N,N,N,N,N,N,N,N,N,N,N,N,N] (by kernel_rfl) rfl rfl ⟨(hc HB hw115_0), (hc HB hw115_1), (hc HB hw116_0), (hc HB hw116_1), (hc HB hw117_0), (hc HB hw117_1), (hc HB hw118_0), (hc HB hw118_1), (hc HB hw119_0), (hc HB hw119_1), (hc HB hw120_0), (hc HB hw120_1)⟩ (fun hHeld => ?_); refine with_tabW cracknelref04_Within.tab16 cracknelref04_Within.bits16 (fun HT_ HW_ => ?_)
          generalize wr.drew = w32 at HO_7 HB hx115_0 hx115_1 hx116_0 hx116_1 hx117_0 hx117_1 hx118_0 hx118_1 hx119_0 hx119_1 hx120_0 hx120_1 hHeld ⊢
          refine pu 0 58 HT_ ?_
          refine pu 1 59 HT_ ?_
          refine pu 2 60 HT_ ?_
          refine pu 3 61 HT_ ?_
          refine pu 5 63 HT_ ?_
          refine pu 6 64 HT_ ?_
          refine pu 7 65 HT_ ?_
          refine pu 10 68 HT_ ?_
          refine pu 11 69 HT_ ?_
          refine pu 12 70 HT_ ?_
          refine pu 15 73 HT_ ?_
          refine pu 16 74 HT_ ?_
          refine pu 17 75 HT_ ?_
          refine pu 19 77 HT_ ?_
          refine pu 20 78 HT_ ?_
          refine pu 21 79 HT_ ?_
          refine pu 24 82 HT_ ?_
          refine pu 25 83 HT_ ?_
          refine pu 26 84 HT_ ?_
          refine tk12 4 62 hHeld HT_ HW_ ?_
          refine tk12 8 66 hHeld HT_ HW_ ?_
          refine pu 9 67 HT_ ?_
          refine tk12 13 71 hHeld HT_ HW_ ?_
          refine pu 14 72 HT_ ?_
          refine tk12 18 76 hHeld HT_ HW_ ?_
          refine tk12 22 80 hHeld HT_ HW_ ?_
          refine pu 23 81 HT_ ?_
          refine tk12 27 85 hHeld HT_ HW_ ?_
          refine pu 28 86 HT_ ?_
          refine pu 29 87 HT_ ?_
          refine one_ (i := 30) (N := some 88) #[T,T,T,T,T,T,T,T,T,T,T,T,T,T,T,T,T,T,T,T,T,T,T,T,T,T,T,T,T,T,T,N,N] rfl rfl (on1 HT_) (by decide) (fun K hK => ?_)
          refine goes_ Try.func56 (by kernel_rfl) rfl #[.slice Ao33 x7_3.length co33, .agg #[.int .i64 (wrap64 ((wrap64 (((rd_T41 l1 0).f0) + ((rd_T41 l1 1).f0))) + ((rd_T41 l1 2).f0))), .int .i64 (wrap64 ((wrap64 (((rd_T41 l1 0).f1) + ((rd_T41 l1 1).f1))) + ((rd_T41 l1 2).f1)))]] (by rfl) rfl rfl sg ?_
          with_reducible refine (cracknelref04_Where.calls k3 _ _ x7_3 (wrap64 ((wrap64 (((rd_T41 l1 0).f0) + ((rd_T41 l1 1).f0))) + ((rd_T41 l1 2).f0))) (wrap64 ((wrap64 (((rd_T41 l1 0).f1) + ((rd_T41 l1 1).f1))) + ((rd_T41 l1 2).f1))) t121 _ ?side1 ?side2 A31.out).mono ?_
          (case side1 => exact cs (Kd.R_reads' HO_7.out).2.2)
          (case side2 => exact (Kd.R_reads' HO_7.out).2.1)
          rintro e w34 ⟨rfl, hb⟩
          refine ⟨_, rfl, ?_⟩
          replace HO_7 := Aside0.mk (Kd.R_below (ro HO_7) hb)
          replace HB := bz hb
          (try clear hb)
          refine hK.out _ _ ⟨(hc HB hw115_0), (hc HB hw115_1), (hc HB hw116_0), (hc HB hw116_1), (hc HB hw117_0), (hc HB hw117_1), (hc HB hw118_0), (hc HB hw118_1), (hc HB hw119_0), (hc HB hw119_1), (hc HB hw120_0), (hc HB hw120_1)⟩ (fun hHeld => ?_)
          clear hK K
          refine nm 88 ?_
          refine pu 31 89 HT_ ?_
          refine pu 32 4 HT_ ?_
          refine done_ (done_of HT_.out (by kernel_rfl)) ?_
          try go_wp2
          go_ret
          exact ⟨by exact er, bh⟩
/-! ### cracknelref04_Area2: function 45 -/
def cracknelref04_Area2.l0 : Nat → List (S41) → Int → Int → Option (Int)
 | 0, _, _, _ => none
 | k + 1, x0, x3, x4 => if x4 < (x0.length : Int) then (if 0 ≤ x4 then ((cracknelref04_next.f x0 x4).bind fun bt102 => (cracknelref04_Area2.l0 k x0 (wrap64 (x3 + (wrap64 ((wrap64 (((rd_T41 x0 x4).f0) * bt102.2)) - (wrap64 (bt102.1 * ((rd_T41 x0 x4).f1))))))) (wrap64 (x4 + 1)))) else (none)) else (some x3)
def cracknelref04_Area2.f (k : Nat) (l0 : List (S41)) : Option (Int) := cracknelref04_Area2.l0 k l0 0 0
def cracknelref04_Area2.T5 : Bool × List (List Nat × List Nat) := (true, [([], []), ([], []), ([0, 1], [0, 1]), ([2], [2]), ([], []), ([], []), ([4, 5], [4, 5]), ([], []), ([], []), ([7, 3, 6, 0, 1, 2, 3, 7, 8], [3, 7]), ([8, 6, 9, 0, 1, 2, 3, 4, 5, 6, 7, 8, 9], [6, 8])])
def cracknelref04_Area2.B5 : List Nat := [0, 0, 3, 7, 0, 0, 48, 0, 0, 511, 1023]
theorem cracknelref04_Area2.tab5 : rtab .any (opsOf Try.f45 5) = cracknelref04_Area2.T5 := by kernel_rfl
theorem cracknelref04_Area2.bits5 : waitsOk cracknelref04_Area2.T5.2 cracknelref04_Area2.B5 = true := by kernel_rfl
set_option maxHeartbeats 8000000 in
set_option maxRecDepth 100000 in
theorem cracknelref04_Area2.calls (k : Nat) (A0 : Option Addr) (c0 : Nat) (l0 : List (S41)) (r : Int) (w : World) (hr0 : Kd.C k41 w A0 l0.length l0) (hc0 : l0.length ≤ c0) (h : cracknelref04_Area2.f k l0 = some r) :
  Calls Try.prog 45 #[.slice A0 l0.length c0] w fun e w' => e = .returned (.int .i64 r) ∧ Below w.heap.size w w' := by
 have hu41 := Try.underlying41
 have HR0 := Aside0.mk hr0
 have HC0 := Aside0.mk hc0
 clear hr0 hc0
 have HB := Aside0.mk (Below.refl w.heap.size w)
 have H : (cracknelref04_Area2.l0 k l0 0 0) = some r := h
 clear h
 have H' := Aside0.mk H
 clear H
 go_enter Try.func45, Try.ntmps45
 go_wp2
 go_loopg [3, 4] k (fun kq v3 v4 w' => ∃ (x3_1 : Int) (x4_1 : Int), v3 = .int .i64 x3_1 ∧ v4 = .int .i64 x4_1 ∧ Aside0 (cracknelref04_Area2.l0 kq l0 x3_1 x4_1 = some r) ∧ Aside0 (kq ≤ k) ∧ Aside0 (Below w.heap.size w w'))
 case atStart => exact ⟨(0), (0), sd, sd, H', ⟨Nat.le_refl _⟩, ⟨bh⟩⟩
 case round =>
  clear H'
  obtain ⟨x3_1, x4_1, rfl, rfl, HA, HK1, HB⟩ := hrel
  cases gk with
  | zero => exact absurd HA.out (by simp [cracknelref04_Area2.l0])
  | succ k1 =>
   have H := HA.out
   clear HA
   simp only [cracknelref04_Area2.l0] at H
   by_cases c2 : x4_1 < (l0.length : Int)
   ·rw [if_pos c2] at H
    have c2b0 := decide_eq_true c2
    clear c2
    obtain ⟨c3, H⟩ := oi H
    have c3b0 := decide_eq_true c3
    clear c3
    replace H := Option.bind_eq_some_iff.mp H
    obtain ⟨⟨t102, t103⟩, A40, H⟩ := H
    try dsimp only at H
    have A4 := Aside0.mk A40
    clear A40
    have H' := Aside0.mk H
    clear H
    try go_wp2
    replace HB := Aside0.mk (below_drew1 HB.out)
    have p101 : 0 ≤ (x4_1 : Int) := dt
    have q101 : x4_1 < (l0.length : Int) := dt
    obtain ⟨ad101, e101, hx101_0, hx101_1⟩ := at_T41 HR0.out x4_1 p101 q101
    have hw101_1 := hx101_1
    have hw101_0 := hx101_0
    cases e101
    replace hx101_0 := hc HB hx101_0
    replace hx101_1 := hc HB hx101_1
    replace p101 := eq_true p101
    replace q101 := eq_true q101
    refine start_ (n := 11) (S := fun w' => w'.cell? (ad101.add ((x4_1).toNat * 2)) = some (.int .i64 ((rd_T41 l0 x4_1).f0)) ∧ w'.cell? ⟨(ad101.add ((x4_1).toNat * 2)).block, (ad101.add ((x4_1).toNat * 2)).off + 1, none⟩ = some (.int .i64 ((rd_T41 l0 x4_1).f1))) (ds := []) #[N,N,N,N,N,N,N,N,N,N,N] (by kernel_rfl) rfl rfl ⟨(hc HB hw101_0), (hc HB hw101_1)⟩ (fun hHeld => ?_); refine with_tabW cracknelref04_Area2.tab5 cracknelref04_Area2.bits5 (fun HT_ HW_ => ?_)
    generalize wr.drew = w5 at HB hx101_0 hx101_1 hHeld ⊢
    refine pu 0 13 HT_ ?_
    refine pu 1 14 HT_ ?_
    refine pu 2 15 HT_ ?_
    refine pu 4 17 HT_ ?_
    refine pu 5 18 HT_ ?_
    refine tk2 3 16 hHeld HT_ HW_ ?_
    refine join_ (σ := Nat × Nat) 2 #[T,T,T,T,T,T,T,T,T,N,N] (fun s_ => [(19, .agg #[.int .i64 t102, .int .i64 t103]), (5, .pointer (some ⟨s_.1, 0, none⟩)), (6, .pointer (some ⟨s_.2, 0, none⟩))]) (fun s_ w' => (w'.cell? (ad101.add ((x4_1).toNat * 2)) = some (.int .i64 ((rd_T41 l0 x4_1).f0)) ∧ w'.cell? ⟨(ad101.add ((x4_1).toNat * 2)).block, (ad101.add ((x4_1).toNat * 2)).off + 1, none⟩ = some (.int .i64 ((rd_T41 l0 x4_1).f1))) ∧ (w'.heap[s_.1]? = some (.cells #[.int .i64 0, .int .i64 0] 41 (0, 0))) ∧ (w'.heap[s_.2]? = some (.cells #[.int .i64 0, .int .i64 0] 41 (0, 0))) ∧ (w.heap.size ≤ s_.1) ∧ (w.heap.size ≤ s_.1) ∧ (s_.2 ≠ s_.1) ∧ (s_.1 ≠ s_.2) ∧ (w.heap.size ≤ s_.2) ∧ (w.heap.size ≤ s_.2) ∧ (Below w.heap.size w w')) ?_ ?_
    rotate_left
    ·intro hJ6_7_8
     refine join_ (σ := Nat) 3 #[T,T,T,T,T,T,T,T,N,N,N] (fun s_ => [(19, .agg #[.int .i64 t102, .int .i64 t103]), (5, .pointer (some ⟨s_, 0, none⟩))]) (fun s_ w' => (w'.cell? (ad101.add ((x4_1).toNat * 2)) = some (.int .i64 ((rd_T41 l0 x4_1).f0)) ∧ w'.cell? ⟨(ad101.add ((x4_1).toNat * 2)).block, (ad101.add ((x4_1).toNat * 2)).off + 1, none⟩ = some (.int .i64 ((rd_T41 l0 x4_1).f1))) ∧ (w'.heap[s_]? = some (.cells #[.int .i64 0, .int .i64 0] 41 (0, 0))) ∧ (w.heap.size ≤ s_) ∧ (w.heap.size ≤ s_) ∧ (Below w.heap.size w w')) ?_ ?_
     rotate_left
     ·intro hJ6_7
      refine join_ (σ := Nat) 3 #[T,T,T,T,T,T,T,N,T,N,N] (fun s_ => [(19, .agg #[.int .i64 t102, .int .i64 t103]), (6, .pointer (some ⟨s_, 0, none⟩))]) (fun s_ w' => (w'.cell? (ad101.add ((x4_1).toNat * 2)) = some (.int .i64 ((rd_T41 l0 x4_1).f0)) ∧ w'.cell? ⟨(ad101.add ((x4_1).toNat * 2)).block, (ad101.add ((x4_1).toNat * 2)).off + 1, none⟩ = some (.int .i64 ((rd_T41 l0 x4_1).f1))) ∧ (w'.heap[s_]? = some (.cells #[.int .i64 0, .int .i64 0] 41 (0, 0))) ∧ (w.heap.size ≤ s_) ∧ (w.heap.size ≤ s_) ∧ (Below w.heap.size w w')) ?_ ?_
      rotate_left
      ·intro hJ6_8
       refine join_ (σ := Nat × Nat) 3 #[T,T,T,T,T,T,N,T,T,N,N] (fun s_ => [(5, .pointer (some ⟨s_.1, 0, none⟩)), (6, .pointer (some ⟨s_.2, 0, none⟩))]) (fun s_ w' => (w'.cell? (ad101.add ((x4_1).toNat * 2)) = some (.int .i64 ((rd_T41 l0 x4_1).f0)) ∧ w'.cell? ⟨(ad101.add ((x4_1).toNat * 2)).block, (ad101.add ((x4_1).toNat * 2)).off + 1, none⟩ = some (.int .i64 ((rd_T41 l0 x4_1).f1))) ∧ (w'.heap[s_.1]? = some (.cells #[.int .i64 0, .int .i64 0] 41 (0, 0))) ∧ (w'.heap[s_.2]? = some (.cells #[.int .i64 0, .int .i64 0] 41 (0, 0))) ∧ (w.heap.size ≤ s_.1) ∧ (w.heap.size ≤ s_.1) ∧ (s_.2 ≠ s_.1) ∧ (s_.1 ≠ s_.2) ∧ (w.heap.size ≤ s_.2) ∧ (w.heap.size ≤ s_.2) ∧ (Below w.heap.size w w')) ?_ ?_
       rotate_left
       ·intro hJ7_8
        refine join_ (σ := Unit) 4 #[T,T,T,T,T,T,T,N,N,N,N] (fun s_ => [(19, .agg #[.int .i64 t102, .int .i64 t103])]) (fun s_ w' => (w'.cell? (ad101.add ((x4_1).toNat * 2)) = some (.int .i64 ((rd_T41 l0 x4_1).f0)) ∧ w'.cell? ⟨(ad101.add ((x4_1).toNat * 2)).block, (ad101.add ((x4_1).toNat * 2)).off + 1, none⟩ = some (.int .i64 ((rd_T41 l0 x4_1).f1))) ∧ (Below w.heap.size w w')) ?_ ?_
        rotate_left
        ·intro hJ6
         refine join_ (σ := Nat) 4 #[T,T,T,T,T,T,N,T,N,N,N] (fun s_ => [(5, .pointer (some ⟨s_, 0, none⟩))]) (fun s_ w' => (w'.cell? (ad101.add ((x4_1).toNat * 2)) = some (.int .i64 ((rd_T41 l0 x4_1).f0)) ∧ w'.cell? ⟨(ad101.add ((x4_1).toNat * 2)).block, (ad101.add ((x4_1).toNat * 2)).off + 1, none⟩ = some (.int .i64 ((rd_T41 l0 x4_1).f1))) ∧ (w'.heap[s_]? = some (.cells #[.int .i64 0, .int .i64 0] 41 (0, 0))) ∧ (w.heap.size ≤ s_) ∧ (w.heap.size ≤ s_) ∧ (Below w.heap.size w w')) ?_ ?_
         rotate_left
         ·intro hJ7
          refine join_ (σ := Nat) 4 #[T,T,T,T,T,T,N,N,T,N,N] (fun s_ => [(6, .pointer (some ⟨s_, 0, none⟩))]) (fun s_ w' => (w'.cell? (ad101.add ((x4_1).toNat * 2)) = some (.int .i64 ((rd_T41 l0 x4_1).f0)) ∧ w'.cell? ⟨(ad101.add ((x4_1).toNat * 2)).block, (ad101.add ((x4_1).toNat * 2)).off + 1, none⟩ = some (.int .i64 ((rd_T41 l0 x4_1).f1))) ∧ (w'.heap[s_]? = some (.cells #[.int .i64 0, .int .i64 0] 41 (0, 0))) ∧ (w.heap.size ≤ s_) ∧ (w.heap.size ≤ s_) ∧ (Below w.heap.size w w')) ?_ ?_
          rotate_left
          ·intro hJ8
           refine three_ (i := 6) (j := 7) (k := 8) (Ni := some 19) (Nj := some 5) (Nk := some 6) #[T,T,T,T,T,T,T,N,N,N,N] #[T,T,T,T,T,T,N,T,N,N,N] #[T,T,T,T,T,T,N,N,T,N,N] rfl rfl rfl rfl rfl rfl (on3 HT_) (by decide) (by decide) (by decide) (fun K hK => ?_) (fun K hK => ?_) (fun K hK => ?_)
           ·skip
            refine goes_ Try.func58 (by kernel_rfl) rfl #[.slice (some ad101) l0.length c0, .int .i64 x4_1] (by rfl) rfl rfl sg ?_
            with_reducible refine (cracknelref04_next.calls _ _ l0 x4_1 t102 t103 _ ?side1 ?side2 A4.out).mono ?_
            (case side1 => exact cs (Kd.C_below HR0.out HB.out))
            (case side2 => exact HC0.out)
            rintro e w6 ⟨rfl, hb⟩
            refine ⟨_, rfl, ?_⟩
            replace HB := bz hb
            (try clear hb)
            refine hK.out _ _ ⟨(hc HB hw101_0), (hc HB hw101_1)⟩ (fun hHeld => ?_)
            clear hK K
            refine nm 19 ?_
            exact norm_ pa (hJ6 () _ ⟨hHeld, bh⟩)
           ·skip
            refine bxs 5 #[.int .i64 0, .int .i64 0] 41 ?_
            intro gb104 hg w6 hbox hb
            have BK104 := Aside0.mk (hbox)
            have GW104 := ga w hg
            have GE104 := GW104
            replace HB := bz hb
            clear hb hbox hg
            refine hK.out _ _ ⟨(hc HB hw101_0), (hc HB hw101_1)⟩ (fun hHeld => ?_)
            clear hK K
            refine nm 5 ?_
            exact norm_ pa (hJ7 (gb104) _ ⟨hHeld, bk BK104, GW104.out, GE104.out, bh⟩)
           ·skip
            refine bxs 6 #[.int .i64 0, .int .i64 0] 41 ?_
            intro gb105 hg w6 hbox hb
            have BK105 := Aside0.mk (hbox)
            have GW105 := ga w hg
            have GE105 := GW105
            replace HB := bz hb
            clear hb hbox hg
            refine hK.out _ _ ⟨(hc HB hw101_0), (hc HB hw101_1)⟩ (fun hHeld => ?_)
            clear hK K
            refine nm 6 ?_
            exact norm_ pa (hJ8 (gb105) _ ⟨hHeld, bk BK105, GW105.out, GE105.out, bh⟩)
          ·skip
           rintro gb105 w7 ⟨hS_, h0_, h1_, h2_, h3_⟩
           have BK105 := Aside0.mk h0_
           have GW105 := Aside0.mk h1_
           have GE105 := Aside0.mk h2_
           replace HB := Aside0.mk h3_
           clear h0_ h1_ h2_ h3_
           have hHeld := hS_
           refine nn ?_
           refine two_ (i := 6) (j := 7) (Ni := some 19) (Nj := some 5) #[T,T,T,T,T,T,T,N,T,N,N] #[T,T,T,T,T,T,N,T,T,N,N] rfl rfl rfl rfl (on2 HT_) (by decide) (by decide) (fun K hK => ?_) (fun K hK => ?_)
           ·skip
            refine goes_ Try.func58 (by kernel_rfl) rfl #[.slice (some ad101) l0.length c0, .int .i64 x4_1] (by rfl) rfl rfl sg ?_
            with_reducible refine (cracknelref04_next.calls _ _ l0 x4_1 t102 t103 _ ?side1 ?side2 A4.out).mono ?_
            (case side1 => exact cs (Kd.C_below HR0.out HB.out))
            (case side2 => exact HC0.out)
            rintro e w8 ⟨rfl, hb⟩
            refine ⟨_, rfl, ?_⟩
            replace BK105 := kb BK105 hb
            replace HB := bz hb
            (try clear hb)
            refine hK.out _ _ ⟨(hc HB hw101_0), (hc HB hw101_1)⟩ (fun hHeld => ?_)
            clear hK K
            refine nm 19 ?_
            exact norm_ pa (hJ6_8 (gb105) _ ⟨hHeld, bk BK105, GW105.out, GE105.out, bh⟩)
           ·skip
            refine bxs 5 #[.int .i64 0, .int .i64 0] 41 ?_
            intro gb104 hg w8 hbox hb
            have BK104 := Aside0.mk (hbox)
            have GW104 := ga w hg
            have GE104 := GW104
            have NB105_104 := nb hg (kl BK105)
            have NB104_105 := bn NB105_104
            replace BK105 := kb BK105 hb
            replace HB := bz hb
            clear hb hbox hg
            refine hK.out _ _ ⟨(hc HB hw101_0), (hc HB hw101_1)⟩ (fun hHeld => ?_)
            clear hK K
            refine nm 5 ?_
            exact norm_ pa (hJ7_8 (gb104, gb105) _ ⟨hHeld, bk BK104, bk BK105, GW104.out, GE104.out, NB105_104.out, NB104_105.out, GW105.out, GE105.out, bh⟩)
         ·skip
          rintro gb104 w7 ⟨hS_, h0_, h1_, h2_, h3_⟩
          have BK104 := Aside0.mk h0_
          have GW104 := Aside0.mk h1_
          have GE104 := Aside0.mk h2_
          replace HB := Aside0.mk h3_
          clear h0_ h1_ h2_ h3_
          have hHeld := hS_
          refine nn ?_
          refine two_ (i := 6) (j := 8) (Ni := some 19) (Nj := some 6) #[T,T,T,T,T,T,T,T,N,N,N] #[T,T,T,T,T,T,N,T,T,N,N] rfl rfl rfl rfl (on2 HT_) (by decide) (by decide) (fun K hK => ?_) (fun K hK => ?_)
          ·skip
           refine goes_ Try.func58 (by kernel_rfl) rfl #[.slice (some ad101) l0.length c0, .int .i64 x4_1] (by rfl) rfl rfl sg ?_
           with_reducible refine (cracknelref04_next.calls _ _ l0 x4_1 t102 t103 _ ?side1 ?side2 A4.out).mono ?_
           (case side1 => exact cs (Kd.C_below HR0.out HB.out))
           (case side2 => exact HC0.out)
           rintro e w8 ⟨rfl, hb⟩
           refine ⟨_, rfl, ?_⟩
           replace BK104 := kb BK104 hb
           replace HB := bz hb
           (try clear hb)
           refine hK.out _ _ ⟨(hc HB hw101_0), (hc HB hw101_1)⟩ (fun hHeld => ?_)
           clear hK K
           refine nm 19 ?_
           exact norm_ pa (hJ6_7 (gb104) _ ⟨hHeld, bk BK104, GW104.out, GE104.out, bh⟩)
          ·skip
           refine bxs 6 #[.int .i64 0, .int .i64 0] 41 ?_
           intro gb105 hg w8 hbox hb
           have BK105 := Aside0.mk (hbox)
           have GW105 := ga w hg
           have GE105 := GW105
           have NB104_105 := nb hg (kl BK104)
           have NB105_104 := bn NB104_105
           replace BK104 := kb BK104 hb
           replace HB := bz hb
           clear hb hbox hg
           refine hK.out _ _ ⟨(hc HB hw101_0), (hc HB hw101_1)⟩ (fun hHeld => ?_)
           clear hK K
           refine nm 6 ?_
           exact norm_ pa (hJ7_8 (gb104, gb105) _ ⟨hHeld, bk BK104, bk BK105, GW104.out, GE104.out, NB105_104.out, NB104_105.out, GW105.out, GE105.out, bh⟩)
        ·skip
         rintro _ w7 ⟨hS_, h0_⟩
         replace HB := Aside0.mk h0_
         clear h0_
         have hHeld := hS_
         refine nn ?_
         refine two_ (i := 7) (j := 8) (Ni := some 5) (Nj := some 6) #[T,T,T,T,T,T,T,T,N,N,N] #[T,T,T,T,T,T,T,N,T,N,N] rfl rfl rfl rfl (on2 HT_) (by decide) (by decide) (fun K hK => ?_) (fun K hK => ?_)
         ·skip
          refine bxs 5 #[.int .i64 0, .int .i64 0] 41 ?_
          intro gb104 hg w8 hbox hb
          have BK104 := Aside0.mk (hbox)
          have GW104 := ga w hg
          have GE104 := GW104
          replace HB := bz hb
          clear hb hbox hg
          refine hK.out _ _ ⟨(hc HB hw101_0), (hc HB hw101_1)⟩ (fun hHeld => ?_)
          clear hK K
          refine nm 5 ?_
          exact norm_ pa (hJ6_7 (gb104) _ ⟨hHeld, bk BK104, GW104.out, GE104.out, bh⟩)
         ·skip
          refine bxs 6 #[.int .i64 0, .int .i64 0] 41 ?_
          intro gb105 hg w8 hbox hb
          have BK105 := Aside0.mk (hbox)
          have GW105 := ga w hg
          have GE105 := GW105
          replace HB := bz hb
          clear hb hbox hg
          refine hK.out _ _ ⟨(hc HB hw101_0), (hc HB hw101_1)⟩ (fun hHeld => ?_)
          clear hK K
          refine nm 6 ?_
          exact norm_ pa (hJ6_8 (gb105) _ ⟨hHeld, bk BK105, GW105.out, GE105.out, bh⟩)
       ·skip
        rintro ⟨gb104, gb105⟩ w8 ⟨hS_, h0_, h1_, h2_, h3_, h4_, h5_, h6_, h7_, h8_⟩
        have BK104 := Aside0.mk h0_
        have BK105 := Aside0.mk h1_
        have GW104 := Aside0.mk h2_
        have GE104 := Aside0.mk h3_
        have NB105_104 := Aside0.mk h4_
        have NB104_105 := Aside0.mk h5_
        have GW105 := Aside0.mk h6_
        have GE105 := Aside0.mk h7_
        replace HB := Aside0.mk h8_
        clear h0_ h1_ h2_ h3_ h4_ h5_ h6_ h7_ h8_
        have hHeld := hS_
        refine nn ?_
        refine one_ (i := 6) (N := some 19) #[T,T,T,T,T,T,T,T,T,N,N] rfl rfl (on1 HT_) (by decide) (fun K hK => ?_)
        refine goes_ Try.func58 (by kernel_rfl) rfl #[.slice (some ad101) l0.length c0, .int .i64 x4_1] (by rfl) rfl rfl sg ?_
        with_reducible refine (cracknelref04_next.calls _ _ l0 x4_1 t102 t103 _ ?side1 ?side2 A4.out).mono ?_
        (case side1 => exact cs (Kd.C_below HR0.out HB.out))
        (case side2 => exact HC0.out)
        rintro e w9 ⟨rfl, hb⟩
        refine ⟨_, rfl, ?_⟩
        replace BK104 := kb BK104 hb
        replace BK105 := kb BK105 hb
        replace HB := bz hb
        (try clear hb)
        refine hK.out _ _ ⟨(hc HB hw101_0), (hc HB hw101_1)⟩ (fun hHeld => ?_)
        clear hK K
        refine nm 19 ?_
        exact norm_ pa (hJ6_7_8 (gb104, gb105) _ ⟨hHeld, bk BK104, bk BK105, GW104.out, GE104.out, NB105_104.out, NB104_105.out, GW105.out, GE105.out, bh⟩)
      ·skip
       rintro gb105 w8 ⟨hS_, h0_, h1_, h2_, h3_⟩
       have BK105 := Aside0.mk h0_
       have GW105 := Aside0.mk h1_
       have GE105 := Aside0.mk h2_
       replace HB := Aside0.mk h3_
       clear h0_ h1_ h2_ h3_
       have hHeld := hS_
       refine nn ?_
       refine one_ (i := 7) (N := some 5) #[T,T,T,T,T,T,T,T,T,N,N] rfl rfl (on1 HT_) (by decide) (fun K hK => ?_)
       refine bxs 5 #[.int .i64 0, .int .i64 0] 41 ?_
       intro gb104 hg w9 hbox hb
       have BK104 := Aside0.mk (hbox)
       have GW104 := ga w hg
       have GE104 := GW104
       have NB105_104 := nb hg (kl BK105)
       have NB104_105 := bn NB105_104
       replace BK105 := kb BK105 hb
       replace HB := bz hb
       clear hb hbox hg
       refine hK.out _ _ ⟨(hc HB hw101_0), (hc HB hw101_1)⟩ (fun hHeld => ?_)
       clear hK K
       refine nm 5 ?_
       exact norm_ pa (hJ6_7_8 (gb104, gb105) _ ⟨hHeld, bk BK104, bk BK105, GW104.out, GE104.out, NB105_104.out, NB104_105.out, GW105.out, GE105.out, bh⟩)
     ·skip
      rintro gb104 w8 ⟨hS_, h0_, h1_, h2_, h3_⟩
      have BK104 := Aside0.mk h0_
      have GW104 := Aside0.mk h1_
      have GE104 := Aside0.mk h2_
      replace HB := Aside0.mk h3_
      clear h0_ h1_ h2_ h3_
      have hHeld := hS_
      refine nn ?_
      refine one_ (i := 8) (N := some 6) #[T,T,T,T,T,T,T,T,T,N,N] rfl rfl (on1 HT_) (by decide) (fun K hK => ?_)
      refine bxs 6 #[.int .i64 0, .int .i64 0] 41 ?_
      intro gb105 hg w9 hbox hb
      have BK105 := Aside0.mk (hbox)
      have GW105 := ga w hg
      have GE105 := GW105
      have NB104_105 := nb hg (kl BK104)
      have NB105_104 := bn NB104_105
      replace BK104 := kb BK104 hb
      replace HB := bz hb
      clear hb hbox hg
      refine hK.out _ _ ⟨(hc HB hw101_0), (hc HB hw101_1)⟩ (fun hHeld => ?_)
      clear hK K
      refine nm 6 ?_
      exact norm_ pa (hJ6_7_8 (gb104, gb105) _ ⟨hHeld, bk BK104, bk BK105, GW104.out, GE104.out, NB105_104.out, NB104_105.out, GW105.out, GE105.out, bh⟩)
    rintro ⟨gb104, gb105⟩ w9 ⟨hS_, h0_, h1_, h2_, h3_, h4_, h5_, h6_, h7_, h8_⟩
    have BK104 := Aside0.mk h0_
    have BK105 := Aside0.mk h1_
    have GW104 := Aside0.mk h2_
    have GE104 := Aside0.mk h3_
    have NB105_104 := Aside0.mk h4_
    have NB104_105 := Aside0.mk h5_
    have GW105 := Aside0.mk h6_
    have GE105 := Aside0.mk h7_
    replace HB := Aside0.mk h8_
    clear h0_ h1_ h2_ h3_ h4_ h5_ h6_ h7_ h8_
    have hHeld := hS_
    refine nn ?_
    refine one_ (i := 9) (N := none) #[T,T,T,T,T,T,T,T,T,T,N] rfl rfl (on1 HT_) (by decide) (fun K hK => ?_)
    have hs10 : w9.cell? ⟨gb104, 0, none⟩ = some (.int .i64 0) := bc BK104 0
    have hfs10 := blk_frozen BK104.out 0
    have hns10_1 := NB105_104.out
    have hms10_1 := NB104_105.out
    have hs11 : w9.cell? ⟨gb104, 1, none⟩ = some (.int .i64 0) := bc BK104 1
    have hfs11 := blk_frozen BK104.out 1
    have hns11_1 := NB105_104.out
    have hms11_1 := NB104_105.out
    refine skip_ (w1 := ?_) (by rfl) rfl ?_ ?_
    rotate_left
    ·go_simp
     rfl
    refine hK.out _ _ ⟨((cell_far (p := ⟨gb104, _, none⟩) (fr hw101_0 GW104) _).trans (((cell_far (p := ⟨gb104, _, none⟩) (fr hw101_0 GW104) _).trans (hHeld.1)))), ((cell_far (p := ⟨gb104, _, none⟩) (fr hw101_1 GW104) _).trans (((cell_far (p := ⟨gb104, _, none⟩) (fr hw101_1 GW104) _).trans (hHeld.2))))⟩ (fun hHeld => ?_)
    clear hK K
    refine one_ (i := 10) (N := none) #[T,T,T,T,T,T,T,T,T,T,T] rfl rfl (on1 HT_) (by decide) (fun K hK => ?_)
    have hs12 : w9.cell? ⟨gb105, 0, none⟩ = some (.int .i64 0) := bc BK105 0
    have hfs12 := blk_frozen BK105.out 0
    have hns12_0 := NB104_105.out
    have hms12_0 := NB105_104.out
    have hs13 : w9.cell? ⟨gb105, 1, none⟩ = some (.int .i64 0) := bc BK105 1
    have hfs13 := blk_frozen BK105.out 1
    have hns13_0 := NB104_105.out
    have hms13_0 := NB105_104.out
    refine skip_ (w1 := ?_) (by rfl) rfl ?_ ?_
    rotate_left
    ·go_simp
     rfl
    refine hK.out _ _ ⟨((cell_far (p := ⟨gb105, _, none⟩) (fr hw101_0 GW105) _).trans (((cell_far (p := ⟨gb105, _, none⟩) (fr hw101_0 GW105) _).trans (hHeld.1)))), ((cell_far (p := ⟨gb105, _, none⟩) (fr hw101_1 GW105) _).trans (((cell_far (p := ⟨gb105, _, none⟩) (fr hw101_1 GW105) _).trans (hHeld.2))))⟩ (fun hHeld => ?_)
    clear hK K
    refine done_ (done_of HT_.out (by kernel_rfl)) ?_
    have hnb14 := NB104_105.out
    have hnc14 := NB105_104.out
    obtain ⟨hcz15_0, hcz15_1, hfz15_0, hfz15_1⟩ := b2 BK104
    obtain ⟨hcz16_0, hcz16_1, hfz16_0, hfz16_1⟩ := b2 BK105
    try go_wp2
    go_roundg k1
    case measure => have := HK1.out; omega
    case rel => exact ⟨(wrap64 (x3_1 + (wrap64 ((wrap64 (((rd_T41 l0 x4_1).f0) * t103)) - (wrap64 (t102 * ((rd_T41 l0 x4_1).f1))))))), (wrap64 (x4_1 + 1)), sd, sd, H', ⟨by have := HK1.out; omega⟩, ⟨bh⟩⟩
   ·rw [if_neg c2] at H
    have c2b0 := decide_eq_false c2
    clear c2
    obtain rfl := Option.some.inj H
    go_wp2
    go_ret
    exact ⟨by exact er, bh⟩
/-! ### cracknelref04_Triangles: function 13 -/
mutual
def cracknelref04_Triangles.l0 : Nat → List (S41) → List (S60) → Int → List (List (S41)) → Int → Option (Bool)
 | 0, _, _, _, _, _ => none
 | k + 1, x0, x1, x5, x6, x7 => if x7 < (x1.length : Int) then (if 0 ≤ x7 then ((cracknelref04_in.f ((rd_T60 x1 x7).f0) 0 (wrap64 ((x0.length : Int) - 1))).bind fun t106 => (if t106 = true then ((cracknelref04_in.f ((rd_T60 x1 x7).f1) (wrap64 (((rd_T60 x1 x7).f0) + 1)) (wrap64 ((x0.length : Int) - 1))).bind fun t107 => (if t107 = true then ((cracknelref04_in.f ((rd_T60 x1 x7).f2) (wrap64 (((rd_T60 x1 x7).f1) + 1)) (wrap64 ((x0.length : Int) - 1))).bind fun t108 => (cracknelref04_Triangles.j1 k x0 x1 x5 x6 x7 (!t108) ((rd_T60 x1 x7).f0) ((rd_T60 x1 x7).f1) ((rd_T60 x1 x7).f2))) else (cracknelref04_Triangles.j1 k x0 x1 x5 x6 x7 true ((rd_T60 x1 x7).f0) ((rd_T60 x1 x7).f1) ((rd_T60 x1 x7).f2)))) else (cracknelref04_Triangles.j1 k x0 x1 x5 x6 x7 true ((rd_T60 x1 x7).f0) ((rd_T60 x1 x7).f1) ((rd_T60 x1 x7).f2)))) else (none)) else ((cracknelref04_Area2.f k x0).bind fun t128 => ((cracknelref04_Area2.f k x0).bind fun t129 => (some (x5 == (mx t128 (wrap64 (-t129)))))))
def cracknelref04_Triangles.j1 : Nat → List (S41) → List (S60) → Int → List (List (S41)) → Int → Bool → Int → Int → Int → Option (Bool)
 | 0, _, _, _, _, _, _, _, _, _ => none
 | k + 1, x0, x1, x5, x6, x7, x59, x106000, x106001, x106002 => if x59 = true then (some false) else (if 0 ≤ x106000 then (if x106000 < (x0.length : Int) then (if 0 ≤ x106001 then (if x106001 < (x0.length : Int) then (if 0 ≤ x106002 then (if x106002 < (x0.length : Int) then ((cracknelref04_ccw.f (([(⟨(rd_T41 x0 x106000).f0, (rd_T41 x0 x106000).f1⟩ : S41), (⟨(rd_T41 x0 x106001).f0, (rd_T41 x0 x106001).f1⟩ : S41), (⟨(rd_T41 x0 x106002).f0, (rd_T41 x0 x106002).f1⟩ : S41)] : List (S41)))).bind fun t115 => (if 0 < (t115.length : Int) then (if 1 < (t115.length : Int) then (if 2 < (t115.length : Int) then ((cracknelref04_Cross.f ((rd_T41 t115 0).f0) ((rd_T41 t115 0).f1) ((rd_T41 t115 1).f0) ((rd_T41 t115 1).f1) ((rd_T41 t115 2).f0) ((rd_T41 t115 2).f1)).bind fun t121 => (if t121 = 0 then (cracknelref04_Triangles.l0 k x0 x1 x5 x6 (wrap64 (x7 + 1))) else ((cracknelref04_Within.f k x0 t115).bind fun t122 => (if t122 = true then (cracknelref04_Triangles.l1 k x0 x1 x5 x6 x7 t115 t121 0) else (some false))))) else (none)) else (none)) else (none))) else (none)) else (none)) else (none)) else (none)) else (none)) else (none))
def cracknelref04_Triangles.l1 : Nat → List (S41) → List (S60) → Int → List (List (S41)) → Int → List (S41) → Int → Int → Option (Bool)
 | 0, _, _, _, _, _, _, _, _ => none
 | k + 1, x0, x1, x5, x6, x7, x9, x10, x11 => if x11 < (x6.length : Int) then (if 0 ≤ x11 then ((cracknelref04_Apart.f k (rd_L2 x6 x11) x9).bind fun t127 => (if t127 = true then (cracknelref04_Triangles.l1 k x0 x1 x5 x6 x7 x9 x10 (wrap64 (x11 + 1))) else (some false))) else (none)) else (if x6.length < 5864062014805 then (cracknelref04_Triangles.l0 k x0 x1 (wrap64 (x5 + x10)) (x6 ++ [x9]) (wrap64 (x7 + 1))) else (none))
end
def cracknelref04_Triangles.f (k : Nat) (l0 : List (S41)) (l1 : List (S60)) : Option (Bool) := if (l1.length : Int) = (wrap64 ((l0.length : Int) - 2)) then (cracknelref04_Triangles.l0 k l0 l1 0 (([] : List (List (S41)))) 0) else (some false)
def cracknelref04_Triangles.T10 : Bool × List (List Nat × List Nat) := (true, [([], []), ([], []), ([1], [1]), ([0, 2], [0, 2]), ([3], [3]), ([], []), ([], []), ([6], [6]), ([5, 7], [5, 7]), ([8], [8]), ([], []), ([], []), ([11], [11]), ([10, 12], [10, 12]), ([13], [13]), ([4, 9, 14], [4, 9, 14]), ([15], [15]), ([16, 16, 0, 1, 2, 3, 4, 5, 6, 7, 8, 9, 10, 11, 12, 13, 14, 15, 16], [16])])
def cracknelref04_Triangles.B10 : List Nat := [0, 0, 2, 7, 15, 0, 0, 64, 224, 480, 0, 0, 2048, 7168, 15360, 32767, 65535, 131071]
theorem cracknelref04_Triangles.tab10 : rtab .any (opsOf Try.f13 10) = cracknelref04_Triangles.T10 := by kernel_rfl
theorem cracknelref04_Triangles.bits10 : waitsOk cracknelref04_Triangles.T10.2 cracknelref04_Triangles.B10 = true := by kernel_rfl
def cracknelref04_Triangles.T11 : Bool × List (List Nat × List Nat) := (true, [([], []), ([0], [0]), ([1], [1]), ([], []), ([3], [3]), ([4], [4]), ([], []), ([6], [6]), ([7], [7]), ([2, 5, 8], [2, 5, 8]), ([9, 9, 0, 1, 2, 3, 4, 5, 6, 7, 8, 9], [9])])
def cracknelref04_Triangles.B11 : List Nat := [0, 1, 3, 0, 8, 24, 0, 64, 192, 511, 1023]
theorem cracknelref04_Triangles.tab11 : rtab .any (opsOf Try.f13 11) = cracknelref04_Triangles.T11 := by kernel_rfl
theorem cracknelref04_Triangles.bits11 : waitsOk cracknelref04_Triangles.T11.2 cracknelref04_Triangles.B11 = true := by kernel_rfl
set_option maxHeartbeats 8000000 in
set_option maxRecDepth 100000 in
theorem cracknelref04_Triangles.calls (k : Nat) (A0 : Option Addr) (c0 : Nat) (l0 : List (S41)) (A1 : Option Addr) (c1 : Nat) (l1 : List (S60)) (r : Bool) (w : World) (hr0 : Kd.C k41 w A0 l0.length l0) (hc0 : l0.length ≤ c0) (hr1 : Kd.C k60 w A1 l1.length l1) (hc1 : l1.length ≤ c1) (h : cracknelref04_Triangles.f k l0 l1 = some r) :
  Calls Try.prog 13 #[.slice A0 l0.length c0, .slice A1 l1.length c1] w fun e w' => e = .returned (.bool r) ∧ Below w.heap.size w w' := by
 have hu60 := Try.underlying60
 have hu41 := Try.underlying41
 have HR0 := Aside0.mk hr0
 have HC0 := Aside0.mk hc0
 clear hr0 hc0
 have HR1 := Aside0.mk hr1
 have HC1 := Aside0.mk hc1
 clear hr1 hc1
 have HB := Aside0.mk (Below.refl w.heap.size w)
 have H : (if (l1.length : Int) = (wrap64 ((l0.length : Int) - 2)) then (cracknelref04_Triangles.l0 k l0 l1 0 (([] : List (List (S41)))) 0) else (some false)) = some r := h
 clear h
 by_cases c3 : (l1.length : Int) = (wrap64 ((l0.length : Int) - 2))
 ·rw [if_pos c3] at H
  have c3b0 : ((l1.length : Int) == (wrap64 ((l0.length : Int) - 2))) = true := beq_iff_eq.mpr c3
  have c3b1 : ((l1.length : Int) != (wrap64 ((l0.length : Int) - 2))) = false := bne_eq_false_iff_eq.mpr c3
  clear c3
  obtain ⟨y101, hy101⟩ : ∃ y_ : List (List (S41)), y_ = (([] : List (List (S41)))) := ⟨_, rfl⟩
  replace H : (cracknelref04_Triangles.l0 k l0 l1 0 y101 0) = some r := by first | (rw [hy101]; with_reducible exact H) | (have H2_ := (Option.bind_some _ _).symm.trans H; rw [hy101]; with_reducible exact H2_) | (have H2_ := (Option.bind_some _ _).symm.trans H; with_reducible exact H2_) | with_reducible exact H | (rw [hy101]; exact H) | exact H
  have Ny101 := Aside0.mk hy101
  clear hy101
  have H' := Aside0.mk H
  clear H
  go_enter Try.func13, Try.ntmps13
  go_wp2_with (first | ((with_reducible refine gate_dst (N := 18) rfl ?_); (try (refine gate_guard (by rfl) ?_; dsimp only)); refine Kd.S_lit (Kd.slice 41 k41) _ 22 ?hg (N := 18) ?hd (xs := ([] : List (List (S41)))) (inner := []) (ok := fun _ => True) (okp := fun _ => True) ?hr ?hp (fun _ hk => hk) trivial (Below.refl _ _) (Nat.le_refl _) (by simp) ?_; (case hd => rfl); (case hg => rfl); (case hr => first | (go_simp; done) | (go_simp; rfl)); (case hp => exact (Reps.none _ _)); intro v102 w4 ho5 hb hg_ hnew_; clear hg_ hnew_; (first | rw [← Ny101.out] at ho5 | (simp only [Int.reduceToNat] at ho5; rw [← Ny101.out] at ho5)); have HO103 := Aside0.mk (Kd.S_lower ho5 (below_size bh)); replace HB := bz hb; clear hb ho5))
  go_loopg [5, 6, 7] k (fun kq v5 v6 v7 w' => ∃ (x5_1 : Int) (x6_1 : List (List (S41))) (x7_1 : Int), v5 = .int .i64 x5_1 ∧ v7 = .int .i64 x7_1 ∧ Aside0 (cracknelref04_Triangles.l0 kq l0 l1 x5_1 x6_1 x7_1 = some r) ∧ Aside0 (kq ≤ k) ∧ Aside0 (Kd.S (Kd.slice 41 k41) 22 w' w.heap.size (fun _ => True) v6 x6_1) ∧ Aside0 (Below w.heap.size w w'))
  case atStart => exact ⟨(0), (y101), (0), sd, sd, H', ⟨Nat.le_refl _⟩, ⟨so HO103⟩, ⟨bh⟩⟩
  case round =>
   clear H'
   (try clear c1); (try clear c3b0); (try clear c3b1)
   obtain ⟨x5_1, x6_1, x7_1, rfl, rfl, HA, HK1, HO_6, HB⟩ := hrel
   cases gk with
   | zero => exact absurd HA.out (by simp [cracknelref04_Triangles.l0])
   | succ k1 =>
    have H := HA.out
    clear HA
    simp only [cracknelref04_Triangles.l0] at H
    by_cases c6 : x7_1 < (l1.length : Int)
    ·rw [if_pos c6] at H
     have c6b0 := decide_eq_true c6
     clear c6
     obtain ⟨c7, H⟩ := oi H
     have c7b0 := decide_eq_true c7
     clear c7
     have HC8 := Aside0.mk H
     clear H
     have p104 : 0 ≤ (x7_1 : Int) := dt
     have q104 : x7_1 < (l1.length : Int) := dt
     obtain ⟨ad104, e104, hx104_0, hx104_1, hx104_2⟩ := at_T60 HR1.out x7_1 p104 q104
     cases e104
     replace hx104_0 := hc HB hx104_0
     replace hx104_1 := hc HB hx104_1
     replace hx104_2 := hc HB hx104_2
     replace p104 := eq_true p104
     replace q104 := eq_true q104
     go_upto_region 8 with (first | ((with_reducible refine gate_dst (N := 8) rfl ?_); (try (refine gate_guard (by rfl) ?_; dsimp only)); refine bxe 8 #[.int .i64 0, .int .i64 0, .int .i64 0] 60 ?_; intro gb105 hg w9 hbox hb; have BK105 := Aside0.mk (hbox); have GW105 := ga w hg; have GE105 := GW105; replace HO_6 := Aside0.mk (Kd.S_below (so HO_6) hb); replace HB := bz hb; clear hb hbox hg; have hcz10_0 : w9.cell? ⟨gb105, 0, none⟩ = some (.int .i64 0) := bc BK105 0; have hcz10_1 : w9.cell? ⟨gb105, 1, none⟩ = some (.int .i64 0) := bc BK105 1; have hcz10_2 : w9.cell? ⟨gb105, 2, none⟩ = some (.int .i64 0) := bc BK105 2; have hfz10_0 := blk_frozen BK105.out 0; have hfz10_1 := blk_frozen BK105.out 1; have hfz10_2 := blk_frozen BK105.out 2))
     (try simp only [Act.put, List.setIfInBounds_toArray, List.set_cons_zero, List.set_cons_succ])
     go_cut [59] (fun v59 wc => ∃ (kq : Nat) (x59_7 : Bool), v59 = .bool x59_7 ∧ Aside0 (cracknelref04_Triangles.j1 kq l0 l1 x5_1 x6_1 x7_1 x59_7 ((rd_T60 l1 x7_1).f0) ((rd_T60 l1 x7_1).f1) ((rd_T60 l1 x7_1).f2) = some r) ∧ Aside0 (kq ≤ k1) ∧ Aside0 (Kd.S (Kd.slice 41 k41) 22 wc w.heap.size (fun _ => True) u6 x6_1) ∧ Aside0 (wc.heap[gb105]? = some (.cells #[.int .i64 ((rd_T60 l1 x7_1).f0), .int .i64 ((rd_T60 l1 x7_1).f1), .int .i64 ((rd_T60 l1 x7_1).f2)] 60 (0, 0))) ∧ Aside0 (Below w.heap.size w wc))
     case first =>
      have H := HC8.out
      clear HC8
      replace H := Option.bind_eq_some_iff.mp H
      obtain ⟨t106, A110, H⟩ := H
      try dsimp only at H
      have A11 := Aside0.mk A110
      clear A110
      by_cases c12 : t106 = true
      ·subst c12
       rw [if_pos rfl] at H
       replace H := Option.bind_eq_some_iff.mp H
       obtain ⟨t107, A130, H⟩ := H
       try dsimp only at H
       have A13 := Aside0.mk A130
       clear A130
       by_cases c14 : t107 = true
       ·subst c14
        rw [if_pos rfl] at H
        replace H := Option.bind_eq_some_iff.mp H
        obtain ⟨t108, A150, H⟩ := H
        try dsimp only at H
        have A15 := Aside0.mk A150
        clear A150
        have H' := Aside0.mk H
        clear H
        have hcz16_0 : w9.cell? ⟨gb105, 0, none⟩ = some (.int .i64 0) := bc BK105 0
        have hcz16_1 : w9.cell? ⟨gb105, 1, none⟩ = some (.int .i64 0) := bc BK105 1
        have hcz16_2 : w9.cell? ⟨gb105, 2, none⟩ = some (.int .i64 0) := bc BK105 2
        have hfz16_0 := blk_frozen BK105.out 0
        have hfz16_1 := blk_frozen BK105.out 1
        have hfz16_2 := blk_frozen BK105.out 2
        go_wp2_with (first | ((with_reducible refine gc 42 rfl ?_); refine goesL_ (some 34) rfl rfl Try.func42 (by kernel_rfl) rfl #[.int .i64 ((rd_T60 l1 x7_1).f0), .int .i64 0, .int .i64 (wrap64 ((l0.length : Int) - 1))] rfl sg ?_; (with_reducible refine (cracknelref04_in.calls ((rd_T60 l1 x7_1).f0) 0 (wrap64 ((l0.length : Int) - 1)) true _ A11.out).mono ?_); rintro e w' ⟨rfl, ⟨nd, rfl⟩⟩; refine ⟨_, rfl, ?_⟩) | (go_at_call 42; (with_reducible refine (cracknelref04_in.calls ((rd_T60 l1 x7_1).f1) (wrap64 (((rd_T60 l1 x7_1).f0) + 1)) (wrap64 ((l0.length : Int) - 1)) true _ A13.out).mono ?_); rintro e w' ⟨rfl, ⟨nd, rfl⟩⟩) | (go_at_call 42; (with_reducible refine (cracknelref04_in.calls ((rd_T60 l1 x7_1).f2) (wrap64 (((rd_T60 l1 x7_1).f1) + 1)) (wrap64 ((l0.length : Int) - 1)) t108 _ A15.out).mono ?_); rintro e w' ⟨rfl, ⟨nd, rfl⟩⟩))
        go_meet
        case rel => exact ⟨_, (!t108), sd, H', ⟨by have := HK1.out; first | omega | exact Nat.le_refl _⟩, ⟨by (with_reducible repeat (first | apply Kd.S_alloc | apply Kd.S_drewN | apply Kd.S_drew)); exact Kd.S_mono (Kd.S_far (p := ⟨gb105, 2, none⟩) (Kd.S_far (p := ⟨gb105, 1, none⟩) (Kd.S_far (p := ⟨gb105, 0, none⟩) (Kd.S_types HO_6.out BK105.out (by decide)) (fun _ hk => hk.2) (.int .i64 ((rd_T60 l1 x7_1).f0))) (fun _ hk => hk.2) (.int .i64 ((rd_T60 l1 x7_1).f1))) (fun _ hk => hk.2) (.int .i64 ((rd_T60 l1 x7_1).f2))) (fun _ hk => trivial)⟩, ⟨by refine bd ?_; refine blk_put (cs := #[.int .i64 ((rd_T60 l1 x7_1).f0), .int .i64 ((rd_T60 l1 x7_1).f1), .int .i64 0]) ?_ 2 _ rfl; refine bd ?_; refine blk_put (cs := #[.int .i64 ((rd_T60 l1 x7_1).f0), .int .i64 0, .int .i64 0]) ?_ 1 _ rfl; refine bd ?_; refine blk_put (cs := #[.int .i64 0, .int .i64 0, .int .i64 0]) ?_ 0 _ rfl; refine bd ?_; exact BK105.out⟩, ⟨bh⟩⟩
       ·replace c14 := Bool.eq_false_iff.mpr c14
        subst c14
        rw [if_neg (show ¬ (false = true) by decide)] at H
        have H' := Aside0.mk H
        clear H
        have hcz17_0 : w9.cell? ⟨gb105, 0, none⟩ = some (.int .i64 0) := bc BK105 0
        have hcz17_1 : w9.cell? ⟨gb105, 1, none⟩ = some (.int .i64 0) := bc BK105 1
        have hcz17_2 : w9.cell? ⟨gb105, 2, none⟩ = some (.int .i64 0) := bc BK105 2
        have hfz17_0 := blk_frozen BK105.out 0
        have hfz17_1 := blk_frozen BK105.out 1
        have hfz17_2 := blk_frozen BK105.out 2
        go_wp2_with (first | ((with_reducible refine gc 42 rfl ?_); refine goesL_ (some 34) rfl rfl Try.func42 (by kernel_rfl) rfl #[.int .i64 ((rd_T60 l1 x7_1).f0), .int .i64 0, .int .i64 (wrap64 ((l0.length : Int) - 1))] rfl sg ?_; (with_reducible refine (cracknelref04_in.calls ((rd_T60 l1 x7_1).f0) 0 (wrap64 ((l0.length : Int) - 1)) true _ A11.out).mono ?_); rintro e w' ⟨rfl, ⟨nd, rfl⟩⟩; refine ⟨_, rfl, ?_⟩) | (go_at_call 42; (with_reducible refine (cracknelref04_in.calls ((rd_T60 l1 x7_1).f1) (wrap64 (((rd_T60 l1 x7_1).f0) + 1)) (wrap64 ((l0.length : Int) - 1)) false _ A13.out).mono ?_); rintro e w' ⟨rfl, ⟨nd, rfl⟩⟩))
        go_meet
        case rel => exact ⟨_, (true), sd, H', ⟨by have := HK1.out; first | omega | exact Nat.le_refl _⟩, ⟨by (with_reducible repeat (first | apply Kd.S_alloc | apply Kd.S_drewN | apply Kd.S_drew)); exact Kd.S_mono (Kd.S_far (p := ⟨gb105, 2, none⟩) (Kd.S_far (p := ⟨gb105, 1, none⟩) (Kd.S_far (p := ⟨gb105, 0, none⟩) (Kd.S_types HO_6.out BK105.out (by decide)) (fun _ hk => hk.2) (.int .i64 ((rd_T60 l1 x7_1).f0))) (fun _ hk => hk.2) (.int .i64 ((rd_T60 l1 x7_1).f1))) (fun _ hk => hk.2) (.int .i64 ((rd_T60 l1 x7_1).f2))) (fun _ hk => trivial)⟩, ⟨by refine bd ?_; refine blk_put (cs := #[.int .i64 ((rd_T60 l1 x7_1).f0), .int .i64 ((rd_T60 l1 x7_1).f1), .int .i64 0]) ?_ 2 _ rfl; refine bd ?_; refine blk_put (cs := #[.int .i64 ((rd_T60 l1 x7_1).f0), .int .i64 0, .int .i64 0]) ?_ 1 _ rfl; refine bd ?_; refine blk_put (cs := #[.int .i64 0, .int .i64 0, .int .i64 0]) ?_ 0 _ rfl; refine bd ?_; exact BK105.out⟩, ⟨bh⟩⟩
      ·replace c12 := Bool.eq_false_iff.mpr c12
       subst c12
       rw [if_neg (show ¬ (false = true) by decide)] at H
       have H' := Aside0.mk H
       clear H
       have hcz18_0 : w9.cell? ⟨gb105, 0, none⟩ = some (.int .i64 0) := bc BK105 0
       have hcz18_1 : w9.cell? ⟨gb105, 1, none⟩ = some (.int .i64 0) := bc BK105 1
       have hcz18_2 : w9.cell? ⟨gb105, 2, none⟩ = some (.int .i64 0) := bc BK105 2
       have hfz18_0 := blk_frozen BK105.out 0
       have hfz18_1 := blk_frozen BK105.out 1
       have hfz18_2 := blk_frozen BK105.out 2
       go_wp2_with (first | ((with_reducible refine gc 42 rfl ?_); refine goesL_ (some 34) rfl rfl Try.func42 (by kernel_rfl) rfl #[.int .i64 ((rd_T60 l1 x7_1).f0), .int .i64 0, .int .i64 (wrap64 ((l0.length : Int) - 1))] rfl sg ?_; (with_reducible refine (cracknelref04_in.calls ((rd_T60 l1 x7_1).f0) 0 (wrap64 ((l0.length : Int) - 1)) false _ A11.out).mono ?_); rintro e w' ⟨rfl, ⟨nd, rfl⟩⟩; refine ⟨_, rfl, ?_⟩))
       go_meet
       case rel => exact ⟨_, (true), sd, H', ⟨by have := HK1.out; first | omega | exact Nat.le_refl _⟩, ⟨by (with_reducible repeat (first | apply Kd.S_alloc | apply Kd.S_drewN | apply Kd.S_drew)); exact Kd.S_mono (Kd.S_far (p := ⟨gb105, 2, none⟩) (Kd.S_far (p := ⟨gb105, 1, none⟩) (Kd.S_far (p := ⟨gb105, 0, none⟩) (Kd.S_types HO_6.out BK105.out (by decide)) (fun _ hk => hk.2) (.int .i64 ((rd_T60 l1 x7_1).f0))) (fun _ hk => hk.2) (.int .i64 ((rd_T60 l1 x7_1).f1))) (fun _ hk => hk.2) (.int .i64 ((rd_T60 l1 x7_1).f2))) (fun _ hk => trivial)⟩, ⟨by refine bd ?_; refine blk_put (cs := #[.int .i64 ((rd_T60 l1 x7_1).f0), .int .i64 ((rd_T60 l1 x7_1).f1), .int .i64 0]) ?_ 2 _ rfl; refine bd ?_; refine blk_put (cs := #[.int .i64 ((rd_T60 l1 x7_1).f0), .int .i64 0, .int .i64 0]) ?_ 1 _ rfl; refine bd ?_; refine blk_put (cs := #[.int .i64 0, .int .i64 0, .int .i64 0]) ?_ 0 _ rfl; refine bd ?_; exact BK105.out⟩, ⟨bh⟩⟩
     case rest =>
      clear HC8
      (try clear c6b0); (try clear c7b0); (try clear hcz10_0); (try clear hcz10_1); (try clear hcz10_2); (try clear hfz10_0); (try clear hfz10_1); (try clear hfz10_2); (try clear hx104_0); (try clear hx104_1); (try clear hx104_2); (try clear p104); (try clear q104)
      obtain ⟨kq, x59_7, rfl, HA, HJ7, HO_6, BK105, HB⟩ := hcut
      cases kq with
      | zero => exact absurd HA.out (by simp [cracknelref04_Triangles.j1])
      | succ kj7 =>
       have H := HA.out
       clear HA
       simp only [cracknelref04_Triangles.j1] at H
       by_cases c19 : x59_7 = true
       ·subst c19
        rw [if_pos rfl] at H
        obtain rfl := Option.some.inj H
        go_wp2
        go_ret
        exact ⟨by exact er, bh⟩
       ·replace c19 := Bool.eq_false_iff.mpr c19
        subst c19
        rw [if_neg (show ¬ (false = true) by decide)] at H
        obtain ⟨c20, H⟩ := oi H
        have c20b0 := decide_eq_true c20
        clear c20
        obtain ⟨c21, H⟩ := oi H
        have c21b0 := decide_eq_true c21
        clear c21
        obtain ⟨c22, H⟩ := oi H
        have c22b0 := decide_eq_true c22
        clear c22
        obtain ⟨c23, H⟩ := oi H
        have c23b0 := decide_eq_true c23
        clear c23
        obtain ⟨c24, H⟩ := oi H
        have c24b0 := decide_eq_true c24
        clear c24
        obtain ⟨c25, H⟩ := oi H
        have c25b0 := decide_eq_true c25
        clear c25
        obtain ⟨y112, hy112⟩ : ∃ y_ : List (S41), y_ = (([(⟨(rd_T41 l0 ((rd_T60 l1 x7_1).f0)).f0, (rd_T41 l0 ((rd_T60 l1 x7_1).f0)).f1⟩ : S41), (⟨(rd_T41 l0 ((rd_T60 l1 x7_1).f1)).f0, (rd_T41 l0 ((rd_T60 l1 x7_1).f1)).f1⟩ : S41), (⟨(rd_T41 l0 ((rd_T60 l1 x7_1).f2)).f0, (rd_T41 l0 ((rd_T60 l1 x7_1).f2)).f1⟩ : S41)] : List (S41))) := ⟨_, rfl⟩
        replace H : ((cracknelref04_ccw.f y112).bind fun t115 => (if 0 < (t115.length : Int) then (if 1 < (t115.length : Int) then (if 2 < (t115.length : Int) then ((cracknelref04_Cross.f ((rd_T41 t115 0).f0) ((rd_T41 t115 0).f1) ((rd_T41 t115 1).f0) ((rd_T41 t115 1).f1) ((rd_T41 t115 2).f0) ((rd_T41 t115 2).f1)).bind fun t121 => (if t121 = 0 then (cracknelref04_Triangles.l0 kj7 l0 l1 x5_1 x6_1 (wrap64 (x7_1 + 1))) else ((cracknelref04_Within.f kj7 l0 t115).bind fun t122 => (if t122 = true then (cracknelref04_Triangles.l1 kj7 l0 l1 x5_1 x6_1 x7_1 t115 t121 0) else (some false))))) else (none)) else (none)) else (none))) = some r := by first | (rw [hy112]; with_reducible exact H) | (have H2_ := (Option.bind_some _ _).symm.trans H; rw [hy112]; with_reducible exact H2_) | (have H2_ := (Option.bind_some _ _).symm.trans H; with_reducible exact H2_) | with_reducible exact H | (rw [hy112]; exact H) | exact H
        have Ny112 := Aside0.mk hy112
        clear hy112
        replace H := Option.bind_eq_some_iff.mp H
        obtain ⟨t115, A260, H⟩ := H
        try dsimp only at H
        have A26 := Aside0.mk A260
        clear A260
        obtain ⟨c27, H⟩ := oi H
        have c27b0 := decide_eq_true c27
        have c27b1 : decide (0 < t115.length) = true := decide_eq_true (by omega)
        clear c27
        obtain ⟨c28, H⟩ := oi H
        have c28b0 := decide_eq_true c28
        have c28b1 : decide (1 < t115.length) = true := decide_eq_true (by omega)
        clear c28
        obtain ⟨c29, H⟩ := oi H
        have c29b0 := decide_eq_true c29
        have c29b1 : decide (2 < t115.length) = true := decide_eq_true (by omega)
        clear c29
        replace H := Option.bind_eq_some_iff.mp H
        obtain ⟨t121, A300, H⟩ := H
        try dsimp only at H
        have A30 := Aside0.mk A300
        clear A300
        by_cases c31 : t121 = 0
        ·rw [if_pos c31] at H
         have c31b0 : (t121 == 0) = true := beq_iff_eq.mpr c31
         have c31b1 : (t121 != 0) = false := bne_eq_false_iff_eq.mpr c31
         clear c31
         have H' := Aside0.mk H
         clear H
         try go_wp2
         replace HO_6 := Aside0.mk (Kd.S_drew HO_6.out)
         replace BK105 := Aside0.mk (blk_drew BK105.out)
         replace HB := Aside0.mk (below_drew1 HB.out)
         have p109 : 0 ≤ (((rd_T60 l1 x7_1).f0) : Int) := dt
         have q109 : ((rd_T60 l1 x7_1).f0) < (l0.length : Int) := dt
         obtain ⟨ad109, e109, hx109_0, hx109_1⟩ := at_T41 HR0.out ((rd_T60 l1 x7_1).f0) p109 q109
         have hw109_1 := hx109_1
         have hw109_0 := hx109_0
         cases e109
         replace hx109_0 := hc HB hx109_0
         replace hx109_1 := hc HB hx109_1
         replace p109 := eq_true p109
         replace q109 := eq_true q109
         have p110 : 0 ≤ (((rd_T60 l1 x7_1).f1) : Int) := dt
         have q110 : ((rd_T60 l1 x7_1).f1) < (l0.length : Int) := dt
         obtain ⟨ad110, e110, hx110_0, hx110_1⟩ := at_T41 HR0.out ((rd_T60 l1 x7_1).f1) p110 q110
         have hw110_1 := hx110_1
         have hw110_0 := hx110_0
         obtain rfl : ad109 = ad110 := (by injection e110)
         replace hx110_0 := hc HB hx110_0
         replace hx110_1 := hc HB hx110_1
         replace p110 := eq_true p110
         replace q110 := eq_true q110
         have p111 : 0 ≤ (((rd_T60 l1 x7_1).f2) : Int) := dt
         have q111 : ((rd_T60 l1 x7_1).f2) < (l0.length : Int) := dt
         obtain ⟨ad111, e111, hx111_0, hx111_1⟩ := at_T41 HR0.out ((rd_T60 l1 x7_1).f2) p111 q111
         have hw111_1 := hx111_1
         have hw111_0 := hx111_0
         obtain rfl : ad109 = ad111 := (by injection e111)
         replace hx111_0 := hc HB hx111_0
         replace hx111_1 := hc HB hx111_1
         replace p111 := eq_true p111
         replace q111 := eq_true q111
         refine start_ (n := 18) (S := fun w' => w'.cell? ⟨gb105, 0, none⟩ = some (.int .i64 ((rd_T60 l1 x7_1).f0)) ∧ w'.cell? ⟨gb105, 1, none⟩ = some (.int .i64 ((rd_T60 l1 x7_1).f1)) ∧ w'.cell? ⟨gb105, 2, none⟩ = some (.int .i64 ((rd_T60 l1 x7_1).f2)) ∧ w'.cell? (ad109.add ((((rd_T60 l1 x7_1).f0)).toNat * 2)) = some (.int .i64 ((rd_T41 l0 ((rd_T60 l1 x7_1).f0)).f0)) ∧ w'.cell? ⟨(ad109.add ((((rd_T60 l1 x7_1).f0)).toNat * 2)).block, (ad109.add ((((rd_T60 l1 x7_1).f0)).toNat * 2)).off + 1, none⟩ = some (.int .i64 ((rd_T41 l0 ((rd_T60 l1 x7_1).f0)).f1)) ∧ w'.cell? (ad109.add ((((rd_T60 l1 x7_1).f1)).toNat * 2)) = some (.int .i64 ((rd_T41 l0 ((rd_T60 l1 x7_1).f1)).f0)) ∧ w'.cell? ⟨(ad109.add ((((rd_T60 l1 x7_1).f1)).toNat * 2)).block, (ad109.add ((((rd_T60 l1 x7_1).f1)).toNat * 2)).off + 1, none⟩ = some (.int .i64 ((rd_T41 l0 ((rd_T60 l1 x7_1).f1)).f1)) ∧ w'.cell? (ad109.add ((((rd_T60 l1 x7_1).f2)).toNat * 2)) = some (.int .i64 ((rd_T41 l0 ((rd_T60 l1 x7_1).f2)).f0)) ∧ w'.cell? ⟨(ad109.add ((((rd_T60 l1 x7_1).f2)).toNat * 2)).block, (ad109.add ((((rd_T60 l1 x7_1).f2)).toNat * 2)).off + 1, none⟩ = some (.int .i64 ((rd_T41 l0 ((rd_T60 l1 x7_1).f2)).f1))) (ds := []) #[N,N,N,N,N,N,N,N,N,N,N,N,N,N,N,N,N,N] (by kernel_rfl) rfl rfl ⟨bc BK105 0, bc BK105 1, bc BK105 2, (hc HB hw109_0), (hc HB hw109_1), (hc HB hw110_0), (hc HB hw110_1), (hc HB hw111_0), (hc HB hw111_1)⟩ (fun hHeld => ?_); refine with_tabW cracknelref04_Triangles.tab10 cracknelref04_Triangles.bits10 (fun HT_ HW_ => ?_)
         generalize wc.drew = w32 at HO_6 BK105 HB hx109_0 hx109_1 hx110_0 hx110_1 hx111_0 hx111_1 hHeld ⊢
         refine pu 0 60 HT_ ?_
         refine pu 1 61 HT_ ?_
         refine pu 5 65 HT_ ?_
         refine pu 6 66 HT_ ?_
         refine pu 10 70 HT_ ?_
         refine pu 11 71 HT_ ?_
         refine take_ (i := 2) (N := some 62) (v := ?_) (a' := ?_) #[T,T,T,N,N,T,T,N,N,N,T,T,N,N,N,N,N,N] rfl rfl (take_ofW HT_.out HW_.out (by kernel_rfl)) (fun _ _ _ h => h) (Or.inl ⟨by rfl, ?_⟩) hHeld ?_ ?_
         rotate_left
         ·rintro w' ⟨s0, s1, s2, s3, s4, s5, s6, s7, s8⟩
          go_simp
          with_reducible rfl
         rotate_left
         ·simp only [Act.put, List.setIfInBounds_toArray, List.set_cons_zero, List.set_cons_succ, i64_w, i32_w]
          rfl
         refine pu 3 63 HT_ ?_
         refine take_ (i := 4) (N := some 64) (v := ?_) (a' := ?_) #[T,T,T,T,T,T,T,N,N,N,T,T,N,N,N,N,N,N] rfl rfl (take_ofW HT_.out HW_.out (by kernel_rfl)) (fun _ _ _ h => h) (Or.inl ⟨by rfl, ?_⟩) hHeld ?_ ?_
         rotate_left
         ·rintro w' ⟨s0, s1, s2, s3, s4, s5, s6, s7, s8⟩
          go_simp
          with_reducible rfl
         rotate_left
         ·simp only [Act.put, List.setIfInBounds_toArray, List.set_cons_zero, List.set_cons_succ, i64_w, i32_w]
          rfl
         refine take_ (i := 7) (N := some 67) (v := ?_) (a' := ?_) #[T,T,T,T,T,T,T,T,N,N,T,T,N,N,N,N,N,N] rfl rfl (take_ofW HT_.out HW_.out (by kernel_rfl)) (fun _ _ _ h => h) (Or.inl ⟨by rfl, ?_⟩) hHeld ?_ ?_
         rotate_left
         ·rintro w' ⟨s0, s1, s2, s3, s4, s5, s6, s7, s8⟩
          go_simp
          with_reducible rfl
         rotate_left
         ·simp only [Act.put, List.setIfInBounds_toArray, List.set_cons_zero, List.set_cons_succ, i64_w, i32_w]
          rfl
         refine pu 8 68 HT_ ?_
         refine take_ (i := 9) (N := some 69) (v := ?_) (a' := ?_) #[T,T,T,T,T,T,T,T,T,T,T,T,N,N,N,N,N,N] rfl rfl (take_ofW HT_.out HW_.out (by kernel_rfl)) (fun _ _ _ h => h) (Or.inl ⟨by rfl, ?_⟩) hHeld ?_ ?_
         rotate_left
         ·rintro w' ⟨s0, s1, s2, s3, s4, s5, s6, s7, s8⟩
          go_simp
          with_reducible rfl
         rotate_left
         ·simp only [Act.put, List.setIfInBounds_toArray, List.set_cons_zero, List.set_cons_succ, i64_w, i32_w]
          rfl
         refine take_ (i := 12) (N := some 72) (v := ?_) (a' := ?_) #[T,T,T,T,T,T,T,T,T,T,T,T,T,N,N,N,N,N] rfl rfl (take_ofW HT_.out HW_.out (by kernel_rfl)) (fun _ _ _ h => h) (Or.inl ⟨by rfl, ?_⟩) hHeld ?_ ?_
         rotate_left
         ·rintro w' ⟨s0, s1, s2, s3, s4, s5, s6, s7, s8⟩
          go_simp
          with_reducible rfl
         rotate_left
         ·simp only [Act.put, List.setIfInBounds_toArray, List.set_cons_zero, List.set_cons_succ, i64_w, i32_w]
          rfl
         refine pu 13 73 HT_ ?_
         refine take_ (i := 14) (N := some 74) (v := ?_) (a' := ?_) #[T,T,T,T,T,T,T,T,T,T,T,T,T,T,T,N,N,N] rfl rfl (take_ofW HT_.out HW_.out (by kernel_rfl)) (fun _ _ _ h => h) (Or.inl ⟨by rfl, ?_⟩) hHeld ?_ ?_
         rotate_left
         ·rintro w' ⟨s0, s1, s2, s3, s4, s5, s6, s7, s8⟩
          go_simp
          with_reducible rfl
         rotate_left
         ·simp only [Act.put, List.setIfInBounds_toArray, List.set_cons_zero, List.set_cons_succ, i64_w, i32_w]
          rfl
         refine one_ (i := 15) (N := some 75) #[T,T,T,T,T,T,T,T,T,T,T,T,T,T,T,T,N,N] rfl rfl (on1 HT_) (by decide) (fun K hK => ?_)
         refine Kd.R_lit_step k41 _ 41 ?hg (N := 75) ?hd (xs := ([(⟨(rd_T41 l0 ((rd_T60 l1 x7_1).f0)).f0, (rd_T41 l0 ((rd_T60 l1 x7_1).f0)).f1⟩ : S41), (⟨(rd_T41 l0 ((rd_T60 l1 x7_1).f1)).f0, (rd_T41 l0 ((rd_T60 l1 x7_1).f1)).f1⟩ : S41), (⟨(rd_T41 l0 ((rd_T60 l1 x7_1).f2)).f0, (rd_T41 l0 ((rd_T60 l1 x7_1).f2)).f1⟩ : S41)] : List (S41))) (inner := [.int .i64 ((rd_T41 l0 ((rd_T60 l1 x7_1).f0)).f0), .int .i64 ((rd_T41 l0 ((rd_T60 l1 x7_1).f0)).f1), .int .i64 ((rd_T41 l0 ((rd_T60 l1 x7_1).f1)).f0), .int .i64 ((rd_T41 l0 ((rd_T60 l1 x7_1).f1)).f1), .int .i64 ((rd_T41 l0 ((rd_T60 l1 x7_1).f2)).f0), .int .i64 ((rd_T41 l0 ((rd_T60 l1 x7_1).f2)).f1)]) (ok := fun _ => True) (okp := fun _ => True) ?hr ?hp (fun _ hk => hk) trivial (Below.refl _ _) (Nat.le_refl _) (by simp) ?_; (case hd => rfl); (case hg => rfl); (case hr => first | (go_simp; done) | (go_simp; rfl)); (case hp => exact (Reps.c2 (show Kd.M k41 _ _ _ (⟨(rd_T41 l0 ((rd_T60 l1 x7_1).f0)).f0, (rd_T41 l0 ((rd_T60 l1 x7_1).f0)).f1⟩ : S41) [.int .i64 ((rd_T41 l0 ((rd_T60 l1 x7_1).f0)).f0), .int .i64 ((rd_T41 l0 ((rd_T60 l1 x7_1).f0)).f1)] from (k41_mkM _ _ _ (⟨(rd_T41 l0 ((rd_T60 l1 x7_1).f0)).f0, (rd_T41 l0 ((rd_T60 l1 x7_1).f0)).f1⟩ : S41) )) (Reps.c2 (show Kd.M k41 _ _ _ (⟨(rd_T41 l0 ((rd_T60 l1 x7_1).f1)).f0, (rd_T41 l0 ((rd_T60 l1 x7_1).f1)).f1⟩ : S41) [.int .i64 ((rd_T41 l0 ((rd_T60 l1 x7_1).f1)).f0), .int .i64 ((rd_T41 l0 ((rd_T60 l1 x7_1).f1)).f1)] from (k41_mkM _ _ _ (⟨(rd_T41 l0 ((rd_T60 l1 x7_1).f1)).f0, (rd_T41 l0 ((rd_T60 l1 x7_1).f1)).f1⟩ : S41) )) (Reps.c2 (show Kd.M k41 _ _ _ (⟨(rd_T41 l0 ((rd_T60 l1 x7_1).f2)).f0, (rd_T41 l0 ((rd_T60 l1 x7_1).f2)).f1⟩ : S41) [.int .i64 ((rd_T41 l0 ((rd_T60 l1 x7_1).f2)).f0), .int .i64 ((rd_T41 l0 ((rd_T60 l1 x7_1).f2)).f1)] from (k41_mkM _ _ _ (⟨(rd_T41 l0 ((rd_T60 l1 x7_1).f2)).f0, (rd_T41 l0 ((rd_T60 l1 x7_1).f2)).f1⟩ : S41) )) (Reps.none _ _)))))
         intro v113 w33 ho34 hb hg_ hnew_
         clear hg_ hnew_
         (first | rw [← Ny112.out] at ho34 | (simp only [Int.reduceToNat] at ho34; rw [← Ny112.out] at ho34))
         have HO114 := Aside0.mk (Kd.R_lower ho34 (below_size bh))
         replace HO_6 := Aside0.mk (Kd.S_elder' (so HO_6) (Kd.R_base ho34) hb)
         replace BK105 := kb BK105 hb
         replace HB := bz hb
         clear hb ho34
         obtain ⟨Ao35, co35, eo35⟩ := Kd.R_slice HO114.out
         (first | subst eo35 | (injection eo35 with f1_ f2_ f3_; have f4_ := f1_.symm; have f5_ := f3_.symm; clear f1_ f2_ f3_; subst f4_; subst f5_))
         refine hK.out _ _ ⟨bc BK105 0, bc BK105 1, bc BK105 2, (hc HB hw109_0), (hc HB hw109_1), (hc HB hw110_0), (hc HB hw110_1), (hc HB hw111_0), (hc HB hw111_1)⟩ (fun hHeld => ?_)
         clear hK K
         refine nm 75 ?_
         refine one_ (i := 16) (N := some 76) #[T,T,T,T,T,T,T,T,T,T,T,T,T,T,T,T,T,N] rfl rfl (on1 HT_) (by decide) (fun K hK => ?_)
         refine goes_ Try.func43 (by kernel_rfl) rfl #[.slice Ao35 y112.length co35] (by rfl) rfl rfl sg ?_
         with_reducible refine (cracknelref04_ccw.calls (fun k_ => some k_ = (.slice Ao35 y112.length co35 : Value).ownBlock) (.slice Ao35 y112.length co35) y112 t115 w _ ?side1 ?side2 A26.out).mono ?_
         (case side1 => repeat (first | (with_reducible first | exact HB.out | apply below_alloc | apply pw_below_drewN | apply below_drew1 | refine below_set ?_ GE105.out) | exact HB.out))
         (case side2 => exact Kd.R_tight rfl HO114.out)
         rintro e w36 ⟨v116, rfl, ho0, hb, hkp⟩
         refine ⟨_, rfl, ?_⟩
         have HO117 := Aside0.mk (Kd.R_mono (ok' := fun k_ => True) ho0 (fun k_ hk_ => trivial))
         replace HO_6 := Aside0.mk (Kd.S_mono (ok' := fun k_ => some k_ ≠ (v116 : Value).ownBlock) (Kd.S_keptB (HO_6.out) hkp (fun k_ hk_ hs_ => (hk_.2) hs_)) (fun k_ hk_ => fun e_ => Or.elim (ho0.1 k_ e_.symm) (fun hs_ => hk_.2.1 hs_) (fun hn_ => Nat.not_le.2 hk_.2.2 hn_)))
         replace BK105 := Aside0.mk (blk_kept (bk BK105) hkp (fun hs_ => (fun e_ => (Kd.R_ne HO114.out BK105.out (by decide)) e_) hs_))
         replace HB := Aside0.mk (hb)
         clear HO114
         (try clear hb); (try clear hkp); (try clear ho0)
         refine hK.out _ _ ⟨bc BK105 0, bc BK105 1, bc BK105 2, (hc HB hw109_0), (hc HB hw109_1), (hc HB hw110_0), (hc HB hw110_1), (hc HB hw111_0), (hc HB hw111_1)⟩ (fun hHeld => ?_)
         clear hK K
         refine nm 76 ?_
         refine pu 17 9 HT_ ?_
         refine done_ (done_of HT_.out (by kernel_rfl)) ?_
         try go_wp2
         replace HO_6 := Aside0.mk (Kd.S_drew HO_6.out)
         replace HO117 := Aside0.mk (Kd.R_drew HO117.out)
         replace BK105 := Aside0.mk (blk_drew BK105.out)
         replace HB := Aside0.mk (below_drew1 HB.out)
         obtain ⟨Ao38, co38, eo38⟩ := Kd.R_slice HO117.out
         (first | subst eo38 | (injection eo38 with f1_ f2_ f3_; have f4_ := f1_.symm; have f5_ := f3_.symm; clear f1_ f2_ f3_; subst f4_; subst f5_))
         have p118 : 0 ≤ (0 : Int) := (by omega)
         have q118 : 0 < (t115.length : Int) := dt
         obtain ⟨ad118, e118, hx118_0, hx118_1⟩ := at_T41 (Kd.R_reads' HO117.out).2.2 0 p118 q118
         cases e118
         have qi118 : (0 < t115.length) = True := eq_true (by omega)
         (try rw [show ((0 : Int)).toNat = 0 from rfl] at hx118_0)
         (try rw [show 0 * 2 = 0 from rfl] at hx118_0)
         (try rw [Addr.add_zero'] at hx118_0)
         (try rw [show ((0 : Int)).toNat = 0 from rfl] at hx118_1)
         (try rw [show 0 * 2 = 0 from rfl] at hx118_1)
         (try rw [Addr.add_zero'] at hx118_1)
         replace p118 := eq_true p118
         replace q118 := eq_true q118
         have p119 : 0 ≤ (1 : Int) := (by omega)
         have q119 : 1 < (t115.length : Int) := dt
         obtain ⟨ad119, e119, hx119_0, hx119_1⟩ := at_T41 (Kd.R_reads' HO117.out).2.2 1 p119 q119
         obtain rfl : ad118 = ad119 := (by injection e119)
         (try simp only [show (1 : Int).toNat = 1 from rfl, Nat.reduceMul, Nat.reduceEqDiff, Go.Addr.add, ↓reduceIte] at hx119_0)
         (try simp only [show (1 : Int).toNat = 1 from rfl, Nat.reduceMul, Nat.reduceEqDiff, Go.Addr.add, ↓reduceIte] at hx119_1)
         have qi119 : (1 < t115.length) = True := eq_true (by omega)
         (try rw [show ((1 : Int)).toNat = 1 from rfl] at hx119_0)
         (try rw [show 1 * 2 = 2 from rfl] at hx119_0)
         (try rw [show ((1 : Int)).toNat = 1 from rfl] at hx119_1)
         (try rw [show 1 * 2 = 2 from rfl] at hx119_1)
         replace p119 := eq_true p119
         replace q119 := eq_true q119
         have p120 : 0 ≤ (2 : Int) := (by omega)
         have q120 : 2 < (t115.length : Int) := dt
         obtain ⟨ad120, e120, hx120_0, hx120_1⟩ := at_T41 (Kd.R_reads' HO117.out).2.2 2 p120 q120
         obtain rfl : ad118 = ad120 := (by injection e120)
         (try simp only [show (2 : Int).toNat = 2 from rfl, Nat.reduceMul, Nat.reduceEqDiff, Go.Addr.add, ↓reduceIte] at hx120_0)
         (try simp only [show (2 : Int).toNat = 2 from rfl, Nat.reduceMul, Nat.reduceEqDiff, Go.Addr.add, ↓reduceIte] at hx120_1)
         have qi120 : (2 < t115.length) = True := eq_true (by omega)
         (try rw [show ((2 : Int)).toNat = 2 from rfl] at hx120_0)
         (try rw [show 2 * 2 = 4 from rfl] at hx120_0)
         (try rw [show ((2 : Int)).toNat = 2 from rfl] at hx120_1)
         (try rw [show 2 * 2 = 4 from rfl] at hx120_1)
         replace p120 := eq_true p120
         replace q120 := eq_true q120
         refine start_ (n := 11) (S := fun w' => w'.cell? ad118 = some (.int .i64 ((rd_T41 t115 0).f0)) ∧ w'.cell? ⟨ad118.block, ad118.off + 1, none⟩ = some (.int .i64 ((rd_T41 t115 0).f1)) ∧ w'.cell? ⟨ad118.block, ad118.off + 2, none⟩ = some (.int .i64 ((rd_T41 t115 1).f0)) ∧ w'.cell? ⟨ad118.block, ad118.off + 2 + 1, none⟩ = some (.int .i64 ((rd_T41 t115 1).f1)) ∧ w'.cell? ⟨ad118.block, ad118.off + 4, none⟩ = some (.int .i64 ((rd_T41 t115 2).f0)) ∧ w'.cell? ⟨ad118.block, ad118.off + 4 + 1, none⟩ = some (.int .i64 ((rd_T41 t115 2).f1))) (ds := []) #[N,N,N,N,N,N,N,N,N,N,N] (by kernel_rfl) rfl rfl ⟨hx118_0, hx118_1, hx119_0, hx119_1, hx120_0, hx120_1⟩ (fun hHeld => ?_); refine with_tabW cracknelref04_Triangles.tab11 cracknelref04_Triangles.bits11 (fun HT_ HW_ => ?_)
         generalize w36.drew = w37 at HO_6 HO117 BK105 HB hx118_0 hx118_1 hx119_0 hx119_1 hx120_0 hx120_1 hHeld ⊢
         refine pu 0 77 HT_ ?_
         refine pu 1 78 HT_ ?_
         refine pu 3 80 HT_ ?_
         refine pu 4 81 HT_ ?_
         refine pu 6 83 HT_ ?_
         refine pu 7 84 HT_ ?_
         refine tk6 2 79 hHeld HT_ HW_ ?_
         refine tk6 5 82 hHeld HT_ HW_ ?_
         refine tk6 8 85 hHeld HT_ HW_ ?_
         refine one_ (i := 9) (N := some 86) #[T,T,T,T,T,T,T,T,T,T,N] rfl rfl (on1 HT_) (by decide) (fun K hK => ?_)
         refine goes_ Try.func31 (by kernel_rfl) rfl #[.agg #[.int .i64 ((rd_T41 t115 0).f0), .int .i64 ((rd_T41 t115 0).f1)], .agg #[.int .i64 ((rd_T41 t115 1).f0), .int .i64 ((rd_T41 t115 1).f1)], .agg #[.int .i64 ((rd_T41 t115 2).f0), .int .i64 ((rd_T41 t115 2).f1)]] (by rfl) rfl rfl sg ?_
         with_reducible refine (cracknelref04_Cross.calls ((rd_T41 t115 0).f0) ((rd_T41 t115 0).f1) ((rd_T41 t115 1).f0) ((rd_T41 t115 1).f1) ((rd_T41 t115 2).f0) ((rd_T41 t115 2).f1) t121 _ A30.out).mono ?_
         rintro e w39 ⟨rfl, hb⟩
         have HS0_ := (hb.cell (World.block_lt_of_cell? _ _ (hHeld.1))).trans (hHeld.1)
         have HS1_ := (hb.cell (World.block_lt_of_cell? _ _ (hHeld.2.1))).trans (hHeld.2.1)
         have HS2_ := (hb.cell (World.block_lt_of_cell? _ _ (hHeld.2.2.1))).trans (hHeld.2.2.1)
         have HS3_ := (hb.cell (World.block_lt_of_cell? _ _ (hHeld.2.2.2.1))).trans (hHeld.2.2.2.1)
         have HS4_ := (hb.cell (World.block_lt_of_cell? _ _ (hHeld.2.2.2.2.1))).trans (hHeld.2.2.2.2.1)
         have HS5_ := (hb.cell (World.block_lt_of_cell? _ _ (hHeld.2.2.2.2.2))).trans (hHeld.2.2.2.2.2)
         refine ⟨_, rfl, ?_⟩
         replace HO_6 := Aside0.mk (Kd.S_below (so HO_6) hb)
         replace HO117 := Aside0.mk (Kd.R_below (ro HO117) hb)
         replace BK105 := kb BK105 hb
         replace HB := bz hb
         (try clear hb)
         refine hK.out _ _ ⟨HS0_, HS1_, HS2_, HS3_, HS4_, HS5_⟩ (fun hHeld => ?_)
         clear hK K
         refine nm 86 ?_
         refine pu 10 10 HT_ ?_
         refine done_ (done_of HT_.out (by kernel_rfl)) ?_
         try go_wp2
         go_roundg kj7
         case measure => have := HK1.out; have := HJ7.out; omega
         case rel => exact ⟨(x5_1), (x6_1), (wrap64 (x7_1 + 1)), sd, sd, H', ⟨by have := HK1.out; have := HJ7.out; omega⟩, ⟨by (with_reducible repeat (first | apply Kd.S_alloc | apply Kd.S_drewN | apply Kd.S_drew)); exact Kd.S_mono HO_6.out (fun _ hk => trivial)⟩, ⟨bh⟩⟩
        ·rw [if_neg c31] at H
         have c31b0 : (t121 == 0) = false := beq_eq_false_iff_ne.mpr c31
         have c31b1 : (t121 != 0) = true := bne_iff_ne.mpr c31
         replace H := Option.bind_eq_some_iff.mp H
         obtain ⟨t122, A400, H⟩ := H
         try dsimp only at H
         have A40 := Aside0.mk A400
         clear A400
         by_cases c41 : t122 = true
         ·subst c41
          rw [if_pos rfl] at H
          have H' := Aside0.mk H
          clear H
          try go_wp2
          replace HO_6 := Aside0.mk (Kd.S_drew HO_6.out)
          replace BK105 := Aside0.mk (blk_drew BK105.out)
          replace HB := Aside0.mk (below_drew1 HB.out)
          have p109 : 0 ≤ (((rd_T60 l1 x7_1).f0) : Int) := dt
          have q109 : ((rd_T60 l1 x7_1).f0) < (l0.length : Int) := dt
          obtain ⟨ad109, e109, hx109_0, hx109_1⟩ := at_T41 HR0.out ((rd_T60 l1 x7_1).f0) p109 q109
          have hw109_1 := hx109_1
          have hw109_0 := hx109_0
          cases e109
          replace hx109_0 := hc HB hx109_0
          replace hx109_1 := hc HB hx109_1
          replace p109 := eq_true p109
          replace q109 := eq_true q109
          have p110 : 0 ≤ (((rd_T60 l1 x7_1).f1) : Int) := dt
          have q110 : ((rd_T60 l1 x7_1).f1) < (l0.length : Int) := dt
          obtain ⟨ad110, e110, hx110_0, hx110_1⟩ := at_T41 HR0.out ((rd_T60 l1 x7_1).f1) p110 q110
          have hw110_1 := hx110_1
          have hw110_0 := hx110_0
          obtain rfl : ad109 = ad110 := (by injection e110)
          replace hx110_0 := hc HB hx110_0
          replace hx110_1 := hc HB hx110_1
          replace p110 := eq_true p110
          replace q110 := eq_true q110
          have p111 : 0 ≤ (((rd_T60 l1 x7_1).f2) : Int) := dt
          have q111 : ((rd_T60 l1 x7_1).f2) < (l0.length : Int) := dt
          obtain ⟨ad111, e111, hx111_0, hx111_1⟩ := at_T41 HR0.out ((rd_T60 l1 x7_1).f2) p111 q111
          have hw111_1 := hx111_1
          have hw111_0 := hx111_0
          obtain rfl : ad109 = ad111 := (by injection e111)
          replace hx111_0 := hc HB hx111_0
          replace hx111_1 := hc HB hx111_1
          replace p111 := eq_true p111
          replace q111 := eq_true q111
          refine start_ (n := 18) (S := fun w' => w'.cell? ⟨gb105, 0, none⟩ = some (.int .i64 ((rd_T60 l1 x7_1).f0)) ∧ w'.cell? ⟨gb105, 1, none⟩ = some (.int .i64 ((rd_T60 l1 x7_1).f1)) ∧ w'.cell? ⟨gb105, 2, none⟩ = some (.int .i64 ((rd_T60 l1 x7_1).f2)) ∧ w'.cell? (ad109.add ((((rd_T60 l1 x7_1).f0)).toNat * 2)) = some (.int .i64 ((rd_T41 l0 ((rd_T60 l1 x7_1).f0)).f0)) ∧ w'.cell? ⟨(ad109.add ((((rd_T60 l1 x7_1).f0)).toNat * 2)).block, (ad109.add ((((rd_T60 l1 x7_1).f0)).toNat * 2)).off + 1, none⟩ = some (.int .i64 ((rd_T41 l0 ((rd_T60 l1 x7_1).f0)).f1)) ∧ w'.cell? (ad109.add ((((rd_T60 l1 x7_1).f1)).toNat * 2)) = some (.int .i64 ((rd_T41 l0 ((rd_T60 l1 x7_1).f1)).f0)) ∧ w'.cell? ⟨(ad109.add ((((rd_T60 l1 x7_1).f1)).toNat * 2)).block, (ad109.add ((((rd_T60 l1 x7_1).f1)).toNat * 2)).off + 1, none⟩ = some (.int .i64 ((rd_T41 l0 ((rd_T60 l1 x7_1).f1)).f1)) ∧ w'.cell? (ad109.add ((((rd_T60 l1 x7_1).f2)).toNat * 2)) = some (.int .i64 ((rd_T41 l0 ((rd_T60 l1 x7_1).f2)).f0)) ∧ w'.cell? ⟨(ad109.add ((((rd_T60 l1 x7_1).f2)).toNat * 2)).block, (ad109.add ((((rd_T60 l1 x7_1).f2)).toNat * 2)).off + 1, none⟩ = some (.int .i64 ((rd_T41 l0 ((rd_T60 l1 x7_1).f2)).f1))) (ds := []) #[N,N,N,N,N,N,N,N,N,N,N,N,N,N,N,N,N,N] (by kernel_rfl) rfl rfl ⟨bc BK105 0, bc BK105 1, bc BK105 2, (hc HB hw109_0), (hc HB hw109_1), (hc HB hw110_0), (hc HB hw110_1), (hc HB hw111_0), (hc HB hw111_1)⟩ (fun hHeld => ?_); refine with_tabW cracknelref04_Triangles.tab10 cracknelref04_Triangles.bits10 (fun HT_ HW_ => ?_)
          generalize wc.drew = w42 at HO_6 BK105 HB hx109_0 hx109_1 hx110_0 hx110_1 hx111_0 hx111_1 hHeld ⊢
          refine pu 0 60 HT_ ?_
          refine pu 1 61 HT_ ?_
          refine pu 5 65 HT_ ?_
          refine pu 6 66 HT_ ?_
          refine pu 10 70 HT_ ?_
          refine pu 11 71 HT_ ?_
          refine take_ (i := 2) (N := some 62) (v := ?_) (a' := ?_) #[T,T,T,N,N,T,T,N,N,N,T,T,N,N,N,N,N,N] rfl rfl (take_ofW HT_.out HW_.out (by kernel_rfl)) (fun _ _ _ h => h) (Or.inl ⟨by rfl, ?_⟩) hHeld ?_ ?_
          rotate_left
          ·rintro w' ⟨s0, s1, s2, s3, s4, s5, s6, s7, s8⟩
           go_simp
           with_reducible rfl
          rotate_left
          ·simp only [Act.put, List.setIfInBounds_toArray, List.set_cons_zero, List.set_cons_succ, i64_w, i32_w]
           rfl
          refine pu 3 63 HT_ ?_
          refine take_ (i := 4) (N := some 64) (v := ?_) (a' := ?_) #[T,T,T,T,T,T,T,N,N,N,T,T,N,N,N,N,N,N] rfl rfl (take_ofW HT_.out HW_.out (by kernel_rfl)) (fun _ _ _ h => h) (Or.inl ⟨by rfl, ?_⟩) hHeld ?_ ?_
          rotate_left
          ·rintro w' ⟨s0, s1, s2, s3, s4, s5, s6, s7, s8⟩
           go_simp
           with_reducible rfl
          rotate_left
          ·simp only [Act.put, List.setIfInBounds_toArray, List.set_cons_zero, List.set_cons_succ, i64_w, i32_w]
           rfl
          refine take_ (i := 7) (N := some 67) (v := ?_) (a' := ?_) #[T,T,T,T,T,T,T,T,N,N,T,T,N,N,N,N,N,N] rfl rfl (take_ofW HT_.out HW_.out (by kernel_rfl)) (fun _ _ _ h => h) (Or.inl ⟨by rfl, ?_⟩) hHeld ?_ ?_
          rotate_left
          ·rintro w' ⟨s0, s1, s2, s3, s4, s5, s6, s7, s8⟩
           go_simp
           with_reducible rfl
          rotate_left
          ·simp only [Act.put, List.setIfInBounds_toArray, List.set_cons_zero, List.set_cons_succ, i64_w, i32_w]
           rfl
          refine pu 8 68 HT_ ?_
          refine take_ (i := 9) (N := some 69) (v := ?_) (a' := ?_) #[T,T,T,T,T,T,T,T,T,T,T,T,N,N,N,N,N,N] rfl rfl (take_ofW HT_.out HW_.out (by kernel_rfl)) (fun _ _ _ h => h) (Or.inl ⟨by rfl, ?_⟩) hHeld ?_ ?_
          rotate_left
          ·rintro w' ⟨s0, s1, s2, s3, s4, s5, s6, s7, s8⟩
           go_simp
           with_reducible rfl
          rotate_left
          ·simp only [Act.put, List.setIfInBounds_toArray, List.set_cons_zero, List.set_cons_succ, i64_w, i32_w]
           rfl
          refine take_ (i := 12) (N := some 72) (v := ?_) (a' := ?_) #[T,T,T,T,T,T,T,T,T,T,T,T,T,N,N,N,N,N] rfl rfl (take_ofW HT_.out HW_.out (by kernel_rfl)) (fun _ _ _ h => h) (Or.inl ⟨by rfl, ?_⟩) hHeld ?_ ?_
          rotate_left
          ·rintro w' ⟨s0, s1, s2, s3, s4, s5, s6, s7, s8⟩
           go_simp
           with_reducible rfl
          rotate_left
          ·simp only [Act.put, List.setIfInBounds_toArray, List.set_cons_zero, List.set_cons_succ, i64_w, i32_w]
           rfl
          refine pu 13 73 HT_ ?_
          refine take_ (i := 14) (N := some 74) (v := ?_) (a' := ?_) #[T,T,T,T,T,T,T,T,T,T,T,T,T,T,T,N,N,N] rfl rfl (take_ofW HT_.out HW_.out (by kernel_rfl)) (fun _ _ _ h => h) (Or.inl ⟨by rfl, ?_⟩) hHeld ?_ ?_
          rotate_left
          ·rintro w' ⟨s0, s1, s2, s3, s4, s5, s6, s7, s8⟩
           go_simp
           with_reducible rfl
          rotate_left
          ·simp only [Act.put, List.setIfInBounds_toArray, List.set_cons_zero, List.set_cons_succ, i64_w, i32_w]
           rfl
          refine one_ (i := 15) (N := some 75) #[T,T,T,T,T,T,T,T,T,T,T,T,T,T,T,T,N,N] rfl rfl (on1 HT_) (by decide) (fun K hK => ?_)
          refine Kd.R_lit_step k41 _ 41 ?hg (N := 75) ?hd (xs := ([(⟨(rd_T41 l0 ((rd_T60 l1 x7_1).f0)).f0, (rd_T41 l0 ((rd_T60 l1 x7_1).f0)).f1⟩ : S41), (⟨(rd_T41 l0 ((rd_T60 l1 x7_1).f1)).f0, (rd_T41 l0 ((rd_T60 l1 x7_1).f1)).f1⟩ : S41), (⟨(rd_T41 l0 ((rd_T60 l1 x7_1).f2)).f0, (rd_T41 l0 ((rd_T60 l1 x7_1).f2)).f1⟩ : S41)] : List (S41))) (inner := [.int .i64 ((rd_T41 l0 ((rd_T60 l1 x7_1).f0)).f0), .int .i64 ((rd_T41 l0 ((rd_T60 l1 x7_1).f0)).f1), .int .i64 ((rd_T41 l0 ((rd_T60 l1 x7_1).f1)).f0), .int .i64 ((rd_T41 l0 ((rd_T60 l1 x7_1).f1)).f1), .int .i64 ((rd_T41 l0 ((rd_T60 l1 x7_1).f2)).f0), .int .i64 ((rd_T41 l0 ((rd_T60 l1 x7_1).f2)).f1)]) (ok := fun _ => True) (okp := fun _ => True) ?hr ?hp (fun _ hk => hk) trivial (Below.refl _ _) (Nat.le_refl _) (by simp) ?_; (case hd => rfl); (case hg => rfl); (case hr => first | (go_simp; done) | (go_simp; rfl)); (case hp => exact (Reps.c2 (show Kd.M k41 _ _ _ (⟨(rd_T41 l0 ((rd_T60 l1 x7_1).f0)).f0, (rd_T41 l0 ((rd_T60 l1 x7_1).f0)).f1⟩ : S41) [.int .i64 ((rd_T41 l0 ((rd_T60 l1 x7_1).f0)).f0), .int .i64 ((rd_T41 l0 ((rd_T60 l1 x7_1).f0)).f1)] from (k41_mkM _ _ _ (⟨(rd_T41 l0 ((rd_T60 l1 x7_1).f0)).f0, (rd_T41 l0 ((rd_T60 l1 x7_1).f0)).f1⟩ : S41) )) (Reps.c2 (show Kd.M k41 _ _ _ (⟨(rd_T41 l0 ((rd_T60 l1 x7_1).f1)).f0, (rd_T41 l0 ((rd_T60 l1 x7_1).f1)).f1⟩ : S41) [.int .i64 ((rd_T41 l0 ((rd_T60 l1 x7_1).f1)).f0), .int .i64 ((rd_T41 l0 ((rd_T60 l1 x7_1).f1)).f1)] from (k41_mkM _ _ _ (⟨(rd_T41 l0 ((rd_T60 l1 x7_1).f1)).f0, (rd_T41 l0 ((rd_T60 l1 x7_1).f1)).f1⟩ : S41) )) (Reps.c2 (show Kd.M k41 _ _ _ (⟨(rd_T41 l0 ((rd_T60 l1 x7_1).f2)).f0, (rd_T41 l0 ((rd_T60 l1 x7_1).f2)).f1⟩ : S41) [.int .i64 ((rd_T41 l0 ((rd_T60 l1 x7_1).f2)).f0), .int .i64 ((rd_T41 l0 ((rd_T60 l1 x7_1).f2)).f1)] from (k41_mkM _ _ _ (⟨(rd_T41 l0 ((rd_T60 l1 x7_1).f2)).f0, (rd_T41 l0 ((rd_T60 l1 x7_1).f2)).f1⟩ : S41) )) (Reps.none _ _)))))
          intro v113 w43 ho44 hb hg_ hnew_
          clear hg_ hnew_
          (first | rw [← Ny112.out] at ho44 | (simp only [Int.reduceToNat] at ho44; rw [← Ny112.out] at ho44))
          have HO114 := Aside0.mk (Kd.R_lower ho44 (below_size bh))
          replace HO_6 := Aside0.mk (Kd.S_elder' (so HO_6) (Kd.R_base ho44) hb)
          replace BK105 := kb BK105 hb
          replace HB := bz hb
          clear hb ho44
          obtain ⟨Ao45, co45, eo45⟩ := Kd.R_slice HO114.out
          (first | subst eo45 | (injection eo45 with f1_ f2_ f3_; have f4_ := f1_.symm; have f5_ := f3_.symm; clear f1_ f2_ f3_; subst f4_; subst f5_))
          refine hK.out _ _ ⟨bc BK105 0, bc BK105 1, bc BK105 2, (hc HB hw109_0), (hc HB hw109_1), (hc HB hw110_0), (hc HB hw110_1), (hc HB hw111_0), (hc HB hw111_1)⟩ (fun hHeld => ?_)
          clear hK K
          refine nm 75 ?_
          refine one_ (i := 16) (N := some 76) #[T,T,T,T,T,T,T,T,T,T,T,T,T,T,T,T,T,N] rfl rfl (on1 HT_) (by decide) (fun K hK => ?_)
          refine goes_ Try.func43 (by kernel_rfl) rfl #[.slice Ao45 y112.length co45] (by rfl) rfl rfl sg ?_
          with_reducible refine (cracknelref04_ccw.calls (fun k_ => some k_ = (.slice Ao45 y112.length co45 : Value).ownBlock) (.slice Ao45 y112.length co45) y112 t115 w _ ?side1 ?side2 A26.out).mono ?_
          (case side1 => repeat (first | (with_reducible first | exact HB.out | apply below_alloc | apply pw_below_drewN | apply below_drew1 | refine below_set ?_ GE105.out) | exact HB.out))
          (case side2 => exact Kd.R_tight rfl HO114.out)
          rintro e w46 ⟨v116, rfl, ho0, hb, hkp⟩
          refine ⟨_, rfl, ?_⟩
          have HO117 := Aside0.mk (Kd.R_mono (ok' := fun k_ => True) ho0 (fun k_ hk_ => trivial))
          replace HO_6 := Aside0.mk (Kd.S_mono (ok' := fun k_ => some k_ ≠ (v116 : Value).ownBlock) (Kd.S_keptB (HO_6.out) hkp (fun k_ hk_ hs_ => (hk_.2) hs_)) (fun k_ hk_ => fun e_ => Or.elim (ho0.1 k_ e_.symm) (fun hs_ => hk_.2.1 hs_) (fun hn_ => Nat.not_le.2 hk_.2.2 hn_)))
          replace BK105 := Aside0.mk (blk_kept (bk BK105) hkp (fun hs_ => (fun e_ => (Kd.R_ne HO114.out BK105.out (by decide)) e_) hs_))
          replace HB := Aside0.mk (hb)
          clear HO114
          (try clear hb); (try clear hkp); (try clear ho0)
          refine hK.out _ _ ⟨bc BK105 0, bc BK105 1, bc BK105 2, (hc HB hw109_0), (hc HB hw109_1), (hc HB hw110_0), (hc HB hw110_1), (hc HB hw111_0), (hc HB hw111_1)⟩ (fun hHeld => ?_)
          clear hK K
          refine nm 76 ?_
          refine pu 17 9 HT_ ?_
          refine done_ (done_of HT_.out (by kernel_rfl)) ?_
          try go_wp2
          replace HO_6 := Aside0.mk (Kd.S_drew HO_6.out)
          replace HO117 := Aside0.mk (Kd.R_drew HO117.out)
          replace BK105 := Aside0.mk (blk_drew BK105.out)
          replace HB := Aside0.mk (below_drew1 HB.out)
          obtain ⟨Ao48, co48, eo48⟩ := Kd.R_slice HO117.out
          (first | subst eo48 | (injection eo48 with f1_ f2_ f3_; have f4_ := f1_.symm; have f5_ := f3_.symm; clear f1_ f2_ f3_; subst f4_; subst f5_))
          have p118 : 0 ≤ (0 : Int) := (by omega)
          have q118 : 0 < (t115.length : Int) := dt
          obtain ⟨ad118, e118, hx118_0, hx118_1⟩ := at_T41 (Kd.R_reads' HO117.out).2.2 0 p118 q118
          cases e118
          have qi118 : (0 < t115.length) = True := eq_true (by omega)
          (try rw [show ((0 : Int)).toNat = 0 from rfl] at hx118_0)
          (try rw [show 0 * 2 = 0 from rfl] at hx118_0)
          (try rw [Addr.add_zero'] at hx118_0)
          (try rw [show ((0 : Int)).toNat = 0 from rfl] at hx118_1)
          (try rw [show 0 * 2 = 0 from rfl] at hx118_1)
          (try rw [Addr.add_zero'] at hx118_1)
          replace p118 := eq_true p118
          replace q118 := eq_true q118
          have p119 : 0 ≤ (1 : Int) := (by omega)
          have q119 : 1 < (t115.length : Int) := dt
          obtain ⟨ad119, e119, hx119_0, hx119_1⟩ := at_T41 (Kd.R_reads' HO117.out).2.2 1 p119 q119
          obtain rfl : ad118 = ad119 := (by injection e119)
          (try simp only [show (1 : Int).toNat = 1 from rfl, Nat.reduceMul, Nat.reduceEqDiff, Go.Addr.add, ↓reduceIte] at hx119_0)
          (try simp only [show (1 : Int).toNat = 1 from rfl, Nat.reduceMul, Nat.reduceEqDiff, Go.Addr.add, ↓reduceIte] at hx119_1)
          have qi119 : (1 < t115.length) = True := eq_true (by omega)
          (try rw [show ((1 : Int)).toNat = 1 from rfl] at hx119_0)
          (try rw [show 1 * 2 = 2 from rfl] at hx119_0)
          (try rw [show ((1 : Int)).toNat = 1 from rfl] at hx119_1)
          (try rw [show 1 * 2 = 2 from rfl] at hx119_1)
          replace p119 := eq_true p119
          replace q119 := eq_true q119
          have p120 : 0 ≤ (2 : Int) := (by omega)
          have q120 : 2 < (t115.length : Int) := dt
          obtain ⟨ad120, e120, hx120_0, hx120_1⟩ := at_T41 (Kd.R_reads' HO117.out).2.2 2 p120 q120
          obtain rfl : ad118 = ad120 := (by injection e120)
          (try simp only [show (2 : Int).toNat = 2 from rfl, Nat.reduceMul, Nat.reduceEqDiff, Go.Addr.add, ↓reduceIte] at hx120_0)
          (try simp only [show (2 : Int).toNat = 2 from rfl, Nat.reduceMul, Nat.reduceEqDiff, Go.Addr.add, ↓reduceIte] at hx120_1)
          have qi120 : (2 < t115.length) = True := eq_true (by omega)
          (try rw [show ((2 : Int)).toNat = 2 from rfl] at hx120_0)
          (try rw [show 2 * 2 = 4 from rfl] at hx120_0)
          (try rw [show ((2 : Int)).toNat = 2 from rfl] at hx120_1)
          (try rw [show 2 * 2 = 4 from rfl] at hx120_1)
          replace p120 := eq_true p120
          replace q120 := eq_true q120
          refine start_ (n := 11) (S := fun w' => w'.cell? ad118 = some (.int .i64 ((rd_T41 t115 0).f0)) ∧ w'.cell? ⟨ad118.block, ad118.off + 1, none⟩ = some (.int .i64 ((rd_T41 t115 0).f1)) ∧ w'.cell? ⟨ad118.block, ad118.off + 2, none⟩ = some (.int .i64 ((rd_T41 t115 1).f0)) ∧ w'.cell? ⟨ad118.block, ad118.off + 2 + 1, none⟩ = some (.int .i64 ((rd_T41 t115 1).f1)) ∧ w'.cell? ⟨ad118.block, ad118.off + 4, none⟩ = some (.int .i64 ((rd_T41 t115 2).f0)) ∧ w'.cell? ⟨ad118.block, ad118.off + 4 + 1, none⟩ = some (.int .i64 ((rd_T41 t115 2).f1))) (ds := []) #[N,N,N,N,N,N,N,N,N,N,N] (by kernel_rfl) rfl rfl ⟨hx118_0, hx118_1, hx119_0, hx119_1, hx120_0, hx120_1⟩ (fun hHeld => ?_); refine with_tabW cracknelref04_Triangles.tab11 cracknelref04_Triangles.bits11 (fun HT_ HW_ => ?_)
          generalize w46.drew = w47 at HO_6 HO117 BK105 HB hx118_0 hx118_1 hx119_0 hx119_1 hx120_0 hx120_1 hHeld ⊢
          refine pu 0 77 HT_ ?_
          refine pu 1 78 HT_ ?_
          refine pu 3 80 HT_ ?_
          refine pu 4 81 HT_ ?_
          refine pu 6 83 HT_ ?_
          refine pu 7 84 HT_ ?_
          refine tk6 2 79 hHeld HT_ HW_ ?_
          refine tk6 5 82 hHeld HT_ HW_ ?_
          refine tk6 8 85 hHeld HT_ HW_ ?_
          refine one_ (i := 9) (N := some 86) #[T,T,T,T,T,T,T,T,T,T,N] rfl rfl (on1 HT_) (by decide) (fun K hK => ?_)
          refine goes_ Try.func31 (by kernel_rfl) rfl #[.agg #[.int .i64 ((rd_T41 t115 0).f0), .int .i64 ((rd_T41 t115 0).f1)], .agg #[.int .i64 ((rd_T41 t115 1).f0), .int .i64 ((rd_T41 t115 1).f1)], .agg #[.int .i64 ((rd_T41 t115 2).f0), .int .i64 ((rd_T41 t115 2).f1)]] (by rfl) rfl rfl sg ?_
          with_reducible refine (cracknelref04_Cross.calls ((rd_T41 t115 0).f0) ((rd_T41 t115 0).f1) ((rd_T41 t115 1).f0) ((rd_T41 t115 1).f1) ((rd_T41 t115 2).f0) ((rd_T41 t115 2).f1) t121 _ A30.out).mono ?_
          rintro e w49 ⟨rfl, hb⟩
          have HS0_ := (hb.cell (World.block_lt_of_cell? _ _ (hHeld.1))).trans (hHeld.1)
          have HS1_ := (hb.cell (World.block_lt_of_cell? _ _ (hHeld.2.1))).trans (hHeld.2.1)
          have HS2_ := (hb.cell (World.block_lt_of_cell? _ _ (hHeld.2.2.1))).trans (hHeld.2.2.1)
          have HS3_ := (hb.cell (World.block_lt_of_cell? _ _ (hHeld.2.2.2.1))).trans (hHeld.2.2.2.1)
          have HS4_ := (hb.cell (World.block_lt_of_cell? _ _ (hHeld.2.2.2.2.1))).trans (hHeld.2.2.2.2.1)
          have HS5_ := (hb.cell (World.block_lt_of_cell? _ _ (hHeld.2.2.2.2.2))).trans (hHeld.2.2.2.2.2)
          refine ⟨_, rfl, ?_⟩
          replace HO_6 := Aside0.mk (Kd.S_below (so HO_6) hb)
          replace HO117 := Aside0.mk (Kd.R_below (ro HO117) hb)
          replace BK105 := kb BK105 hb
          replace HB := bz hb
          (try clear hb)
          refine hK.out _ _ ⟨HS0_, HS1_, HS2_, HS3_, HS4_, HS5_⟩ (fun hHeld => ?_)
          clear hK K
          refine nm 86 ?_
          refine pu 10 10 HT_ ?_
          refine done_ (done_of HT_.out (by kernel_rfl)) ?_
          try go_wp2_with (first | ((with_reducible refine gc 44 rfl ?_); refine goesL_ (some 91) rfl rfl Try.func44 (by kernel_rfl) rfl #[.slice (some ad109) l0.length c0, .slice (some ad118) t115.length co48] rfl sg ?_; (with_reducible refine (cracknelref04_Within.calls kj7 _ _ l0 _ _ t115 true _ ?side1 ?side2 ?side3 ?side4 A40.out).mono ?_); (case side1 => exact cs (Kd.C_below HR0.out HB.out)); (case side2 => exact HC0.out); (case side3 => exact cs (Kd.R_reads' HO117.out).2.2); (case side4 => exact (Kd.R_reads' HO117.out).2.1); rintro e w50 ⟨rfl, hb⟩; refine ⟨_, rfl, ?_⟩; replace HO_6 := Aside0.mk (Kd.S_below (so HO_6) hb); replace HO117 := Aside0.mk (Kd.R_below (ro HO117) hb); replace BK105 := kb BK105 hb; replace HB := bz hb; (try clear hb)))
          go_loopg [11] kj7 (fun kq v11 w' => ∃ (x11_3 : Int), v11 = .int .i64 x11_3 ∧ Aside0 (cracknelref04_Triangles.l1 kq l0 l1 x5_1 x6_1 x7_1 t115 t121 x11_3 = some r) ∧ Aside0 (kq ≤ kj7) ∧ Aside0 (Kd.S (Kd.slice 41 k41) 22 w' w.heap.size (fun k_ => some k_ ≠ ((.slice (some ad118) t115.length co48) : Value).ownBlock) u6 x6_1) ∧ Aside0 (Kd.R k41 41 w' w.heap.size (fun _ => True) (.slice (some ad118) t115.length co48) t115) ∧ Aside0 (w'.heap[gb105]? = some (.cells #[.int .i64 ((rd_T60 l1 x7_1).f0), .int .i64 ((rd_T60 l1 x7_1).f1), .int .i64 ((rd_T60 l1 x7_1).f2)] 60 (0, 0))) ∧ Aside0 (Below w.heap.size w w'))
          case atStart => exact ⟨(0), sd, H', ⟨Nat.le_refl _⟩, ⟨so HO_6⟩, ⟨ro HO117⟩, ⟨bk BK105⟩, ⟨bh⟩⟩
          case round =>
           clear H'
           (try clear c31); (try clear c31b0); (try clear c31b1); (try clear c41); (try clear hx109_0); (try clear hx109_1); (try clear hx110_0); (try clear hx110_1); (try clear hx111_0); (try clear hx111_1); (try clear hx118_0); (try clear hx118_1); (try clear hx119_0); (try clear hx119_1); (try clear hx120_0); (try clear hx120_1); (try clear p109); (try clear p110); (try clear p111); (try clear p118); (try clear p119); (try clear p120); (try clear q109); (try clear q110); (try clear q111); (try clear q118); (try clear q119); (try clear q120)
           obtain ⟨x11_3, rfl, HA, HK3, HO_6, HO_9, BK105, HB⟩ := hrel
           cases gk with
           | zero => exact absurd HA.out (by simp [cracknelref04_Triangles.l1])
           | succ k3 =>
            have H := HA.out
            clear HA
            simp only [cracknelref04_Triangles.l1] at H
            by_cases c51 : x11_3 < (x6_1.length : Int)
            ·rw [if_pos c51] at H
             have c51b0 := decide_eq_true c51
             clear c51
             obtain ⟨c52, H⟩ := oi H
             have c52b0 := decide_eq_true c52
             clear c52
             replace H := Option.bind_eq_some_iff.mp H
             obtain ⟨t127, A530, H⟩ := H
             try dsimp only at H
             have A53 := Aside0.mk A530
             clear A530
             by_cases c54 : t127 = true
             ·subst c54
              rw [if_pos rfl] at H
              have H' := Aside0.mk H
              clear H
              obtain ⟨Ao55, co55, eo55⟩ := Kd.S_slice HO_6.out
              subst eo55
              have p126 : 0 ≤ (x11_3 : Int) := dt
              have q126 : x11_3 < (x6_1.length : Int) := dt
              obtain ⟨ad126, A126_0, c126_0, e126, hx126_0, hl126_0, hi126_0⟩ := at_L2 (Kd.S_reads' HO_6.out).2.2 x11_3 p126 q126
              cases e126
              obtain ⟨ce126, hce126, hMe126, hcc126⟩ := Kd.S_get HO_6.out [] x11_3 p126 (by first | exact q126 | exact dt | (have e_ := (Kd.S_reads' HO_6.out).1; omega))
              obtain ⟨ve126_0, rfl, ge126_0⟩ := hMe126
              have hv126_0 := hcc126 0 _ rfl
              rw [Nat.add_zero, show ((Kd.slice 41 k41)).sz = 1 from rfl, Nat.mul_one] at hv126_0
              replace hv126_0 := Option.some.inj (hv126_0.symm.trans hx126_0)
              rw [hv126_0] at ge126_0
              have HL126_0 := Aside0.mk (show Kd.R k41 41 _ _ _ _ (rd_L2 x6_1 x11_3) from ge126_0)
              clear hv126_0 ge126_0
              clear hcc126 hce126
              have HR126_0 := Aside0.mk hi126_0
              have HC126_0 := Aside0.mk hl126_0
              clear hi126_0 hl126_0
              replace p126 := eq_true p126
              replace q126 := eq_true q126
              go_wp2_with (first | ((with_reducible refine gc 22 rfl ?_); refine goesL_ (some 104) rfl rfl Try.func22 (by kernel_rfl) rfl #[.slice A126_0 (rd_L2 x6_1 x11_3).length c126_0, .slice (some ad118) t115.length co48] rfl sg ?_; (with_reducible refine (cracknelref04_Apart.calls k3 _ _ (rd_L2 x6_1 x11_3) _ _ t115 true _ ?side1 ?side2 ?side3 ?side4 A53.out).mono ?_); (case side1 => repeat (first | exact (by repeat (first | (with_reducible exact HR126_0.out) | (with_reducible refine Kd.C_alloc ?_ _) | (with_reducible refine Kd.C_drewN ?_ _) | (with_reducible refine Kd.C_drew ?_) | exact HR126_0.out)) | (with_reducible refine Kd.C_alloc ?_ _) | (with_reducible refine Kd.C_drewN ?_ _) | (with_reducible refine Kd.C_drew ?_))); (case side2 => exact HC126_0.out); (case side3 => exact cs (Kd.R_reads' HO_9.out).2.2); (case side4 => exact (Kd.R_reads' HO_9.out).2.1); rintro e w56 ⟨rfl, hb⟩; refine ⟨_, rfl, ?_⟩; replace HO_6 := Aside0.mk (Kd.S_below (so HO_6) hb); replace HO_9 := Aside0.mk (Kd.R_below (ro HO_9) hb); replace HL126_0 := Aside0.mk (Kd.R_below (ro HL126_0) hb); replace BK105 := kb BK105 hb; replace HR126_0 := Aside0.mk (Kd.C_below (by repeat (first | (with_reducible exact HR126_0.out) | (with_reducible refine Kd.C_alloc ?_ _) | (with_reducible refine Kd.C_drewN ?_ _) | (with_reducible refine Kd.C_drew ?_) | exact HR126_0.out)) hb); replace HB := bz hb; (try clear hb)))
              go_roundg k3
              case measure => have := HK1.out; have := HJ7.out; have := HK3.out; omega
              case rel => exact ⟨(wrap64 (x11_3 + 1)), sd, H', ⟨by have := HK1.out; have := HJ7.out; have := HK3.out; omega⟩, ⟨so HO_6⟩, ⟨ro HO_9⟩, ⟨bk BK105⟩, ⟨bh⟩⟩
             ·replace c54 := Bool.eq_false_iff.mpr c54
              subst c54
              rw [if_neg (show ¬ (false = true) by decide)] at H
              obtain rfl := Option.some.inj H
              obtain ⟨Ao57, co57, eo57⟩ := Kd.S_slice HO_6.out
              subst eo57
              have p126 : 0 ≤ (x11_3 : Int) := dt
              have q126 : x11_3 < (x6_1.length : Int) := dt
              obtain ⟨ad126, A126_0, c126_0, e126, hx126_0, hl126_0, hi126_0⟩ := at_L2 (Kd.S_reads' HO_6.out).2.2 x11_3 p126 q126
              cases e126
              obtain ⟨ce126, hce126, hMe126, hcc126⟩ := Kd.S_get HO_6.out [] x11_3 p126 (by first | exact q126 | exact dt | (have e_ := (Kd.S_reads' HO_6.out).1; omega))
              obtain ⟨ve126_0, rfl, ge126_0⟩ := hMe126
              have hv126_0 := hcc126 0 _ rfl
              rw [Nat.add_zero, show ((Kd.slice 41 k41)).sz = 1 from rfl, Nat.mul_one] at hv126_0
              replace hv126_0 := Option.some.inj (hv126_0.symm.trans hx126_0)
              rw [hv126_0] at ge126_0
              have HL126_0 := Aside0.mk (show Kd.R k41 41 _ _ _ _ (rd_L2 x6_1 x11_3) from ge126_0)
              clear hv126_0 ge126_0
              clear hcc126 hce126
              have HR126_0 := Aside0.mk hi126_0
              have HC126_0 := Aside0.mk hl126_0
              clear hi126_0 hl126_0
              replace p126 := eq_true p126
              replace q126 := eq_true q126
              go_wp2_with (first | ((with_reducible refine gc 22 rfl ?_); refine goesL_ (some 104) rfl rfl Try.func22 (by kernel_rfl) rfl #[.slice A126_0 (rd_L2 x6_1 x11_3).length c126_0, .slice (some ad118) t115.length co48] rfl sg ?_; (with_reducible refine (cracknelref04_Apart.calls k3 _ _ (rd_L2 x6_1 x11_3) _ _ t115 false _ ?side1 ?side2 ?side3 ?side4 A53.out).mono ?_); (case side1 => repeat (first | exact (by repeat (first | (with_reducible exact HR126_0.out) | (with_reducible refine Kd.C_alloc ?_ _) | (with_reducible refine Kd.C_drewN ?_ _) | (with_reducible refine Kd.C_drew ?_) | exact HR126_0.out)) | (with_reducible refine Kd.C_alloc ?_ _) | (with_reducible refine Kd.C_drewN ?_ _) | (with_reducible refine Kd.C_drew ?_))); (case side2 => exact HC126_0.out); (case side3 => exact cs (Kd.R_reads' HO_9.out).2.2); (case side4 => exact (Kd.R_reads' HO_9.out).2.1); rintro e w58 ⟨rfl, hb⟩; refine ⟨_, rfl, ?_⟩; replace HO_6 := Aside0.mk (Kd.S_below (so HO_6) hb); replace HO_9 := Aside0.mk (Kd.R_below (ro HO_9) hb); replace HL126_0 := Aside0.mk (Kd.R_below (ro HL126_0) hb); replace BK105 := kb BK105 hb; replace HR126_0 := Aside0.mk (Kd.C_below (by repeat (first | (with_reducible exact HR126_0.out) | (with_reducible refine Kd.C_alloc ?_ _) | (with_reducible refine Kd.C_drewN ?_ _) | (with_reducible refine Kd.C_drew ?_) | exact HR126_0.out)) hb); replace HB := bz hb; (try clear hb)))
              go_ret
              exact ⟨by exact er, bh⟩
            ·rw [if_neg c51] at H
             have c51b0 := decide_eq_false c51
             clear c51
             obtain ⟨c59, H⟩ := oi H
             have LMc59 := Aside0.mk c59
             clear c59
             obtain ⟨y123, hy123⟩ : ∃ y_ : List (List (S41)), y_ = (x6_1 ++ [t115]) := ⟨_, rfl⟩
             replace H : (cracknelref04_Triangles.l0 k3 l0 l1 (wrap64 (x5_1 + t121)) y123 (wrap64 (x7_1 + 1))) = some r := by first | (rw [hy123]; with_reducible exact H) | (have H2_ := (Option.bind_some _ _).symm.trans H; rw [hy123]; with_reducible exact H2_) | (have H2_ := (Option.bind_some _ _).symm.trans H; with_reducible exact H2_) | with_reducible exact H | (rw [hy123]; exact H) | exact H
             have Ny123 := Aside0.mk hy123
             clear hy123
             have H' := Aside0.mk H
             clear H
             obtain ⟨Ao60, co60, eo60⟩ := Kd.S_slice HO_6.out
             subst eo60
             go_wp2_with (first | ((with_reducible refine gate_builtin (b := .append) (xs := #[.tmp 106, .tmp 108]) rfl ?_); (try (refine gate_guard (by rfl) ?_; dsimp only)); at_builtin; refine Kd.S_append (Kd.slice 41 k41) (w0 := w) w.heap.size rfl (.tmp 106) (.tmp 108) 32 22 (.slice none 0 0) 24 rfl Try.underlying32 info22 rfl (by decide) (by omega) (.slice Ao60 x6_1.length co60) x6_1 t115 [.slice (some ad118) t115.length co48] (fun _ => True) (fun k_ => some k_ = (.slice (some ad118) t115.length co48 : Value).ownBlock) rfl rfl ?aP (fun k_ hk_ => ((Kd.R_mono (ok' := fun k_ => ((fun _ => True)) k_ ∧ some k_ ≠ (.slice Ao60 x6_1.length co60 : Value).ownBlock) (Kd.R_apart' (HO_9.out) (Kd.S_typed HO_6.out) (by decide)) (fun k_ hk => ⟨trivial, hk.2⟩))).1 k_ hk_.symm) ?aF ?aO ?aB ?aS ?aL ?_; (case aP => exact Kd.M_row (Kd.R_mono (Kd.R_tight rfl (Kd.R_mono (ok' := fun k_ => ((fun _ => True)) k_ ∧ some k_ ≠ (.slice Ao60 x6_1.length co60 : Value).ownBlock) (Kd.R_apart' (HO_9.out) (Kd.S_typed HO_6.out) (by decide)) (fun k_ hk => ⟨trivial, hk.2⟩))) (fun _ h_ => h_))); (case aB => exact bh); (case aF => exact (fun _ _ => trivial)); (case aO => exact (by (with_reducible repeat (first | apply Kd.S_alloc | apply Kd.S_drewN | apply Kd.S_drew)); exact Kd.S_mono HO_6.out (fun k_ hk => ⟨trivial, fun e_ => hk e_⟩))); (case aS => exact (below_size bh)); (case aL => have := LMc59.out; omega); intro v124 w61 ho hb hg hat; rw [← Ny123.out] at ho; have HO125 := Aside0.mk (ho); replace BK105 := Aside0.mk (blk_grown (g := gb105) (o := .cells #[.int .i64 ((rd_T60 l1 x7_1).f0), .int .i64 ((rd_T60 l1 x7_1).f1), .int .i64 ((rd_T60 l1 x7_1).f2)] 60 (0, 0)) (bk BK105) hg (Kd.S_ne HO_6.out BK105.out (by decide))); replace HB := Aside0.mk (hb); clear HO_6 HO_9; clear ho hb hg hat))
             go_roundg k3
             case measure => have := HK1.out; have := HJ7.out; have := HK3.out; omega
             case rel => exact ⟨(wrap64 (x5_1 + t121)), (y123), (wrap64 (x7_1 + 1)), sd, sd, H', ⟨by have := HK1.out; have := HJ7.out; have := HK3.out; omega⟩, ⟨so HO125⟩, ⟨bh⟩⟩
         ·replace c41 := Bool.eq_false_iff.mpr c41
          subst c41
          rw [if_neg (show ¬ (false = true) by decide)] at H
          obtain rfl := Option.some.inj H
          try go_wp2
          replace HO_6 := Aside0.mk (Kd.S_drew HO_6.out)
          replace BK105 := Aside0.mk (blk_drew BK105.out)
          replace HB := Aside0.mk (below_drew1 HB.out)
          have p109 : 0 ≤ (((rd_T60 l1 x7_1).f0) : Int) := dt
          have q109 : ((rd_T60 l1 x7_1).f0) < (l0.length : Int) := dt
          obtain ⟨ad109, e109, hx109_0, hx109_1⟩ := at_T41 HR0.out ((rd_T60 l1 x7_1).f0) p109 q109
          have hw109_1 := hx109_1
          have hw109_0 := hx109_0
          cases e109
          replace hx109_0 := hc HB hx109_0
          replace hx109_1 := hc HB hx109_1
          replace p109 := eq_true p109
          replace q109 := eq_true q109
          have p110 : 0 ≤ (((rd_T60 l1 x7_1).f1) : Int) := dt
          have q110 : ((rd_T60 l1 x7_1).f1) < (l0.length : Int) := dt
          obtain ⟨ad110, e110, hx110_0, hx110_1⟩ := at_T41 HR0.out ((rd_T60 l1 x7_1).f1) p110 q110
          have hw110_1 := hx110_1
          have hw110_0 := hx110_0
          obtain rfl : ad109 = ad110 := (by injection e110)
          replace hx110_0 := hc HB hx110_0
          replace hx110_1 := hc HB hx110_1
          replace p110 := eq_true p110
          replace q110 := eq_true q110
          have p111 : 0 ≤ (((rd_T60 l1 x7_1).f2) : Int) := dt
          have q111 : ((rd_T60 l1 x7_1).f2) < (l0.length : Int) := dt
          obtain ⟨ad111, e111, hx111_0, hx111_1⟩ := at_T41 HR0.out ((rd_T60 l1 x7_1).f2) p111 q111
          have hw111_1 := hx111_1
          have hw111_0 := hx111_0
          obtain rfl : ad109 = ad111 := (by injection e111)
          replace hx111_0 := hc HB hx111_0
          replace hx111_1 := hc HB hx111_1
          replace p111 := eq_true p111
          replace q111 := eq_true q111
          refine start_ (n := 18) (S := fun w' => w'.cell? ⟨gb105, 0, none⟩ = some (.int .i64 ((rd_T60 l1 x7_1).f0)) ∧ w'.cell? ⟨gb105, 1, none⟩ = some (.int .i64 ((rd_T60 l1 x7_1).f1)) ∧ w'.cell? ⟨gb105, 2, none⟩ = some (.int .i64 ((rd_T60 l1 x7_1).f2)) ∧ w'.cell? (ad109.add ((((rd_T60 l1 x7_1).f0)).toNat * 2)) = some (.int .i64 ((rd_T41 l0 ((rd_T60 l1 x7_1).f0)).f0)) ∧ w'.cell? ⟨(ad109.add ((((rd_T60 l1 x7_1).f0)).toNat * 2)).block, (ad109.add ((((rd_T60 l1 x7_1).f0)).toNat * 2)).off + 1, none⟩ = some (.int .i64 ((rd_T41 l0 ((rd_T60 l1 x7_1).f0)).f1)) ∧ w'.cell? (ad109.add ((((rd_T60 l1 x7_1).f1)).toNat * 2)) = some (.int .i64 ((rd_T41 l0 ((rd_T60 l1 x7_1).f1)).f0)) ∧ w'.cell? ⟨(ad109.add ((((rd_T60 l1 x7_1).f1)).toNat * 2)).block, (ad109.add ((((rd_T60 l1 x7_1).f1)).toNat * 2)).off + 1, none⟩ = some (.int .i64 ((rd_T41 l0 ((rd_T60 l1 x7_1).f1)).f1)) ∧ w'.cell? (ad109.add ((((rd_T60 l1 x7_1).f2)).toNat * 2)) = some (.int .i64 ((rd_T41 l0 ((rd_T60 l1 x7_1).f2)).f0)) ∧ w'.cell? ⟨(ad109.add ((((rd_T60 l1 x7_1).f2)).toNat * 2)).block, (ad109.add ((((rd_T60 l1 x7_1).f2)).toNat * 2)).off + 1, none⟩ = some (.int .i64 ((rd_T41 l0 ((rd_T60 l1 x7_1).f2)).f1))) (ds := []) #[N,N,N,N,N,N,N,N,N,N,N,N,N,N,N,N,N,N] (by kernel_rfl) rfl rfl ⟨bc BK105 0, bc BK105 1, bc BK105 2, (hc HB hw109_0), (hc HB hw109_1), (hc HB hw110_0), (hc HB hw110_1), (hc HB hw111_0), (hc HB hw111_1)⟩ (fun hHeld => ?_); refine with_tabW cracknelref04_Triangles.tab10 cracknelref04_Triangles.bits10 (fun HT_ HW_ => ?_)
          generalize wc.drew = w62 at HO_6 BK105 HB hx109_0 hx109_1 hx110_0 hx110_1 hx111_0 hx111_1 hHeld ⊢
          refine pu 0 60 HT_ ?_
          refine pu 1 61 HT_ ?_
          refine pu 5 65 HT_ ?_
          refine pu 6 66 HT_ ?_
          refine pu 10 70 HT_ ?_
          refine pu 11 71 HT_ ?_
          refine take_ (i := 2) (N := some 62) (v := ?_) (a' := ?_) #[T,T,T,N,N,T,T,N,N,N,T,T,N,N,N,N,N,N] rfl rfl (take_ofW HT_.out HW_.out (by kernel_rfl)) (fun _ _ _ h => h) (Or.inl ⟨by rfl, ?_⟩) hHeld ?_ ?_
          rotate_left
          ·rintro w' ⟨s0, s1, s2, s3, s4, s5, s6, s7, s8⟩
           go_simp
           with_reducible rfl
          rotate_left
          ·simp only [Act.put, List.setIfInBounds_toArray, List.set_cons_zero, List.set_cons_succ, i64_w, i32_w]
           rfl
          refine pu 3 63 HT_ ?_
          refine take_ (i := 4) (N := some 64) (v := ?_) (a' := ?_) #[T,T,T,T,T,T,T,N,N,N,T,T,N,N,N,N,N,N] rfl rfl (take_ofW HT_.out HW_.out (by kernel_rfl)) (fun _ _ _ h => h) (Or.inl ⟨by rfl, ?_⟩) hHeld ?_ ?_
          rotate_left
          ·rintro w' ⟨s0, s1, s2, s3, s4, s5, s6, s7, s8⟩
           go_simp
           with_reducible rfl
          rotate_left
          ·simp only [Act.put, List.setIfInBounds_toArray, List.set_cons_zero, List.set_cons_succ, i64_w, i32_w]
           rfl
          refine take_ (i := 7) (N := some 67) (v := ?_) (a' := ?_) #[T,T,T,T,T,T,T,T,N,N,T,T,N,N,N,N,N,N] rfl rfl (take_ofW HT_.out HW_.out (by kernel_rfl)) (fun _ _ _ h => h) (Or.inl ⟨by rfl, ?_⟩) hHeld ?_ ?_
          rotate_left
          ·rintro w' ⟨s0, s1, s2, s3, s4, s5, s6, s7, s8⟩
           go_simp
           with_reducible rfl
          rotate_left
          ·simp only [Act.put, List.setIfInBounds_toArray, List.set_cons_zero, List.set_cons_succ, i64_w, i32_w]
           rfl
          refine pu 8 68 HT_ ?_
          refine take_ (i := 9) (N := some 69) (v := ?_) (a' := ?_) #[T,T,T,T,T,T,T,T,T,T,T,T,N,N,N,N,N,N] rfl rfl (take_ofW HT_.out HW_.out (by kernel_rfl)) (fun _ _ _ h => h) (Or.inl ⟨by rfl, ?_⟩) hHeld ?_ ?_
          rotate_left
          ·rintro w' ⟨s0, s1, s2, s3, s4, s5, s6, s7, s8⟩
           go_simp
           with_reducible rfl
          rotate_left
          ·simp only [Act.put, List.setIfInBounds_toArray, List.set_cons_zero, List.set_cons_succ, i64_w, i32_w]
           rfl
          refine take_ (i := 12) (N := some 72) (v := ?_) (a' := ?_) #[T,T,T,T,T,T,T,T,T,T,T,T,T,N,N,N,N,N] rfl rfl (take_ofW HT_.out HW_.out (by kernel_rfl)) (fun _ _ _ h => h) (Or.inl ⟨by rfl, ?_⟩) hHeld ?_ ?_
          rotate_left
          ·rintro w' ⟨s0, s1, s2, s3, s4, s5, s6, s7, s8⟩
           go_simp
           with_reducible rfl
          rotate_left
          ·simp only [Act.put, List.setIfInBounds_toArray, List.set_cons_zero, List.set_cons_succ, i64_w, i32_w]
           rfl
          refine pu 13 73 HT_ ?_
          refine take_ (i := 14) (N := some 74) (v := ?_) (a' := ?_) #[T,T,T,T,T,T,T,T,T,T,T,T,T,T,T,N,N,N] rfl rfl (take_ofW HT_.out HW_.out (by kernel_rfl)) (fun _ _ _ h => h) (Or.inl ⟨by rfl, ?_⟩) hHeld ?_ ?_
          rotate_left
          ·rintro w' ⟨s0, s1, s2, s3, s4, s5, s6, s7, s8⟩
           go_simp
           with_reducible rfl
          rotate_left
          ·simp only [Act.put, List.setIfInBounds_toArray, List.set_cons_zero, List.set_cons_succ, i64_w, i32_w]
           rfl
          refine one_ (i := 15) (N := some 75) #[T,T,T,T,T,T,T,T,T,T,T,T,T,T,T,T,N,N] rfl rfl (on1 HT_) (by decide) (fun K hK => ?_)
          refine Kd.R_lit_step k41 _ 41 ?hg (N := 75) ?hd (xs := ([(⟨(rd_T41 l0 ((rd_T60 l1 x7_1).f0)).f0, (rd_T41 l0 ((rd_T60 l1 x7_1).f0)).f1⟩ : S41), (⟨(rd_T41 l0 ((rd_T60 l1 x7_1).f1)).f0, (rd_T41 l0 ((rd_T60 l1 x7_1).f1)).f1⟩ : S41), (⟨(rd_T41 l0 ((rd_T60 l1 x7_1).f2)).f0, (rd_T41 l0 ((rd_T60 l1 x7_1).f2)).f1⟩ : S41)] : List (S41))) (inner := [.int .i64 ((rd_T41 l0 ((rd_T60 l1 x7_1).f0)).f0), .int .i64 ((rd_T41 l0 ((rd_T60 l1 x7_1).f0)).f1), .int .i64 ((rd_T41 l0 ((rd_T60 l1 x7_1).f1)).f0), .int .i64 ((rd_T41 l0 ((rd_T60 l1 x7_1).f1)).f1), .int .i64 ((rd_T41 l0 ((rd_T60 l1 x7_1).f2)).f0), .int .i64 ((rd_T41 l0 ((rd_T60 l1 x7_1).f2)).f1)]) (ok := fun _ => True) (okp := fun _ => True) ?hr ?hp (fun _ hk => hk) trivial (Below.refl _ _) (Nat.le_refl _) (by simp) ?_; (case hd => rfl); (case hg => rfl); (case hr => first | (go_simp; done) | (go_simp; rfl)); (case hp => exact (Reps.c2 (show Kd.M k41 _ _ _ (⟨(rd_T41 l0 ((rd_T60 l1 x7_1).f0)).f0, (rd_T41 l0 ((rd_T60 l1 x7_1).f0)).f1⟩ : S41) [.int .i64 ((rd_T41 l0 ((rd_T60 l1 x7_1).f0)).f0), .int .i64 ((rd_T41 l0 ((rd_T60 l1 x7_1).f0)).f1)] from (k41_mkM _ _ _ (⟨(rd_T41 l0 ((rd_T60 l1 x7_1).f0)).f0, (rd_T41 l0 ((rd_T60 l1 x7_1).f0)).f1⟩ : S41) )) (Reps.c2 (show Kd.M k41 _ _ _ (⟨(rd_T41 l0 ((rd_T60 l1 x7_1).f1)).f0, (rd_T41 l0 ((rd_T60 l1 x7_1).f1)).f1⟩ : S41) [.int .i64 ((rd_T41 l0 ((rd_T60 l1 x7_1).f1)).f0), .int .i64 ((rd_T41 l0 ((rd_T60 l1 x7_1).f1)).f1)] from (k41_mkM _ _ _ (⟨(rd_T41 l0 ((rd_T60 l1 x7_1).f1)).f0, (rd_T41 l0 ((rd_T60 l1 x7_1).f1)).f1⟩ : S41) )) (Reps.c2 (show Kd.M k41 _ _ _ (⟨(rd_T41 l0 ((rd_T60 l1 x7_1).f2)).f0, (rd_T41 l0 ((rd_T60 l1 x7_1).f2)).f1⟩ : S41) [.int .i64 ((rd_T41 l0 ((rd_T60 l1 x7_1).f2)).f0), .int .i64 ((rd_T41 l0 ((rd_T60 l1 x7_1).f2)).f1)] from (k41_mkM _ _ _ (⟨(rd_T41 l0 ((rd_T60 l1 x7_1).f2)).f0, (rd_T41 l0 ((rd_T60 l1 x7_1).f2)).f1⟩ : S41) )) (Reps.none _ _)))))
          intro v113 w63 ho64 hb hg_ hnew_
          clear hg_ hnew_
          (first | rw [← Ny112.out] at ho64 | (simp only [Int.reduceToNat] at ho64; rw [← Ny112.out] at ho64))
          have HO114 := Aside0.mk (Kd.R_lower ho64 (below_size bh))
          replace HO_6 := Aside0.mk (Kd.S_elder' (so HO_6) (Kd.R_base ho64) hb)
          replace BK105 := kb BK105 hb
          replace HB := bz hb
          clear hb ho64
          obtain ⟨Ao65, co65, eo65⟩ := Kd.R_slice HO114.out
          (first | subst eo65 | (injection eo65 with f1_ f2_ f3_; have f4_ := f1_.symm; have f5_ := f3_.symm; clear f1_ f2_ f3_; subst f4_; subst f5_))
          refine hK.out _ _ ⟨bc BK105 0, bc BK105 1, bc BK105 2, (hc HB hw109_0), (hc HB hw109_1), (hc HB hw110_0), (hc HB hw110_1), (hc HB hw111_0), (hc HB hw111_1)⟩ (fun hHeld => ?_)
          clear hK K
          refine nm 75 ?_
          refine one_ (i := 16) (N := some 76) #[T,T,T,T,T,T,T,T,T,T,T,T,T,T,T,T,T,N] rfl rfl (on1 HT_) (by decide) (fun K hK => ?_)
          refine goes_ Try.func43 (by kernel_rfl) rfl #[.slice Ao65 y112.length co65] (by rfl) rfl rfl sg ?_
          with_reducible refine (cracknelref04_ccw.calls (fun k_ => some k_ = (.slice Ao65 y112.length co65 : Value).ownBlock) (.slice Ao65 y112.length co65) y112 t115 w _ ?side1 ?side2 A26.out).mono ?_
          (case side1 => repeat (first | (with_reducible first | exact HB.out | apply below_alloc | apply pw_below_drewN | apply below_drew1 | refine below_set ?_ GE105.out) | exact HB.out))
          (case side2 => exact Kd.R_tight rfl HO114.out)
          rintro e w66 ⟨v116, rfl, ho0, hb, hkp⟩
          refine ⟨_, rfl, ?_⟩
          have HO117 := Aside0.mk (Kd.R_mono (ok' := fun k_ => True) ho0 (fun k_ hk_ => trivial))
          replace HO_6 := Aside0.mk (Kd.S_mono (ok' := fun k_ => some k_ ≠ (v116 : Value).ownBlock) (Kd.S_keptB (HO_6.out) hkp (fun k_ hk_ hs_ => (hk_.2) hs_)) (fun k_ hk_ => fun e_ => Or.elim (ho0.1 k_ e_.symm) (fun hs_ => hk_.2.1 hs_) (fun hn_ => Nat.not_le.2 hk_.2.2 hn_)))
          replace BK105 := Aside0.mk (blk_kept (bk BK105) hkp (fun hs_ => (fun e_ => (Kd.R_ne HO114.out BK105.out (by decide)) e_) hs_))
          replace HB := Aside0.mk (hb)
          clear HO114
          (try clear hb); (try clear hkp); (try clear ho0)
          refine hK.out _ _ ⟨bc BK105 0, bc BK105 1, bc BK105 2, (hc HB hw109_0), (hc HB hw109_1), (hc HB hw110_0), (hc HB hw110_1), (hc HB hw111_0), (hc HB hw111_1)⟩ (fun hHeld => ?_)
          clear hK K
          refine nm 76 ?_
          refine pu 17 9 HT_ ?_
          refine done_ (done_of HT_.out (by kernel_rfl)) ?_
          try go_wp2
          replace HO_6 := Aside0.mk (Kd.S_drew HO_6.out)
          replace HO117 := Aside0.mk (Kd.R_drew HO117.out)
          replace BK105 := Aside0.mk (blk_drew BK105.out)
          replace HB := Aside0.mk (below_drew1 HB.out)
          obtain ⟨Ao68, co68, eo68⟩ := Kd.R_slice HO117.out
          (first | subst eo68 | (injection eo68 with f1_ f2_ f3_; have f4_ := f1_.symm; have f5_ := f3_.symm; clear f1_ f2_ f3_; subst f4_; subst f5_))
          have p118 : 0 ≤ (0 : Int) := (by omega)
          have q118 : 0 < (t115.length : Int) := dt
          obtain ⟨ad118, e118, hx118_0, hx118_1⟩ := at_T41 (Kd.R_reads' HO117.out).2.2 0 p118 q118
          cases e118
          have qi118 : (0 < t115.length) = True := eq_true (by omega)
          (try rw [show ((0 : Int)).toNat = 0 from rfl] at hx118_0)
          (try rw [show 0 * 2 = 0 from rfl] at hx118_0)
          (try rw [Addr.add_zero'] at hx118_0)
          (try rw [show ((0 : Int)).toNat = 0 from rfl] at hx118_1)
          (try rw [show 0 * 2 = 0 from rfl] at hx118_1)
          (try rw [Addr.add_zero'] at hx118_1)
          replace p118 := eq_true p118
          replace q118 := eq_true q118
          have p119 : 0 ≤ (1 : Int) := (by omega)
          have q119 : 1 < (t115.length : Int) := dt
          obtain ⟨ad119, e119, hx119_0, hx119_1⟩ := at_T41 (Kd.R_reads' HO117.out).2.2 1 p119 q119
          obtain rfl : ad118 = ad119 := (by injection e119)
          (try simp only [show (1 : Int).toNat = 1 from rfl, Nat.reduceMul, Nat.reduceEqDiff, Go.Addr.add, ↓reduceIte] at hx119_0)
          (try simp only [show (1 : Int).toNat = 1 from rfl, Nat.reduceMul, Nat.reduceEqDiff, Go.Addr.add, ↓reduceIte] at hx119_1)
          have qi119 : (1 < t115.length) = True := eq_true (by omega)
          (try rw [show ((1 : Int)).toNat = 1 from rfl] at hx119_0)
          (try rw [show 1 * 2 = 2 from rfl] at hx119_0)
          (try rw [show ((1 : Int)).toNat = 1 from rfl] at hx119_1)
          (try rw [show 1 * 2 = 2 from rfl] at hx119_1)
          replace p119 := eq_true p119
          replace q119 := eq_true q119
          have p120 : 0 ≤ (2 : Int) := (by omega)
          have q120 : 2 < (t115.length : Int) := dt
          obtain ⟨ad120, e120, hx120_0, hx120_1⟩ := at_T41 (Kd.R_reads' HO117.out).2.2 2 p120 q120
          obtain rfl : ad118 = ad120 := (by injection e120)
          (try simp only [show (2 : Int).toNat = 2 from rfl, Nat.reduceMul, Nat.reduceEqDiff, Go.Addr.add, ↓reduceIte] at hx120_0)
          (try simp only [show (2 : Int).toNat = 2 from rfl, Nat.reduceMul, Nat.reduceEqDiff, Go.Addr.add, ↓reduceIte] at hx120_1)
          have qi120 : (2 < t115.length) = True := eq_true (by omega)
          (try rw [show ((2 : Int)).toNat = 2 from rfl] at hx120_0)
          (try rw [show 2 * 2 = 4 from rfl] at hx120_0)
          (try rw [show ((2 : Int)).toNat = 2 from rfl] at hx120_1)
          (try rw [show 2 * 2 = 4 from rfl] at hx120_1)
          replace p120 := eq_true p120
          replace q120 := eq_true q120
          refine start_ (n := 11) (S := fun w' => w'.cell? ad118 = some (.int .i64 ((rd_T41 t115 0).f0)) ∧ w'.cell? ⟨ad118.block, ad118.off + 1, none⟩ = some (.int .i64 ((rd_T41 t115 0).f1)) ∧ w'.cell? ⟨ad118.block, ad118.off + 2, none⟩ = some (.int .i64 ((rd_T41 t115 1).f0)) ∧ w'.cell? ⟨ad118.block, ad118.off + 2 + 1, none⟩ = some (.int .i64 ((rd_T41 t115 1).f1)) ∧ w'.cell? ⟨ad118.block, ad118.off + 4, none⟩ = some (.int .i64 ((rd_T41 t115 2).f0)) ∧ w'.cell? ⟨ad118.block, ad118.off + 4 + 1, none⟩ = some (.int .i64 ((rd_T41 t115 2).f1))) (ds := []) #[N,N,N,N,N,N,N,N,N,N,N] (by kernel_rfl) rfl rfl ⟨hx118_0, hx118_1, hx119_0, hx119_1, hx120_0, hx120_1⟩ (fun hHeld => ?_); refine with_tabW cracknelref04_Triangles.tab11 cracknelref04_Triangles.bits11 (fun HT_ HW_ => ?_)
          generalize w66.drew = w67 at HO_6 HO117 BK105 HB hx118_0 hx118_1 hx119_0 hx119_1 hx120_0 hx120_1 hHeld ⊢
          refine pu 0 77 HT_ ?_
          refine pu 1 78 HT_ ?_
          refine pu 3 80 HT_ ?_
          refine pu 4 81 HT_ ?_
          refine pu 6 83 HT_ ?_
          refine pu 7 84 HT_ ?_
          refine tk6 2 79 hHeld HT_ HW_ ?_
          refine tk6 5 82 hHeld HT_ HW_ ?_
          refine tk6 8 85 hHeld HT_ HW_ ?_
          refine one_ (i := 9) (N := some 86) #[T,T,T,T,T,T,T,T,T,T,N] rfl rfl (on1 HT_) (by decide) (fun K hK => ?_)
          refine goes_ Try.func31 (by kernel_rfl) rfl #[.agg #[.int .i64 ((rd_T41 t115 0).f0), .int .i64 ((rd_T41 t115 0).f1)], .agg #[.int .i64 ((rd_T41 t115 1).f0), .int .i64 ((rd_T41 t115 1).f1)], .agg #[.int .i64 ((rd_T41 t115 2).f0), .int .i64 ((rd_T41 t115 2).f1)]] (by rfl) rfl rfl sg ?_
          with_reducible refine (cracknelref04_Cross.calls ((rd_T41 t115 0).f0) ((rd_T41 t115 0).f1) ((rd_T41 t115 1).f0) ((rd_T41 t115 1).f1) ((rd_T41 t115 2).f0) ((rd_T41 t115 2).f1) t121 _ A30.out).mono ?_
          rintro e w69 ⟨rfl, hb⟩
          have HS0_ := (hb.cell (World.block_lt_of_cell? _ _ (hHeld.1))).trans (hHeld.1)
          have HS1_ := (hb.cell (World.block_lt_of_cell? _ _ (hHeld.2.1))).trans (hHeld.2.1)
          have HS2_ := (hb.cell (World.block_lt_of_cell? _ _ (hHeld.2.2.1))).trans (hHeld.2.2.1)
          have HS3_ := (hb.cell (World.block_lt_of_cell? _ _ (hHeld.2.2.2.1))).trans (hHeld.2.2.2.1)
          have HS4_ := (hb.cell (World.block_lt_of_cell? _ _ (hHeld.2.2.2.2.1))).trans (hHeld.2.2.2.2.1)
          have HS5_ := (hb.cell (World.block_lt_of_cell? _ _ (hHeld.2.2.2.2.2))).trans (hHeld.2.2.2.2.2)
          refine ⟨_, rfl, ?_⟩
          replace HO_6 := Aside0.mk (Kd.S_below (so HO_6) hb)
          replace HO117 := Aside0.mk (Kd.R_below (ro HO117) hb)
          replace BK105 := kb BK105 hb
          replace HB := bz hb
          (try clear hb)
          refine hK.out _ _ ⟨HS0_, HS1_, HS2_, HS3_, HS4_, HS5_⟩ (fun hHeld => ?_)
          clear hK K
          refine nm 86 ?_
          refine pu 10 10 HT_ ?_
          refine done_ (done_of HT_.out (by kernel_rfl)) ?_
          try go_wp2_with (first | ((with_reducible refine gc 44 rfl ?_); refine goesL_ (some 91) rfl rfl Try.func44 (by kernel_rfl) rfl #[.slice (some ad109) l0.length c0, .slice (some ad118) t115.length co68] rfl sg ?_; (with_reducible refine (cracknelref04_Within.calls kj7 _ _ l0 _ _ t115 false _ ?side1 ?side2 ?side3 ?side4 A40.out).mono ?_); (case side1 => exact cs (Kd.C_below HR0.out HB.out)); (case side2 => exact HC0.out); (case side3 => exact cs (Kd.R_reads' HO117.out).2.2); (case side4 => exact (Kd.R_reads' HO117.out).2.1); rintro e w70 ⟨rfl, hb⟩; refine ⟨_, rfl, ?_⟩; replace HO_6 := Aside0.mk (Kd.S_below (so HO_6) hb); replace HO117 := Aside0.mk (Kd.R_below (ro HO117) hb); replace BK105 := kb BK105 hb; replace HB := bz hb; (try clear hb)))
          go_ret
          exact ⟨by exact er, bh⟩
    ·rw [if_neg c6] at H
     have c6b0 := decide_eq_false c6
     clear c6
     replace H := Option.bind_eq_some_iff.mp H
     obtain ⟨t128, A710, H⟩ := H
     try dsimp only at H
     have A71 := Aside0.mk A710
     clear A710
     replace H := Option.bind_eq_some_iff.mp H
     obtain ⟨t129, A720, H⟩ := H
     try dsimp only at H
     have A72 := Aside0.mk A720
     clear A720
     obtain ⟨ji73, hji73⟩ : ∃ j_ : Int, (mx t128 (wrap64 (-t129))) = j_ := ⟨_, rfl⟩
     first | rw [hji73] at H | simp only [hji73] at H
     (try rw [hji73] at A71)
     (try rw [hji73] at A72)
     have hji73_ : (if t128 < (wrap64 (-t129)) then (wrap64 (-t129)) else t128) = ji73 := hji73
     obtain rfl := Option.some.inj H
     go_wp2_with (first | ((with_reducible refine gc 45 rfl ?_); refine goesL_ (some 115) rfl rfl Try.func45 (by kernel_rfl) rfl #[.slice A0 l0.length c0] rfl sg ?_; (with_reducible refine (cracknelref04_Area2.calls k1 _ _ l0 t128 _ ?side1 ?side2 A71.out).mono ?_); (case side1 => exact cs (Kd.C_below HR0.out HB.out)); (case side2 => exact HC0.out); rintro e w74 ⟨rfl, hb⟩; refine ⟨_, rfl, ?_⟩; replace HO_6 := Aside0.mk (Kd.S_below (so HO_6) hb); replace HB := bz hb; (try clear hb)) | ((with_reducible refine gc 45 rfl ?_); refine goesL_ (some 117) rfl rfl Try.func45 (by kernel_rfl) rfl #[.slice A0 l0.length c0] rfl sg ?_; (with_reducible refine (cracknelref04_Area2.calls k1 _ _ l0 t129 _ ?side1 ?side2 A72.out).mono ?_); (case side1 => exact cs (Kd.C_below HR0.out HB.out)); (case side2 => exact HC0.out); rintro e w75 ⟨rfl, hb⟩; refine ⟨_, rfl, ?_⟩; replace HO_6 := Aside0.mk (Kd.S_below (so HO_6) hb); replace HB := bz hb; (try clear hb)))
     go_ret
     exact ⟨by first | rfl | (simp [errW_none, errW_some] <;> rfl) | (simp only [← hji73]; first | rfl | (simp [errW_none, errW_some] <;> rfl)) | (simp [*, errW_none, errW_some] <;> rfl), bh⟩
 ·rw [if_neg c3] at H
  have c3b0 : ((l1.length : Int) == (wrap64 ((l0.length : Int) - 2))) = false := beq_eq_false_iff_ne.mpr c3
  have c3b1 : ((l1.length : Int) != (wrap64 ((l0.length : Int) - 2))) = true := bne_iff_ne.mpr c3
  obtain rfl := Option.some.inj H
  go_enter Try.func13, Try.ntmps13
  go_wp2
  go_ret
  exact ⟨by exact er, bh⟩
end Go.Proofs.Ythehmkpcddafnaa.PG
end
section
namespace Go.Proofs.Ythehmkpcddafnaa.PG
open Go.RowKit Go.Proofs.YthehmkpcddafnaaW.PrintWords Go.Proofs.YthehmkpcddafnaaW.PrintLast Go.Proofs.YthehmkpcddafnaaW.PrintMore
def fidx (p : S41 → Bool) (l : List S41) : Int := match l.findIdx? p with
 | some i => i
 | none => -1
theorem fidx_hit (p : S41 → Bool) (l : List S41) (k : Nat) (hk : k < l.length) (h : p (rd_T41 l k) = true) (h0 : ∀ j, j < k → p (rd_T41 l j) = false) : fidx p l = k := by
 have e : l.findIdx? p = some k := by
  rw [List.findIdx?_eq_some_iff_getElem]
  refine ⟨hk, ?_, ?_⟩
  ·simp only [rd_T41, Int.toNat_natCast, List.getD_eq_getElem?_getD, List.getElem?_eq_getElem hk, Option.getD_some] at h; exact h
  ·intro j hj
   have := h0 j hj
   simp only [rd_T41, Int.toNat_natCast, List.getD_eq_getElem?_getD, List.getElem?_eq_getElem (show j < l.length by omega), Option.getD_some] at this
   simp [this]
 unfold fidx; rw [e]
theorem fidx_miss (p : S41 → Bool) (l : List S41) (h0 : ∀ j, j < l.length → p (rd_T41 l (j : Nat)) = false) : fidx p l = -1 := by
 have e : l.findIdx? p = none := by
  rw [List.findIdx?_eq_none_iff]
  intro x hx
  obtain ⟨j, hj, rfl⟩ := List.mem_iff_getElem.mp hx
  have := h0 j hj
  simp only [rd_T41, Int.toNat_natCast, List.getD_eq_getElem?_getD, List.getElem?_eq_getElem hj, Option.getD_some] at this
  exact this
 unfold fidx; rw [e]
set_option maxHeartbeats 2000000 in
theorem IndexFunc_any (g : Nat) (lb : Array Value) (p : S41 → Bool) (eg : ∀ args w, (callFunc g args).run Try.prog w = .ok (.enter g args) w)
  (A0 : Option Addr) (c0 : Nat) (l0 : List S41) (w : World) (hr0 : Kd.C k41 w A0 l0.length l0)
  (hp : ∀ (W : World) (x : S41), Below w.heap.size w W → Calls Try.prog g (#[.agg #[.int .i64 x.f0, .int .i64 x.f1]] ++ lb) W fun e w' => e = .returned (.bool (p x)) ∧ Below w.heap.size w w') :
  Calls Try.prog 121 #[.slice A0 l0.length c0, .func (.func g) #[] lb] w fun e w' => e = .returned (.int .i64 (fidx p l0)) ∧ Below w.heap.size w w' := by
 have hu29 := Try.underlying41
 have hm : l0.length ≤ 9223372036854775807 := Kd.C_max hr0
 have HR0 := Aside0.mk hr0
 clear hr0
 generalize hn : l0.length = n at *
 have HN := Aside0.mk hn
 clear hn
 go_enter Try.func121, Try.ntmps121
 go_wp2
 go_loopg [5, 8] n (fun gg _ s8 wr => ∃ kk : Nat, kk ≤ n ∧ n - kk ≤ gg ∧ s8 = .int .i64 kk ∧ Aside0 (Below w.heap.size w wr) ∧ Aside0 (∀ j, j < kk → p (rd_T41 l0 (j : Nat)) = false))
 case atStart => exact ⟨0, Nat.zero_le _, by omega, rfl, ⟨Below.refl _ w⟩, ⟨fun j hj => absurd hj (Nat.not_lt_zero _)⟩⟩
 case round =>
  obtain ⟨kk, hkk, hg, rfl, BW, A⟩ := hrel
  by_cases hlt : kk < n
  ·have hltz : (kk : Int) < (n : Int) := by omega
   obtain ⟨ad, e1, hx0, hx1⟩ := at_T41 HR0.out (kk : Int) (by omega) hltz
   cases e1
   replace hx0 := (BW.out.cell (World.block_lt_of_cell? w _ hx0)).trans hx0
   replace hx1 := (BW.out.cell (World.block_lt_of_cell? w _ hx1)).trans hx1
   have hcall := hp wr (rd_T41 l0 kk) BW.out
   clear hp
   rw [Int.toNat_natCast] at hx0 hx1
   generalize hy : rd_T41 l0 kk = y at hx0 hx1 hcall
   have B := Aside0.mk hy
   clear hy
   cases hq : p y with
   | true =>
    rw [hq] at hcall
    go_wp2_with (go_at_fn g; refine hcall.mono ?_; rintro e w' ⟨rfl, hb'⟩)
    go_ret
    refine ⟨?_, hb'⟩
    rw [fidx_hit p l0 kk (by rw [HN.out]; exact hlt) (by rw [B.out]; exact hq) A.out]; rfl
   | false =>
    rw [hq] at hcall
    go_wp2_with (go_at_fn g; refine hcall.mono ?_; rintro e w' ⟨rfl, hb'⟩)
    go_roundg (n - (kk + 1))
    case measure => omega
    case rel =>
     refine ⟨kk + 1, by omega, by omega, by go_num, ⟨hb'⟩, ⟨fun j hj => ?_⟩⟩
     by_cases e : j = kk
     ·subst e
      rw [B.out]; exact hq
     ·exact A.out j (by omega)
  ·have hltz : ¬ (kk : Int) < (n : Int) := by omega
   have : kk = n := by omega
   subst this
   go_wp2
   go_ret
   refine ⟨?_, BW.out⟩
   rw [fidx_miss p l0 (by rw [HN.out]; exact A.out)]; rfl
theorem fidx_nonneg (p : S41 → Bool) (l : List S41) : decide (fidx p l ≥ 0) = l.any p := by
 unfold fidx
 cases e : l.findIdx? p with
 | none =>
  rw [List.findIdx?_eq_none_iff] at e
  have : l.any p = false := by rw [List.any_eq_false]; intro x hx; simp [e x hx]
  rw [this]; rfl
 | some i =>
  rw [List.findIdx?_eq_some_iff_getElem] at e
  obtain ⟨hi, hp, _⟩ := e
  have : l.any p = true := by rw [List.any_eq_true]; exact ⟨_, List.getElem_mem hi, hp⟩
  rw [this]; simp
set_option maxHeartbeats 2000000 in
theorem ContainsFunc_any (g : Nat) (lb : Array Value) (p : S41 → Bool) (eg : ∀ args w, (callFunc g args).run Try.prog w = .ok (.enter g args) w)
  (A0 : Option Addr) (c0 : Nat) (l0 : List S41) (w : World) (hr0 : Kd.C k41 w A0 l0.length l0)
  (hp : ∀ (W : World) (x : S41), Below w.heap.size w W → Calls Try.prog g (#[.agg #[.int .i64 x.f0, .int .i64 x.f1]] ++ lb) W fun e w' => e = .returned (.bool (p x)) ∧ Below w.heap.size w w') :
  Calls Try.prog 109 #[.slice A0 l0.length c0, .func (.func g) #[] lb] w fun e w' => e = .returned (.bool (l0.any p)) ∧ Below w.heap.size w w' := by
 rw [← fidx_nonneg p l0]
 have hc := IndexFunc_any g lb p eg A0 c0 l0 w hr0 hp
 clear hp hr0
 generalize fidx p l0 = r at hc ⊢
 generalize l0.length = n at hc ⊢
 go_enter Try.func109, Try.ntmps109
 go_wp2_with (go_at_call 121; refine hc.mono ?_; rintro e w' ⟨rfl, hb'⟩)
 go_ret
 exact ⟨rfl, hb'⟩
def beyond (m : Int) (p : S41) : Bool := decide (p.f0 < wrap64 (-m)) || (decide (p.f0 > m) || (decide (p.f1 < wrap64 (-m)) || decide (p.f1 > m)))
set_option maxHeartbeats 2000000 in
theorem within_1 (m : Int) (B : Nat) (W : World) (x : S41) (hc : W.cell? ⟨B, 0, none⟩ = some (.int .i64 m)) (hB : B < W.heap.size) :
  Calls Try.prog 110 #[.agg #[.int .i64 x.f0, .int .i64 x.f1], .pointer (some ⟨B, 0, none⟩)] W fun e w' => e = .returned (.bool (beyond m x)) ∧ Below W.heap.size W w' := by
 have hne : B ≠ W.heap.size := by omega
 unfold beyond
 go_enter Try.func110, Try.ntmps110
 go_wp2
 all_goals (go_ret; refine ⟨?_, (Below.refl _ _).alloc (Nat.le_refl _) _⟩)
 all_goals (refine congrArg (fun b => Ending.returned (Value.bool b)) ?_; (first | (rw [Bool.eq_iff_iff]; done) | (rw [Bool.eq_iff_iff]; simp; done) | (rw [Bool.eq_iff_iff]; simp; omega)))
def shape_within.f (l0 : List (S41)) (a1 : Int) : Option (Bool) := some (!(l0.any (beyond a1)))
set_option maxHeartbeats 2000000 in
theorem shape_within.calls (A0 : Option Addr) (c0 : Nat) (l0 : List (S41)) (a1 : Int) (r : Bool) (w : World) (hr0 : Kd.C k41 w A0 l0.length l0) (_hc0 : l0.length ≤ c0) (h : shape_within.f l0 a1 = some r) :
  Calls Try.prog 72 #[.slice A0 l0.length c0, .int .i64 a1] w fun e w' => e = .returned (.bool r) ∧ Below w.heap.size w w' := by
 obtain rfl := Option.some.inj h
 clear h
 have eg : ∀ args w, (callFunc 110 args).run Try.prog w = .ok (.enter 110 args) w := enters_of Try.func110 (by kernel_rfl) rfl
 have hc := ContainsFunc_any 110 #[.pointer (some ⟨w.heap.size, 0, none⟩)] (beyond a1) eg A0 c0 l0 (w.alloc (.cells #[.int .i64 a1] 3)) (Kd.C_alloc hr0 _)
  (fun W x hb => by
   have e1 : W.cell? ⟨w.heap.size, 0, none⟩ = some (.int .i64 a1) := (hb.cell (p := ⟨w.heap.size, 0, none⟩) (by simp)).trans (by simp)
   have e2 : w.heap.size < W.heap.size := Nat.lt_of_lt_of_le (by simp) hb.size
   exact (within_1 a1 w.heap.size W x e1 e2).mono fun e w' ⟨he, hb'⟩ => ⟨he, hb.trans (hb'.mono hb.size)⟩)
 clear hr0 eg
 generalize l0.any (beyond a1) = r at hc ⊢
 generalize l0.length = n at hc ⊢
 go_enter Try.func72, Try.ntmps72
 go_wp2_with (go_at_call 109; refine hc.mono ?_; rintro e w' ⟨rfl, hb'⟩)
 go_ret
 exact ⟨rfl, ((Below.refl _ w).alloc (Nat.le_refl _) _).trans (hb'.mono (by simp))⟩
end Go.Proofs.Ythehmkpcddafnaa.PG
end
section
namespace Go.Proofs.Ythehmkpcddafnaa.PG
open Go.RowKit Go.Proofs.YthehmkpcddafnaaW.PrintWords Go.Proofs.YthehmkpcddafnaaW.PrintLast Go.Proofs.YthehmkpcddafnaaW.PrintMore
attribute [local go_sem] max2_int min2_int max_two min_two max_three min_three max_four min_four
set_option linter.unusedVariables false
set_option linter.unusedSimpArgs false
/-! ### shape_polygon: function 71 -/
def shape_polygon.f (l0 : List (S41)) : Option (Bool) := if (l0.length : Int) ≥ 3 then (if (l0.length : Int) ≤ 32 then ((shape_within.f l0 10000).bind fun t101 => (some t101)) else (some false)) else (some false)
set_option maxHeartbeats 8000000 in
set_option maxRecDepth 100000 in
theorem shape_polygon.calls (A0 : Option Addr) (c0 : Nat) (l0 : List (S41)) (r : Bool) (w : World) (hr0 : Kd.C k41 w A0 l0.length l0) (hc0 : l0.length ≤ c0) (h : shape_polygon.f l0 = some r) :
  Calls Try.prog 71 #[.slice A0 l0.length c0] w fun e w' => e = .returned (.bool r) ∧ Below w.heap.size w w' := by
 have HR0 := Aside0.mk hr0
 have HC0 := Aside0.mk hc0
 clear hr0 hc0
 have HB := Aside0.mk (Below.refl w.heap.size w)
 have H : (if (l0.length : Int) ≥ 3 then (if (l0.length : Int) ≤ 32 then ((shape_within.f l0 10000).bind fun t101 => (some t101)) else (some false)) else (some false)) = some r := h
 clear h
 by_cases c2 : (l0.length : Int) ≥ 3
 ·rw [if_pos c2] at H
  have c2b0 := decide_eq_true c2
  have c2b1 : decide (3 ≤ l0.length) = true := decide_eq_true (by omega)
  clear c2
  by_cases c3 : (l0.length : Int) ≤ 32
  ·rw [if_pos c3] at H
   have c3b0 := decide_eq_true c3
   have c3b1 : decide (l0.length ≤ 32) = true := decide_eq_true (by omega)
   clear c3
   replace H := Option.bind_eq_some_iff.mp H
   obtain ⟨t101, A40, H⟩ := H
   try dsimp only at H
   have A4 := Aside0.mk A40
   clear A40
   obtain rfl := Option.some.inj H
   go_enter Try.func71, Try.ntmps71
   go_wp2_with (first | (go_at_call 72; (with_reducible refine (shape_within.calls _ _ l0 10000 t101 _ ?side1 ?side2 A4.out).mono ?_); (case side1 => exact cs HR0.out); (case side2 => exact HC0.out); rintro e w5 ⟨rfl, hb⟩; replace HB := bz hb; (try clear hb)))
   go_ret
   exact ⟨by exact er, bh⟩
  ·rw [if_neg c3] at H
   have c3b0 := decide_eq_false c3
   have c3b1 : decide (l0.length ≤ 32) = false := decide_eq_false (by omega)
   clear c3
   obtain rfl := Option.some.inj H
   go_enter Try.func71, Try.ntmps71
   go_wp2
   go_ret
   exact ⟨by exact er, bh⟩
 ·rw [if_neg c2] at H
  have c2b0 := decide_eq_false c2
  have c2b1 : decide (3 ≤ l0.length) = false := decide_eq_false (by omega)
  clear c2
  obtain rfl := Option.some.inj H
  go_enter Try.func71, Try.ntmps71
  go_wp2
  go_ret
  exact ⟨by exact er, bh⟩
/-! ### shape_sub: function 53 -/
def shape_sub.f (a0_0 : Int) (a0_1 : Int) (a1_0 : Int) (a1_1 : Int) : Option (Int × Int) := some (wrap64 (a0_0 - a1_0), wrap64 (a0_1 - a1_1))
set_option maxHeartbeats 8000000 in
set_option maxRecDepth 100000 in
theorem shape_sub.calls (a0_0 : Int) (a0_1 : Int) (a1_0 : Int) (a1_1 : Int) (r1 : Int) (r2 : Int) (w : World) (h : shape_sub.f a0_0 a0_1 a1_0 a1_1 = some (r1, r2)) :
  Calls Try.prog 53 #[.agg #[.int .i64 a0_0, .int .i64 a0_1], .agg #[.int .i64 a1_0, .int .i64 a1_1]] w fun e w' => e = .returned (.agg #[.int .i64 r1, .int .i64 r2]) ∧ Below w.heap.size w w' := by
 have hu41 := Try.underlying41
 have HB := Aside0.mk (Below.refl w.heap.size w)
 have H : (some (wrap64 (a0_0 - a1_0), wrap64 (a0_1 - a1_1))) = some (r1, r2) := h
 clear h
 simp only [Option.some.injEq, Prod.mk.injEq] at H
 obtain ⟨rfl, rfl⟩ := H
 go_enter Try.func53, Try.ntmps53
 go_wp2_with (first | ((with_reducible refine gate_dst (N := 2) rfl ?_); refine bxe 2 #[.int .i64 a0_0, .int .i64 a0_1] 41 ?_; intro gb101 hg w3 hbox hb; have BK101 := Aside0.mk (hbox); have GW101 := ga w hg; have GE101 := GW101; replace HB := bz hb; clear hb hbox hg) | ((with_reducible refine gate_dst (N := 3) rfl ?_); refine bxe 3 #[.int .i64 a1_0, .int .i64 a1_1] 41 ?_; intro gb102 hg w4 hbox hb; have BK102 := Aside0.mk (hbox); have GW102 := ga w hg; have GE102 := GW102; have NB101_102 := nb hg (kl BK101); have NB102_101 := bn NB101_102; replace BK101 := kb BK101 hb; replace HB := bz hb; clear hb hbox hg) | ((with_reducible refine gate_dst (N := 4) rfl ?_); refine bxe 4 #[.int .i64 0, .int .i64 0] 41 ?_; intro gb103 hg w5 hbox hb; have BK103 := Aside0.mk (hbox); have GW103 := ga w hg; have GE103 := GW103; have NB101_103 := nb hg (kl BK101); have NB103_101 := bn NB101_103; have NB102_103 := nb hg (kl BK102); have NB103_102 := bn NB102_103; replace BK101 := kb BK101 hb; replace BK102 := kb BK102 hb; replace HB := bz hb; clear hb hbox hg; have hnb6 := NB101_102.out; have hnc6 := NB102_101.out; have hnb7 := NB101_103.out; have hnc7 := NB103_101.out; obtain ⟨hcz8_0, hcz8_1, hfz8_0, hfz8_1⟩ := b2 BK101; have hnb9 := NB102_103.out; have hnc9 := NB103_102.out; obtain ⟨hcz10_0, hcz10_1, hfz10_0, hfz10_1⟩ := b2 BK102; obtain ⟨hcz11_0, hcz11_1, hfz11_0, hfz11_1⟩ := b2 BK103))
 refine bodyPost_ret (results_cell_row rfl _ _ gb103 41 #[.int .i64 (wrap64 (a0_0 - a1_0)), .int .i64 (wrap64 (a0_1 - a1_1))] (0, 0) _ rfl (by refine bd ?_; refine blk_put (cs := #[.int .i64 (wrap64 (a0_0 - a1_0)), .int .i64 0]) ?_ 1 _ rfl; refine bd ?_; refine blk_put (cs := #[.int .i64 0, .int .i64 0]) ?_ 0 _ rfl; refine bd ?_; exact BK103.out) Try.underlying41 rfl (by kernel_rfl)) rfl ?_
 exact ⟨by exact er, bh⟩
/-! ### shape_cross: function 77 -/
def shape_cross.f (a0_0 : Int) (a0_1 : Int) (a1_0 : Int) (a1_1 : Int) : Option (Int) := some (wrap64 ((wrap64 (a0_0 * a1_1)) - (wrap64 (a0_1 * a1_0))))
set_option maxHeartbeats 8000000 in
set_option maxRecDepth 100000 in
theorem shape_cross.calls (a0_0 : Int) (a0_1 : Int) (a1_0 : Int) (a1_1 : Int) (r : Int) (w : World) (h : shape_cross.f a0_0 a0_1 a1_0 a1_1 = some r) :
  Calls Try.prog 77 #[.agg #[.int .i64 a0_0, .int .i64 a0_1], .agg #[.int .i64 a1_0, .int .i64 a1_1]] w fun e w' => e = .returned (.int .i64 r) ∧ Below w.heap.size w w' := by
 have hu41 := Try.underlying41
 have HB := Aside0.mk (Below.refl w.heap.size w)
 have H : (some (wrap64 ((wrap64 (a0_0 * a1_1)) - (wrap64 (a0_1 * a1_0))))) = some r := h
 clear h
 obtain rfl := Option.some.inj H
 go_enter Try.func77, Try.ntmps77
 go_wp2_with (first | ((with_reducible refine gate_dst (N := 2) rfl ?_); refine bxe 2 #[.int .i64 a0_0, .int .i64 a0_1] 41 ?_; intro gb101 hg w3 hbox hb; have BK101 := Aside0.mk (hbox); have GW101 := ga w hg; have GE101 := GW101; replace HB := bz hb; clear hb hbox hg) | ((with_reducible refine gate_dst (N := 3) rfl ?_); refine bxe 3 #[.int .i64 a1_0, .int .i64 a1_1] 41 ?_; intro gb102 hg w4 hbox hb; have BK102 := Aside0.mk (hbox); have GW102 := ga w hg; have GE102 := GW102; have NB101_102 := nb hg (kl BK101); have NB102_101 := bn NB101_102; replace BK101 := kb BK101 hb; replace HB := bz hb; clear hb hbox hg; have hnb5 := NB101_102.out; have hnc5 := NB102_101.out; obtain ⟨hcz6_0, hcz6_1, hfz6_0, hfz6_1⟩ := b2 BK101; obtain ⟨hcz7_0, hcz7_1, hfz7_0, hfz7_1⟩ := b2 BK102))
 go_ret
 exact ⟨by exact er, bh⟩
/-! ### shape_dot: function 80 -/
def shape_dot.f (a0_0 : Int) (a0_1 : Int) (a1_0 : Int) (a1_1 : Int) : Option (Int) := some (wrap64 ((wrap64 (a0_0 * a1_0)) + (wrap64 (a0_1 * a1_1))))
set_option maxHeartbeats 8000000 in
set_option maxRecDepth 100000 in
theorem shape_dot.calls (a0_0 : Int) (a0_1 : Int) (a1_0 : Int) (a1_1 : Int) (r : Int) (w : World) (h : shape_dot.f a0_0 a0_1 a1_0 a1_1 = some r) :
  Calls Try.prog 80 #[.agg #[.int .i64 a0_0, .int .i64 a0_1], .agg #[.int .i64 a1_0, .int .i64 a1_1]] w fun e w' => e = .returned (.int .i64 r) ∧ Below w.heap.size w w' := by
 have hu41 := Try.underlying41
 have HB := Aside0.mk (Below.refl w.heap.size w)
 have H : (some (wrap64 ((wrap64 (a0_0 * a1_0)) + (wrap64 (a0_1 * a1_1))))) = some r := h
 clear h
 obtain rfl := Option.some.inj H
 go_enter Try.func80, Try.ntmps80
 go_wp2_with (first | ((with_reducible refine gate_dst (N := 2) rfl ?_); refine bxe 2 #[.int .i64 a0_0, .int .i64 a0_1] 41 ?_; intro gb101 hg w3 hbox hb; have BK101 := Aside0.mk (hbox); have GW101 := ga w hg; have GE101 := GW101; replace HB := bz hb; clear hb hbox hg) | ((with_reducible refine gate_dst (N := 3) rfl ?_); refine bxe 3 #[.int .i64 a1_0, .int .i64 a1_1] 41 ?_; intro gb102 hg w4 hbox hb; have BK102 := Aside0.mk (hbox); have GW102 := ga w hg; have GE102 := GW102; have NB101_102 := nb hg (kl BK101); have NB102_101 := bn NB101_102; replace BK101 := kb BK101 hb; replace HB := bz hb; clear hb hbox hg; have hnb5 := NB101_102.out; have hnc5 := NB102_101.out; obtain ⟨hcz6_0, hcz6_1, hfz6_0, hfz6_1⟩ := b2 BK101; obtain ⟨hcz7_0, hcz7_1, hfz7_0, hfz7_1⟩ := b2 BK102))
 go_ret
 exact ⟨by exact er, bh⟩
/-! ### cmp_isNaN_int: function 117 -/
def cmp_isNaN_int.f (a0 : Int) : Option (Bool) := some (a0 != a0)
set_option maxHeartbeats 8000000 in
set_option maxRecDepth 100000 in
theorem cmp_isNaN_int.calls (a0 : Int) (r : Bool) (w : World) (h : cmp_isNaN_int.f a0 = some r) :
  Calls Try.prog 117 #[.int .i64 a0] w fun e w' => e = .returned (.bool r) ∧ Drawn0 w w' := by
 have H : (some (a0 != a0)) = some r := h
 clear h
 obtain rfl := Option.some.inj H
 go_enter Try.func117, Try.ntmps117
 go_wp2
 go_ret
 exact ⟨by first | rfl | (simp; done) | (simp [*]; done), by repeat (first | exact Drawn0.refl _ | apply Drawn0.step)⟩
/-! ### cmp_Compare_int: function 91 -/
def cmp_Compare_int.f (a0 : Int) (a1 : Int) : Option (Int) := (cmp_isNaN_int.f a0).bind fun t101 => ((cmp_isNaN_int.f a1).bind fun t102 => (if t101 = true then (if t102 = true then (some 0) else (some (-1))) else (if t102 = true then (some 1) else (if a0 < a1 then (some (-1)) else (if a0 > a1 then (some 1) else (some 0))))))
set_option maxHeartbeats 8000000 in
set_option maxRecDepth 100000 in
theorem cmp_Compare_int.calls (a0 : Int) (a1 : Int) (r : Int) (w : World) (h : cmp_Compare_int.f a0 a1 = some r) :
  Calls Try.prog 91 #[.int .i64 a0, .int .i64 a1] w fun e w' => e = .returned (.int .i64 r) ∧ Drawn0 w w' := by
 have H : ((cmp_isNaN_int.f a0).bind fun t101 => ((cmp_isNaN_int.f a1).bind fun t102 => (if t101 = true then (if t102 = true then (some 0) else (some (-1))) else (if t102 = true then (some 1) else (if a0 < a1 then (some (-1)) else (if a0 > a1 then (some 1) else (some 0))))))) = some r := h
 clear h
 replace H := Option.bind_eq_some_iff.mp H
 obtain ⟨t101, A30, H⟩ := H
 try dsimp only at H
 have A3 := Aside0.mk A30
 clear A30
 replace H := Option.bind_eq_some_iff.mp H
 obtain ⟨t102, A40, H⟩ := H
 try dsimp only at H
 have A4 := Aside0.mk A40
 clear A40
 by_cases c5 : t101 = true
 ·subst c5
  rw [if_pos rfl] at H
  by_cases c6 : t102 = true
  ·subst c6
   rw [if_pos rfl] at H
   obtain rfl := Option.some.inj H
   go_enter Try.func91, Try.ntmps91
   go_wp2_with (first | ((with_reducible refine gc 117 rfl ?_); refine goesL_ (some 8) rfl rfl Try.func117 (by kernel_rfl) rfl #[.int .i64 a0] rfl sg ?_; (with_reducible refine (cmp_isNaN_int.calls a0 true _ A3.out).mono ?_); rintro e w' ⟨rfl, ⟨nd, rfl⟩⟩; refine ⟨_, rfl, ?_⟩) | ((with_reducible refine gc 117 rfl ?_); refine goesL_ (some 10) rfl rfl Try.func117 (by kernel_rfl) rfl #[.int .i64 a1] rfl sg ?_; (with_reducible refine (cmp_isNaN_int.calls a1 true _ A4.out).mono ?_); rintro e w' ⟨rfl, ⟨nd, rfl⟩⟩; refine ⟨_, rfl, ?_⟩))
   go_ret
   exact ⟨by first | rfl | (simp; done) | (simp [*]; done), by repeat (first | exact Drawn0.refl _ | apply Drawn0.step)⟩
  ·replace c6 := Bool.eq_false_iff.mpr c6
   subst c6
   rw [if_neg (show ¬ (false = true) by decide)] at H
   obtain rfl := Option.some.inj H
   go_enter Try.func91, Try.ntmps91
   go_wp2_with (first | ((with_reducible refine gc 117 rfl ?_); refine goesL_ (some 8) rfl rfl Try.func117 (by kernel_rfl) rfl #[.int .i64 a0] rfl sg ?_; (with_reducible refine (cmp_isNaN_int.calls a0 true _ A3.out).mono ?_); rintro e w' ⟨rfl, ⟨nd, rfl⟩⟩; refine ⟨_, rfl, ?_⟩) | ((with_reducible refine gc 117 rfl ?_); refine goesL_ (some 10) rfl rfl Try.func117 (by kernel_rfl) rfl #[.int .i64 a1] rfl sg ?_; (with_reducible refine (cmp_isNaN_int.calls a1 false _ A4.out).mono ?_); rintro e w' ⟨rfl, ⟨nd, rfl⟩⟩; refine ⟨_, rfl, ?_⟩))
   go_ret
   exact ⟨by first | rfl | (simp; done) | (simp [*]; done), by repeat (first | exact Drawn0.refl _ | apply Drawn0.step)⟩
 ·replace c5 := Bool.eq_false_iff.mpr c5
  subst c5
  rw [if_neg (show ¬ (false = true) by decide)] at H
  by_cases c7 : t102 = true
  ·subst c7
   rw [if_pos rfl] at H
   obtain rfl := Option.some.inj H
   go_enter Try.func91, Try.ntmps91
   go_wp2_with (first | ((with_reducible refine gc 117 rfl ?_); refine goesL_ (some 8) rfl rfl Try.func117 (by kernel_rfl) rfl #[.int .i64 a0] rfl sg ?_; (with_reducible refine (cmp_isNaN_int.calls a0 false _ A3.out).mono ?_); rintro e w' ⟨rfl, ⟨nd, rfl⟩⟩; refine ⟨_, rfl, ?_⟩) | ((with_reducible refine gc 117 rfl ?_); refine goesL_ (some 10) rfl rfl Try.func117 (by kernel_rfl) rfl #[.int .i64 a1] rfl sg ?_; (with_reducible refine (cmp_isNaN_int.calls a1 true _ A4.out).mono ?_); rintro e w' ⟨rfl, ⟨nd, rfl⟩⟩; refine ⟨_, rfl, ?_⟩))
   go_ret
   exact ⟨by first | rfl | (simp; done) | (simp [*]; done), by repeat (first | exact Drawn0.refl _ | apply Drawn0.step)⟩
  ·replace c7 := Bool.eq_false_iff.mpr c7
   subst c7
   rw [if_neg (show ¬ (false = true) by decide)] at H
   by_cases c8 : a0 < a1
   ·rw [if_pos c8] at H
    have c8b0 := decide_eq_true c8
    clear c8
    obtain rfl := Option.some.inj H
    go_enter Try.func91, Try.ntmps91
    go_wp2_with (first | ((with_reducible refine gc 117 rfl ?_); refine goesL_ (some 8) rfl rfl Try.func117 (by kernel_rfl) rfl #[.int .i64 a0] rfl sg ?_; (with_reducible refine (cmp_isNaN_int.calls a0 false _ A3.out).mono ?_); rintro e w' ⟨rfl, ⟨nd, rfl⟩⟩; refine ⟨_, rfl, ?_⟩) | ((with_reducible refine gc 117 rfl ?_); refine goesL_ (some 10) rfl rfl Try.func117 (by kernel_rfl) rfl #[.int .i64 a1] rfl sg ?_; (with_reducible refine (cmp_isNaN_int.calls a1 false _ A4.out).mono ?_); rintro e w' ⟨rfl, ⟨nd, rfl⟩⟩; refine ⟨_, rfl, ?_⟩))
    go_ret
    exact ⟨by first | rfl | (simp; done) | (simp [*]; done), by repeat (first | exact Drawn0.refl _ | apply Drawn0.step)⟩
   ·rw [if_neg c8] at H
    have c8b0 := decide_eq_false c8
    clear c8
    by_cases c9 : a0 > a1
    ·rw [if_pos c9] at H
     have c9b0 := decide_eq_true c9
     clear c9
     obtain rfl := Option.some.inj H
     go_enter Try.func91, Try.ntmps91
     go_wp2_with (first | ((with_reducible refine gc 117 rfl ?_); refine goesL_ (some 8) rfl rfl Try.func117 (by kernel_rfl) rfl #[.int .i64 a0] rfl sg ?_; (with_reducible refine (cmp_isNaN_int.calls a0 false _ A3.out).mono ?_); rintro e w' ⟨rfl, ⟨nd, rfl⟩⟩; refine ⟨_, rfl, ?_⟩) | ((with_reducible refine gc 117 rfl ?_); refine goesL_ (some 10) rfl rfl Try.func117 (by kernel_rfl) rfl #[.int .i64 a1] rfl sg ?_; (with_reducible refine (cmp_isNaN_int.calls a1 false _ A4.out).mono ?_); rintro e w' ⟨rfl, ⟨nd, rfl⟩⟩; refine ⟨_, rfl, ?_⟩))
     go_ret
     exact ⟨by first | rfl | (simp; done) | (simp [*]; done), by repeat (first | exact Drawn0.refl _ | apply Drawn0.step)⟩
    ·rw [if_neg c9] at H
     have c9b0 := decide_eq_false c9
     clear c9
     obtain rfl := Option.some.inj H
     go_enter Try.func91, Try.ntmps91
     go_wp2_with (first | ((with_reducible refine gc 117 rfl ?_); refine goesL_ (some 8) rfl rfl Try.func117 (by kernel_rfl) rfl #[.int .i64 a0] rfl sg ?_; (with_reducible refine (cmp_isNaN_int.calls a0 false _ A3.out).mono ?_); rintro e w' ⟨rfl, ⟨nd, rfl⟩⟩; refine ⟨_, rfl, ?_⟩) | ((with_reducible refine gc 117 rfl ?_); refine goesL_ (some 10) rfl rfl Try.func117 (by kernel_rfl) rfl #[.int .i64 a1] rfl sg ?_; (with_reducible refine (cmp_isNaN_int.calls a1 false _ A4.out).mono ?_); rintro e w' ⟨rfl, ⟨nd, rfl⟩⟩; refine ⟨_, rfl, ?_⟩))
     go_ret
     exact ⟨by first | rfl | (simp; done) | (simp [*]; done), by repeat (first | exact Drawn0.refl _ | apply Drawn0.step)⟩
/-! ### shape_sign: function 82 -/
def shape_sign.f (a0 : Int) : Option (Int) := (cmp_Compare_int.f a0 0).bind fun t101 => (some t101)
set_option maxHeartbeats 8000000 in
set_option maxRecDepth 100000 in
theorem shape_sign.calls (a0 : Int) (r : Int) (w : World) (h : shape_sign.f a0 = some r) :
  Calls Try.prog 82 #[.int .i64 a0] w fun e w' => e = .returned (.int .i64 r) ∧ Drawn0 w w' := by
 have H : ((cmp_Compare_int.f a0 0).bind fun t101 => (some t101)) = some r := h
 clear h
 replace H := Option.bind_eq_some_iff.mp H
 obtain ⟨t101, A20, H⟩ := H
 try dsimp only at H
 have A2 := Aside0.mk A20
 clear A20
 obtain rfl := Option.some.inj H
 go_enter Try.func82, Try.ntmps82
 go_wp2_with (first | ((with_reducible refine gc 91 rfl ?_); refine goesL_ (some 4) rfl rfl Try.func91 (by kernel_rfl) rfl #[.int .i64 a0, .int .i64 0] rfl sg ?_; (with_reducible refine (cmp_Compare_int.calls a0 0 t101 _ A2.out).mono ?_); rintro e w' ⟨rfl, ⟨nd, rfl⟩⟩; refine ⟨_, rfl, ?_⟩))
 go_ret
 exact ⟨by first | rfl | (simp; done) | (simp [*]; done), by repeat (first | exact Drawn0.refl _ | apply Drawn0.step)⟩
/-! ### shape_side: function 98 -/
def shape_side.f (a0_0 : Int) (a0_1 : Int) (a1_0 : Int) (a1_1 : Int) (a2_0 : Int) (a2_1 : Int) : Option (Int) := (shape_sub.f a1_0 a1_1 a0_0 a0_1).bind fun bt104 => ((shape_sub.f a2_0 a2_1 a0_0 a0_1).bind fun bt106 => ((shape_cross.f bt104.1 bt104.2 bt106.1 bt106.2).bind fun t108 => (some t108)))
def shape_side.T1 : Bool × List (List Nat × List Nat) := (true, [([], []), ([], []), ([0, 1], [0, 1]), ([], []), ([], []), ([3, 4, 2], [3, 4]), ([2, 5, 5], [2, 5]), ([6, 6, 0, 1, 2, 3, 4, 5, 6], [6])])
def shape_side.B1 : List Nat := [0, 0, 3, 0, 0, 31, 63, 127]
theorem shape_side.tab1 : rtab .any (opsOf Try.f98 1) = shape_side.T1 := by kernel_rfl
theorem shape_side.bits1 : waitsOk shape_side.T1.2 shape_side.B1 = true := by kernel_rfl
set_option maxHeartbeats 8000000 in
set_option maxRecDepth 100000 in
theorem shape_side.calls (a0_0 : Int) (a0_1 : Int) (a1_0 : Int) (a1_1 : Int) (a2_0 : Int) (a2_1 : Int) (r : Int) (w : World) (h : shape_side.f a0_0 a0_1 a1_0 a1_1 a2_0 a2_1 = some r) :
  Calls Try.prog 98 #[.agg #[.int .i64 a0_0, .int .i64 a0_1], .agg #[.int .i64 a1_0, .int .i64 a1_1], .agg #[.int .i64 a2_0, .int .i64 a2_1]] w fun e w' => e = .returned (.int .i64 r) ∧ Below w.heap.size w w' := by
 have hu41 := Try.underlying41
 have HB := Aside0.mk (Below.refl w.heap.size w)
 have H : ((shape_sub.f a1_0 a1_1 a0_0 a0_1).bind fun bt104 => ((shape_sub.f a2_0 a2_1 a0_0 a0_1).bind fun bt106 => ((shape_cross.f bt104.1 bt104.2 bt106.1 bt106.2).bind fun t108 => (some t108)))) = some r := h
 clear h
 replace H := Option.bind_eq_some_iff.mp H
 obtain ⟨⟨t104, t105⟩, A40, H⟩ := H
 try dsimp only at H
 have A4 := Aside0.mk A40
 clear A40
 replace H := Option.bind_eq_some_iff.mp H
 obtain ⟨⟨t106, t107⟩, A50, H⟩ := H
 try dsimp only at H
 have A5 := Aside0.mk A50
 clear A50
 replace H := Option.bind_eq_some_iff.mp H
 obtain ⟨t108, A60, H⟩ := H
 try dsimp only at H
 have A6 := Aside0.mk A60
 clear A60
 obtain rfl := Option.some.inj H
 go_enter Try.func98, Try.ntmps98
 try go_wp2_with (first | ((with_reducible refine gate_dst (N := 3) rfl ?_); refine bxe 3 #[.int .i64 a0_0, .int .i64 a0_1] 41 ?_; intro gb101 hg w7 hbox hb; have BK101 := Aside0.mk (hbox); have GW101 := ga w hg; have GE101 := GW101; replace HB := bz hb; clear hb hbox hg) | ((with_reducible refine gate_dst (N := 4) rfl ?_); refine bxe 4 #[.int .i64 a1_0, .int .i64 a1_1] 41 ?_; intro gb102 hg w8 hbox hb; have BK102 := Aside0.mk (hbox); have GW102 := ga w hg; have GE102 := GW102; have NB101_102 := nb hg (kl BK101); have NB102_101 := bn NB101_102; replace BK101 := kb BK101 hb; replace HB := bz hb; clear hb hbox hg) | ((with_reducible refine gate_dst (N := 5) rfl ?_); refine bxe 5 #[.int .i64 a2_0, .int .i64 a2_1] 41 ?_; intro gb103 hg w9 hbox hb; have BK103 := Aside0.mk (hbox); have GW103 := ga w hg; have GE103 := GW103; have NB101_103 := nb hg (kl BK101); have NB103_101 := bn NB101_103; have NB102_103 := nb hg (kl BK102); have NB103_102 := bn NB102_103; replace BK101 := kb BK101 hb; replace BK102 := kb BK102 hb; replace HB := bz hb; clear hb hbox hg))
 replace BK101 := Aside0.mk (blk_drew BK101.out)
 replace BK102 := Aside0.mk (blk_drew BK102.out)
 replace BK103 := Aside0.mk (blk_drew BK103.out)
 replace HB := Aside0.mk (below_drew1 HB.out)
 refine start_ (n := 8) (S := fun w' => w'.cell? ⟨gb102, 0, none⟩ = some (.int .i64 a1_0) ∧ w'.cell? ⟨gb102, 1, none⟩ = some (.int .i64 a1_1) ∧ w'.cell? ⟨gb101, 0, none⟩ = some (.int .i64 a0_0) ∧ w'.cell? ⟨gb101, 1, none⟩ = some (.int .i64 a0_1) ∧ w'.cell? ⟨gb103, 0, none⟩ = some (.int .i64 a2_0) ∧ w'.cell? ⟨gb103, 1, none⟩ = some (.int .i64 a2_1)) (ds := []) #[N,N,N,N,N,N,N,N] (by kernel_rfl) rfl rfl ⟨bc BK102 0, bc BK102 1, bc BK101 0, bc BK101 1, bc BK103 0, bc BK103 1⟩ (fun hHeld => ?_); refine with_tabW shape_side.tab1 shape_side.bits1 (fun HT_ HW_ => ?_)
 generalize w9.drew = w10 at BK101 BK102 BK103 HB hHeld ⊢
 refine tk6 0 7 hHeld HT_ HW_ ?_
 refine tk6 1 8 hHeld HT_ HW_ ?_
 refine tk6 3 10 hHeld HT_ HW_ ?_
 refine tk6 4 11 hHeld HT_ HW_ ?_
 refine one_ (i := 2) (N := some 9) #[T,T,T,T,T,N,N,N] rfl rfl (on1 HT_) (by decide) (fun K hK => ?_)
 refine goes_ Try.func53 (by kernel_rfl) rfl #[.agg #[.int .i64 a1_0, .int .i64 a1_1], .agg #[.int .i64 a0_0, .int .i64 a0_1]] (by rfl) rfl rfl sg ?_
 with_reducible refine (shape_sub.calls a1_0 a1_1 a0_0 a0_1 t104 t105 _ A4.out).mono ?_
 rintro e w11 ⟨rfl, hb⟩
 refine ⟨_, rfl, ?_⟩
 replace BK101 := kb BK101 hb
 replace BK102 := kb BK102 hb
 replace BK103 := kb BK103 hb
 replace HB := bz hb
 (try clear hb)
 refine hK.out _ _ ⟨bc BK102 0, bc BK102 1, bc BK101 0, bc BK101 1, bc BK103 0, bc BK103 1⟩ (fun hHeld => ?_)
 clear hK K
 refine nm 9 ?_
 refine one_ (i := 5) (N := some 12) #[T,T,T,T,T,T,N,N] rfl rfl (on1 HT_) (by decide) (fun K hK => ?_)
 refine goes_ Try.func53 (by kernel_rfl) rfl #[.agg #[.int .i64 a2_0, .int .i64 a2_1], .agg #[.int .i64 a0_0, .int .i64 a0_1]] (by rfl) rfl rfl sg ?_
 with_reducible refine (shape_sub.calls a2_0 a2_1 a0_0 a0_1 t106 t107 _ A5.out).mono ?_
 rintro e w12 ⟨rfl, hb⟩
 refine ⟨_, rfl, ?_⟩
 replace BK101 := kb BK101 hb
 replace BK102 := kb BK102 hb
 replace BK103 := kb BK103 hb
 replace HB := bz hb
 (try clear hb)
 refine hK.out _ _ ⟨bc BK102 0, bc BK102 1, bc BK101 0, bc BK101 1, bc BK103 0, bc BK103 1⟩ (fun hHeld => ?_)
 clear hK K
 refine nm 12 ?_
 refine one_ (i := 6) (N := some 13) #[T,T,T,T,T,T,T,N] rfl rfl (on1 HT_) (by decide) (fun K hK => ?_)
 refine goes_ Try.func77 (by kernel_rfl) rfl #[.agg #[.int .i64 t104, .int .i64 t105], .agg #[.int .i64 t106, .int .i64 t107]] (by rfl) rfl rfl sg ?_
 with_reducible refine (shape_cross.calls t104 t105 t106 t107 t108 _ A6.out).mono ?_
 rintro e w13 ⟨rfl, hb⟩
 refine ⟨_, rfl, ?_⟩
 replace BK101 := kb BK101 hb
 replace BK102 := kb BK102 hb
 replace BK103 := kb BK103 hb
 replace HB := bz hb
 (try clear hb)
 refine hK.out _ _ ⟨bc BK102 0, bc BK102 1, bc BK101 0, bc BK101 1, bc BK103 0, bc BK103 1⟩ (fun hHeld => ?_)
 clear hK K
 refine nm 13 ?_
 refine pu 7 6 HT_ ?_
 refine done_ (done_of HT_.out (by kernel_rfl)) ?_
 try go_wp2
 go_ret
 exact ⟨by exact er, bh⟩
/-! ### shape_on: function 111 -/
def shape_on.f (a0_0 : Int) (a0_1 : Int) (a1_0 : Int) (a1_1 : Int) (a2_0 : Int) (a2_1 : Int) : Option (Bool) := (shape_side.f a0_0 a0_1 a1_0 a1_1 a2_0 a2_1).bind fun t104 => (if t104 = 0 then ((shape_sub.f a0_0 a0_1 a2_0 a2_1).bind fun bt105 => ((shape_sub.f a1_0 a1_1 a2_0 a2_1).bind fun bt107 => ((shape_dot.f bt105.1 bt105.2 bt107.1 bt107.2).bind fun t109 => (some (decide (t109 ≤ 0)))))) else (some false))
def shape_on.T1 : Bool × List (List Nat × List Nat) := (true, [([], []), ([], []), ([], []), ([0, 1, 2], [0, 1, 2]), ([3], [3]), ([4, 3], [4]), ([5], [5]), ([5], [5]), ([6, 7, 5, 5], [5, 6, 7]), ([5], [5]), ([5], [5]), ([9, 10, 8, 5], [5, 9, 10]), ([8, 11, 11, 5], [5, 8, 11]), ([12, 5], [5, 12]), ([5, 13], [5, 13]), ([14, 12, 0, 1, 2, 3, 4, 5, 6, 7, 8, 9, 10, 11, 12, 13, 14], [14])])
def shape_on.B1 : List Nat := [0, 0, 0, 7, 15, 31, 63, 63, 255, 63, 63, 2047, 4095, 8191, 16383, 32767]
theorem shape_on.tab1 : rtab .any (opsOf Try.f111 1) = shape_on.T1 := by kernel_rfl
theorem shape_on.bits1 : waitsOk shape_on.T1.2 shape_on.B1 = true := by kernel_rfl
set_option maxHeartbeats 8000000 in
set_option maxRecDepth 100000 in
theorem shape_on.calls (a0_0 : Int) (a0_1 : Int) (a1_0 : Int) (a1_1 : Int) (a2_0 : Int) (a2_1 : Int) (r : Bool) (w : World) (h : shape_on.f a0_0 a0_1 a1_0 a1_1 a2_0 a2_1 = some r) :
  Calls Try.prog 111 #[.agg #[.int .i64 a0_0, .int .i64 a0_1], .agg #[.int .i64 a1_0, .int .i64 a1_1], .agg #[.int .i64 a2_0, .int .i64 a2_1]] w fun e w' => e = .returned (.bool r) ∧ Below w.heap.size w w' := by
 have hu41 := Try.underlying41
 have HB := Aside0.mk (Below.refl w.heap.size w)
 have H : ((shape_side.f a0_0 a0_1 a1_0 a1_1 a2_0 a2_1).bind fun t104 => (if t104 = 0 then ((shape_sub.f a0_0 a0_1 a2_0 a2_1).bind fun bt105 => ((shape_sub.f a1_0 a1_1 a2_0 a2_1).bind fun bt107 => ((shape_dot.f bt105.1 bt105.2 bt107.1 bt107.2).bind fun t109 => (some (decide (t109 ≤ 0)))))) else (some false))) = some r := h
 clear h
 replace H := Option.bind_eq_some_iff.mp H
 obtain ⟨t104, A40, H⟩ := H
 try dsimp only at H
 have A4 := Aside0.mk A40
 clear A40
 by_cases c5 : t104 = 0
 ·rw [if_pos c5] at H
  have c5b0 : (t104 == 0) = true := beq_iff_eq.mpr c5
  have c5b1 : (t104 != 0) = false := bne_eq_false_iff_eq.mpr c5
  clear c5
  replace H := Option.bind_eq_some_iff.mp H
  obtain ⟨⟨t105, t106⟩, A60, H⟩ := H
  try dsimp only at H
  have A6 := Aside0.mk A60
  clear A60
  replace H := Option.bind_eq_some_iff.mp H
  obtain ⟨⟨t107, t108⟩, A70, H⟩ := H
  try dsimp only at H
  have A7 := Aside0.mk A70
  clear A70
  replace H := Option.bind_eq_some_iff.mp H
  obtain ⟨t109, A80, H⟩ := H
  try dsimp only at H
  have A8 := Aside0.mk A80
  clear A80
  obtain rfl := Option.some.inj H
  go_enter Try.func111, Try.ntmps111
  try go_wp2_with (first | ((with_reducible refine gate_dst (N := 3) rfl ?_); refine bxe 3 #[.int .i64 a0_0, .int .i64 a0_1] 41 ?_; intro gb101 hg w9 hbox hb; have BK101 := Aside0.mk (hbox); have GW101 := ga w hg; have GE101 := GW101; replace HB := bz hb; clear hb hbox hg) | ((with_reducible refine gate_dst (N := 4) rfl ?_); refine bxe 4 #[.int .i64 a1_0, .int .i64 a1_1] 41 ?_; intro gb102 hg w10 hbox hb; have BK102 := Aside0.mk (hbox); have GW102 := ga w hg; have GE102 := GW102; have NB101_102 := nb hg (kl BK101); have NB102_101 := bn NB101_102; replace BK101 := kb BK101 hb; replace HB := bz hb; clear hb hbox hg) | ((with_reducible refine gate_dst (N := 5) rfl ?_); refine bxe 5 #[.int .i64 a2_0, .int .i64 a2_1] 41 ?_; intro gb103 hg w11 hbox hb; have BK103 := Aside0.mk (hbox); have GW103 := ga w hg; have GE103 := GW103; have NB101_103 := nb hg (kl BK101); have NB103_101 := bn NB101_103; have NB102_103 := nb hg (kl BK102); have NB103_102 := bn NB102_103; replace BK101 := kb BK101 hb; replace BK102 := kb BK102 hb; replace HB := bz hb; clear hb hbox hg))
  replace BK101 := Aside0.mk (blk_drew BK101.out)
  replace BK102 := Aside0.mk (blk_drew BK102.out)
  replace BK103 := Aside0.mk (blk_drew BK103.out)
  replace HB := Aside0.mk (below_drew1 HB.out)
  refine start_ (n := 16) (S := fun w' => w'.cell? ⟨gb101, 0, none⟩ = some (.int .i64 a0_0) ∧ w'.cell? ⟨gb101, 1, none⟩ = some (.int .i64 a0_1) ∧ w'.cell? ⟨gb102, 0, none⟩ = some (.int .i64 a1_0) ∧ w'.cell? ⟨gb102, 1, none⟩ = some (.int .i64 a1_1) ∧ w'.cell? ⟨gb103, 0, none⟩ = some (.int .i64 a2_0) ∧ w'.cell? ⟨gb103, 1, none⟩ = some (.int .i64 a2_1)) (ds := []) #[N,N,N,N,N,N,N,N,N,N,N,N,N,N,N,N] (by kernel_rfl) rfl rfl ⟨bc BK101 0, bc BK101 1, bc BK102 0, bc BK102 1, bc BK103 0, bc BK103 1⟩ (fun hHeld => ?_); refine with_tabW shape_on.tab1 shape_on.bits1 (fun HT_ HW_ => ?_)
  generalize w11.drew = w12 at BK101 BK102 BK103 HB hHeld ⊢
  refine tk6 0 7 hHeld HT_ HW_ ?_
  refine tk6 1 8 hHeld HT_ HW_ ?_
  refine tk6 2 9 hHeld HT_ HW_ ?_
  refine one_ (i := 3) (N := some 10) #[T,T,T,T,N,N,N,N,N,N,N,N,N,N,N,N] rfl rfl (on1 HT_) (by decide) (fun K hK => ?_)
  refine goes_ Try.func98 (by kernel_rfl) rfl #[.agg #[.int .i64 a0_0, .int .i64 a0_1], .agg #[.int .i64 a1_0, .int .i64 a1_1], .agg #[.int .i64 a2_0, .int .i64 a2_1]] (by rfl) rfl rfl sg ?_
  with_reducible refine (shape_side.calls a0_0 a0_1 a1_0 a1_1 a2_0 a2_1 t104 _ A4.out).mono ?_
  rintro e w13 ⟨rfl, hb⟩
  refine ⟨_, rfl, ?_⟩
  replace BK101 := kb BK101 hb
  replace BK102 := kb BK102 hb
  replace BK103 := kb BK103 hb
  replace HB := bz hb
  (try clear hb)
  refine hK.out _ _ ⟨bc BK101 0, bc BK101 1, bc BK102 0, bc BK102 1, bc BK103 0, bc BK103 1⟩ (fun hHeld => ?_)
  clear hK K
  refine nm 10 ?_
  refine pu 4 11 HT_ ?_
  refine pu 5 12 HT_ ?_
  refine tk6 6 13 hHeld HT_ HW_ ?_
  refine tk6 7 14 hHeld HT_ HW_ ?_
  refine tk6 9 16 hHeld HT_ HW_ ?_
  refine tk6 10 17 hHeld HT_ HW_ ?_
  refine one_ (i := 8) (N := some 15) #[T,T,T,T,T,T,T,T,T,T,T,N,N,N,N,N] rfl rfl (on1 HT_) (by decide) (fun K hK => ?_)
  refine goes_ Try.func53 (by kernel_rfl) rfl #[.agg #[.int .i64 a0_0, .int .i64 a0_1], .agg #[.int .i64 a2_0, .int .i64 a2_1]] (by rfl) rfl rfl sg ?_
  with_reducible refine (shape_sub.calls a0_0 a0_1 a2_0 a2_1 t105 t106 _ A6.out).mono ?_
  rintro e w14 ⟨rfl, hb⟩
  refine ⟨_, rfl, ?_⟩
  replace BK101 := kb BK101 hb
  replace BK102 := kb BK102 hb
  replace BK103 := kb BK103 hb
  replace HB := bz hb
  (try clear hb)
  refine hK.out _ _ ⟨bc BK101 0, bc BK101 1, bc BK102 0, bc BK102 1, bc BK103 0, bc BK103 1⟩ (fun hHeld => ?_)
  clear hK K
  refine nm 15 ?_
  refine one_ (i := 11) (N := some 18) #[T,T,T,T,T,T,T,T,T,T,T,T,N,N,N,N] rfl rfl (on1 HT_) (by decide) (fun K hK => ?_)
  refine goes_ Try.func53 (by kernel_rfl) rfl #[.agg #[.int .i64 a1_0, .int .i64 a1_1], .agg #[.int .i64 a2_0, .int .i64 a2_1]] (by rfl) rfl rfl sg ?_
  with_reducible refine (shape_sub.calls a1_0 a1_1 a2_0 a2_1 t107 t108 _ A7.out).mono ?_
  rintro e w15 ⟨rfl, hb⟩
  refine ⟨_, rfl, ?_⟩
  replace BK101 := kb BK101 hb
  replace BK102 := kb BK102 hb
  replace BK103 := kb BK103 hb
  replace HB := bz hb
  (try clear hb)
  refine hK.out _ _ ⟨bc BK101 0, bc BK101 1, bc BK102 0, bc BK102 1, bc BK103 0, bc BK103 1⟩ (fun hHeld => ?_)
  clear hK K
  refine nm 18 ?_
  refine one_ (i := 12) (N := some 19) #[T,T,T,T,T,T,T,T,T,T,T,T,T,N,N,N] rfl rfl (on1 HT_) (by decide) (fun K hK => ?_)
  refine goes_ Try.func80 (by kernel_rfl) rfl #[.agg #[.int .i64 t105, .int .i64 t106], .agg #[.int .i64 t107, .int .i64 t108]] (by rfl) rfl rfl sg ?_
  with_reducible refine (shape_dot.calls t105 t106 t107 t108 t109 _ A8.out).mono ?_
  rintro e w16 ⟨rfl, hb⟩
  refine ⟨_, rfl, ?_⟩
  replace BK101 := kb BK101 hb
  replace BK102 := kb BK102 hb
  replace BK103 := kb BK103 hb
  replace HB := bz hb
  (try clear hb)
  refine hK.out _ _ ⟨bc BK101 0, bc BK101 1, bc BK102 0, bc BK102 1, bc BK103 0, bc BK103 1⟩ (fun hHeld => ?_)
  clear hK K
  refine nm 19 ?_
  refine pu 13 20 HT_ ?_
  refine pu 14 21 HT_ ?_
  refine pu 15 6 HT_ ?_
  refine done_ (done_of HT_.out (by kernel_rfl)) ?_
  try go_wp2
  go_ret
  exact ⟨by exact er, bh⟩
 ·rw [if_neg c5] at H
  have c5b0 : (t104 == 0) = false := beq_eq_false_iff_ne.mpr c5
  have c5b1 : (t104 != 0) = true := bne_iff_ne.mpr c5
  obtain rfl := Option.some.inj H
  go_enter Try.func111, Try.ntmps111
  try go_wp2_with (first | ((with_reducible refine gate_dst (N := 3) rfl ?_); refine bxe 3 #[.int .i64 a0_0, .int .i64 a0_1] 41 ?_; intro gb101 hg w17 hbox hb; have BK101 := Aside0.mk (hbox); have GW101 := ga w hg; have GE101 := GW101; replace HB := bz hb; clear hb hbox hg) | ((with_reducible refine gate_dst (N := 4) rfl ?_); refine bxe 4 #[.int .i64 a1_0, .int .i64 a1_1] 41 ?_; intro gb102 hg w18 hbox hb; have BK102 := Aside0.mk (hbox); have GW102 := ga w hg; have GE102 := GW102; have NB101_102 := nb hg (kl BK101); have NB102_101 := bn NB101_102; replace BK101 := kb BK101 hb; replace HB := bz hb; clear hb hbox hg) | ((with_reducible refine gate_dst (N := 5) rfl ?_); refine bxe 5 #[.int .i64 a2_0, .int .i64 a2_1] 41 ?_; intro gb103 hg w19 hbox hb; have BK103 := Aside0.mk (hbox); have GW103 := ga w hg; have GE103 := GW103; have NB101_103 := nb hg (kl BK101); have NB103_101 := bn NB101_103; have NB102_103 := nb hg (kl BK102); have NB103_102 := bn NB102_103; replace BK101 := kb BK101 hb; replace BK102 := kb BK102 hb; replace HB := bz hb; clear hb hbox hg))
  replace BK101 := Aside0.mk (blk_drew BK101.out)
  replace BK102 := Aside0.mk (blk_drew BK102.out)
  replace BK103 := Aside0.mk (blk_drew BK103.out)
  replace HB := Aside0.mk (below_drew1 HB.out)
  refine start_ (n := 16) (S := fun w' => w'.cell? ⟨gb101, 0, none⟩ = some (.int .i64 a0_0) ∧ w'.cell? ⟨gb101, 1, none⟩ = some (.int .i64 a0_1) ∧ w'.cell? ⟨gb102, 0, none⟩ = some (.int .i64 a1_0) ∧ w'.cell? ⟨gb102, 1, none⟩ = some (.int .i64 a1_1) ∧ w'.cell? ⟨gb103, 0, none⟩ = some (.int .i64 a2_0) ∧ w'.cell? ⟨gb103, 1, none⟩ = some (.int .i64 a2_1)) (ds := []) #[N,N,N,N,N,N,N,N,N,N,N,N,N,N,N,N] (by kernel_rfl) rfl rfl ⟨bc BK101 0, bc BK101 1, bc BK102 0, bc BK102 1, bc BK103 0, bc BK103 1⟩ (fun hHeld => ?_); refine with_tabW shape_on.tab1 shape_on.bits1 (fun HT_ HW_ => ?_)
  generalize w19.drew = w20 at BK101 BK102 BK103 HB hHeld ⊢
  refine tk6 0 7 hHeld HT_ HW_ ?_
  refine tk6 1 8 hHeld HT_ HW_ ?_
  refine tk6 2 9 hHeld HT_ HW_ ?_
  refine one_ (i := 3) (N := some 10) #[T,T,T,T,N,N,N,N,N,N,N,N,N,N,N,N] rfl rfl (on1 HT_) (by decide) (fun K hK => ?_)
  refine goes_ Try.func98 (by kernel_rfl) rfl #[.agg #[.int .i64 a0_0, .int .i64 a0_1], .agg #[.int .i64 a1_0, .int .i64 a1_1], .agg #[.int .i64 a2_0, .int .i64 a2_1]] (by rfl) rfl rfl sg ?_
  with_reducible refine (shape_side.calls a0_0 a0_1 a1_0 a1_1 a2_0 a2_1 t104 _ A4.out).mono ?_
  rintro e w21 ⟨rfl, hb⟩
  refine ⟨_, rfl, ?_⟩
  replace BK101 := kb BK101 hb
  replace BK102 := kb BK102 hb
  replace BK103 := kb BK103 hb
  replace HB := bz hb
  (try clear hb)
  refine hK.out _ _ ⟨bc BK101 0, bc BK101 1, bc BK102 0, bc BK102 1, bc BK103 0, bc BK103 1⟩ (fun hHeld => ?_)
  clear hK K
  refine nm 10 ?_
  refine pu 4 11 HT_ ?_
  refine pu 5 12 HT_ ?_
  refine pz 6 13 HT_ ?_
  refine pz 7 14 HT_ ?_
  refine pz 8 15 HT_ ?_
  refine pz 9 16 HT_ ?_
  refine pz 10 17 HT_ ?_
  refine pz 11 18 HT_ ?_
  refine pz 12 19 HT_ ?_
  refine pz 13 20 HT_ ?_
  refine pu 14 21 HT_ ?_
  refine pu 15 6 HT_ ?_
  refine done_ (done_of HT_.out (by kernel_rfl)) ?_
  try go_wp2
  go_ret
  exact ⟨by exact er, bh⟩
/-! ### shape_meet: function 81 -/
def shape_meet.j0 : Nat → Bool → Int → Int → Int → Int → Int → Int → Int → Int → Option (Bool)
 | 0, _, _, _, _, _, _, _, _, _ => none
 | k + 1, x30, x102000, x102001, x103000, x103001, x104000, x104001, x105000, x105001 => if x30 = true then (some true) else ((shape_side.f x102000 x102001 x103000 x103001 x104000 x104001).bind fun t109 => ((shape_sign.f t109).bind fun t110 => ((shape_side.f x102000 x102001 x103000 x103001 x105000 x105001).bind fun t111 => ((shape_sign.f t111).bind fun t112 => (if (wrap64 (t110 * t112)) < 0 then ((shape_side.f x104000 x104001 x105000 x105001 x102000 x102001).bind fun t113 => ((shape_sign.f t113).bind fun t114 => ((shape_side.f x104000 x104001 x105000 x105001 x103000 x103001).bind fun t115 => ((shape_sign.f t115).bind fun t116 => (some (decide ((wrap64 (t114 * t116)) < 0))))))) else (some false))))))
def shape_meet.f (k : Nat) (a0_0 : Int) (a0_1 : Int) (a1_0 : Int) (a1_1 : Int) (a2_0 : Int) (a2_1 : Int) (a3_0 : Int) (a3_1 : Int) : Option (Bool) := (shape_on.f a0_0 a0_1 a1_0 a1_1 a2_0 a2_1).bind fun t105 => (if t105 = true then (shape_meet.j0 k true a0_0 a0_1 a1_0 a1_1 a2_0 a2_1 a3_0 a3_1) else ((shape_on.f a0_0 a0_1 a1_0 a1_1 a3_0 a3_1).bind fun t106 => (if t106 = true then (shape_meet.j0 k true a0_0 a0_1 a1_0 a1_1 a2_0 a2_1 a3_0 a3_1) else ((shape_on.f a2_0 a2_1 a3_0 a3_1 a0_0 a0_1).bind fun t107 => (if t107 = true then (shape_meet.j0 k true a0_0 a0_1 a1_0 a1_1 a2_0 a2_1 a3_0 a3_1) else ((shape_on.f a2_0 a2_1 a3_0 a3_1 a1_0 a1_1).bind fun t108 => (shape_meet.j0 k t108 a0_0 a0_1 a1_0 a1_1 a2_0 a2_1 a3_0 a3_1)))))))
def shape_meet.T3 : Bool × List (List Nat × List Nat) := (true, [([], []), ([], []), ([], []), ([0, 1, 2], [0, 1, 2]), ([3, 3], [3]), ([], []), ([], []), ([], []), ([5, 6, 7, 4], [5, 6, 7]), ([8, 8], [8]), ([4, 9], [4, 9]), ([10], [10]), ([11, 9], [11]), ([12], [12]), ([12], [12]), ([12], [12]), ([13, 14, 15, 12, 12], [12, 13, 14, 15]), ([16, 16, 12], [12, 16]), ([12], [12]), ([12], [12]), ([12], [12]), ([18, 19, 20, 17, 12], [12, 18, 19, 20]), ([21, 21, 12], [12, 21]), ([17, 22, 12], [12, 17, 22]), ([23, 12], [12, 23]), ([12, 24], [12, 24]), ([25, 22, 0, 1, 2, 3, 4, 5, 6, 7, 8, 9, 10, 11, 12, 13, 14, 15, 16, 17, 18, 19, 20, 21, 22, 23, 24, 25], [25])])
def shape_meet.B3 : List Nat := [0, 0, 0, 7, 15, 0, 0, 0, 255, 511, 1023, 2047, 4095, 8191, 8191, 8191, 65535, 131071, 8191, 8191, 8191, 2097151, 4194303, 8388607, 16777215, 33554431, 67108863]
theorem shape_meet.tab3 : rtab .any (opsOf Try.f81 3) = shape_meet.T3 := by kernel_rfl
theorem shape_meet.bits3 : waitsOk shape_meet.T3.2 shape_meet.B3 = true := by kernel_rfl
set_option maxHeartbeats 8000000 in
set_option maxRecDepth 100000 in
theorem shape_meet.calls (k : Nat) (a0_0 : Int) (a0_1 : Int) (a1_0 : Int) (a1_1 : Int) (a2_0 : Int) (a2_1 : Int) (a3_0 : Int) (a3_1 : Int) (r : Bool) (w : World) (h : shape_meet.f k a0_0 a0_1 a1_0 a1_1 a2_0 a2_1 a3_0 a3_1 = some r) :
  Calls Try.prog 81 #[.agg #[.int .i64 a0_0, .int .i64 a0_1], .agg #[.int .i64 a1_0, .int .i64 a1_1], .agg #[.int .i64 a2_0, .int .i64 a2_1], .agg #[.int .i64 a3_0, .int .i64 a3_1]] w fun e w' => e = .returned (.bool r) ∧ Below w.heap.size w w' := by
 have hu41 := Try.underlying41
 have HB := Aside0.mk (Below.refl w.heap.size w)
 have H : ((shape_on.f a0_0 a0_1 a1_0 a1_1 a2_0 a2_1).bind fun t105 => (if t105 = true then (shape_meet.j0 k true a0_0 a0_1 a1_0 a1_1 a2_0 a2_1 a3_0 a3_1) else ((shape_on.f a0_0 a0_1 a1_0 a1_1 a3_0 a3_1).bind fun t106 => (if t106 = true then (shape_meet.j0 k true a0_0 a0_1 a1_0 a1_1 a2_0 a2_1 a3_0 a3_1) else ((shape_on.f a2_0 a2_1 a3_0 a3_1 a0_0 a0_1).bind fun t107 => (if t107 = true then (shape_meet.j0 k true a0_0 a0_1 a1_0 a1_1 a2_0 a2_1 a3_0 a3_1) else ((shape_on.f a2_0 a2_1 a3_0 a3_1 a1_0 a1_1).bind fun t108 => (shape_meet.j0 k t108 a0_0 a0_1 a1_0 a1_1 a2_0 a2_1 a3_0 a3_1)))))))) = some r := h
 clear h
 have HC5 := Aside0.mk H
 clear H
 go_enter Try.func81, Try.ntmps81
 go_upto_region 1 with (first | ((with_reducible refine gate_dst (N := 4) rfl ?_); refine bxe 4 #[.int .i64 a0_0, .int .i64 a0_1] 41 ?_; intro gb101 hg w6 hbox hb; have BK101 := Aside0.mk (hbox); have GW101 := ga w hg; have GE101 := GW101; replace HB := bz hb; clear hb hbox hg) | ((with_reducible refine gate_dst (N := 5) rfl ?_); refine bxe 5 #[.int .i64 a1_0, .int .i64 a1_1] 41 ?_; intro gb102 hg w7 hbox hb; have BK102 := Aside0.mk (hbox); have GW102 := ga w hg; have GE102 := GW102; have NB101_102 := nb hg (kl BK101); have NB102_101 := bn NB101_102; replace BK101 := kb BK101 hb; replace HB := bz hb; clear hb hbox hg) | ((with_reducible refine gate_dst (N := 6) rfl ?_); refine bxe 6 #[.int .i64 a2_0, .int .i64 a2_1] 41 ?_; intro gb103 hg w8 hbox hb; have BK103 := Aside0.mk (hbox); have GW103 := ga w hg; have GE103 := GW103; have NB101_103 := nb hg (kl BK101); have NB103_101 := bn NB101_103; have NB102_103 := nb hg (kl BK102); have NB103_102 := bn NB102_103; replace BK101 := kb BK101 hb; replace BK102 := kb BK102 hb; replace HB := bz hb; clear hb hbox hg) | ((with_reducible refine gate_dst (N := 7) rfl ?_); refine bxe 7 #[.int .i64 a3_0, .int .i64 a3_1] 41 ?_; intro gb104 hg w9 hbox hb; have BK104 := Aside0.mk (hbox); have GW104 := ga w hg; have GE104 := GW104; have NB101_104 := nb hg (kl BK101); have NB104_101 := bn NB101_104; have NB102_104 := nb hg (kl BK102); have NB104_102 := bn NB102_104; have NB103_104 := nb hg (kl BK103); have NB104_103 := bn NB103_104; replace BK101 := kb BK101 hb; replace BK102 := kb BK102 hb; replace BK103 := kb BK103 hb; replace HB := bz hb; clear hb hbox hg))
 (try simp only [Act.put, List.setIfInBounds_toArray, List.set_cons_zero, List.set_cons_succ])
 go_cut [30] (fun v30 wc => ∃ (kq : Nat) (x30_4 : Bool), v30 = .bool x30_4 ∧ Aside0 (shape_meet.j0 kq x30_4 a0_0 a0_1 a1_0 a1_1 a2_0 a2_1 a3_0 a3_1 = some r) ∧ Aside0 (kq ≤ k) ∧ Aside0 (wc.heap[gb101]? = some (.cells #[.int .i64 a0_0, .int .i64 a0_1] 41 (0, 0))) ∧ Aside0 (wc.heap[gb102]? = some (.cells #[.int .i64 a1_0, .int .i64 a1_1] 41 (0, 0))) ∧ Aside0 (wc.heap[gb103]? = some (.cells #[.int .i64 a2_0, .int .i64 a2_1] 41 (0, 0))) ∧ Aside0 (wc.heap[gb104]? = some (.cells #[.int .i64 a3_0, .int .i64 a3_1] 41 (0, 0))) ∧ Aside0 (Below w.heap.size w wc))
 case first =>
  have H := HC5.out
  clear HC5
  replace H := Option.bind_eq_some_iff.mp H
  obtain ⟨t105, A100, H⟩ := H
  try dsimp only at H
  have A10 := Aside0.mk A100
  clear A100
  by_cases c11 : t105 = true
  ·subst c11
   rw [if_pos rfl] at H
   have H' := Aside0.mk H
   clear H
   have hnb12 := NB101_102.out
   have hnc12 := NB102_101.out
   have hnb13 := NB101_103.out
   have hnc13 := NB103_101.out
   have hnb14 := NB101_104.out
   have hnc14 := NB104_101.out
   obtain ⟨hcz15_0, hcz15_1, hfz15_0, hfz15_1⟩ := b2 BK101
   have hnb16 := NB102_103.out
   have hnc16 := NB103_102.out
   have hnb17 := NB102_104.out
   have hnc17 := NB104_102.out
   obtain ⟨hcz18_0, hcz18_1, hfz18_0, hfz18_1⟩ := b2 BK102
   have hnb19 := NB103_104.out
   have hnc19 := NB104_103.out
   obtain ⟨hcz20_0, hcz20_1, hfz20_0, hfz20_1⟩ := b2 BK103
   go_wp2_with (first | ((with_reducible refine gc 111 rfl ?_); refine goesL_ (some 12) rfl rfl Try.func111 (by kernel_rfl) rfl #[.agg #[.int .i64 a0_0, .int .i64 a0_1], .agg #[.int .i64 a1_0, .int .i64 a1_1], .agg #[.int .i64 a2_0, .int .i64 a2_1]] rfl sg ?_; (with_reducible refine (shape_on.calls a0_0 a0_1 a1_0 a1_1 a2_0 a2_1 true _ A10.out).mono ?_); rintro e w21 ⟨rfl, hb⟩; refine ⟨_, rfl, ?_⟩; replace BK101 := kb BK101 hb; replace BK102 := kb BK102 hb; replace BK103 := kb BK103 hb; replace BK104 := kb BK104 hb; replace HB := bz hb; (try clear hb)))
   go_meet
   case rel => exact ⟨_, (true), sd, H', ⟨om⟩, ⟨bk BK101⟩, ⟨bk BK102⟩, ⟨bk BK103⟩, ⟨bk BK104⟩, ⟨bh⟩⟩
  ·replace c11 := Bool.eq_false_iff.mpr c11
   subst c11
   rw [if_neg (show ¬ (false = true) by decide)] at H
   replace H := Option.bind_eq_some_iff.mp H
   obtain ⟨t106, A220, H⟩ := H
   try dsimp only at H
   have A22 := Aside0.mk A220
   clear A220
   by_cases c23 : t106 = true
   ·subst c23
    rw [if_pos rfl] at H
    have H' := Aside0.mk H
    clear H
    have hnb24 := NB101_102.out
    have hnc24 := NB102_101.out
    have hnb25 := NB101_103.out
    have hnc25 := NB103_101.out
    have hnb26 := NB101_104.out
    have hnc26 := NB104_101.out
    obtain ⟨hcz27_0, hcz27_1, hfz27_0, hfz27_1⟩ := b2 BK101
    have hnb28 := NB102_103.out
    have hnc28 := NB103_102.out
    have hnb29 := NB102_104.out
    have hnc29 := NB104_102.out
    obtain ⟨hcz30_0, hcz30_1, hfz30_0, hfz30_1⟩ := b2 BK102
    have hnb31 := NB103_104.out
    have hnc31 := NB104_103.out
    obtain ⟨hcz32_0, hcz32_1, hfz32_0, hfz32_1⟩ := b2 BK103
    go_wp2_with (first | ((with_reducible refine gc 111 rfl ?_); refine goesL_ (some 12) rfl rfl Try.func111 (by kernel_rfl) rfl #[.agg #[.int .i64 a0_0, .int .i64 a0_1], .agg #[.int .i64 a1_0, .int .i64 a1_1], .agg #[.int .i64 a2_0, .int .i64 a2_1]] rfl sg ?_; (with_reducible refine (shape_on.calls a0_0 a0_1 a1_0 a1_1 a2_0 a2_1 false _ A10.out).mono ?_); rintro e w33 ⟨rfl, hb⟩; refine ⟨_, rfl, ?_⟩; replace BK101 := kb BK101 hb; replace BK102 := kb BK102 hb; replace BK103 := kb BK103 hb; replace BK104 := kb BK104 hb; replace HB := bz hb; (try clear hb); obtain ⟨hcz34_0, hcz34_1, hfz34_0, hfz34_1⟩ := b2 BK101; obtain ⟨hcz35_0, hcz35_1, hfz35_0, hfz35_1⟩ := b2 BK102; obtain ⟨hcz36_0, hcz36_1, hfz36_0, hfz36_1⟩ := b2 BK104) | (go_at_call 111; (with_reducible refine (shape_on.calls a0_0 a0_1 a1_0 a1_1 a3_0 a3_1 true _ A22.out).mono ?_); rintro e w37 ⟨rfl, hb⟩; replace BK101 := kb BK101 hb; replace BK102 := kb BK102 hb; replace BK103 := kb BK103 hb; replace BK104 := kb BK104 hb; replace HB := bz hb; (try clear hb)))
    go_meet
    case rel => exact ⟨_, (true), sd, H', ⟨om⟩, ⟨bk BK101⟩, ⟨bk BK102⟩, ⟨bk BK103⟩, ⟨bk BK104⟩, ⟨bh⟩⟩
   ·replace c23 := Bool.eq_false_iff.mpr c23
    subst c23
    rw [if_neg (show ¬ (false = true) by decide)] at H
    replace H := Option.bind_eq_some_iff.mp H
    obtain ⟨t107, A380, H⟩ := H
    try dsimp only at H
    have A38 := Aside0.mk A380
    clear A380
    by_cases c39 : t107 = true
    ·subst c39
     rw [if_pos rfl] at H
     have H' := Aside0.mk H
     clear H
     have hnb40 := NB101_102.out
     have hnc40 := NB102_101.out
     have hnb41 := NB101_103.out
     have hnc41 := NB103_101.out
     have hnb42 := NB101_104.out
     have hnc42 := NB104_101.out
     obtain ⟨hcz43_0, hcz43_1, hfz43_0, hfz43_1⟩ := b2 BK101
     have hnb44 := NB102_103.out
     have hnc44 := NB103_102.out
     have hnb45 := NB102_104.out
     have hnc45 := NB104_102.out
     obtain ⟨hcz46_0, hcz46_1, hfz46_0, hfz46_1⟩ := b2 BK102
     have hnb47 := NB103_104.out
     have hnc47 := NB104_103.out
     obtain ⟨hcz48_0, hcz48_1, hfz48_0, hfz48_1⟩ := b2 BK103
     go_wp2_with (first | ((with_reducible refine gc 111 rfl ?_); refine goesL_ (some 12) rfl rfl Try.func111 (by kernel_rfl) rfl #[.agg #[.int .i64 a0_0, .int .i64 a0_1], .agg #[.int .i64 a1_0, .int .i64 a1_1], .agg #[.int .i64 a2_0, .int .i64 a2_1]] rfl sg ?_; (with_reducible refine (shape_on.calls a0_0 a0_1 a1_0 a1_1 a2_0 a2_1 false _ A10.out).mono ?_); rintro e w49 ⟨rfl, hb⟩; refine ⟨_, rfl, ?_⟩; replace BK101 := kb BK101 hb; replace BK102 := kb BK102 hb; replace BK103 := kb BK103 hb; replace BK104 := kb BK104 hb; replace HB := bz hb; (try clear hb); obtain ⟨hcz50_0, hcz50_1, hfz50_0, hfz50_1⟩ := b2 BK101; obtain ⟨hcz51_0, hcz51_1, hfz51_0, hfz51_1⟩ := b2 BK102; obtain ⟨hcz52_0, hcz52_1, hfz52_0, hfz52_1⟩ := b2 BK104) | (go_at_call 111; (with_reducible refine (shape_on.calls a0_0 a0_1 a1_0 a1_1 a3_0 a3_1 false _ A22.out).mono ?_); rintro e w53 ⟨rfl, hb⟩; replace BK101 := kb BK101 hb; replace BK102 := kb BK102 hb; replace BK103 := kb BK103 hb; replace BK104 := kb BK104 hb; replace HB := bz hb; (try clear hb); obtain ⟨hcz54_0, hcz54_1, hfz54_0, hfz54_1⟩ := b2 BK103; obtain ⟨hcz55_0, hcz55_1, hfz55_0, hfz55_1⟩ := b2 BK104; obtain ⟨hcz56_0, hcz56_1, hfz56_0, hfz56_1⟩ := b2 BK101) | (go_at_call 111; (with_reducible refine (shape_on.calls a2_0 a2_1 a3_0 a3_1 a0_0 a0_1 true _ A38.out).mono ?_); rintro e w57 ⟨rfl, hb⟩; replace BK101 := kb BK101 hb; replace BK102 := kb BK102 hb; replace BK103 := kb BK103 hb; replace BK104 := kb BK104 hb; replace HB := bz hb; (try clear hb)))
     go_meet
     case rel => exact ⟨_, (true), sd, H', ⟨om⟩, ⟨bk BK101⟩, ⟨bk BK102⟩, ⟨bk BK103⟩, ⟨bk BK104⟩, ⟨bh⟩⟩
    ·replace c39 := Bool.eq_false_iff.mpr c39
     subst c39
     rw [if_neg (show ¬ (false = true) by decide)] at H
     replace H := Option.bind_eq_some_iff.mp H
     obtain ⟨t108, A580, H⟩ := H
     try dsimp only at H
     have A58 := Aside0.mk A580
     clear A580
     have H' := Aside0.mk H
     clear H
     have hnb59 := NB101_102.out
     have hnc59 := NB102_101.out
     have hnb60 := NB101_103.out
     have hnc60 := NB103_101.out
     have hnb61 := NB101_104.out
     have hnc61 := NB104_101.out
     obtain ⟨hcz62_0, hcz62_1, hfz62_0, hfz62_1⟩ := b2 BK101
     have hnb63 := NB102_103.out
     have hnc63 := NB103_102.out
     have hnb64 := NB102_104.out
     have hnc64 := NB104_102.out
     obtain ⟨hcz65_0, hcz65_1, hfz65_0, hfz65_1⟩ := b2 BK102
     have hnb66 := NB103_104.out
     have hnc66 := NB104_103.out
     obtain ⟨hcz67_0, hcz67_1, hfz67_0, hfz67_1⟩ := b2 BK103
     go_wp2_with (first | ((with_reducible refine gc 111 rfl ?_); refine goesL_ (some 12) rfl rfl Try.func111 (by kernel_rfl) rfl #[.agg #[.int .i64 a0_0, .int .i64 a0_1], .agg #[.int .i64 a1_0, .int .i64 a1_1], .agg #[.int .i64 a2_0, .int .i64 a2_1]] rfl sg ?_; (with_reducible refine (shape_on.calls a0_0 a0_1 a1_0 a1_1 a2_0 a2_1 false _ A10.out).mono ?_); rintro e w68 ⟨rfl, hb⟩; refine ⟨_, rfl, ?_⟩; replace BK101 := kb BK101 hb; replace BK102 := kb BK102 hb; replace BK103 := kb BK103 hb; replace BK104 := kb BK104 hb; replace HB := bz hb; (try clear hb); obtain ⟨hcz69_0, hcz69_1, hfz69_0, hfz69_1⟩ := b2 BK101; obtain ⟨hcz70_0, hcz70_1, hfz70_0, hfz70_1⟩ := b2 BK102; obtain ⟨hcz71_0, hcz71_1, hfz71_0, hfz71_1⟩ := b2 BK104) | (go_at_call 111; (with_reducible refine (shape_on.calls a0_0 a0_1 a1_0 a1_1 a3_0 a3_1 false _ A22.out).mono ?_); rintro e w72 ⟨rfl, hb⟩; replace BK101 := kb BK101 hb; replace BK102 := kb BK102 hb; replace BK103 := kb BK103 hb; replace BK104 := kb BK104 hb; replace HB := bz hb; (try clear hb); obtain ⟨hcz73_0, hcz73_1, hfz73_0, hfz73_1⟩ := b2 BK103; obtain ⟨hcz74_0, hcz74_1, hfz74_0, hfz74_1⟩ := b2 BK104; obtain ⟨hcz75_0, hcz75_1, hfz75_0, hfz75_1⟩ := b2 BK101) | (go_at_call 111; (with_reducible refine (shape_on.calls a2_0 a2_1 a3_0 a3_1 a0_0 a0_1 false _ A38.out).mono ?_); rintro e w76 ⟨rfl, hb⟩; replace BK101 := kb BK101 hb; replace BK102 := kb BK102 hb; replace BK103 := kb BK103 hb; replace BK104 := kb BK104 hb; replace HB := bz hb; (try clear hb); obtain ⟨hcz77_0, hcz77_1, hfz77_0, hfz77_1⟩ := b2 BK103; obtain ⟨hcz78_0, hcz78_1, hfz78_0, hfz78_1⟩ := b2 BK104; obtain ⟨hcz79_0, hcz79_1, hfz79_0, hfz79_1⟩ := b2 BK102) | (go_at_call 111; (with_reducible refine (shape_on.calls a2_0 a2_1 a3_0 a3_1 a1_0 a1_1 t108 _ A58.out).mono ?_); rintro e w80 ⟨rfl, hb⟩; replace BK101 := kb BK101 hb; replace BK102 := kb BK102 hb; replace BK103 := kb BK103 hb; replace BK104 := kb BK104 hb; replace HB := bz hb; (try clear hb)))
     go_meet
     case rel => exact ⟨_, (t108), sd, H', ⟨om⟩, ⟨bk BK101⟩, ⟨bk BK102⟩, ⟨bk BK103⟩, ⟨bk BK104⟩, ⟨bh⟩⟩
 case rest =>
  clear HC5
  skip
  obtain ⟨kq, x30_4, rfl, HA, HJ4, BK101, BK102, BK103, BK104, HB⟩ := hcut
  cases kq with
  | zero => exact absurd HA.out (by simp [shape_meet.j0])
  | succ kj4 =>
   have H := HA.out
   clear HA
   simp only [shape_meet.j0] at H
   by_cases c81 : x30_4 = true
   ·subst c81
    rw [if_pos rfl] at H
    obtain rfl := Option.some.inj H
    go_wp2
    go_ret
    exact ⟨by exact er, bh⟩
   ·replace c81 := Bool.eq_false_iff.mpr c81
    subst c81
    rw [if_neg (show ¬ (false = true) by decide)] at H
    replace H := Option.bind_eq_some_iff.mp H
    obtain ⟨t109, A820, H⟩ := H
    try dsimp only at H
    have A82 := Aside0.mk A820
    clear A820
    replace H := Option.bind_eq_some_iff.mp H
    obtain ⟨t110, A830, H⟩ := H
    try dsimp only at H
    have A83 := Aside0.mk A830
    clear A830
    replace H := Option.bind_eq_some_iff.mp H
    obtain ⟨t111, A840, H⟩ := H
    try dsimp only at H
    have A84 := Aside0.mk A840
    clear A840
    replace H := Option.bind_eq_some_iff.mp H
    obtain ⟨t112, A850, H⟩ := H
    try dsimp only at H
    have A85 := Aside0.mk A850
    clear A850
    by_cases c86 : (wrap64 (t110 * t112)) < 0
    ·rw [if_pos c86] at H
     have c86b0 := decide_eq_true c86
     clear c86
     replace H := Option.bind_eq_some_iff.mp H
     obtain ⟨t113, A870, H⟩ := H
     try dsimp only at H
     have A87 := Aside0.mk A870
     clear A870
     replace H := Option.bind_eq_some_iff.mp H
     obtain ⟨t114, A880, H⟩ := H
     try dsimp only at H
     have A88 := Aside0.mk A880
     clear A880
     replace H := Option.bind_eq_some_iff.mp H
     obtain ⟨t115, A890, H⟩ := H
     try dsimp only at H
     have A89 := Aside0.mk A890
     clear A890
     replace H := Option.bind_eq_some_iff.mp H
     obtain ⟨t116, A900, H⟩ := H
     try dsimp only at H
     have A90 := Aside0.mk A900
     clear A900
     obtain rfl := Option.some.inj H
     try go_wp2
     replace BK101 := Aside0.mk (blk_drew BK101.out)
     replace BK102 := Aside0.mk (blk_drew BK102.out)
     replace BK103 := Aside0.mk (blk_drew BK103.out)
     replace BK104 := Aside0.mk (blk_drew BK104.out)
     replace HB := Aside0.mk (below_drew1 HB.out)
     refine start_ (n := 27) (S := fun w' => w'.cell? ⟨gb101, 0, none⟩ = some (.int .i64 a0_0) ∧ w'.cell? ⟨gb101, 1, none⟩ = some (.int .i64 a0_1) ∧ w'.cell? ⟨gb102, 0, none⟩ = some (.int .i64 a1_0) ∧ w'.cell? ⟨gb102, 1, none⟩ = some (.int .i64 a1_1) ∧ w'.cell? ⟨gb103, 0, none⟩ = some (.int .i64 a2_0) ∧ w'.cell? ⟨gb103, 1, none⟩ = some (.int .i64 a2_1) ∧ w'.cell? ⟨gb104, 0, none⟩ = some (.int .i64 a3_0) ∧ w'.cell? ⟨gb104, 1, none⟩ = some (.int .i64 a3_1)) (ds := []) #[N,N,N,N,N,N,N,N,N,N,N,N,N,N,N,N,N,N,N,N,N,N,N,N,N,N,N] (by kernel_rfl) rfl rfl ⟨bc BK101 0, bc BK101 1, bc BK102 0, bc BK102 1, bc BK103 0, bc BK103 1, bc BK104 0, bc BK104 1⟩ (fun hHeld => ?_); refine with_tabW shape_meet.tab3 shape_meet.bits3 (fun HT_ HW_ => ?_)
     generalize wc.drew = w91 at BK101 BK102 BK103 BK104 HB hHeld ⊢
     refine tk8 0 31 hHeld HT_ HW_ ?_
     refine tk8 1 32 hHeld HT_ HW_ ?_
     refine tk8 2 33 hHeld HT_ HW_ ?_
     refine tk8 5 36 hHeld HT_ HW_ ?_
     refine tk8 6 37 hHeld HT_ HW_ ?_
     refine tk8 7 38 hHeld HT_ HW_ ?_
     refine one_ (i := 3) (N := some 34) #[T,T,T,T,N,T,T,T,N,N,N,N,N,N,N,N,N,N,N,N,N,N,N,N,N,N,N] rfl rfl (on1 HT_) (by decide) (fun K hK => ?_)
     refine goes_ Try.func98 (by kernel_rfl) rfl #[.agg #[.int .i64 a0_0, .int .i64 a0_1], .agg #[.int .i64 a1_0, .int .i64 a1_1], .agg #[.int .i64 a2_0, .int .i64 a2_1]] (by rfl) rfl rfl sg ?_
     with_reducible refine (shape_side.calls a0_0 a0_1 a1_0 a1_1 a2_0 a2_1 t109 _ A82.out).mono ?_
     rintro e w92 ⟨rfl, hb⟩
     refine ⟨_, rfl, ?_⟩
     replace BK101 := kb BK101 hb
     replace BK102 := kb BK102 hb
     replace BK103 := kb BK103 hb
     replace BK104 := kb BK104 hb
     replace HB := bz hb
     (try clear hb)
     refine hK.out _ _ ⟨bc BK101 0, bc BK101 1, bc BK102 0, bc BK102 1, bc BK103 0, bc BK103 1, bc BK104 0, bc BK104 1⟩ (fun hHeld => ?_)
     clear hK K
     refine nm 34 ?_
     refine one_ (i := 4) (N := some 35) #[T,T,T,T,T,T,T,T,N,N,N,N,N,N,N,N,N,N,N,N,N,N,N,N,N,N,N] rfl rfl (on1 HT_) (by decide) (fun K hK => ?_)
     refine goes_ Try.func82 (by kernel_rfl) rfl #[.int .i64 t109] (by rfl) rfl rfl sg ?_
     with_reducible refine (shape_sign.calls t109 t110 _ A83.out).mono ?_
     rintro e w' ⟨rfl, ⟨nd, rfl⟩⟩
     refine ⟨_, rfl, ?_⟩
     refine hK.out _ _ ⟨bc BK101 0, bc BK101 1, bc BK102 0, bc BK102 1, bc BK103 0, bc BK103 1, bc BK104 0, bc BK104 1⟩ (fun hHeld => ?_)
     clear hK K
     refine nm 35 ?_
     refine one_ (i := 8) (N := some 39) #[T,T,T,T,T,T,T,T,T,N,N,N,N,N,N,N,N,N,N,N,N,N,N,N,N,N,N] rfl rfl (on1 HT_) (by decide) (fun K hK => ?_)
     refine goes_ Try.func98 (by kernel_rfl) rfl #[.agg #[.int .i64 a0_0, .int .i64 a0_1], .agg #[.int .i64 a1_0, .int .i64 a1_1], .agg #[.int .i64 a3_0, .int .i64 a3_1]] (by rfl) rfl rfl sg ?_
     with_reducible refine (shape_side.calls a0_0 a0_1 a1_0 a1_1 a3_0 a3_1 t111 _ A84.out).mono ?_
     rintro e w93 ⟨rfl, hb⟩
     refine ⟨_, rfl, ?_⟩
     replace BK101 := kb BK101 hb
     replace BK102 := kb BK102 hb
     replace BK103 := kb BK103 hb
     replace BK104 := kb BK104 hb
     replace HB := bz hb
     (try clear hb)
     refine hK.out _ _ ⟨bc BK101 0, bc BK101 1, bc BK102 0, bc BK102 1, bc BK103 0, bc BK103 1, bc BK104 0, bc BK104 1⟩ (fun hHeld => ?_)
     clear hK K
     refine nm 39 ?_
     refine one_ (i := 9) (N := some 40) #[T,T,T,T,T,T,T,T,T,T,N,N,N,N,N,N,N,N,N,N,N,N,N,N,N,N,N] rfl rfl (on1 HT_) (by decide) (fun K hK => ?_)
     refine goes_ Try.func82 (by kernel_rfl) rfl #[.int .i64 t111] (by rfl) rfl rfl sg ?_
     with_reducible refine (shape_sign.calls t111 t112 _ A85.out).mono ?_
     rintro e w' ⟨rfl, ⟨nd, rfl⟩⟩
     refine ⟨_, rfl, ?_⟩
     refine hK.out _ _ ⟨bc BK101 0, bc BK101 1, bc BK102 0, bc BK102 1, bc BK103 0, bc BK103 1, bc BK104 0, bc BK104 1⟩ (fun hHeld => ?_)
     clear hK K
     refine nm 40 ?_
     refine pu 10 41 HT_ ?_
     refine pu 11 42 HT_ ?_
     refine pu 12 43 HT_ ?_
     refine tk8 13 44 hHeld HT_ HW_ ?_
     refine tk8 14 45 hHeld HT_ HW_ ?_
     refine tk8 15 46 hHeld HT_ HW_ ?_
     refine tk8 18 49 hHeld HT_ HW_ ?_
     refine tk8 19 50 hHeld HT_ HW_ ?_
     refine tk8 20 51 hHeld HT_ HW_ ?_
     refine one_ (i := 16) (N := some 47) #[T,T,T,T,T,T,T,T,T,T,T,T,T,T,T,T,T,N,T,T,T,N,N,N,N,N,N] rfl rfl (on1 HT_) (by decide) (fun K hK => ?_)
     refine goes_ Try.func98 (by kernel_rfl) rfl #[.agg #[.int .i64 a2_0, .int .i64 a2_1], .agg #[.int .i64 a3_0, .int .i64 a3_1], .agg #[.int .i64 a0_0, .int .i64 a0_1]] (by rfl) rfl rfl sg ?_
     with_reducible refine (shape_side.calls a2_0 a2_1 a3_0 a3_1 a0_0 a0_1 t113 _ A87.out).mono ?_
     rintro e w94 ⟨rfl, hb⟩
     refine ⟨_, rfl, ?_⟩
     replace BK101 := kb BK101 hb
     replace BK102 := kb BK102 hb
     replace BK103 := kb BK103 hb
     replace BK104 := kb BK104 hb
     replace HB := bz hb
     (try clear hb)
     refine hK.out _ _ ⟨bc BK101 0, bc BK101 1, bc BK102 0, bc BK102 1, bc BK103 0, bc BK103 1, bc BK104 0, bc BK104 1⟩ (fun hHeld => ?_)
     clear hK K
     refine nm 47 ?_
     refine one_ (i := 17) (N := some 48) #[T,T,T,T,T,T,T,T,T,T,T,T,T,T,T,T,T,T,T,T,T,N,N,N,N,N,N] rfl rfl (on1 HT_) (by decide) (fun K hK => ?_)
     refine goes_ Try.func82 (by kernel_rfl) rfl #[.int .i64 t113] (by rfl) rfl rfl sg ?_
     with_reducible refine (shape_sign.calls t113 t114 _ A88.out).mono ?_
     rintro e w' ⟨rfl, ⟨nd, rfl⟩⟩
     refine ⟨_, rfl, ?_⟩
     refine hK.out _ _ ⟨bc BK101 0, bc BK101 1, bc BK102 0, bc BK102 1, bc BK103 0, bc BK103 1, bc BK104 0, bc BK104 1⟩ (fun hHeld => ?_)
     clear hK K
     refine nm 48 ?_
     refine one_ (i := 21) (N := some 52) #[T,T,T,T,T,T,T,T,T,T,T,T,T,T,T,T,T,T,T,T,T,T,N,N,N,N,N] rfl rfl (on1 HT_) (by decide) (fun K hK => ?_)
     refine goes_ Try.func98 (by kernel_rfl) rfl #[.agg #[.int .i64 a2_0, .int .i64 a2_1], .agg #[.int .i64 a3_0, .int .i64 a3_1], .agg #[.int .i64 a1_0, .int .i64 a1_1]] (by rfl) rfl rfl sg ?_
     with_reducible refine (shape_side.calls a2_0 a2_1 a3_0 a3_1 a1_0 a1_1 t115 _ A89.out).mono ?_
     rintro e w95 ⟨rfl, hb⟩
     refine ⟨_, rfl, ?_⟩
     replace BK101 := kb BK101 hb
     replace BK102 := kb BK102 hb
     replace BK103 := kb BK103 hb
     replace BK104 := kb BK104 hb
     replace HB := bz hb
     (try clear hb)
     refine hK.out _ _ ⟨bc BK101 0, bc BK101 1, bc BK102 0, bc BK102 1, bc BK103 0, bc BK103 1, bc BK104 0, bc BK104 1⟩ (fun hHeld => ?_)
     clear hK K
     refine nm 52 ?_
     refine one_ (i := 22) (N := some 53) #[T,T,T,T,T,T,T,T,T,T,T,T,T,T,T,T,T,T,T,T,T,T,T,N,N,N,N] rfl rfl (on1 HT_) (by decide) (fun K hK => ?_)
     refine goes_ Try.func82 (by kernel_rfl) rfl #[.int .i64 t115] (by rfl) rfl rfl sg ?_
     with_reducible refine (shape_sign.calls t115 t116 _ A90.out).mono ?_
     rintro e w' ⟨rfl, ⟨nd, rfl⟩⟩
     refine ⟨_, rfl, ?_⟩
     refine hK.out _ _ ⟨bc BK101 0, bc BK101 1, bc BK102 0, bc BK102 1, bc BK103 0, bc BK103 1, bc BK104 0, bc BK104 1⟩ (fun hHeld => ?_)
     clear hK K
     refine nm 53 ?_
     refine pu 23 54 HT_ ?_
     refine pu 24 55 HT_ ?_
     refine pu 25 56 HT_ ?_
     refine pu 26 8 HT_ ?_
     refine done_ (done_of HT_.out (by kernel_rfl)) ?_
     try go_wp2
     go_ret
     exact ⟨by exact er, bh⟩
    ·rw [if_neg c86] at H
     have c86b0 := decide_eq_false c86
     clear c86
     obtain rfl := Option.some.inj H
     try go_wp2
     replace BK101 := Aside0.mk (blk_drew BK101.out)
     replace BK102 := Aside0.mk (blk_drew BK102.out)
     replace BK103 := Aside0.mk (blk_drew BK103.out)
     replace BK104 := Aside0.mk (blk_drew BK104.out)
     replace HB := Aside0.mk (below_drew1 HB.out)
     refine start_ (n := 27) (S := fun w' => w'.cell? ⟨gb101, 0, none⟩ = some (.int .i64 a0_0) ∧ w'.cell? ⟨gb101, 1, none⟩ = some (.int .i64 a0_1) ∧ w'.cell? ⟨gb102, 0, none⟩ = some (.int .i64 a1_0) ∧ w'.cell? ⟨gb102, 1, none⟩ = some (.int .i64 a1_1) ∧ w'.cell? ⟨gb103, 0, none⟩ = some (.int .i64 a2_0) ∧ w'.cell? ⟨gb103, 1, none⟩ = some (.int .i64 a2_1) ∧ w'.cell? ⟨gb104, 0, none⟩ = some (.int .i64 a3_0) ∧ w'.cell? ⟨gb104, 1, none⟩ = some (.int .i64 a3_1)) (ds := []) #[N,N,N,N,N,N,N,N,N,N,N,N,N,N,N,N,N,N,N,N,N,N,N,N,N,N,N] (by kernel_rfl) rfl rfl ⟨bc BK101 0, bc BK101 1, bc BK102 0, bc BK102 1, bc BK103 0, bc BK103 1, bc BK104 0, bc BK104 1⟩ (fun hHeld => ?_); refine with_tabW shape_meet.tab3 shape_meet.bits3 (fun HT_ HW_ => ?_)
     generalize wc.drew = w96 at BK101 BK102 BK103 BK104 HB hHeld ⊢
     refine tk8 0 31 hHeld HT_ HW_ ?_
     refine tk8 1 32 hHeld HT_ HW_ ?_
     refine tk8 2 33 hHeld HT_ HW_ ?_
     refine tk8 5 36 hHeld HT_ HW_ ?_
     refine tk8 6 37 hHeld HT_ HW_ ?_
     refine tk8 7 38 hHeld HT_ HW_ ?_
     refine one_ (i := 3) (N := some 34) #[T,T,T,T,N,T,T,T,N,N,N,N,N,N,N,N,N,N,N,N,N,N,N,N,N,N,N] rfl rfl (on1 HT_) (by decide) (fun K hK => ?_)
     refine goes_ Try.func98 (by kernel_rfl) rfl #[.agg #[.int .i64 a0_0, .int .i64 a0_1], .agg #[.int .i64 a1_0, .int .i64 a1_1], .agg #[.int .i64 a2_0, .int .i64 a2_1]] (by rfl) rfl rfl sg ?_
     with_reducible refine (shape_side.calls a0_0 a0_1 a1_0 a1_1 a2_0 a2_1 t109 _ A82.out).mono ?_
     rintro e w97 ⟨rfl, hb⟩
     refine ⟨_, rfl, ?_⟩
     replace BK101 := kb BK101 hb
     replace BK102 := kb BK102 hb
     replace BK103 := kb BK103 hb
     replace BK104 := kb BK104 hb
     replace HB := bz hb
     (try clear hb)
     refine hK.out _ _ ⟨bc BK101 0, bc BK101 1, bc BK102 0, bc BK102 1, bc BK103 0, bc BK103 1, bc BK104 0, bc BK104 1⟩ (fun hHeld => ?_)
     clear hK K
     refine nm 34 ?_
     refine one_ (i := 4) (N := some 35) #[T,T,T,T,T,T,T,T,N,N,N,N,N,N,N,N,N,N,N,N,N,N,N,N,N,N,N] rfl rfl (on1 HT_) (by decide) (fun K hK => ?_)
     refine goes_ Try.func82 (by kernel_rfl) rfl #[.int .i64 t109] (by rfl) rfl rfl sg ?_
     with_reducible refine (shape_sign.calls t109 t110 _ A83.out).mono ?_
     rintro e w' ⟨rfl, ⟨nd, rfl⟩⟩
     refine ⟨_, rfl, ?_⟩
     refine hK.out _ _ ⟨bc BK101 0, bc BK101 1, bc BK102 0, bc BK102 1, bc BK103 0, bc BK103 1, bc BK104 0, bc BK104 1⟩ (fun hHeld => ?_)
     clear hK K
     refine nm 35 ?_
     refine one_ (i := 8) (N := some 39) #[T,T,T,T,T,T,T,T,T,N,N,N,N,N,N,N,N,N,N,N,N,N,N,N,N,N,N] rfl rfl (on1 HT_) (by decide) (fun K hK => ?_)
     refine goes_ Try.func98 (by kernel_rfl) rfl #[.agg #[.int .i64 a0_0, .int .i64 a0_1], .agg #[.int .i64 a1_0, .int .i64 a1_1], .agg #[.int .i64 a3_0, .int .i64 a3_1]] (by rfl) rfl rfl sg ?_
     with_reducible refine (shape_side.calls a0_0 a0_1 a1_0 a1_1 a3_0 a3_1 t111 _ A84.out).mono ?_
     rintro e w98 ⟨rfl, hb⟩
     refine ⟨_, rfl, ?_⟩
     replace BK101 := kb BK101 hb
     replace BK102 := kb BK102 hb
     replace BK103 := kb BK103 hb
     replace BK104 := kb BK104 hb
     replace HB := bz hb
     (try clear hb)
     refine hK.out _ _ ⟨bc BK101 0, bc BK101 1, bc BK102 0, bc BK102 1, bc BK103 0, bc BK103 1, bc BK104 0, bc BK104 1⟩ (fun hHeld => ?_)
     clear hK K
     refine nm 39 ?_
     refine one_ (i := 9) (N := some 40) #[T,T,T,T,T,T,T,T,T,T,N,N,N,N,N,N,N,N,N,N,N,N,N,N,N,N,N] rfl rfl (on1 HT_) (by decide) (fun K hK => ?_)
     refine goes_ Try.func82 (by kernel_rfl) rfl #[.int .i64 t111] (by rfl) rfl rfl sg ?_
     with_reducible refine (shape_sign.calls t111 t112 _ A85.out).mono ?_
     rintro e w' ⟨rfl, ⟨nd, rfl⟩⟩
     refine ⟨_, rfl, ?_⟩
     refine hK.out _ _ ⟨bc BK101 0, bc BK101 1, bc BK102 0, bc BK102 1, bc BK103 0, bc BK103 1, bc BK104 0, bc BK104 1⟩ (fun hHeld => ?_)
     clear hK K
     refine nm 40 ?_
     refine pu 10 41 HT_ ?_
     refine pu 11 42 HT_ ?_
     refine pu 12 43 HT_ ?_
     refine pz 13 44 HT_ ?_
     refine pz 14 45 HT_ ?_
     refine pz 15 46 HT_ ?_
     refine pz 16 47 HT_ ?_
     refine pz 17 48 HT_ ?_
     refine pz 18 49 HT_ ?_
     refine pz 19 50 HT_ ?_
     refine pz 20 51 HT_ ?_
     refine pz 21 52 HT_ ?_
     refine pz 22 53 HT_ ?_
     refine pz 23 54 HT_ ?_
     refine pz 24 55 HT_ ?_
     refine pu 25 56 HT_ ?_
     refine pu 26 8 HT_ ?_
     refine done_ (done_of HT_.out (by kernel_rfl)) ?_
     try go_wp2
     go_ret
     exact ⟨by exact er, bh⟩
end Go.Proofs.Ythehmkpcddafnaa.PG
end
