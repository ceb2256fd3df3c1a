/- Parts of the proof: printed walks, their words, and plain laws. -/
import Derived.Test.YtoffmpkgickfhaaQB1
import Derived.Test.YtoffmpkgickfhaaQB4
import Derived.Test.YtoffmpkgickfhaaQB3
import Derived.Test.YtoffmpkgickfhaaQB2
import Derived.Deep.SlicePairs
import Derived.Lib.SmallJoins
import Derived.WalkKit
import Derived.ProofKit
import Derived.OpenShut
import Derived.ShutString
import Derived.ChangeOld
import Derived.Below
import Derived.SizedLaws
section
namespace Go.Proofs.Ytoffmpkgickfhaa.PG
open Go.RowKit Go.Proofs.YtoffmpkgickfhaaW.PrintWords Go.Proofs.YtoffmpkgickfhaaW.PrintLast Go.Proofs.YtoffmpkgickfhaaW.PrintMore
attribute [local go_sem] max2_int min2_int max_two min_two max_three min_three max_four min_four
set_option linter.unusedVariables false
set_option linter.unusedSimpArgs false
attribute [local go_sem high] eqA29
/-! ### cracknelref04_Simple: function 22 -/
mutual
def cracknelref04_Simple.l0 : Nat → List (S29) → Int → Int → Option (Bool)
 | 0, _, _, _ => none
 | k + 1, x0, x3, x4 => if x4 < x3 then (if 0 ≤ x4 then (if x4 < (x0.length : Int) then ((cracknelref04_next.f x0 x4).bind fun bt102 => (if (((rd_T29 x0 x4).f0) == bt102.1 && (((rd_T29 x0 x4).f1) == bt102.2)) = true then (some false) else (cracknelref04_Simple.l0 k x0 x3 (wrap64 (x4 + 1))))) else (none)) else (none)) else (cracknelref04_Simple.l1 k x0 x3 0)
def cracknelref04_Simple.l1 : Nat → List (S29) → Int → Int → Option (Bool)
 | 0, _, _, _ => none
 | k + 1, x0, x3, x5 => if x5 < x3 then (if 0 ≤ x5 then (if x5 < (x0.length : Int) then ((cracknelref04_next.f x0 x5).bind fun bt105 => ((cracknelref04_next.f x0 (wrap64 (x5 + 1))).bind fun bt109 => ((cracknelref04_On.f ((rd_T29 x0 x5).f0) ((rd_T29 x0 x5).f1) bt105.1 bt105.2 bt109.1 bt109.2).bind fun t112 => (if t112 = true then (cracknelref04_Simple.j2 k x0 x3 x5 true ((rd_T29 x0 x5).f0) ((rd_T29 x0 x5).f1) bt105.1 bt105.2) else ((cracknelref04_On.f bt105.1 bt105.2 bt109.1 bt109.2 ((rd_T29 x0 x5).f0) ((rd_T29 x0 x5).f1)).bind fun t113 => (cracknelref04_Simple.j2 k x0 x3 x5 t113 ((rd_T29 x0 x5).f0) ((rd_T29 x0 x5).f1) bt105.1 bt105.2)))))) else (none)) else (none)) else (some true)
def cracknelref04_Simple.j2 : Nat → List (S29) → Int → Int → Bool → Int → Int → Int → Int → Option (Bool)
 | 0, _, _, _, _, _, _, _, _ => none
 | k + 1, x0, x3, x5, x50, x108000, x108001, x109000, x109001 => if x50 = true then (some false) else (cracknelref04_Simple.l2 k x0 x3 x5 (wrap64 (x5 + 2)) x108000 x108001 x109000 x109001)
def cracknelref04_Simple.l2 : Nat → List (S29) → Int → Int → Int → Int → Int → Int → Int → Option (Bool)
 | 0, _, _, _, _, _, _, _, _ => none
 | k + 1, x0, x3, x5, x9, x108000, x108001, x109000, x109001 => if x9 < x3 then (if x3 = 0 then (none) else (if (Int.tmod (wrap64 (x9 + 1)) x3) = x5 then (cracknelref04_Simple.l2 k x0 x3 x5 (wrap64 (x9 + 1)) x108000 x108001 x109000 x109001) else (if 0 ≤ x9 then (if x9 < (x0.length : Int) then ((cracknelref04_next.f x0 x9).bind fun bt115 => ((cracknelref04_Meet.f k x108000 x108001 x109000 x109001 ((rd_T29 x0 x9).f0) ((rd_T29 x0 x9).f1) bt115.1 bt115.2).bind fun t117 => (if t117 = true then (some false) else (cracknelref04_Simple.l2 k x0 x3 x5 (wrap64 (x9 + 1)) x108000 x108001 x109000 x109001)))) else (none)) else (none)))) else (cracknelref04_Simple.l1 k x0 x3 (wrap64 (x5 + 1)))
end
def cracknelref04_Simple.f (k : Nat) (l0 : List (S29)) : Option (Bool) := cracknelref04_Simple.l0 k l0 (l0.length : Int) 0
theorem cracknelref04_Simple.mono_l : ∀ k, (∀ y0 y1 y2, LeO (cracknelref04_Simple.l0 k y0 y1 y2) (cracknelref04_Simple.l0 (k + 1) y0 y1 y2)) ∧ (∀ y0 y1 y2, LeO (cracknelref04_Simple.l1 k y0 y1 y2) (cracknelref04_Simple.l1 (k + 1) y0 y1 y2)) ∧ (∀ y0 y1 y2 y3 y4 y5 y6 y7, LeO (cracknelref04_Simple.j2 k y0 y1 y2 y3 y4 y5 y6 y7) (cracknelref04_Simple.j2 (k + 1) y0 y1 y2 y3 y4 y5 y6 y7)) ∧ (∀ y0 y1 y2 y3 y4 y5 y6 y7, LeO (cracknelref04_Simple.l2 k y0 y1 y2 y3 y4 y5 y6 y7) (cracknelref04_Simple.l2 (k + 1) y0 y1 y2 y3 y4 y5 y6 y7))
 | 0 => ⟨fun _ _ _ r h => by simp [cracknelref04_Simple.l0] at h, fun _ _ _ r h => by simp [cracknelref04_Simple.l1] at h, fun _ _ _ _ _ _ _ _ r h => by simp [cracknelref04_Simple.j2] at h, fun _ _ _ _ _ _ _ _ r h => by simp [cracknelref04_Simple.l2] at h⟩
 | k + 1 => by
  obtain ⟨ih0, ih1, ih2, ih3⟩ := cracknelref04_Simple.mono_l k
  refine ⟨?_, ?_, ?_, ?_⟩
  ·intro y0 y1 y2
   unfold cracknelref04_Simple.l0
   repeat' first
   | (with_reducible exact ih0 _ _ _)
   | (with_reducible exact ih1 _ _ _)
   | (with_reducible exact ih2 _ _ _ _ _ _ _ _)
   | (with_reducible exact ih3 _ _ _ _ _ _ _ _)
   | (with_reducible exact cracknelref04_Meet.mono _ _ _ _ _ _ _ _ _)
   | (with_reducible exact LeO.refl _)
   | (with_reducible exact LeO.none _)
   | (with_reducible refine LeO.ite ?_ ?_)
   | (with_reducible refine LeO.bind ?_ (fun _ => ?_))
   | exact ih0 _ _ _
   | exact ih1 _ _ _
   | exact ih2 _ _ _ _ _ _ _ _
   | exact ih3 _ _ _ _ _ _ _ _
   | exact cracknelref04_Meet.mono _ _ _ _ _ _ _ _ _
   | exact LeO.none _
   | refine LeO.ite ?_ ?_
   | refine LeO.bind ?_ (fun _ => ?_)
  ·intro y0 y1 y2
   unfold cracknelref04_Simple.l1
   repeat' first
   | (with_reducible exact ih0 _ _ _)
   | (with_reducible exact ih1 _ _ _)
   | (with_reducible exact ih2 _ _ _ _ _ _ _ _)
   | (with_reducible exact ih3 _ _ _ _ _ _ _ _)
   | (with_reducible exact cracknelref04_Meet.mono _ _ _ _ _ _ _ _ _)
   | (with_reducible exact LeO.refl _)
   | (with_reducible exact LeO.none _)
   | (with_reducible refine LeO.ite ?_ ?_)
   | (with_reducible refine LeO.bind ?_ (fun _ => ?_))
   | exact ih0 _ _ _
   | exact ih1 _ _ _
   | exact ih2 _ _ _ _ _ _ _ _
   | exact ih3 _ _ _ _ _ _ _ _
   | exact cracknelref04_Meet.mono _ _ _ _ _ _ _ _ _
   | exact LeO.none _
   | refine LeO.ite ?_ ?_
   | refine LeO.bind ?_ (fun _ => ?_)
  ·intro y0 y1 y2 y3 y4 y5 y6 y7
   unfold cracknelref04_Simple.j2
   repeat' first
   | (with_reducible exact ih0 _ _ _)
   | (with_reducible exact ih1 _ _ _)
   | (with_reducible exact ih2 _ _ _ _ _ _ _ _)
   | (with_reducible exact ih3 _ _ _ _ _ _ _ _)
   | (with_reducible exact cracknelref04_Meet.mono _ _ _ _ _ _ _ _ _)
   | (with_reducible exact LeO.refl _)
   | (with_reducible exact LeO.none _)
   | (with_reducible refine LeO.ite ?_ ?_)
   | (with_reducible refine LeO.bind ?_ (fun _ => ?_))
   | exact ih0 _ _ _
   | exact ih1 _ _ _
   | exact ih2 _ _ _ _ _ _ _ _
   | exact ih3 _ _ _ _ _ _ _ _
   | exact cracknelref04_Meet.mono _ _ _ _ _ _ _ _ _
   | exact LeO.none _
   | refine LeO.ite ?_ ?_
   | refine LeO.bind ?_ (fun _ => ?_)
  ·intro y0 y1 y2 y3 y4 y5 y6 y7
   unfold cracknelref04_Simple.l2
   repeat' first
   | (with_reducible exact ih0 _ _ _)
   | (with_reducible exact ih1 _ _ _)
   | (with_reducible exact ih2 _ _ _ _ _ _ _ _)
   | (with_reducible exact ih3 _ _ _ _ _ _ _ _)
   | (with_reducible exact cracknelref04_Meet.mono _ _ _ _ _ _ _ _ _)
   | (with_reducible exact LeO.refl _)
   | (with_reducible exact LeO.none _)
   | (with_reducible refine LeO.ite ?_ ?_)
   | (with_reducible refine LeO.bind ?_ (fun _ => ?_))
   | exact ih0 _ _ _
   | exact ih1 _ _ _
   | exact ih2 _ _ _ _ _ _ _ _
   | exact ih3 _ _ _ _ _ _ _ _
   | exact cracknelref04_Meet.mono _ _ _ _ _ _ _ _ _
   | exact LeO.none _
   | refine LeO.ite ?_ ?_
   | refine LeO.bind ?_ (fun _ => ?_)
theorem cracknelref04_Simple.mono : ∀ a0 k, LeO (cracknelref04_Simple.f k a0) (cracknelref04_Simple.f (k + 1) a0) := by
 intro a0 k
 obtain ⟨ih0, ih1, ih2, ih3⟩ := cracknelref04_Simple.mono_l k
 unfold cracknelref04_Simple.f
 repeat' first
  | (with_reducible exact ih0 _ _ _)
  | (with_reducible exact ih1 _ _ _)
  | (with_reducible exact ih2 _ _ _ _ _ _ _ _)
  | (with_reducible exact ih3 _ _ _ _ _ _ _ _)
  | (with_reducible exact cracknelref04_Meet.mono _ _ _ _ _ _ _ _ _)
  | (with_reducible exact LeO.refl _)
  | (with_reducible exact LeO.none _)
  | (with_reducible refine LeO.ite ?_ ?_)
  | (with_reducible refine LeO.bind ?_ (fun _ => ?_))
  | exact ih0 _ _ _
  | exact ih1 _ _ _
  | exact ih2 _ _ _ _ _ _ _ _
  | exact ih3 _ _ _ _ _ _ _ _
  | exact cracknelref04_Meet.mono _ _ _ _ _ _ _ _ _
  | exact LeO.none _
  | refine LeO.ite ?_ ?_
  | refine LeO.bind ?_ (fun _ => ?_)
def cracknelref04_Simple.T5 : Bool × List (List Nat × List Nat) := (true, [([], []), ([], []), ([0, 1], [0, 1]), ([2], [2]), ([], []), ([], []), ([4, 5], [4, 5]), ([3, 6], [3, 6])])
def cracknelref04_Simple.B5 : List Nat := [0, 0, 3, 7, 0, 0, 48, 127]
theorem cracknelref04_Simple.tab5 : rtab .any (opsOf Try.f22 5) = cracknelref04_Simple.T5 := by kernel_rfl
theorem cracknelref04_Simple.bits5 : waitsOk cracknelref04_Simple.T5.2 cracknelref04_Simple.B5 = true := by kernel_rfl
def cracknelref04_Simple.T10 : Bool × List (List Nat × List Nat) := (true, [([], []), ([], []), ([0, 1], [0, 1]), ([2], [2]), ([], []), ([], []), ([4, 5], [4, 5]), ([], []), ([], []), ([7, 3, 6, 0, 1, 2, 3, 7, 8], [3, 7]), ([8, 6, 9, 0, 1, 2, 3, 4, 5, 6, 7, 8, 9], [6, 8])])
def cracknelref04_Simple.B10 : List Nat := [0, 0, 3, 7, 0, 0, 48, 0, 0, 511, 1023]
theorem cracknelref04_Simple.tab10 : rtab .any (opsOf Try.f22 10) = cracknelref04_Simple.T10 := by kernel_rfl
theorem cracknelref04_Simple.bits10 : waitsOk cracknelref04_Simple.T10.2 cracknelref04_Simple.B10 = true := by kernel_rfl
def cracknelref04_Simple.T17 : Bool × List (List Nat × List Nat) := (true, [([], []), ([0], [0]), ([], []), ([1, 2], [1, 2]), ([], []), ([3, 4], [3, 4]), ([5], [5]), ([6], [6]), ([6], [6]), ([6], [6]), ([6], [6]), ([9, 10, 6], [6, 9, 10]), ([11, 6], [6, 11]), ([6], [6]), ([6], [6]), ([13, 14, 6, 6], [6, 13, 14]), ([7, 8, 12, 15, 15, 6], [6, 7, 8, 12, 15]), ([6, 16], [6, 16])])
def cracknelref04_Simple.B17 : List Nat := [0, 1, 0, 7, 0, 31, 63, 127, 127, 127, 127, 1663, 3711, 127, 127, 24703, 65535, 131071]
theorem cracknelref04_Simple.tab17 : rtab .any (opsOf Try.f22 17) = cracknelref04_Simple.T17 := by kernel_rfl
theorem cracknelref04_Simple.bits17 : waitsOk cracknelref04_Simple.T17.2 cracknelref04_Simple.B17 = true := by kernel_rfl
set_option maxHeartbeats 8000000 in
set_option maxRecDepth 100000 in
theorem cracknelref04_Simple.calls (k : Nat) (A0 : Option Addr) (c0 : Nat) (l0 : List (S29)) (r : Bool) (w : World) (hr0 : Kd.C k29 w A0 l0.length l0) (hc0 : l0.length ≤ c0) (h : cracknelref04_Simple.f k l0 = some r) :
  Calls Try.prog 22 #[.slice A0 l0.length c0] w fun e w' => e = .returned (.bool r) ∧ Below w.heap.size w w' := by
 have hu29 := Try.underlying29
 have HR0 := Aside0.mk hr0
 have HC0 := Aside0.mk hc0
 clear hr0 hc0
 have HB := Aside0.mk (Below.refl w.heap.size w)
 have H : (cracknelref04_Simple.l0 k l0 (l0.length : Int) 0) = some r := h
 clear h
 have H' := Aside0.mk H
 clear H
 go_enter Try.func22, Try.ntmps22
 go_wp2
 go_loopg [4] k (fun kq v4 w' => ∃ (x4_1 : Int), v4 = .int .i64 x4_1 ∧ Aside0 (cracknelref04_Simple.l0 kq l0 (l0.length : Int) x4_1 = some r) ∧ Aside0 (kq ≤ k) ∧ Aside0 (Below w.heap.size w w'))
 case atStart => exact ⟨(0), sd, H', ⟨Nat.le_refl _⟩, ⟨bh⟩⟩
 case round =>
  clear H'
  obtain ⟨x4_1, rfl, HA, HK1, HB⟩ := hrel
  cases gk with
  | zero => exact absurd HA.out (by simp [cracknelref04_Simple.l0])
  | succ k1 =>
   have H := HA.out
   clear HA
   simp only [cracknelref04_Simple.l0] at H
   by_cases c2 : x4_1 < (l0.length : Int)
   ·rw [if_pos c2] at H
    have c2b0 : decide (x4_1 < (l0.length : Int)) = true := decide_eq_true c2
    clear c2
    by_cases c3 : 0 ≤ x4_1
    ·rw [if_pos c3] at H
     have c3b0 : decide (0 ≤ x4_1) = true := decide_eq_true c3
     clear c3
     by_cases c4 : x4_1 < (l0.length : Int)
     ·rw [if_pos c4] at H
      have c4b0 : decide (x4_1 < (l0.length : Int)) = true := decide_eq_true c4
      clear c4
      replace H := Option.bind_eq_some_iff.mp H
      obtain ⟨⟨t102, t103⟩, A50, H⟩ := H
      replace H : (if (((rd_T29 l0 x4_1).f0) == t102 && (((rd_T29 l0 x4_1).f1) == t103)) = true then (some false) else (cracknelref04_Simple.l0 k1 l0 (l0.length : Int) (wrap64 (x4_1 + 1)))) = some r := H
      have A5 := Aside0.mk A50
      clear A50
      by_cases c6 : (((rd_T29 l0 x4_1).f0) == t102 && (((rd_T29 l0 x4_1).f1) == t103)) = true
      ·rw [if_pos c6] at H
       have c6b0 : (((rd_T29 l0 x4_1).f0) == t102 && (((rd_T29 l0 x4_1).f1) == t103)) = true := c6
       (try (have c6b1 : decide (((rd_T29 l0 x4_1).f0) = t102 && (((rd_T29 l0 x4_1).f1) == t103)) = true := by simpa using c6))
       (try (have c6b2 : (((rd_T29 l0 x4_1).f0) == t102 && (((rd_T29 l0 x4_1).f1) == t103)) = true := by simpa using c6))
       clear c6
       obtain rfl := Option.some.inj H
       try go_wp2
       replace HB := Aside0.mk (below_drew1 HB.out)
       have p101 : 0 ≤ (x4_1 : Int) := dt
       have q101 : x4_1 < (l0.length : Int) := dt
       obtain ⟨ad101, e101, hx101_0, hx101_1⟩ := at_T29 HR0.out x4_1 p101 q101
       have hw101_1 := hx101_1
       have hw101_0 := hx101_0
       cases e101
       replace hx101_0 := hc HB hx101_0
       replace hx101_1 := hc HB hx101_1
       replace p101 := eq_true p101
       replace q101 := eq_true q101
       refine start_ (n := 8) (S := fun w' => w'.cell? (ad101.add ((x4_1).toNat * 2)) = some (.int .i64 ((rd_T29 l0 x4_1).f0)) ∧ w'.cell? ⟨(ad101.add ((x4_1).toNat * 2)).block, (ad101.add ((x4_1).toNat * 2)).off + 1, none⟩ = some (.int .i64 ((rd_T29 l0 x4_1).f1))) (ds := []) #[false, false, false, false, false, false, false, false] (by kernel_rfl) rfl rfl ⟨(hc HB hw101_0), (hc HB hw101_1)⟩ (fun hHeld => ?_); refine with_tabW cracknelref04_Simple.tab5 cracknelref04_Simple.bits5 (fun HT_ HW_ => ?_)
       generalize wr.drew = w7 at HB hx101_0 hx101_1 hHeld ⊢
       refine pu 0 17 HT_ ?_
       refine pu 1 18 HT_ ?_
       refine pu 2 19 HT_ ?_
       refine pu 4 21 HT_ ?_
       refine pu 5 22 HT_ ?_
       refine tk2 3 20 hHeld HT_ HW_ ?_
       refine one_ (i := 6) (N := some 23) #[true, true, true, true, true, true, true, false] rfl rfl (on1 HT_) (by decide) (fun K hK => ?_)
       refine goes_ Try.func64 (by kernel_rfl) rfl #[.slice (some ad101) l0.length c0, .int .i64 x4_1] (by rfl) rfl rfl sg ?_
       with_reducible refine (cracknelref04_next.calls _ _ l0 x4_1 t102 t103 _ ?side1 ?side2 A5.out).mono ?_
       (case side1 => exact cs (Kd.C_below HR0.out HB.out))
       (case side2 => exact HC0.out)
       rintro e w8 ⟨rfl, hb⟩
       refine ⟨_, rfl, ?_⟩
       replace HB := Aside0.mk (below_step bh hb)
       (try clear hb); (try clear hb2); (try clear hk); (try clear hi)
       refine hK.out _ _ ⟨(hc HB hw101_0), (hc HB hw101_1)⟩ (fun hHeld => ?_)
       clear hK K
       refine nm 23 ?_
       refine pu 7 24 HT_ ?_
       refine done_ (done_of HT_.out (by kernel_rfl)) ?_
       try go_wp2
       go_ret
       exact ⟨by exact er, bh⟩
      ·rw [if_neg c6] at H
       have c6b0 : (((rd_T29 l0 x4_1).f0) == t102 && (((rd_T29 l0 x4_1).f1) == t103)) = false := by simpa using c6
       (try (have c6b1 : decide (((rd_T29 l0 x4_1).f0) = t102 && (((rd_T29 l0 x4_1).f1) == t103)) = false := by simpa using c6))
       (try (have c6b2 : (((rd_T29 l0 x4_1).f0) == t102 && (((rd_T29 l0 x4_1).f1) == t103)) = false := by simpa using c6))
       (try (have c6b3 : ¬ (((rd_T29 l0 x4_1).f0) = t102 && (((rd_T29 l0 x4_1).f1) == t103)) := by simpa using c6))
       clear c6
       have H' := Aside0.mk H
       clear H
       try go_wp2
       replace HB := Aside0.mk (below_drew1 HB.out)
       have p101 : 0 ≤ (x4_1 : Int) := dt
       have q101 : x4_1 < (l0.length : Int) := dt
       obtain ⟨ad101, e101, hx101_0, hx101_1⟩ := at_T29 HR0.out x4_1 p101 q101
       have hw101_1 := hx101_1
       have hw101_0 := hx101_0
       cases e101
       replace hx101_0 := hc HB hx101_0
       replace hx101_1 := hc HB hx101_1
       replace p101 := eq_true p101
       replace q101 := eq_true q101
       refine start_ (n := 8) (S := fun w' => w'.cell? (ad101.add ((x4_1).toNat * 2)) = some (.int .i64 ((rd_T29 l0 x4_1).f0)) ∧ w'.cell? ⟨(ad101.add ((x4_1).toNat * 2)).block, (ad101.add ((x4_1).toNat * 2)).off + 1, none⟩ = some (.int .i64 ((rd_T29 l0 x4_1).f1))) (ds := []) #[false, false, false, false, false, false, false, false] (by kernel_rfl) rfl rfl ⟨(hc HB hw101_0), (hc HB hw101_1)⟩ (fun hHeld => ?_); refine with_tabW cracknelref04_Simple.tab5 cracknelref04_Simple.bits5 (fun HT_ HW_ => ?_)
       generalize wr.drew = w9 at HB hx101_0 hx101_1 hHeld ⊢
       refine pu 0 17 HT_ ?_
       refine pu 1 18 HT_ ?_
       refine pu 2 19 HT_ ?_
       refine pu 4 21 HT_ ?_
       refine pu 5 22 HT_ ?_
       refine tk2 3 20 hHeld HT_ HW_ ?_
       refine one_ (i := 6) (N := some 23) #[true, true, true, true, true, true, true, false] rfl rfl (on1 HT_) (by decide) (fun K hK => ?_)
       refine goes_ Try.func64 (by kernel_rfl) rfl #[.slice (some ad101) l0.length c0, .int .i64 x4_1] (by rfl) rfl rfl sg ?_
       with_reducible refine (cracknelref04_next.calls _ _ l0 x4_1 t102 t103 _ ?side1 ?side2 A5.out).mono ?_
       (case side1 => exact cs (Kd.C_below HR0.out HB.out))
       (case side2 => exact HC0.out)
       rintro e w10 ⟨rfl, hb⟩
       refine ⟨_, rfl, ?_⟩
       replace HB := Aside0.mk (below_step bh hb)
       (try clear hb); (try clear hb2); (try clear hk); (try clear hi)
       refine hK.out _ _ ⟨(hc HB hw101_0), (hc HB hw101_1)⟩ (fun hHeld => ?_)
       clear hK K
       refine nm 23 ?_
       refine pu 7 24 HT_ ?_
       refine done_ (done_of HT_.out (by kernel_rfl)) ?_
       try go_wp2
       go_roundg k1
       case measure => have := HK1.out; omega
       case rel => exact ⟨(wrap64 (x4_1 + 1)), sd, H', ⟨by have := HK1.out; omega⟩, ⟨bh⟩⟩
     ·rw [if_neg c4] at H
      exact absurd H (by simp)
    ·rw [if_neg c3] at H
     exact absurd H (by simp)
   ·rw [if_neg c2] at H
    have c2b0 : decide (x4_1 < (l0.length : Int)) = false := decide_eq_false c2
    clear c2
    have H' := Aside0.mk H
    clear H
    go_wp2
    go_loopg [5] k1 (fun kq v5 w' => ∃ (x5_2 : Int), v5 = .int .i64 x5_2 ∧ Aside0 (cracknelref04_Simple.l1 kq l0 (l0.length : Int) x5_2 = some r) ∧ Aside0 (kq ≤ k1) ∧ Aside0 (Below w.heap.size w w'))
    case atStart => exact ⟨(0), sd, H', ⟨Nat.le_refl _⟩, ⟨bh⟩⟩
    case round =>
     clear H'
     try clear p1
     try clear q1
     try clear hx1
     try clear c2
     try clear c2b0
     try clear p2
     try clear c3
     try clear c3b0
     try clear c4
     try clear c4b0
     try clear c6
     try clear c6b0
     try clear c6b1
     try clear c6b2
     try clear p6
     try clear p10
     try clear q10
     try clear hx10
     try clear hx101_0
     try clear hx101_1
     try clear p101
     try clear q101
     obtain ⟨x5_2, rfl, HA, HK2, HB⟩ := hrel
     cases gk with
     | zero => exact absurd HA.out (by simp [cracknelref04_Simple.l1])
     | succ k2 =>
      have H := HA.out
      clear HA
      simp only [cracknelref04_Simple.l1] at H
      by_cases c11 : x5_2 < (l0.length : Int)
      ·rw [if_pos c11] at H
       have c11b0 : decide (x5_2 < (l0.length : Int)) = true := decide_eq_true c11
       clear c11
       by_cases c12 : 0 ≤ x5_2
       ·rw [if_pos c12] at H
        have c12b0 : decide (0 ≤ x5_2) = true := decide_eq_true c12
        clear c12
        by_cases c13 : x5_2 < (l0.length : Int)
        ·rw [if_pos c13] at H
         have c13b0 : decide (x5_2 < (l0.length : Int)) = true := decide_eq_true c13
         clear c13
         replace H := Option.bind_eq_some_iff.mp H
         obtain ⟨⟨t105, t106⟩, A140, H⟩ := H
         replace H : ((cracknelref04_next.f l0 (wrap64 (x5_2 + 1))).bind fun bt109 => ((cracknelref04_On.f ((rd_T29 l0 x5_2).f0) ((rd_T29 l0 x5_2).f1) t105 t106 bt109.1 bt109.2).bind fun t112 => (if t112 = true then (cracknelref04_Simple.j2 k2 l0 (l0.length : Int) x5_2 true ((rd_T29 l0 x5_2).f0) ((rd_T29 l0 x5_2).f1) t105 t106) else ((cracknelref04_On.f t105 t106 bt109.1 bt109.2 ((rd_T29 l0 x5_2).f0) ((rd_T29 l0 x5_2).f1)).bind fun t113 => (cracknelref04_Simple.j2 k2 l0 (l0.length : Int) x5_2 t113 ((rd_T29 l0 x5_2).f0) ((rd_T29 l0 x5_2).f1) t105 t106))))) = some r := H
         have A14 := Aside0.mk A140
         clear A140
         replace H := Option.bind_eq_some_iff.mp H
         obtain ⟨⟨t109, t110⟩, A150, H⟩ := H
         replace H : ((cracknelref04_On.f ((rd_T29 l0 x5_2).f0) ((rd_T29 l0 x5_2).f1) t105 t106 t109 t110).bind fun t112 => (if t112 = true then (cracknelref04_Simple.j2 k2 l0 (l0.length : Int) x5_2 true ((rd_T29 l0 x5_2).f0) ((rd_T29 l0 x5_2).f1) t105 t106) else ((cracknelref04_On.f t105 t106 t109 t110 ((rd_T29 l0 x5_2).f0) ((rd_T29 l0 x5_2).f1)).bind fun t113 => (cracknelref04_Simple.j2 k2 l0 (l0.length : Int) x5_2 t113 ((rd_T29 l0 x5_2).f0) ((rd_T29 l0 x5_2).f1) t105 t106)))) = some r := H
         have A15 := Aside0.mk A150
         clear A150
         have HC16 := Aside0.mk H
         clear H
         try go_wp2
         replace HB := Aside0.mk (below_drew1 HB.out)
         have p104 : 0 ≤ (x5_2 : Int) := dt
         have q104 : x5_2 < (l0.length : Int) := dt
         obtain ⟨ad104, e104, hx104_0, hx104_1⟩ := at_T29 HR0.out x5_2 p104 q104
         have hw104_1 := hx104_1
         have hw104_0 := hx104_0
         cases e104
         replace hx104_0 := hc HB hx104_0
         replace hx104_1 := hc HB hx104_1
         replace p104 := eq_true p104
         replace q104 := eq_true q104
         refine start_ (n := 11) (S := fun w' => w'.cell? (ad104.add ((x5_2).toNat * 2)) = some (.int .i64 ((rd_T29 l0 x5_2).f0)) ∧ w'.cell? ⟨(ad104.add ((x5_2).toNat * 2)).block, (ad104.add ((x5_2).toNat * 2)).off + 1, none⟩ = some (.int .i64 ((rd_T29 l0 x5_2).f1))) (ds := []) #[false, false, false, false, false, false, false, false, false, false, false] (by kernel_rfl) rfl rfl ⟨(hc HB hw104_0), (hc HB hw104_1)⟩ (fun hHeld => ?_); refine with_tabW cracknelref04_Simple.tab10 cracknelref04_Simple.bits10 (fun HT_ HW_ => ?_)
         generalize wr.drew = w17 at HB hx104_0 hx104_1 hHeld ⊢
         refine pu 0 30 HT_ ?_
         refine pu 1 31 HT_ ?_
         refine pu 2 32 HT_ ?_
         refine pu 4 34 HT_ ?_
         refine pu 5 35 HT_ ?_
         refine tk2 3 33 hHeld HT_ HW_ ?_
         refine join_ (σ := Nat × Nat) 2 #[true, true, true, true, true, true, true, true, true, false, false] (fun s_ => [(36, .agg #[.int .i64 t105, .int .i64 t106]), (6, .pointer (some ⟨s_.1, 0, none⟩)), (7, .pointer (some ⟨s_.2, 0, none⟩))]) (fun s_ w' => (w'.cell? (ad104.add ((x5_2).toNat * 2)) = some (.int .i64 ((rd_T29 l0 x5_2).f0)) ∧ w'.cell? ⟨(ad104.add ((x5_2).toNat * 2)).block, (ad104.add ((x5_2).toNat * 2)).off + 1, none⟩ = some (.int .i64 ((rd_T29 l0 x5_2).f1))) ∧ (w'.heap[s_.1]? = some (.cells #[.int .i64 0, .int .i64 0] 29 (0, 0))) ∧ (w'.heap[s_.2]? = some (.cells #[.int .i64 0, .int .i64 0] 29 (0, 0))) ∧ (w.heap.size ≤ s_.1) ∧ (w.heap.size ≤ s_.1) ∧ (s_.2 ≠ s_.1) ∧ (s_.1 ≠ s_.2) ∧ (w.heap.size ≤ s_.2) ∧ (w.heap.size ≤ s_.2) ∧ (Below w.heap.size w w')) ?_ ?_
         rotate_left
         ·intro hJ6_7_8
          refine join_ (σ := Nat) 3 #[true, true, true, true, true, true, true, true, false, false, false] (fun s_ => [(36, .agg #[.int .i64 t105, .int .i64 t106]), (6, .pointer (some ⟨s_, 0, none⟩))]) (fun s_ w' => (w'.cell? (ad104.add ((x5_2).toNat * 2)) = some (.int .i64 ((rd_T29 l0 x5_2).f0)) ∧ w'.cell? ⟨(ad104.add ((x5_2).toNat * 2)).block, (ad104.add ((x5_2).toNat * 2)).off + 1, none⟩ = some (.int .i64 ((rd_T29 l0 x5_2).f1))) ∧ (w'.heap[s_]? = some (.cells #[.int .i64 0, .int .i64 0] 29 (0, 0))) ∧ (w.heap.size ≤ s_) ∧ (w.heap.size ≤ s_) ∧ (Below w.heap.size w w')) ?_ ?_
          rotate_left
          ·intro hJ6_7
           refine join_ (σ := Nat) 3 #[true, true, true, true, true, true, true, false, true, false, false] (fun s_ => [(36, .agg #[.int .i64 t105, .int .i64 t106]), (7, .pointer (some ⟨s_, 0, none⟩))]) (fun s_ w' => (w'.cell? (ad104.add ((x5_2).toNat * 2)) = some (.int .i64 ((rd_T29 l0 x5_2).f0)) ∧ w'.cell? ⟨(ad104.add ((x5_2).toNat * 2)).block, (ad104.add ((x5_2).toNat * 2)).off + 1, none⟩ = some (.int .i64 ((rd_T29 l0 x5_2).f1))) ∧ (w'.heap[s_]? = some (.cells #[.int .i64 0, .int .i64 0] 29 (0, 0))) ∧ (w.heap.size ≤ s_) ∧ (w.heap.size ≤ s_) ∧ (Below w.heap.size w w')) ?_ ?_
           rotate_left
           ·intro hJ6_8
            refine join_ (σ := Nat × Nat) 3 #[true, true, true, true, true, true, false, true, true, false, false] (fun s_ => [(6, .pointer (some ⟨s_.1, 0, none⟩)), (7, .pointer (some ⟨s_.2, 0, none⟩))]) (fun s_ w' => (w'.cell? (ad104.add ((x5_2).toNat * 2)) = some (.int .i64 ((rd_T29 l0 x5_2).f0)) ∧ w'.cell? ⟨(ad104.add ((x5_2).toNat * 2)).block, (ad104.add ((x5_2).toNat * 2)).off + 1, none⟩ = some (.int .i64 ((rd_T29 l0 x5_2).f1))) ∧ (w'.heap[s_.1]? = some (.cells #[.int .i64 0, .int .i64 0] 29 (0, 0))) ∧ (w'.heap[s_.2]? = some (.cells #[.int .i64 0, .int .i64 0] 29 (0, 0))) ∧ (w.heap.size ≤ s_.1) ∧ (w.heap.size ≤ s_.1) ∧ (s_.2 ≠ s_.1) ∧ (s_.1 ≠ s_.2) ∧ (w.heap.size ≤ s_.2) ∧ (w.heap.size ≤ s_.2) ∧ (Below w.heap.size w w')) ?_ ?_
            rotate_left
            ·intro hJ7_8
             refine join_ (σ := Unit) 4 #[true, true, true, true, true, true, true, false, false, false, false] (fun s_ => [(36, .agg #[.int .i64 t105, .int .i64 t106])]) (fun s_ w' => (w'.cell? (ad104.add ((x5_2).toNat * 2)) = some (.int .i64 ((rd_T29 l0 x5_2).f0)) ∧ w'.cell? ⟨(ad104.add ((x5_2).toNat * 2)).block, (ad104.add ((x5_2).toNat * 2)).off + 1, none⟩ = some (.int .i64 ((rd_T29 l0 x5_2).f1))) ∧ (Below w.heap.size w w')) ?_ ?_
             rotate_left
             ·intro hJ6
              refine join_ (σ := Nat) 4 #[true, true, true, true, true, true, false, true, false, false, false] (fun s_ => [(6, .pointer (some ⟨s_, 0, none⟩))]) (fun s_ w' => (w'.cell? (ad104.add ((x5_2).toNat * 2)) = some (.int .i64 ((rd_T29 l0 x5_2).f0)) ∧ w'.cell? ⟨(ad104.add ((x5_2).toNat * 2)).block, (ad104.add ((x5_2).toNat * 2)).off + 1, none⟩ = some (.int .i64 ((rd_T29 l0 x5_2).f1))) ∧ (w'.heap[s_]? = some (.cells #[.int .i64 0, .int .i64 0] 29 (0, 0))) ∧ (w.heap.size ≤ s_) ∧ (w.heap.size ≤ s_) ∧ (Below w.heap.size w w')) ?_ ?_
              rotate_left
              ·intro hJ7
               refine join_ (σ := Nat) 4 #[true, true, true, true, true, true, false, false, true, false, false] (fun s_ => [(7, .pointer (some ⟨s_, 0, none⟩))]) (fun s_ w' => (w'.cell? (ad104.add ((x5_2).toNat * 2)) = some (.int .i64 ((rd_T29 l0 x5_2).f0)) ∧ w'.cell? ⟨(ad104.add ((x5_2).toNat * 2)).block, (ad104.add ((x5_2).toNat * 2)).off + 1, none⟩ = some (.int .i64 ((rd_T29 l0 x5_2).f1))) ∧ (w'.heap[s_]? = some (.cells #[.int .i64 0, .int .i64 0] 29 (0, 0))) ∧ (w.heap.size ≤ s_) ∧ (w.heap.size ≤ s_) ∧ (Below w.heap.size w w')) ?_ ?_
               rotate_left
               ·intro hJ8
                refine three_ (i := 6) (j := 7) (k := 8) (Ni := some 36) (Nj := some 6) (Nk := some 7) #[true, true, true, true, true, true, true, false, false, false, false] #[true, true, true, true, true, true, false, true, false, false, false] #[true, true, true, true, true, true, false, false, true, false, false] rfl rfl rfl rfl rfl rfl (on3 HT_) (by decide) (by decide) (by decide) (fun K hK => ?_) (fun K hK => ?_) (fun K hK => ?_)
                ·skip
                 refine goes_ Try.func64 (by kernel_rfl) rfl #[.slice (some ad104) l0.length c0, .int .i64 x5_2] (by rfl) rfl rfl sg ?_
                 with_reducible refine (cracknelref04_next.calls _ _ l0 x5_2 t105 t106 _ ?side1 ?side2 A14.out).mono ?_
                 (case side1 => exact cs (Kd.C_below HR0.out HB.out))
                 (case side2 => exact HC0.out)
                 rintro e w18 ⟨rfl, hb⟩
                 refine ⟨_, rfl, ?_⟩
                 replace HB := Aside0.mk (below_step bh hb)
                 (try clear hb); (try clear hb2); (try clear hk); (try clear hi)
                 refine hK.out _ _ ⟨(hc HB hw104_0), (hc HB hw104_1)⟩ (fun hHeld => ?_)
                 clear hK K
                 refine nm 36 ?_
                 exact norm_ pa (hJ6 () _ ⟨hHeld, bh⟩)
                ·skip
                 refine bxs 6 #[.int .i64 0, .int .i64 0] 29 ?_
                 intro gb107 hg w18 hbox hb
                 have BK107 := Aside0.mk (hbox)
                 have GW107 := Aside0.mk (gs hg : w.heap.size ≤ gb107)
                 have GE107 := Aside0.mk (gs hg : w.heap.size ≤ gb107)
                 replace HB := Aside0.mk (below_step bh hb)
                 clear hb hbox hg
                 refine hK.out _ _ ⟨(hc HB hw104_0), (hc HB hw104_1)⟩ (fun hHeld => ?_)
                 clear hK K
                 refine nm 6 ?_
                 exact norm_ pa (hJ7 (gb107) _ ⟨hHeld, bk BK107, GW107.out, GE107.out, bh⟩)
                ·skip
                 refine bxs 7 #[.int .i64 0, .int .i64 0] 29 ?_
                 intro gb108 hg w18 hbox hb
                 have BK108 := Aside0.mk (hbox)
                 have GW108 := Aside0.mk (gs hg : w.heap.size ≤ gb108)
                 have GE108 := Aside0.mk (gs hg : w.heap.size ≤ gb108)
                 replace HB := Aside0.mk (below_step bh hb)
                 clear hb hbox hg
                 refine hK.out _ _ ⟨(hc HB hw104_0), (hc HB hw104_1)⟩ (fun hHeld => ?_)
                 clear hK K
                 refine nm 7 ?_
                 exact norm_ pa (hJ8 (gb108) _ ⟨hHeld, bk BK108, GW108.out, GE108.out, bh⟩)
               ·skip
                rintro gb108 w19 ⟨hS_, h0_, h1_, h2_, h3_⟩
                have BK108 := Aside0.mk h0_
                have GW108 := Aside0.mk h1_
                have GE108 := Aside0.mk h2_
                replace HB := Aside0.mk h3_
                clear h0_ h1_ h2_ h3_
                have hHeld := hS_
                refine nn ?_
                refine two_ (i := 6) (j := 7) (Ni := some 36) (Nj := some 6) #[true, true, true, true, true, true, true, false, true, false, false] #[true, true, true, true, true, true, false, true, true, false, false] rfl rfl rfl rfl (on2 HT_) (by decide) (by decide) (fun K hK => ?_) (fun K hK => ?_)
                ·skip
                 refine goes_ Try.func64 (by kernel_rfl) rfl #[.slice (some ad104) l0.length c0, .int .i64 x5_2] (by rfl) rfl rfl sg ?_
                 with_reducible refine (cracknelref04_next.calls _ _ l0 x5_2 t105 t106 _ ?side1 ?side2 A14.out).mono ?_
                 (case side1 => exact cs (Kd.C_below HR0.out HB.out))
                 (case side2 => exact HC0.out)
                 rintro e w20 ⟨rfl, hb⟩
                 refine ⟨_, rfl, ?_⟩
                 replace BK108 := kb BK108 hb
                 replace HB := Aside0.mk (below_step bh hb)
                 (try clear hb); (try clear hb2); (try clear hk); (try clear hi)
                 refine hK.out _ _ ⟨(hc HB hw104_0), (hc HB hw104_1)⟩ (fun hHeld => ?_)
                 clear hK K
                 refine nm 36 ?_
                 exact norm_ pa (hJ6_8 (gb108) _ ⟨hHeld, bk BK108, GW108.out, GE108.out, bh⟩)
                ·skip
                 refine bxs 6 #[.int .i64 0, .int .i64 0] 29 ?_
                 intro gb107 hg w20 hbox hb
                 have BK107 := Aside0.mk (hbox)
                 have GW107 := Aside0.mk (gs hg : w.heap.size ≤ gb107)
                 have GE107 := Aside0.mk (gs hg : w.heap.size ≤ gb107)
                 have NB108_107 := Aside0.mk ((by rw [hg]; exact Nat.ne_of_lt (kl BK108) : gb108 ≠ gb107))
                 have NB107_108 := Aside0.mk ((by rw [hg]; exact Nat.ne_of_gt (kl BK108) : gb107 ≠ gb108))
                 replace BK108 := kb BK108 hb
                 replace HB := Aside0.mk (below_step bh hb)
                 clear hb hbox hg
                 refine hK.out _ _ ⟨(hc HB hw104_0), (hc HB hw104_1)⟩ (fun hHeld => ?_)
                 clear hK K
                 refine nm 6 ?_
                 exact norm_ pa (hJ7_8 (gb107, gb108) _ ⟨hHeld, bk BK107, bk BK108, GW107.out, GE107.out, NB108_107.out, NB107_108.out, GW108.out, GE108.out, bh⟩)
              ·skip
               rintro gb107 w19 ⟨hS_, h0_, h1_, h2_, h3_⟩
               have BK107 := Aside0.mk h0_
               have GW107 := Aside0.mk h1_
               have GE107 := Aside0.mk h2_
               replace HB := Aside0.mk h3_
               clear h0_ h1_ h2_ h3_
               have hHeld := hS_
               refine nn ?_
               refine two_ (i := 6) (j := 8) (Ni := some 36) (Nj := some 7) #[true, true, true, true, true, true, true, true, false, false, false] #[true, true, true, true, true, true, false, true, true, false, false] rfl rfl rfl rfl (on2 HT_) (by decide) (by decide) (fun K hK => ?_) (fun K hK => ?_)
               ·skip
                refine goes_ Try.func64 (by kernel_rfl) rfl #[.slice (some ad104) l0.length c0, .int .i64 x5_2] (by rfl) rfl rfl sg ?_
                with_reducible refine (cracknelref04_next.calls _ _ l0 x5_2 t105 t106 _ ?side1 ?side2 A14.out).mono ?_
                (case side1 => exact cs (Kd.C_below HR0.out HB.out))
                (case side2 => exact HC0.out)
                rintro e w20 ⟨rfl, hb⟩
                refine ⟨_, rfl, ?_⟩
                replace BK107 := kb BK107 hb
                replace HB := Aside0.mk (below_step bh hb)
                (try clear hb); (try clear hb2); (try clear hk); (try clear hi)
                refine hK.out _ _ ⟨(hc HB hw104_0), (hc HB hw104_1)⟩ (fun hHeld => ?_)
                clear hK K
                refine nm 36 ?_
                exact norm_ pa (hJ6_7 (gb107) _ ⟨hHeld, bk BK107, GW107.out, GE107.out, bh⟩)
               ·skip
                refine bxs 7 #[.int .i64 0, .int .i64 0] 29 ?_
                intro gb108 hg w20 hbox hb
                have BK108 := Aside0.mk (hbox)
                have GW108 := Aside0.mk (gs hg : w.heap.size ≤ gb108)
                have GE108 := Aside0.mk (gs hg : w.heap.size ≤ gb108)
                have NB107_108 := Aside0.mk ((by rw [hg]; exact Nat.ne_of_lt (kl BK107) : gb107 ≠ gb108))
                have NB108_107 := Aside0.mk ((by rw [hg]; exact Nat.ne_of_gt (kl BK107) : gb108 ≠ gb107))
                replace BK107 := kb BK107 hb
                replace HB := Aside0.mk (below_step bh hb)
                clear hb hbox hg
                refine hK.out _ _ ⟨(hc HB hw104_0), (hc HB hw104_1)⟩ (fun hHeld => ?_)
                clear hK K
                refine nm 7 ?_
                exact norm_ pa (hJ7_8 (gb107, gb108) _ ⟨hHeld, bk BK107, bk BK108, GW107.out, GE107.out, NB108_107.out, NB107_108.out, GW108.out, GE108.out, bh⟩)
             ·skip
              rintro _ w19 ⟨hS_, h0_⟩
              replace HB := Aside0.mk h0_
              clear h0_
              have hHeld := hS_
              refine nn ?_
              refine two_ (i := 7) (j := 8) (Ni := some 6) (Nj := some 7) #[true, true, true, true, true, true, true, true, false, false, false] #[true, true, true, true, true, true, true, false, true, false, false] rfl rfl rfl rfl (on2 HT_) (by decide) (by decide) (fun K hK => ?_) (fun K hK => ?_)
              ·skip
               refine bxs 6 #[.int .i64 0, .int .i64 0] 29 ?_
               intro gb107 hg w20 hbox hb
               have BK107 := Aside0.mk (hbox)
               have GW107 := Aside0.mk (gs hg : w.heap.size ≤ gb107)
               have GE107 := Aside0.mk (gs hg : w.heap.size ≤ gb107)
               replace HB := Aside0.mk (below_step bh hb)
               clear hb hbox hg
               refine hK.out _ _ ⟨(hc HB hw104_0), (hc HB hw104_1)⟩ (fun hHeld => ?_)
               clear hK K
               refine nm 6 ?_
               exact norm_ pa (hJ6_7 (gb107) _ ⟨hHeld, bk BK107, GW107.out, GE107.out, bh⟩)
              ·skip
               refine bxs 7 #[.int .i64 0, .int .i64 0] 29 ?_
               intro gb108 hg w20 hbox hb
               have BK108 := Aside0.mk (hbox)
               have GW108 := Aside0.mk (gs hg : w.heap.size ≤ gb108)
               have GE108 := Aside0.mk (gs hg : w.heap.size ≤ gb108)
               replace HB := Aside0.mk (below_step bh hb)
               clear hb hbox hg
               refine hK.out _ _ ⟨(hc HB hw104_0), (hc HB hw104_1)⟩ (fun hHeld => ?_)
               clear hK K
               refine nm 7 ?_
               exact norm_ pa (hJ6_8 (gb108) _ ⟨hHeld, bk BK108, GW108.out, GE108.out, bh⟩)
            ·skip
             rintro ⟨gb107, gb108⟩ w20 ⟨hS_, h0_, h1_, h2_, h3_, h4_, h5_, h6_, h7_, h8_⟩
             have BK107 := Aside0.mk h0_
             have BK108 := Aside0.mk h1_
             have GW107 := Aside0.mk h2_
             have GE107 := Aside0.mk h3_
             have NB108_107 := Aside0.mk h4_
             have NB107_108 := Aside0.mk h5_
             have GW108 := Aside0.mk h6_
             have GE108 := Aside0.mk h7_
             replace HB := Aside0.mk h8_
             clear h0_ h1_ h2_ h3_ h4_ h5_ h6_ h7_ h8_
             have hHeld := hS_
             refine nn ?_
             refine one_ (i := 6) (N := some 36) #[true, true, true, true, true, true, true, true, true, false, false] rfl rfl (on1 HT_) (by decide) (fun K hK => ?_)
             refine goes_ Try.func64 (by kernel_rfl) rfl #[.slice (some ad104) l0.length c0, .int .i64 x5_2] (by rfl) rfl rfl sg ?_
             with_reducible refine (cracknelref04_next.calls _ _ l0 x5_2 t105 t106 _ ?side1 ?side2 A14.out).mono ?_
             (case side1 => exact cs (Kd.C_below HR0.out HB.out))
             (case side2 => exact HC0.out)
             rintro e w21 ⟨rfl, hb⟩
             refine ⟨_, rfl, ?_⟩
             replace BK107 := kb BK107 hb
             replace BK108 := kb BK108 hb
             replace HB := Aside0.mk (below_step bh hb)
             (try clear hb); (try clear hb2); (try clear hk); (try clear hi)
             refine hK.out _ _ ⟨(hc HB hw104_0), (hc HB hw104_1)⟩ (fun hHeld => ?_)
             clear hK K
             refine nm 36 ?_
             exact norm_ pa (hJ6_7_8 (gb107, gb108) _ ⟨hHeld, bk BK107, bk BK108, GW107.out, GE107.out, NB108_107.out, NB107_108.out, GW108.out, GE108.out, bh⟩)
           ·skip
            rintro gb108 w20 ⟨hS_, h0_, h1_, h2_, h3_⟩
            have BK108 := Aside0.mk h0_
            have GW108 := Aside0.mk h1_
            have GE108 := Aside0.mk h2_
            replace HB := Aside0.mk h3_
            clear h0_ h1_ h2_ h3_
            have hHeld := hS_
            refine nn ?_
            refine one_ (i := 7) (N := some 6) #[true, true, true, true, true, true, true, true, true, false, false] rfl rfl (on1 HT_) (by decide) (fun K hK => ?_)
            refine bxs 6 #[.int .i64 0, .int .i64 0] 29 ?_
            intro gb107 hg w21 hbox hb
            have BK107 := Aside0.mk (hbox)
            have GW107 := Aside0.mk (gs hg : w.heap.size ≤ gb107)
            have GE107 := Aside0.mk (gs hg : w.heap.size ≤ gb107)
            have NB108_107 := Aside0.mk ((by rw [hg]; exact Nat.ne_of_lt (kl BK108) : gb108 ≠ gb107))
            have NB107_108 := Aside0.mk ((by rw [hg]; exact Nat.ne_of_gt (kl BK108) : gb107 ≠ gb108))
            replace BK108 := kb BK108 hb
            replace HB := Aside0.mk (below_step bh hb)
            clear hb hbox hg
            refine hK.out _ _ ⟨(hc HB hw104_0), (hc HB hw104_1)⟩ (fun hHeld => ?_)
            clear hK K
            refine nm 6 ?_
            exact norm_ pa (hJ6_7_8 (gb107, gb108) _ ⟨hHeld, bk BK107, bk BK108, GW107.out, GE107.out, NB108_107.out, NB107_108.out, GW108.out, GE108.out, bh⟩)
          ·skip
           rintro gb107 w20 ⟨hS_, h0_, h1_, h2_, h3_⟩
           have BK107 := Aside0.mk h0_
           have GW107 := Aside0.mk h1_
           have GE107 := Aside0.mk h2_
           replace HB := Aside0.mk h3_
           clear h0_ h1_ h2_ h3_
           have hHeld := hS_
           refine nn ?_
           refine one_ (i := 8) (N := some 7) #[true, true, true, true, true, true, true, true, true, false, false] rfl rfl (on1 HT_) (by decide) (fun K hK => ?_)
           refine bxs 7 #[.int .i64 0, .int .i64 0] 29 ?_
           intro gb108 hg w21 hbox hb
           have BK108 := Aside0.mk (hbox)
           have GW108 := Aside0.mk (gs hg : w.heap.size ≤ gb108)
           have GE108 := Aside0.mk (gs hg : w.heap.size ≤ gb108)
           have NB107_108 := Aside0.mk ((by rw [hg]; exact Nat.ne_of_lt (kl BK107) : gb107 ≠ gb108))
           have NB108_107 := Aside0.mk ((by rw [hg]; exact Nat.ne_of_gt (kl BK107) : gb108 ≠ gb107))
           replace BK107 := kb BK107 hb
           replace HB := Aside0.mk (below_step bh hb)
           clear hb hbox hg
           refine hK.out _ _ ⟨(hc HB hw104_0), (hc HB hw104_1)⟩ (fun hHeld => ?_)
           clear hK K
           refine nm 7 ?_
           exact norm_ pa (hJ6_7_8 (gb107, gb108) _ ⟨hHeld, bk BK107, bk BK108, GW107.out, GE107.out, NB108_107.out, NB107_108.out, GW108.out, GE108.out, bh⟩)
         rintro ⟨gb107, gb108⟩ w21 ⟨hS_, h0_, h1_, h2_, h3_, h4_, h5_, h6_, h7_, h8_⟩
         have BK107 := Aside0.mk h0_
         have BK108 := Aside0.mk h1_
         have GW107 := Aside0.mk h2_
         have GE107 := Aside0.mk h3_
         have NB108_107 := Aside0.mk h4_
         have NB107_108 := Aside0.mk h5_
         have GW108 := Aside0.mk h6_
         have GE108 := Aside0.mk h7_
         replace HB := Aside0.mk h8_
         clear h0_ h1_ h2_ h3_ h4_ h5_ h6_ h7_ h8_
         have hHeld := hS_
         refine nn ?_
         refine one_ (i := 9) (N := none) #[true, true, true, true, true, true, true, true, true, true, false] rfl rfl (on1 HT_) (by decide) (fun K hK => ?_)
         have hs22 : w21.cell? ⟨gb107, 0, none⟩ = some (.int .i64 0) := bc BK107 0
         have hfs22 := blk_frozen BK107.out 0
         have hns22_1 := NB108_107.out
         have hms22_1 := NB107_108.out
         have hs23 : w21.cell? ⟨gb107, 1, none⟩ = some (.int .i64 0) := bc BK107 1
         have hfs23 := blk_frozen BK107.out 1
         have hns23_1 := NB108_107.out
         have hms23_1 := NB107_108.out
         refine skip_ (w1 := ?_) (by rfl) rfl ?_ ?_
         rotate_left
         ·go_simp
          rfl
         refine hK.out _ _ ⟨((cell_far (p := ⟨gb107, _, none⟩) (fr hw104_0 GW107) _).trans (((cell_far (p := ⟨gb107, _, none⟩) (fr hw104_0 GW107) _).trans (hHeld.1)))), ((cell_far (p := ⟨gb107, _, none⟩) (fr hw104_1 GW107) _).trans (((cell_far (p := ⟨gb107, _, none⟩) (fr hw104_1 GW107) _).trans (hHeld.2))))⟩ (fun hHeld => ?_)
         clear hK K
         refine one_ (i := 10) (N := none) #[true, true, true, true, true, true, true, true, true, true, true] rfl rfl (on1 HT_) (by decide) (fun K hK => ?_)
         have hs24 : w21.cell? ⟨gb108, 0, none⟩ = some (.int .i64 0) := bc BK108 0
         have hfs24 := blk_frozen BK108.out 0
         have hns24_0 := NB107_108.out
         have hms24_0 := NB108_107.out
         have hs25 : w21.cell? ⟨gb108, 1, none⟩ = some (.int .i64 0) := bc BK108 1
         have hfs25 := blk_frozen BK108.out 1
         have hns25_0 := NB107_108.out
         have hms25_0 := NB108_107.out
         refine skip_ (w1 := ?_) (by rfl) rfl ?_ ?_
         rotate_left
         ·go_simp
          rfl
         refine hK.out _ _ ⟨((cell_far (p := ⟨gb108, _, none⟩) (fr hw104_0 GW108) _).trans (((cell_far (p := ⟨gb108, _, none⟩) (fr hw104_0 GW108) _).trans (hHeld.1)))), ((cell_far (p := ⟨gb108, _, none⟩) (fr hw104_1 GW108) _).trans (((cell_far (p := ⟨gb108, _, none⟩) (fr hw104_1 GW108) _).trans (hHeld.2))))⟩ (fun hHeld => ?_)
         clear hK K
         refine done_ (done_of HT_.out (by kernel_rfl)) ?_
         go_upto_region 12 with (first | ((with_reducible refine gate_callee (f := 64) rfl ?_); refine goesL_ (some 40) rfl rfl Try.func64 (by kernel_rfl) rfl #[.slice (some ad104) l0.length c0, .int .i64 (wrap64 (x5_2 + 1))] rfl sg ?_; (with_reducible refine (cracknelref04_next.calls _ _ l0 (wrap64 (x5_2 + 1)) t109 t110 _ ?side1 ?side2 A15.out).mono ?_); (case side1 => exact Kd.C_below HR0.out bh); (case side2 => exact HC0.out); rintro e w26 ⟨rfl, hb⟩; refine ⟨_, rfl, ?_⟩; have n0_ := Aside0.mk (blk_below (g := gb107) (o := .cells #[.int .i64 ((rd_T29 l0 x5_2).f0), .int .i64 ((rd_T29 l0 x5_2).f1)] 29 (0, 0)) (by (with_reducible repeat (first | refine blk_drewN ?_ _ | refine blk_drew ?_ | refine blk_alloc ?_ _)); refine blk_far ?_ NB107_108.out _; (with_reducible repeat (first | refine blk_drewN ?_ _ | refine blk_drew ?_ | refine blk_alloc ?_ _)); refine blk_far ?_ NB107_108.out _; (with_reducible repeat (first | refine blk_drewN ?_ _ | refine blk_drew ?_ | refine blk_alloc ?_ _)); refine blk_put (cs := #[.int .i64 ((rd_T29 l0 x5_2).f0), .int .i64 0]) ?_ 1 _ rfl; (with_reducible repeat (first | refine blk_drewN ?_ _ | refine blk_drew ?_ | refine blk_alloc ?_ _)); refine blk_put (cs := #[.int .i64 0, .int .i64 0]) ?_ 0 _ rfl; (with_reducible repeat (first | refine blk_drewN ?_ _ | refine blk_drew ?_ | refine blk_alloc ?_ _)); exact BK107.out) hb); have n1_ := Aside0.mk (blk_below (g := gb108) (o := .cells #[.int .i64 t105, .int .i64 t106] 29 (0, 0)) (by (with_reducible repeat (first | refine blk_drewN ?_ _ | refine blk_drew ?_ | refine blk_alloc ?_ _)); refine blk_put (cs := #[.int .i64 t105, .int .i64 0]) ?_ 1 _ rfl; (with_reducible repeat (first | refine blk_drewN ?_ _ | refine blk_drew ?_ | refine blk_alloc ?_ _)); refine blk_put (cs := #[.int .i64 0, .int .i64 0]) ?_ 0 _ rfl; (with_reducible repeat (first | refine blk_drewN ?_ _ | refine blk_drew ?_ | refine blk_alloc ?_ _)); refine blk_far ?_ NB108_107.out _; (with_reducible repeat (first | refine blk_drewN ?_ _ | refine blk_drew ?_ | refine blk_alloc ?_ _)); refine blk_far ?_ NB108_107.out _; (with_reducible repeat (first | refine blk_drewN ?_ _ | refine blk_drew ?_ | refine blk_alloc ?_ _)); exact BK108.out) hb); have n2_ := Aside0.mk (below_step bh hb); clear BK107; clear BK108; clear HB; have BK107 := n0_; have BK108 := n1_; have HB := n2_; clear n0_ n1_ n2_; (try clear hb); (try clear hb2); (try clear hk); (try clear hi)) | ((with_reducible refine gate_dst (N := 8) rfl ?_); refine bxe 8 #[.int .i64 0, .int .i64 0] 29 ?_; intro gb111 hg w27 hbox hb; have n0_ := kb BK107 hb; have n1_ := kb BK108 hb; have n2_ := Aside0.mk (below_step bh hb); have n3_ := Aside0.mk (hbox); have n4_ := Aside0.mk (gs hg : w.heap.size ≤ gb111); have n5_ := Aside0.mk (gs hg : w.heap.size ≤ gb111); have n6_ := Aside0.mk ((by rw [hg]; exact Nat.ne_of_lt (kl BK107) : gb107 ≠ gb111)); have n7_ := Aside0.mk ((by rw [hg]; exact Nat.ne_of_gt (kl BK107) : gb111 ≠ gb107)); have n8_ := Aside0.mk ((by rw [hg]; exact Nat.ne_of_lt (kl BK108) : gb108 ≠ gb111)); have n9_ := Aside0.mk ((by rw [hg]; exact Nat.ne_of_gt (kl BK108) : gb111 ≠ gb108)); clear BK107; clear BK108; clear HB; have BK107 := n0_; have BK108 := n1_; have HB := n2_; have BK111 := n3_; have GW111 := n4_; have GE111 := n5_; have NB107_111 := n6_; have NB111_107 := n7_; have NB108_111 := n8_; have NB111_108 := n9_; clear n0_ n1_ n2_ n3_ n4_ n5_ n6_ n7_ n8_ n9_; clear hb hbox hg; have hnb28 := NB111_107.out; have hnc28 := NB107_111.out; have hnb29 := NB111_108.out; have hnc29 := NB108_111.out; have hcz30_0 : w27.cell? ⟨gb111, 0, none⟩ = some (.int .i64 0) := bc BK111 0; have hcz30_1 : w27.cell? ⟨gb111, 1, none⟩ = some (.int .i64 0) := bc BK111 1; have hfz30_0 := blk_frozen BK111.out 0; have hfz30_1 := blk_frozen BK111.out 1))
         (try simp only [Act.put, List.setIfInBounds_toArray, List.set_cons_zero, List.set_cons_succ])
         go_cut [50] (fun v50 wc => ∃ (kq : Nat) (x50_15 : Bool), v50 = .bool x50_15 ∧ Aside0 (cracknelref04_Simple.j2 kq l0 (l0.length : Int) x5_2 x50_15 ((rd_T29 l0 x5_2).f0) ((rd_T29 l0 x5_2).f1) t105 t106 = some r) ∧ Aside0 (kq ≤ k2) ∧ Aside0 (wc.heap[gb107]? = some (.cells #[.int .i64 ((rd_T29 l0 x5_2).f0), .int .i64 ((rd_T29 l0 x5_2).f1)] 29 (0, 0))) ∧ Aside0 (wc.heap[gb108]? = some (.cells #[.int .i64 t105, .int .i64 t106] 29 (0, 0))) ∧ Aside0 (wc.heap[gb111]? = some (.cells #[.int .i64 t109, .int .i64 t110] 29 (0, 0))) ∧ Aside0 (Below w.heap.size w wc))
         case first =>
          have H := HC16.out
          clear HC16
          replace H := Option.bind_eq_some_iff.mp H
          obtain ⟨t112, A310, H⟩ := H
          replace H : (if t112 = true then (cracknelref04_Simple.j2 k2 l0 (l0.length : Int) x5_2 true ((rd_T29 l0 x5_2).f0) ((rd_T29 l0 x5_2).f1) t105 t106) else ((cracknelref04_On.f t105 t106 t109 t110 ((rd_T29 l0 x5_2).f0) ((rd_T29 l0 x5_2).f1)).bind fun t113 => (cracknelref04_Simple.j2 k2 l0 (l0.length : Int) x5_2 t113 ((rd_T29 l0 x5_2).f0) ((rd_T29 l0 x5_2).f1) t105 t106))) = some r := H
          have A31 := Aside0.mk A310
          clear A310
          by_cases c32 : t112 = true
          ·subst c32
           rw [if_pos rfl] at H
           have H' := Aside0.mk H
           clear H
           have hnb33 := NB107_108.out
           have hnc33 := NB108_107.out
           have hnb34 := NB107_111.out
           have hnc34 := NB111_107.out
           obtain ⟨hcz35_0, hcz35_1, hfz35_0, hfz35_1⟩ := b2 BK107
           have hnb36 := NB108_111.out
           have hnc36 := NB111_108.out
           obtain ⟨hcz37_0, hcz37_1, hfz37_0, hfz37_1⟩ := b2 BK108
           obtain ⟨hcz38_0, hcz38_1, hfz38_0, hfz38_1⟩ := b2 BK111
           go_wp2_with (first | ((with_reducible refine gate_callee (f := 62) rfl ?_); refine goesL_ (some 44) rfl rfl Try.func62 (by kernel_rfl) rfl #[.agg #[.int .i64 ((rd_T29 l0 x5_2).f0), .int .i64 ((rd_T29 l0 x5_2).f1)], .agg #[.int .i64 t105, .int .i64 t106], .agg #[.int .i64 t109, .int .i64 t110]] rfl sg ?_; (with_reducible refine (cracknelref04_On.calls ((rd_T29 l0 x5_2).f0) ((rd_T29 l0 x5_2).f1) t105 t106 t109 t110 true _ A31.out).mono ?_); rintro e w39 ⟨rfl, hb⟩; refine ⟨_, rfl, ?_⟩; have n0_ := Aside0.mk (blk_below (g := gb107) (o := .cells #[.int .i64 ((rd_T29 l0 x5_2).f0), .int .i64 ((rd_T29 l0 x5_2).f1)] 29 (0, 0)) (by (with_reducible repeat (first | refine blk_drewN ?_ _ | refine blk_drew ?_ | refine blk_alloc ?_ _)); refine blk_far ?_ NB107_111.out _; (with_reducible repeat (first | refine blk_drewN ?_ _ | refine blk_drew ?_ | refine blk_alloc ?_ _)); refine blk_far ?_ NB107_111.out _; (with_reducible repeat (first | refine blk_drewN ?_ _ | refine blk_drew ?_ | refine blk_alloc ?_ _)); exact BK107.out) hb); have n1_ := Aside0.mk (blk_below (g := gb108) (o := .cells #[.int .i64 t105, .int .i64 t106] 29 (0, 0)) (by (with_reducible repeat (first | refine blk_drewN ?_ _ | refine blk_drew ?_ | refine blk_alloc ?_ _)); refine blk_far ?_ NB108_111.out _; (with_reducible repeat (first | refine blk_drewN ?_ _ | refine blk_drew ?_ | refine blk_alloc ?_ _)); refine blk_far ?_ NB108_111.out _; (with_reducible repeat (first | refine blk_drewN ?_ _ | refine blk_drew ?_ | refine blk_alloc ?_ _)); exact BK108.out) hb); have n2_ := Aside0.mk (blk_below (g := gb111) (o := .cells #[.int .i64 t109, .int .i64 t110] 29 (0, 0)) (by (with_reducible repeat (first | refine blk_drewN ?_ _ | refine blk_drew ?_ | refine blk_alloc ?_ _)); refine blk_put (cs := #[.int .i64 t109, .int .i64 0]) ?_ 1 _ rfl; (with_reducible repeat (first | refine blk_drewN ?_ _ | refine blk_drew ?_ | refine blk_alloc ?_ _)); refine blk_put (cs := #[.int .i64 0, .int .i64 0]) ?_ 0 _ rfl; (with_reducible repeat (first | refine blk_drewN ?_ _ | refine blk_drew ?_ | refine blk_alloc ?_ _)); exact BK111.out) hb); have n3_ := Aside0.mk (below_step bh hb); clear BK107; clear BK108; clear BK111; clear HB; have BK107 := n0_; have BK108 := n1_; have BK111 := n2_; have HB := n3_; clear n0_ n1_ n2_ n3_; (try clear hb); (try clear hb2); (try clear hk); (try clear hi)))
           go_meet
           case rel => exact ⟨_, (true), sd, H', ⟨by have := HK1.out; have := HK2.out; first | omega | exact Nat.le_refl _⟩, ⟨bk BK107⟩, ⟨bk BK108⟩, ⟨bk BK111⟩, ⟨bh⟩⟩
          ·replace c32 := Bool.eq_false_iff.mpr c32
           subst c32
           rw [if_neg (show ¬ (false = true) by decide)] at H
           replace H := Option.bind_eq_some_iff.mp H
           obtain ⟨t113, A400, H⟩ := H
           replace H : (cracknelref04_Simple.j2 k2 l0 (l0.length : Int) x5_2 t113 ((rd_T29 l0 x5_2).f0) ((rd_T29 l0 x5_2).f1) t105 t106) = some r := H
           have A40 := Aside0.mk A400
           clear A400
           have H' := Aside0.mk H
           clear H
           have hnb41 := NB107_108.out
           have hnc41 := NB108_107.out
           have hnb42 := NB107_111.out
           have hnc42 := NB111_107.out
           obtain ⟨hcz43_0, hcz43_1, hfz43_0, hfz43_1⟩ := b2 BK107
           have hnb44 := NB108_111.out
           have hnc44 := NB111_108.out
           obtain ⟨hcz45_0, hcz45_1, hfz45_0, hfz45_1⟩ := b2 BK108
           obtain ⟨hcz46_0, hcz46_1, hfz46_0, hfz46_1⟩ := b2 BK111
           go_wp2_with (first | ((with_reducible refine gate_callee (f := 62) rfl ?_); refine goesL_ (some 44) rfl rfl Try.func62 (by kernel_rfl) rfl #[.agg #[.int .i64 ((rd_T29 l0 x5_2).f0), .int .i64 ((rd_T29 l0 x5_2).f1)], .agg #[.int .i64 t105, .int .i64 t106], .agg #[.int .i64 t109, .int .i64 t110]] rfl sg ?_; (with_reducible refine (cracknelref04_On.calls ((rd_T29 l0 x5_2).f0) ((rd_T29 l0 x5_2).f1) t105 t106 t109 t110 false _ A31.out).mono ?_); rintro e w47 ⟨rfl, hb⟩; refine ⟨_, rfl, ?_⟩; have n0_ := Aside0.mk (blk_below (g := gb107) (o := .cells #[.int .i64 ((rd_T29 l0 x5_2).f0), .int .i64 ((rd_T29 l0 x5_2).f1)] 29 (0, 0)) (by (with_reducible repeat (first | refine blk_drewN ?_ _ | refine blk_drew ?_ | refine blk_alloc ?_ _)); refine blk_far ?_ NB107_111.out _; (with_reducible repeat (first | refine blk_drewN ?_ _ | refine blk_drew ?_ | refine blk_alloc ?_ _)); refine blk_far ?_ NB107_111.out _; (with_reducible repeat (first | refine blk_drewN ?_ _ | refine blk_drew ?_ | refine blk_alloc ?_ _)); exact BK107.out) hb); have n1_ := Aside0.mk (blk_below (g := gb108) (o := .cells #[.int .i64 t105, .int .i64 t106] 29 (0, 0)) (by (with_reducible repeat (first | refine blk_drewN ?_ _ | refine blk_drew ?_ | refine blk_alloc ?_ _)); refine blk_far ?_ NB108_111.out _; (with_reducible repeat (first | refine blk_drewN ?_ _ | refine blk_drew ?_ | refine blk_alloc ?_ _)); refine blk_far ?_ NB108_111.out _; (with_reducible repeat (first | refine blk_drewN ?_ _ | refine blk_drew ?_ | refine blk_alloc ?_ _)); exact BK108.out) hb); have n2_ := Aside0.mk (blk_below (g := gb111) (o := .cells #[.int .i64 t109, .int .i64 t110] 29 (0, 0)) (by (with_reducible repeat (first | refine blk_drewN ?_ _ | refine blk_drew ?_ | refine blk_alloc ?_ _)); refine blk_put (cs := #[.int .i64 t109, .int .i64 0]) ?_ 1 _ rfl; (with_reducible repeat (first | refine blk_drewN ?_ _ | refine blk_drew ?_ | refine blk_alloc ?_ _)); refine blk_put (cs := #[.int .i64 0, .int .i64 0]) ?_ 0 _ rfl; (with_reducible repeat (first | refine blk_drewN ?_ _ | refine blk_drew ?_ | refine blk_alloc ?_ _)); exact BK111.out) hb); have n3_ := Aside0.mk (below_step bh hb); clear BK107; clear BK108; clear BK111; clear HB; have BK107 := n0_; have BK108 := n1_; have BK111 := n2_; have HB := n3_; clear n0_ n1_ n2_ n3_; (try clear hb); (try clear hb2); (try clear hk); (try clear hi); have hcz48_0 : w47.cell? ⟨gb108, 0, none⟩ = some (.int .i64 t105) := bc BK108 0; have hcz48_1 : w47.cell? ⟨gb108, 1, none⟩ = some (.int .i64 t106) := bc BK108 1; have hfz48_0 := blk_frozen BK108.out 0; have hfz48_1 := blk_frozen BK108.out 1; have hcz49_0 : w47.cell? ⟨gb111, 0, none⟩ = some (.int .i64 t109) := bc BK111 0; have hcz49_1 : w47.cell? ⟨gb111, 1, none⟩ = some (.int .i64 t110) := bc BK111 1; have hfz49_0 := blk_frozen BK111.out 0; have hfz49_1 := blk_frozen BK111.out 1; have hcz50_0 : w47.cell? ⟨gb107, 0, none⟩ = some (.int .i64 ((rd_T29 l0 x5_2).f0)) := bc BK107 0; have hcz50_1 : w47.cell? ⟨gb107, 1, none⟩ = some (.int .i64 ((rd_T29 l0 x5_2).f1)) := bc BK107 1; have hfz50_0 := blk_frozen BK107.out 0; have hfz50_1 := blk_frozen BK107.out 1) | (go_at_call 62; (with_reducible refine (cracknelref04_On.calls t105 t106 t109 t110 ((rd_T29 l0 x5_2).f0) ((rd_T29 l0 x5_2).f1) t113 _ A40.out).mono ?_); rintro e w51 ⟨rfl, hb⟩; have n0_ := kb BK107 hb; have n1_ := kb BK108 hb; have n2_ := kb BK111 hb; have n3_ := Aside0.mk (below_step bh hb); clear BK107; clear BK108; clear BK111; clear HB; have BK107 := n0_; have BK108 := n1_; have BK111 := n2_; have HB := n3_; clear n0_ n1_ n2_ n3_; (try clear hb); (try clear hb2); (try clear hk); (try clear hi)))
           go_meet
           case rel => exact ⟨_, (t113), sd, H', ⟨by have := HK1.out; have := HK2.out; first | omega | exact Nat.le_refl _⟩, ⟨bk BK107⟩, ⟨bk BK108⟩, ⟨bk BK111⟩, ⟨bh⟩⟩
         case rest =>
          clear HC16
          try clear c2
          try clear p2
          try clear c3
          try clear c4
          try clear c6
          try clear p6
          try clear c28
          try clear c29
          try clear c32
          try clear c33
          try clear c34
          try clear c36
          try clear c41
          try clear c42
          try clear c44
          try clear hcz30_0
          try clear hcz30_1
          try clear hcz35_0
          try clear hcz35_1
          try clear hcz37_0
          try clear hcz37_1
          try clear hcz38_0
          try clear hcz38_1
          try clear hcz43_0
          try clear hcz43_1
          try clear hcz45_0
          try clear hcz45_1
          try clear hcz46_0
          try clear hcz46_1
          try clear hcz48_0
          try clear hcz48_1
          try clear hcz49_0
          try clear hcz49_1
          try clear hcz50_0
          try clear hcz50_1
          try clear hfz30_0
          try clear hfz30_1
          try clear hfz35_0
          try clear hfz35_1
          try clear hfz37_0
          try clear hfz37_1
          try clear hfz38_0
          try clear hfz38_1
          try clear hfz43_0
          try clear hfz43_1
          try clear hfz45_0
          try clear hfz45_1
          try clear hfz46_0
          try clear hfz46_1
          try clear hfz48_0
          try clear hfz48_1
          try clear hfz49_0
          try clear hfz49_1
          try clear hfz50_0
          try clear hfz50_1
          obtain ⟨kq, x50_15, rfl, HA, HJ15, BK107, BK108, BK111, HB⟩ := hcut
          cases kq with
          | zero => exact absurd HA.out (by simp [cracknelref04_Simple.j2])
          | succ kj15 =>
           have H := HA.out
           clear HA
           simp only [cracknelref04_Simple.j2] at H
           by_cases c52 : x50_15 = true
           ·subst c52
            rw [if_pos rfl] at H
            obtain rfl := Option.some.inj H
            go_wp2
            go_ret
            exact ⟨by exact er, bh⟩
           ·replace c52 := Bool.eq_false_iff.mpr c52
            subst c52
            rw [if_neg (show ¬ (false = true) by decide)] at H
            have H' := Aside0.mk H
            clear H
            go_wp2
            go_loopg [9] kj15 (fun kq v9 w' => ∃ (x9_4 : Int), v9 = .int .i64 x9_4 ∧ Aside0 (cracknelref04_Simple.l2 kq l0 (l0.length : Int) x5_2 x9_4 ((rd_T29 l0 x5_2).f0) ((rd_T29 l0 x5_2).f1) t105 t106 = some r) ∧ Aside0 (kq ≤ kj15) ∧ Aside0 (w'.heap[gb107]? = some (.cells #[.int .i64 ((rd_T29 l0 x5_2).f0), .int .i64 ((rd_T29 l0 x5_2).f1)] 29 (0, 0))) ∧ Aside0 (w'.heap[gb108]? = some (.cells #[.int .i64 t105, .int .i64 t106] 29 (0, 0))) ∧ Aside0 (w'.heap[gb111]? = some (.cells #[.int .i64 t109, .int .i64 t110] 29 (0, 0))) ∧ Aside0 (Below w.heap.size w w'))
            case atStart => exact ⟨(wrap64 (x5_2 + 2)), sd, H', ⟨Nat.le_refl _⟩, ⟨bk BK107⟩, ⟨bk BK108⟩, ⟨bk BK111⟩, ⟨bh⟩⟩
            case round =>
             clear H'
             try clear c2
             try clear p2
             try clear c3
             try clear c4
             try clear c5
             try clear c6
             try clear p6
             try clear c28
             try clear c29
             try clear c32
             try clear c33
             try clear c34
             try clear c36
             try clear c41
             try clear c42
             try clear c44
             try clear c52
             try clear hcz30_0
             try clear hcz30_1
             try clear hcz35_0
             try clear hcz35_1
             try clear hcz37_0
             try clear hcz37_1
             try clear hcz38_0
             try clear hcz38_1
             try clear hcz43_0
             try clear hcz43_1
             try clear hcz45_0
             try clear hcz45_1
             try clear hcz46_0
             try clear hcz46_1
             try clear hcz48_0
             try clear hcz48_1
             try clear hcz49_0
             try clear hcz49_1
             try clear hcz50_0
             try clear hcz50_1
             try clear hfz30_0
             try clear hfz30_1
             try clear hfz35_0
             try clear hfz35_1
             try clear hfz37_0
             try clear hfz37_1
             try clear hfz38_0
             try clear hfz38_1
             try clear hfz43_0
             try clear hfz43_1
             try clear hfz45_0
             try clear hfz45_1
             try clear hfz46_0
             try clear hfz46_1
             try clear hfz48_0
             try clear hfz48_1
             try clear hfz49_0
             try clear hfz49_1
             try clear hfz50_0
             try clear hfz50_1
             try clear p2
             try clear p6
             obtain ⟨x9_4, rfl, HA, HK4, BK107, BK108, BK111, HB⟩ := hrel
             cases gk with
             | zero => exact absurd HA.out (by simp [cracknelref04_Simple.l2])
             | succ k4 =>
              have H := HA.out
              clear HA
              simp only [cracknelref04_Simple.l2] at H
              by_cases c53 : x9_4 < (l0.length : Int)
              ·rw [if_pos c53] at H
               have c53b0 : decide (x9_4 < (l0.length : Int)) = true := decide_eq_true c53
               clear c53
               by_cases c54 : (l0.length : Int) = 0
               ·rw [if_pos c54] at H
                exact absurd H (by simp)
               ·rw [if_neg c54] at H
                have c54b0 : ((l0.length : Int) == 0) = false := beq_eq_false_iff_ne.mpr c54
                have c54b1 : ((l0.length : Int) != 0) = true := bne_iff_ne.mpr c54
                have c54b2 : ¬ (l0 = []) := fun h_ => c54 (by rw [h_]; rfl)
                by_cases c55 : (Int.tmod (wrap64 (x9_4 + 1)) (l0.length : Int)) = x5_2
                ·rw [if_pos c55] at H
                 have c55b0 : ((Int.tmod (wrap64 (x9_4 + 1)) (l0.length : Int)) == x5_2) = true := beq_iff_eq.mpr c55
                 have c55b1 : ((Int.tmod (wrap64 (x9_4 + 1)) (l0.length : Int)) != x5_2) = false := bne_eq_false_iff_eq.mpr c55
                 clear c55
                 have H' := Aside0.mk H
                 clear H
                 try go_wp2
                 replace BK107 := Aside0.mk (blk_drew BK107.out)
                 replace BK108 := Aside0.mk (blk_drew BK108.out)
                 replace BK111 := Aside0.mk (blk_drew BK111.out)
                 replace HB := Aside0.mk (below_drew1 HB.out)
                 refine start_ (n := 18) (S := fun w' => True) (ds := []) #[false, false, false, false, false, false, false, false, false, false, false, false, false, false, false, false, false, false] (by kernel_rfl) rfl rfl trivial (fun hHeld => ?_); refine with_tabW cracknelref04_Simple.tab17 cracknelref04_Simple.bits17 (fun HT_ HW_ => ?_)
                 generalize wr.drew = w56 at BK107 BK108 BK111 HB hHeld ⊢
                 refine pu 0 58 HT_ ?_
                 refine pu 1 59 HT_ ?_
                 refine pu 2 60 HT_ ?_
                 refine pu 3 61 HT_ ?_
                 refine pu 4 62 HT_ ?_
                 refine pu 5 63 HT_ ?_
                 refine pu 6 64 HT_ ?_
                 refine pz 7 65 HT_ ?_
                 refine pz 8 66 HT_ ?_
                 refine pz 9 67 HT_ ?_
                 refine pz 10 68 HT_ ?_
                 refine pz 11 69 HT_ ?_
                 refine pz 12 70 HT_ ?_
                 refine pz 13 71 HT_ ?_
                 refine pz 14 72 HT_ ?_
                 refine pz 15 73 HT_ ?_
                 refine pz 16 74 HT_ ?_
                 refine pu 17 75 HT_ ?_
                 refine done_ (done_of HT_.out (by kernel_rfl)) ?_
                 try go_wp2
                 go_roundg k4
                 case measure => have := HK1.out; have := HK2.out; have := HJ15.out; have := HK4.out; omega
                 case rel => exact ⟨(wrap64 (x9_4 + 1)), sd, H', ⟨by have := HK1.out; have := HK2.out; have := HJ15.out; have := HK4.out; omega⟩, ⟨bk BK107⟩, ⟨bk BK108⟩, ⟨bk BK111⟩, ⟨bh⟩⟩
                ·rw [if_neg c55] at H
                 have c55b0 : ((Int.tmod (wrap64 (x9_4 + 1)) (l0.length : Int)) == x5_2) = false := beq_eq_false_iff_ne.mpr c55
                 have c55b1 : ((Int.tmod (wrap64 (x9_4 + 1)) (l0.length : Int)) != x5_2) = true := bne_iff_ne.mpr c55
                 by_cases c57 : 0 ≤ x9_4
                 ·rw [if_pos c57] at H
                  have c57b0 : decide (0 ≤ x9_4) = true := decide_eq_true c57
                  clear c57
                  by_cases c58 : x9_4 < (l0.length : Int)
                  ·rw [if_pos c58] at H
                   have c58b0 : decide (x9_4 < (l0.length : Int)) = true := decide_eq_true c58
                   clear c58
                   replace H := Option.bind_eq_some_iff.mp H
                   obtain ⟨⟨t115, t116⟩, A590, H⟩ := H
                   replace H : ((cracknelref04_Meet.f k4 ((rd_T29 l0 x5_2).f0) ((rd_T29 l0 x5_2).f1) t105 t106 ((rd_T29 l0 x9_4).f0) ((rd_T29 l0 x9_4).f1) t115 t116).bind fun t117 => (if t117 = true then (some false) else (cracknelref04_Simple.l2 k4 l0 (l0.length : Int) x5_2 (wrap64 (x9_4 + 1)) ((rd_T29 l0 x5_2).f0) ((rd_T29 l0 x5_2).f1) t105 t106))) = some r := H
                   have A59 := Aside0.mk A590
                   clear A590
                   replace H := Option.bind_eq_some_iff.mp H
                   obtain ⟨t117, A600, H⟩ := H
                   replace H : (if t117 = true then (some false) else (cracknelref04_Simple.l2 k4 l0 (l0.length : Int) x5_2 (wrap64 (x9_4 + 1)) ((rd_T29 l0 x5_2).f0) ((rd_T29 l0 x5_2).f1) t105 t106)) = some r := H
                   have A60 := Aside0.mk A600
                   clear A600
                   by_cases c61 : t117 = true
                   ·subst c61
                    rw [if_pos rfl] at H
                    obtain rfl := Option.some.inj H
                    try go_wp2
                    replace BK107 := Aside0.mk (blk_drew BK107.out)
                    replace BK108 := Aside0.mk (blk_drew BK108.out)
                    replace BK111 := Aside0.mk (blk_drew BK111.out)
                    replace HB := Aside0.mk (below_drew1 HB.out)
                    have p114 : 0 ≤ (x9_4 : Int) := dt
                    have q114 : x9_4 < (l0.length : Int) := dt
                    obtain ⟨ad114, e114, hx114_0, hx114_1⟩ := at_T29 HR0.out x9_4 p114 q114
                    have hw114_1 := hx114_1
                    have hw114_0 := hx114_0
                    obtain rfl : ad104 = ad114 := (by injection e114)
                    replace hx114_0 := hc HB hx114_0
                    replace hx114_1 := hc HB hx114_1
                    replace p114 := eq_true p114
                    replace q114 := eq_true q114
                    refine start_ (n := 18) (S := fun w' => w'.cell? ⟨gb107, 0, none⟩ = some (.int .i64 ((rd_T29 l0 x5_2).f0)) ∧ w'.cell? ⟨gb107, 1, none⟩ = some (.int .i64 ((rd_T29 l0 x5_2).f1)) ∧ w'.cell? ⟨gb108, 0, none⟩ = some (.int .i64 t105) ∧ w'.cell? ⟨gb108, 1, none⟩ = some (.int .i64 t106) ∧ w'.cell? (ad104.add ((x9_4).toNat * 2)) = some (.int .i64 ((rd_T29 l0 x9_4).f0)) ∧ w'.cell? ⟨(ad104.add ((x9_4).toNat * 2)).block, (ad104.add ((x9_4).toNat * 2)).off + 1, none⟩ = some (.int .i64 ((rd_T29 l0 x9_4).f1))) (ds := []) #[false, false, false, false, false, false, false, false, false, false, false, false, false, false, false, false, false, false] (by kernel_rfl) rfl rfl ⟨bc BK107 0, bc BK107 1, bc BK108 0, bc BK108 1, (hc HB hw114_0), (hc HB hw114_1)⟩ (fun hHeld => ?_); refine with_tabW cracknelref04_Simple.tab17 cracknelref04_Simple.bits17 (fun HT_ HW_ => ?_)
                    generalize wr.drew = w62 at BK107 BK108 BK111 HB hx114_0 hx114_1 hHeld ⊢
                    refine pu 0 58 HT_ ?_
                    refine pu 1 59 HT_ ?_
                    refine pu 2 60 HT_ ?_
                    refine pu 3 61 HT_ ?_
                    refine pu 4 62 HT_ ?_
                    refine pu 5 63 HT_ ?_
                    refine pu 6 64 HT_ ?_
                    refine pu 9 67 HT_ ?_
                    refine pu 10 68 HT_ ?_
                    refine pu 11 69 HT_ ?_
                    refine pu 13 71 HT_ ?_
                    refine pu 14 72 HT_ ?_
                    refine tk6 7 65 hHeld HT_ HW_ ?_
                    refine tk6 8 66 hHeld HT_ HW_ ?_
                    refine tk6 12 70 hHeld HT_ HW_ ?_
                    refine one_ (i := 15) (N := some 73) #[true, true, true, true, true, true, true, true, true, true, true, true, true, true, true, true, false, false] rfl rfl (on1 HT_) (by decide) (fun K hK => ?_)
                    refine goes_ Try.func64 (by kernel_rfl) rfl #[.slice (some ad104) l0.length c0, .int .i64 x9_4] (by rfl) rfl rfl sg ?_
                    with_reducible refine (cracknelref04_next.calls _ _ l0 x9_4 t115 t116 _ ?side1 ?side2 A59.out).mono ?_
                    (case side1 => exact cs (Kd.C_below HR0.out HB.out))
                    (case side2 => exact HC0.out)
                    rintro e w63 ⟨rfl, hb⟩
                    refine ⟨_, rfl, ?_⟩
                    replace BK107 := kb BK107 hb
                    replace BK108 := kb BK108 hb
                    replace BK111 := kb BK111 hb
                    replace HB := Aside0.mk (below_step bh hb)
                    (try clear hb); (try clear hb2); (try clear hk); (try clear hi)
                    refine hK.out _ _ ⟨bc BK107 0, bc BK107 1, bc BK108 0, bc BK108 1, (hc HB hw114_0), (hc HB hw114_1)⟩ (fun hHeld => ?_)
                    clear hK K
                    refine nm 73 ?_
                    refine one_ (i := 16) (N := some 74) #[true, true, true, true, true, true, true, true, true, true, true, true, true, true, true, true, true, false] rfl rfl (on1 HT_) (by decide) (fun K hK => ?_)
                    refine goes_ Try.func65 (by kernel_rfl) rfl #[.agg #[.int .i64 ((rd_T29 l0 x5_2).f0), .int .i64 ((rd_T29 l0 x5_2).f1)], .agg #[.int .i64 t105, .int .i64 t106], .agg #[.int .i64 ((rd_T29 l0 x9_4).f0), .int .i64 ((rd_T29 l0 x9_4).f1)], .agg #[.int .i64 t115, .int .i64 t116]] (by rfl) rfl rfl sg ?_
                    with_reducible refine (cracknelref04_Meet.calls k4 ((rd_T29 l0 x5_2).f0) ((rd_T29 l0 x5_2).f1) t105 t106 ((rd_T29 l0 x9_4).f0) ((rd_T29 l0 x9_4).f1) t115 t116 true _ A60.out).mono ?_
                    rintro e w64 ⟨rfl, hb⟩
                    refine ⟨_, rfl, ?_⟩
                    replace BK107 := kb BK107 hb
                    replace BK108 := kb BK108 hb
                    replace BK111 := kb BK111 hb
                    replace HB := Aside0.mk (below_step bh hb)
                    (try clear hb); (try clear hb2); (try clear hk); (try clear hi)
                    refine hK.out _ _ ⟨bc BK107 0, bc BK107 1, bc BK108 0, bc BK108 1, (hc HB hw114_0), (hc HB hw114_1)⟩ (fun hHeld => ?_)
                    clear hK K
                    refine nm 74 ?_
                    refine pu 17 75 HT_ ?_
                    refine done_ (done_of HT_.out (by kernel_rfl)) ?_
                    try go_wp2
                    go_ret
                    exact ⟨by exact er, bh⟩
                   ·replace c61 := Bool.eq_false_iff.mpr c61
                    subst c61
                    rw [if_neg (show ¬ (false = true) by decide)] at H
                    have H' := Aside0.mk H
                    clear H
                    try go_wp2
                    replace BK107 := Aside0.mk (blk_drew BK107.out)
                    replace BK108 := Aside0.mk (blk_drew BK108.out)
                    replace BK111 := Aside0.mk (blk_drew BK111.out)
                    replace HB := Aside0.mk (below_drew1 HB.out)
                    have p114 : 0 ≤ (x9_4 : Int) := dt
                    have q114 : x9_4 < (l0.length : Int) := dt
                    obtain ⟨ad114, e114, hx114_0, hx114_1⟩ := at_T29 HR0.out x9_4 p114 q114
                    have hw114_1 := hx114_1
                    have hw114_0 := hx114_0
                    obtain rfl : ad104 = ad114 := (by injection e114)
                    replace hx114_0 := hc HB hx114_0
                    replace hx114_1 := hc HB hx114_1
                    replace p114 := eq_true p114
                    replace q114 := eq_true q114
                    refine start_ (n := 18) (S := fun w' => w'.cell? ⟨gb107, 0, none⟩ = some (.int .i64 ((rd_T29 l0 x5_2).f0)) ∧ w'.cell? ⟨gb107, 1, none⟩ = some (.int .i64 ((rd_T29 l0 x5_2).f1)) ∧ w'.cell? ⟨gb108, 0, none⟩ = some (.int .i64 t105) ∧ w'.cell? ⟨gb108, 1, none⟩ = some (.int .i64 t106) ∧ w'.cell? (ad104.add ((x9_4).toNat * 2)) = some (.int .i64 ((rd_T29 l0 x9_4).f0)) ∧ w'.cell? ⟨(ad104.add ((x9_4).toNat * 2)).block, (ad104.add ((x9_4).toNat * 2)).off + 1, none⟩ = some (.int .i64 ((rd_T29 l0 x9_4).f1))) (ds := []) #[false, false, false, false, false, false, false, false, false, false, false, false, false, false, false, false, false, false] (by kernel_rfl) rfl rfl ⟨bc BK107 0, bc BK107 1, bc BK108 0, bc BK108 1, (hc HB hw114_0), (hc HB hw114_1)⟩ (fun hHeld => ?_); refine with_tabW cracknelref04_Simple.tab17 cracknelref04_Simple.bits17 (fun HT_ HW_ => ?_)
                    generalize wr.drew = w65 at BK107 BK108 BK111 HB hx114_0 hx114_1 hHeld ⊢
                    refine pu 0 58 HT_ ?_
                    refine pu 1 59 HT_ ?_
                    refine pu 2 60 HT_ ?_
                    refine pu 3 61 HT_ ?_
                    refine pu 4 62 HT_ ?_
                    refine pu 5 63 HT_ ?_
                    refine pu 6 64 HT_ ?_
                    refine pu 9 67 HT_ ?_
                    refine pu 10 68 HT_ ?_
                    refine pu 11 69 HT_ ?_
                    refine pu 13 71 HT_ ?_
                    refine pu 14 72 HT_ ?_
                    refine tk6 7 65 hHeld HT_ HW_ ?_
                    refine tk6 8 66 hHeld HT_ HW_ ?_
                    refine tk6 12 70 hHeld HT_ HW_ ?_
                    refine one_ (i := 15) (N := some 73) #[true, true, true, true, true, true, true, true, true, true, true, true, true, true, true, true, false, false] rfl rfl (on1 HT_) (by decide) (fun K hK => ?_)
                    refine goes_ Try.func64 (by kernel_rfl) rfl #[.slice (some ad104) l0.length c0, .int .i64 x9_4] (by rfl) rfl rfl sg ?_
                    with_reducible refine (cracknelref04_next.calls _ _ l0 x9_4 t115 t116 _ ?side1 ?side2 A59.out).mono ?_
                    (case side1 => exact cs (Kd.C_below HR0.out HB.out))
                    (case side2 => exact HC0.out)
                    rintro e w66 ⟨rfl, hb⟩
                    refine ⟨_, rfl, ?_⟩
                    replace BK107 := kb BK107 hb
                    replace BK108 := kb BK108 hb
                    replace BK111 := kb BK111 hb
                    replace HB := Aside0.mk (below_step bh hb)
                    (try clear hb); (try clear hb2); (try clear hk); (try clear hi)
                    refine hK.out _ _ ⟨bc BK107 0, bc BK107 1, bc BK108 0, bc BK108 1, (hc HB hw114_0), (hc HB hw114_1)⟩ (fun hHeld => ?_)
                    clear hK K
                    refine nm 73 ?_
                    refine one_ (i := 16) (N := some 74) #[true, true, true, true, true, true, true, true, true, true, true, true, true, true, true, true, true, false] rfl rfl (on1 HT_) (by decide) (fun K hK => ?_)
                    refine goes_ Try.func65 (by kernel_rfl) rfl #[.agg #[.int .i64 ((rd_T29 l0 x5_2).f0), .int .i64 ((rd_T29 l0 x5_2).f1)], .agg #[.int .i64 t105, .int .i64 t106], .agg #[.int .i64 ((rd_T29 l0 x9_4).f0), .int .i64 ((rd_T29 l0 x9_4).f1)], .agg #[.int .i64 t115, .int .i64 t116]] (by rfl) rfl rfl sg ?_
                    with_reducible refine (cracknelref04_Meet.calls k4 ((rd_T29 l0 x5_2).f0) ((rd_T29 l0 x5_2).f1) t105 t106 ((rd_T29 l0 x9_4).f0) ((rd_T29 l0 x9_4).f1) t115 t116 false _ A60.out).mono ?_
                    rintro e w67 ⟨rfl, hb⟩
                    refine ⟨_, rfl, ?_⟩
                    replace BK107 := kb BK107 hb
                    replace BK108 := kb BK108 hb
                    replace BK111 := kb BK111 hb
                    replace HB := Aside0.mk (below_step bh hb)
                    (try clear hb); (try clear hb2); (try clear hk); (try clear hi)
                    refine hK.out _ _ ⟨bc BK107 0, bc BK107 1, bc BK108 0, bc BK108 1, (hc HB hw114_0), (hc HB hw114_1)⟩ (fun hHeld => ?_)
                    clear hK K
                    refine nm 74 ?_
                    refine pu 17 75 HT_ ?_
                    refine done_ (done_of HT_.out (by kernel_rfl)) ?_
                    try go_wp2
                    go_roundg k4
                    case measure => have := HK1.out; have := HK2.out; have := HJ15.out; have := HK4.out; omega
                    case rel => exact ⟨(wrap64 (x9_4 + 1)), sd, H', ⟨by have := HK1.out; have := HK2.out; have := HJ15.out; have := HK4.out; omega⟩, ⟨bk BK107⟩, ⟨bk BK108⟩, ⟨bk BK111⟩, ⟨bh⟩⟩
                  ·rw [if_neg c58] at H
                   exact absurd H (by simp)
                 ·rw [if_neg c57] at H
                  exact absurd H (by simp)
              ·rw [if_neg c53] at H
               have c53b0 : decide (x9_4 < (l0.length : Int)) = false := decide_eq_false c53
               clear c53
               have H' := Aside0.mk H
               clear H
               go_wp2
               go_roundg k4
               case measure => have := HK1.out; have := HK2.out; have := HJ15.out; have := HK4.out; omega
               case rel => exact ⟨(wrap64 (x5_2 + 1)), sd, H', ⟨by have := HK1.out; have := HK2.out; have := HJ15.out; have := HK4.out; omega⟩, ⟨bh⟩⟩
        ·rw [if_neg c13] at H
         exact absurd H (by simp)
       ·rw [if_neg c12] at H
        exact absurd H (by simp)
      ·rw [if_neg c11] at H
       have c11b0 : decide (x5_2 < (l0.length : Int)) = false := decide_eq_false c11
       clear c11
       obtain rfl := Option.some.inj H
       go_wp2
       go_ret
       exact ⟨by exact er, bh⟩
end Go.Proofs.Ytoffmpkgickfhaa.PG
end
section
namespace Go.Proofs.Ytoffmpkgickfhaa.M
open Go.RowKit Go.Proofs.Ytoffmpkgickfhaa.PG Go.Proofs.YtoffmpkgickfhaaW.PrintMore Go.Proofs.YtoffmpkgickfhaaW.PrintWords
theorem on_line {a b c : Pt} (h : cr a b c = 0) : btw a c b ∨ btw a b c ∨ btw b c a := by
 have h2 : cr a c b = 0 := by rw [cr_swap]; omega
 have h3 : cr b c a = 0 := by rw [cr_rot]; exact h
 rw [← dot_on h, ← dot_on h2, ← dot_on h3]
 rcases Int.lt_or_le 0 ((a.f0 - b.f0) * (c.f0 - b.f0) + (a.f1 - b.f1) * (c.f1 - b.f1)) with q1 | q1
 ·rcases Int.lt_or_le 0 ((a.f0 - c.f0) * (b.f0 - c.f0) + (a.f1 - c.f1) * (b.f1 - c.f1)) with q2 | q2
  ·rcases Int.lt_or_le 0 ((b.f0 - a.f0) * (c.f0 - a.f0) + (b.f1 - a.f1) * (c.f1 - a.f1)) with q3 | q3
   ·exfalso
    rw [cr_eq] at h
    have e2 : (a.f0 - c.f0) * (b.f0 - c.f0) + (a.f1 - c.f1) * (b.f1 - c.f1) = ((c.f0 - b.f0) * (c.f0 - b.f0) + (c.f1 - b.f1) * (c.f1 - b.f1)) - ((a.f0 - b.f0) * (c.f0 - b.f0) + (a.f1 - b.f1) * (c.f1 - b.f1)) := by grind
    have e3 : (b.f0 - a.f0) * (c.f0 - a.f0) + (b.f1 - a.f1) * (c.f1 - a.f1) = ((a.f0 - b.f0) * (a.f0 - b.f0) + (a.f1 - b.f1) * (a.f1 - b.f1)) - ((a.f0 - b.f0) * (c.f0 - b.f0) + (a.f1 - b.f1) * (c.f1 - b.f1)) := by grind
    have e4 : ((a.f0 - b.f0) * (c.f0 - b.f0) + (a.f1 - b.f1) * (c.f1 - b.f1)) * ((a.f0 - b.f0) * (c.f0 - b.f0) + (a.f1 - b.f1) * (c.f1 - b.f1)) = ((a.f0 - b.f0) * (a.f0 - b.f0) + (a.f1 - b.f1) * (a.f1 - b.f1)) * ((c.f0 - b.f0) * (c.f0 - b.f0) + (c.f1 - b.f1) * (c.f1 - b.f1)) := by grind
    rw [e2] at q2; rw [e3] at q3
    generalize (a.f0 - b.f0) * (c.f0 - b.f0) + (a.f1 - b.f1) * (c.f1 - b.f1) = P at *
    generalize (a.f0 - b.f0) * (a.f0 - b.f0) + (a.f1 - b.f1) * (a.f1 - b.f1) = Q at *
    generalize (c.f0 - b.f0) * (c.f0 - b.f0) + (c.f1 - b.f1) * (c.f1 - b.f1) = R at *
    have : P * P < Q * R := Int.lt_of_lt_of_le (Int.mul_lt_mul_of_pos_left (show P < R by omega) q1) (Int.mul_le_mul_of_nonneg_right (by omega) (by omega))
    omega
   ·right; right; have : (b.f0 - a.f0) * (c.f0 - a.f0) + (b.f1 - a.f1) * (c.f1 - a.f1) ≤ 0 := q3; exact this
  ·right; left; exact q2
 ·left; exact q1
/-- a spike: of two edges in a row that lie on one line, one lies on the other one -/
theorem spike {a b c : Pt} (hab : a ≠ b) (hbc : b ≠ c) : (cr b a c = 0 ∧ 0 < (a.f0 - b.f0) * (c.f0 - b.f0) + (a.f1 - b.f1) * (c.f1 - b.f1)) ↔ (On a b c ∨ On b c a) := by
 have e1 : cr b a c = - cr a b c := by rw [cr_eq, cr_eq]; grind
 have e2 : cr a c b = - cr a b c := cr_swap a b c
 have e3 : cr b c a = cr a b c := cr_rot a b c
 by_cases h : cr a b c = 0
 ·have d := dot_on (show cr a c b = 0 by omega)
  have t := on_line h
  have x1 : btw a c b → btw a b c → False := fun p q => hbc (btw_eq q p)
  have x2 : btw a c b → btw b c a → False := fun p q => hab (btw_eq' p q)
  unfold On
  rw [e1, e3, h]
  constructor
  ·rintro ⟨_, h1⟩
   have : ¬ btw a c b := by rw [← d]; omega
   rcases t with t | t | t
   ·exact absurd t this
   ·exact Or.inl ⟨rfl, t⟩
   ·exact Or.inr ⟨rfl, t⟩
  ·intro h1
   refine ⟨by omega, ?_⟩
   have : ¬ btw a c b := by
    intro hb
    rcases h1 with ⟨_, h1⟩ | ⟨_, h1⟩
    ·exact x1 hb h1
    ·exact x2 hb h1
   rw [← d] at this; omega
 ·unfold On; rw [e1, e3]
  constructor
  ·rintro ⟨h1, _⟩; omega
  ·rintro (⟨h1, _⟩ | ⟨h1, _⟩) <;> omega
theorem Meet_comm (a b c d : Pt) : Meet a b c d ↔ Meet c d a b := by
 unfold Meet
 constructor
 ·rintro (h | h | h | h | h)
  ·exact Or.inr (Or.inr (Or.inl h))
  ·exact Or.inr (Or.inr (Or.inr (Or.inl h)))
  ·exact Or.inl h
  ·exact Or.inr (Or.inl h)
  ·exact Or.inr (Or.inr (Or.inr (Or.inr h.symm)))
 ·rintro (h | h | h | h | h)
  ·exact Or.inr (Or.inr (Or.inl h))
  ·exact Or.inr (Or.inr (Or.inr (Or.inl h)))
  ·exact Or.inl h
  ·exact Or.inr (Or.inl h)
  ·exact Or.inr (Or.inr (Or.inr (Or.inr h.symm)))
/-- simple, as the code has it -/
def CSimple (l : List Pt) : Prop := ∀ i, i < l.length →
 at_ l i ≠ at_ l ((i + 1) % l.length) ∧
 ¬ (cr (at_ l i) (at_ l ((i + l.length - 1) % l.length)) (at_ l ((i + 1) % l.length)) = 0 ∧ 0 < ((at_ l ((i + l.length - 1) % l.length)).f0 - (at_ l i).f0) * ((at_ l ((i + 1) % l.length)).f0 - (at_ l i).f0) + ((at_ l ((i + l.length - 1) % l.length)).f1 - (at_ l i).f1) * ((at_ l ((i + 1) % l.length)).f1 - (at_ l i).f1)) ∧
 ∀ j, j < i → j + 1 ≠ i → (j ≠ 0 ∨ i + 1 ≠ l.length) → ¬ Meet (at_ l i) (at_ l ((i + 1) % l.length)) (at_ l j) (at_ l (j + 1))
theorem csimple_iff (l : List Pt) (hn : 3 ≤ l.length) : CSimple l ↔ Simple l := by
 unfold CSimple Simple
 generalize hl : l.length = n at *
 have prev : ∀ i, i < n → (((i + n - 1) % n) + 1) % n = i ∧ (i + n - 1) % n < n := by
  intro i hi
  refine ⟨?_, Nat.mod_lt _ (by omega)⟩
  by_cases h0 : i = 0
  ·subst h0; rw [show 0 + n - 1 = n - 1 by omega, Nat.mod_eq_of_lt (show n - 1 < n by omega), show n - 1 + 1 = n by omega, Nat.mod_self]
  ·rw [show i + n - 1 = (i - 1) + n by omega, Nat.add_mod_right, Nat.mod_eq_of_lt (show i - 1 < n by omega), show i - 1 + 1 = i by omega, Nat.mod_eq_of_lt hi]
 have nxt : ∀ i, i < n → ((i + 1) % n + n - 1) % n = i ∧ (i + 1) % n < n := by
  intro i hi
  refine ⟨?_, Nat.mod_lt _ (by omega)⟩
  by_cases h0 : i + 1 = n
  ·rw [h0, Nat.mod_self, show 0 + n - 1 = n - 1 by omega, Nat.mod_eq_of_lt (by omega)]; omega
  ·rw [Nat.mod_eq_of_lt (show i + 1 < n by omega), show i + 1 + n - 1 = i + n by omega, Nat.add_mod_right, Nat.mod_eq_of_lt hi]
 have two : ∀ i, ((i + 1) % n + 1) % n = (i + 1 + 1) % n := fun i => by rw [Nat.mod_add_mod]
 constructor
 ·intro h
  refine ⟨fun i hi => (h i hi).1, fun i hi => ?_⟩
  obtain ⟨p1, p2⟩ := nxt i hi
  have q := (h _ p2).2.1
  rw [p1, two i] at q
  have e1 := (h i hi).1
  have e2 := (h _ p2).1
  rw [two i] at e2
  rw [spike e1 e2] at q
  refine ⟨fun h1 => q (Or.inl h1), fun h1 => q (Or.inr h1), fun k hk hkn hki hm => ?_⟩
  have hw : i ≠ 0 ∨ k + 1 ≠ n := by
   rcases Nat.lt_or_ge (k + 1) n with h1 | h1
   ·right; omega
   ·left; intro h0; apply hki; rw [show k + 1 = n by omega, Nat.mod_self, h0]
  have := (h k hkn).2.2 i (by omega) (by omega) hw
  apply this
  rw [Meet_comm]
  rwa [Nat.mod_eq_of_lt (show i + 1 < n by omega)] at hm
 ·rintro ⟨h0, h⟩ i hi
  obtain ⟨p1, p2⟩ := prev i hi
  refine ⟨h0 i hi, ?_, fun j hj hji hw hm => ?_⟩
  ·have e1 := h0 _ p2
   rw [p1] at e1
   rw [spike e1 (h0 i hi)]
   have q := h _ p2
   rw [← two ((i + n - 1) % n), p1] at q
   rintro (h1 | h1)
   ·exact q.1 h1
   ·exact q.2.1 h1
  ·have q := (h j (by omega)).2.2 i (by omega) hi (by
    rcases Nat.lt_or_ge (i + 1) n with h1 | h1
    ·rw [Nat.mod_eq_of_lt h1]; omega
    ·rw [show i + 1 = n by omega, Nat.mod_self]; omega)
   apply q
   rw [Nat.mod_eq_of_lt (show j + 1 < n by omega), Meet_comm]
   exact hm
theorem at_bd {l : List Pt} (hb : ∀ p ∈ l, Bd p) {i : Nat} (hi : i < l.length) : Bd (at_ l i) := hb _ (at_mem hi)
theorem tmod_in (i n : Nat) (hn : 0 < n) : (0 : Int) ≤ (((i % n : Nat)) : Int) ∧ (((i % n : Nat)) : Int) < (n : Int) := by
 have := Nat.mod_lt i hn; omega
theorem simple_l1 {l : List Pt} (hb : ∀ p ∈ l, Bd p) (hn : 3 ≤ l.length) (hN : l.length ≤ 1000000) {i : Nat} (hi : i < l.length) {b' : Bool} (hnext : Rt (fun k => shape_simple.l0 k l (l.length : Int) (l.length : Int) ((i + 1 : Nat) : Int)) b') :
  ∀ d j, i = j + d → ∃ b, Rt (fun k => shape_simple.l1 k l (l.length : Int) (i : Int) (l.length : Int) (i : Int) (i : Int) (j : Int) (at_ l ((i + 1) % l.length)).f0 (at_ l ((i + 1) % l.length)).f1) b ∧ (b = true ↔ (∀ j', j ≤ j' → j' < i → j' + 1 ≠ i → (j' ≠ 0 ∨ i + 1 ≠ l.length) → ¬ Meet (at_ l i) (at_ l ((i + 1) % l.length)) (at_ l j') (at_ l (j' + 1))) ∧ b' = true) := by
 intro d
 induction d with
 | zero =>
  intro j hj
  obtain ⟨K, hK⟩ := hnext
  refine ⟨b', ⟨K + 1, fun k hk => ?_⟩, ⟨fun h => ⟨fun j' h1 h2 => by omega, h⟩, fun h => h.2⟩⟩
  obtain ⟨k, rfl⟩ : ∃ m, k = m + 1 := ⟨k - 1, by omega⟩
  dsimp only; rw [shape_simple.l1, if_neg (by omega), wz _ (by omega) (by omega)]
  exact hK k (by omega)
 | succ d ih =>
  intro j hj
  obtain ⟨b1, ⟨K, hK⟩, hb1⟩ := ih (j + 1) (by omega)
  have skip : ∀ k, K + 1 ≤ k → shape_simple.j3 k l (l.length : Int) (i : Int) (l.length : Int) (i : Int) (i : Int) (j : Int) false (at_ l ((i + 1) % l.length)).f0 (at_ l ((i + 1) % l.length)).f1 = some b1 := by
   intro k hk
   obtain ⟨k, rfl⟩ : ∃ m, k = m + 1 := ⟨k - 1, by omega⟩
   rw [shape_simple.j3, if_neg (by simp), wz _ (by omega) (by omega)]
   exact hK k (by omega)
  have split_ : ∀ (P : Nat → Prop), (∀ j', j ≤ j' → j' < i → P j') ↔ (P j ∧ ∀ j', j + 1 ≤ j' → j' < i → P j') := by
   intro P
   constructor
   ·intro h; exact ⟨h j (Nat.le_refl _) (by omega), fun j' h1 h2 => h j' (by omega) h2⟩
   ·rintro ⟨h0, h⟩ j' h1 h2
    rcases Nat.eq_or_lt_of_le h1 with rfl | h3
    ·exact h0
    ·exact h j' h3 h2
  rw [show (∃ b, Rt (fun k => shape_simple.l1 k l (l.length : Int) (i : Int) (l.length : Int) (i : Int) (i : Int) (j : Int) (at_ l ((i + 1) % l.length)).f0 (at_ l ((i + 1) % l.length)).f1) b ∧ (b = true ↔ (∀ j', j ≤ j' → j' < i → j' + 1 ≠ i → (j' ≠ 0 ∨ i + 1 ≠ l.length) → ¬ Meet (at_ l i) (at_ l ((i + 1) % l.length)) (at_ l j') (at_ l (j' + 1))) ∧ b' = true)) ↔ (∃ b, Rt (fun k => shape_simple.l1 k l (l.length : Int) (i : Int) (l.length : Int) (i : Int) (i : Int) (j : Int) (at_ l ((i + 1) % l.length)).f0 (at_ l ((i + 1) % l.length)).f1) b ∧ (b = true ↔ ((j + 1 ≠ i → (j ≠ 0 ∨ i + 1 ≠ l.length) → ¬ Meet (at_ l i) (at_ l ((i + 1) % l.length)) (at_ l j) (at_ l (j + 1))) ∧ b1 = true))) from by
   rw [split_]; simp only [hb1, and_assoc]]
  by_cases h1 : j + 1 = i
  ·refine ⟨b1, ⟨K + 2, fun k hk => ?_⟩, ⟨fun h => ⟨fun h2 => absurd h1 h2, h⟩, fun h => h.2⟩⟩
   obtain ⟨k, rfl⟩ : ∃ m, k = m + 1 := ⟨k - 1, by omega⟩
   dsimp only; rw [shape_simple.l1, if_pos (by omega), wz _ (by omega) (by omega), if_pos (by omega)]
   exact skip k (by omega)
  ·have hBi := at_bd hb hi
   have hBn := at_bd hb (show (i + 1) % l.length < l.length from Nat.mod_lt _ (by omega))
   have hBj := at_bd hb (show j < l.length by omega)
   have hBk := at_bd hb (show j + 1 < l.length by omega)
   have go : (j ≠ 0 ∨ i + 1 ≠ l.length) → ∀ k, K + 2 ≤ k → ((shape_meet.f k (rd_T29 l i).f0 (rd_T29 l i).f1 (at_ l ((i + 1) % l.length)).f0 (at_ l ((i + 1) % l.length)).f1 (rd_T29 l j).f0 (rd_T29 l j).f1 (rd_T29 l (((j + 1 : Nat)) : Int)).f0 (rd_T29 l ((j + 1 : Nat) : Int)).f1).bind fun t => shape_simple.j3 k l (l.length : Int) (i : Int) (l.length : Int) (i : Int) (i : Int) (j : Int) t (at_ l ((i + 1) % l.length)).f0 (at_ l ((i + 1) % l.length)).f1) = some (!decide (Meet (at_ l i) (at_ l ((i + 1) % l.length)) (at_ l j) (at_ l (j + 1))) && b1) := by
    intro hw k hk
    obtain ⟨k, rfl⟩ : ∃ m, k = m + 1 := ⟨k - 1, by omega⟩
    rw [rd_at, rd_at, rd_at, meet_f hBi hBn hBj hBk, Option.bind_some]
    by_cases hm : Meet (at_ l i) (at_ l ((i + 1) % l.length)) (at_ l j) (at_ l (j + 1))
    ·simp only [hm, decide_true, Bool.not_true, Bool.false_and]
     rw [shape_simple.j3, if_pos rfl]
    ·simp only [hm, decide_false, Bool.not_false, Bool.true_and]
     exact skip (k + 1) (by omega)
   by_cases h2 : j = 0
   ·by_cases h3 : i + 1 = l.length
    ·refine ⟨b1, ⟨K + 2, fun k hk => ?_⟩, ⟨fun h => ⟨fun _ h2 => by omega, h⟩, fun h => h.2⟩⟩
     obtain ⟨k, rfl⟩ : ∃ m, k = m + 1 := ⟨k - 1, by omega⟩
     dsimp only; rw [shape_simple.l1, if_pos (by omega), wz ((j : Int) + 1) (by omega) (by omega), if_neg (by omega), if_pos (by omega), wz _ (by omega) (by omega), if_pos (by omega)]
     exact skip k (by omega)
    ·refine ⟨(!decide (Meet (at_ l i) (at_ l ((i + 1) % l.length)) (at_ l j) (at_ l (j + 1))) && b1), ⟨K + 3, fun k hk => ?_⟩, ?_⟩
     ·obtain ⟨k, rfl⟩ : ∃ m, k = m + 1 := ⟨k - 1, by omega⟩
      dsimp only; rw [shape_simple.l1, if_pos (by omega), wz ((j : Int) + 1) (by omega) (by omega), if_neg (by omega), if_pos (by omega), wz _ (by omega) (by omega), if_neg (by omega), if_pos (by omega), if_pos (by omega), if_pos (by omega), if_pos (by omega), if_pos (by omega), if_pos (by omega)]
      exact go (by omega) k (by omega)
     ·simp only [Bool.and_eq_true, Bool.not_eq_true', decide_eq_false_iff_not]
      exact ⟨fun h => ⟨fun _ _ => h.1, h.2⟩, fun h => ⟨h.1 h1 (Or.inr h3), h.2⟩⟩
   ·refine ⟨(!decide (Meet (at_ l i) (at_ l ((i + 1) % l.length)) (at_ l j) (at_ l (j + 1))) && b1), ⟨K + 3, fun k hk => ?_⟩, ?_⟩
    ·obtain ⟨k, rfl⟩ : ∃ m, k = m + 1 := ⟨k - 1, by omega⟩
     dsimp only; rw [shape_simple.l1, if_pos (by omega), wz ((j : Int) + 1) (by omega) (by omega), if_neg (by omega), if_neg (by omega), if_pos (by omega), if_pos (by omega), if_pos (by omega), if_pos (by omega), if_pos (by omega), if_pos (by omega)]
     exact go (by omega) k (by omega)
    ·simp only [Bool.and_eq_true, Bool.not_eq_true', decide_eq_false_iff_not]
     exact ⟨fun h => ⟨fun _ _ => h.1, h.2⟩, fun h => ⟨h.1 h1 (Or.inl h2), h.2⟩⟩
theorem tmod_last (i n : Nat) (hi : i < n) (hN : n ≤ 1000000) : Int.tmod (wrap64 (wrap64 ((i : Int) + (n : Int)) - 1)) (n : Int) = (((i + n - 1) % n : Nat) : Int) := by
 rw [wz ((i : Int) + (n : Int)) (by omega) (by omega), wz _ (by omega) (by omega), show ((i : Int) + (n : Int)) - 1 = ((i + n - 1 : Nat) : Int) by omega, ← Int.ofNat_tmod]
theorem simple_l0 {l : List Pt} (hb : ∀ p ∈ l, Bd p) (hn : 3 ≤ l.length) (hN : l.length ≤ 1000000) :
  ∀ d i, l.length = i + d → ∃ b, Rt (fun k => shape_simple.l0 k l (l.length : Int) (l.length : Int) (i : Int)) b ∧ (b = true ↔ ∀ i', i ≤ i' → i' < l.length →
   at_ l i' ≠ at_ l ((i' + 1) % l.length) ∧
   ¬ (cr (at_ l i') (at_ l ((i' + l.length - 1) % l.length)) (at_ l ((i' + 1) % l.length)) = 0 ∧ 0 < ((at_ l ((i' + l.length - 1) % l.length)).f0 - (at_ l i').f0) * ((at_ l ((i' + 1) % l.length)).f0 - (at_ l i').f0) + ((at_ l ((i' + l.length - 1) % l.length)).f1 - (at_ l i').f1) * ((at_ l ((i' + 1) % l.length)).f1 - (at_ l i').f1)) ∧
   ∀ j, j < i' → j + 1 ≠ i' → (j ≠ 0 ∨ i' + 1 ≠ l.length) → ¬ Meet (at_ l i') (at_ l ((i' + 1) % l.length)) (at_ l j) (at_ l (j + 1))) := by
 intro d
 induction d with
 | zero =>
  intro i hi
  refine ⟨true, ⟨1, fun k hk => ?_⟩, ⟨fun _ i' h1 h2 => by omega, fun _ => rfl⟩⟩
  obtain ⟨k, rfl⟩ : ∃ m, k = m + 1 := ⟨k - 1, by omega⟩
  dsimp only; rw [shape_simple.l0, if_neg (by omega)]
 | succ d ih =>
  intro i hi
  obtain ⟨b1, hR1, hb1⟩ := ih (i + 1) (by omega)
  obtain ⟨b2, ⟨K, hK⟩, hb2⟩ := simple_l1 hb hn hN (show i < l.length by omega) hR1 i 0 (by omega)
  have hlt : i < l.length := by omega
  have hBi := at_bd hb hlt
  have hBn := at_bd hb (show (i + 1) % l.length < l.length from Nat.mod_lt _ (by omega))
  have hBl := at_bd hb (show (i + l.length - 1) % l.length < l.length from Nat.mod_lt _ (by omega))
  have t1 := tmod_in (i + 1) l.length (by omega)
  have t2 := tmod_in (i + l.length - 1) l.length (by omega)
  have hcross : shape_cross.f ((at_ l ((i + l.length - 1) % l.length)).f0 - (at_ l i).f0) ((at_ l ((i + l.length - 1) % l.length)).f1 - (at_ l i).f1) ((at_ l ((i + 1) % l.length)).f0 - (at_ l i).f0) ((at_ l ((i + 1) % l.length)).f1 - (at_ l i).f1) = some (cr (at_ l i) (at_ l ((i + l.length - 1) % l.length)) (at_ l ((i + 1) % l.length))) := by
   have := side_f hBi hBl hBn
   unfold shape_side.f at this
   rw [sub_f hBl hBi, sub_f hBn hBi] at this
   simpa using this
  have split_ : ∀ (P : Nat → Prop), (∀ i', i ≤ i' → i' < l.length → P i') ↔ (P i ∧ ∀ i', i + 1 ≤ i' → i' < l.length → P i') := by
   intro P
   constructor
   ·intro h; exact ⟨h i (Nat.le_refl _) hlt, fun j' h1 h2 => h j' (by omega) h2⟩
   ·rintro ⟨h0, h⟩ j' h1 h2
    rcases Nat.eq_or_lt_of_le h1 with rfl | h3
    ·exact h0
    ·exact h j' h3 h2
  by_cases e1 : at_ l i = at_ l ((i + 1) % l.length)
  ·refine ⟨false, ⟨1, fun k hk => ?_⟩, ⟨fun h => by simp at h, fun h => absurd e1 (h i (Nat.le_refl _) hlt).1⟩⟩
   obtain ⟨k, rfl⟩ : ∃ m, k = m + 1 := ⟨k - 1, by omega⟩
   dsimp only
   rw [shape_simple.l0, if_pos (by omega), if_neg (by omega), tmod_last i l.length hlt hN, tmod_nat i l.length (by omega), if_pos (by omega), if_pos (by omega), if_pos (by omega), if_pos (by omega), if_pos (by omega), if_pos (by omega), rd_at, rd_at, rd_at, pt_beq, if_pos (by simpa using e1)]
  ·by_cases e2 : (cr (at_ l i) (at_ l ((i + l.length - 1) % l.length)) (at_ l ((i + 1) % l.length)) = 0 ∧ 0 < ((at_ l ((i + l.length - 1) % l.length)).f0 - (at_ l i).f0) * ((at_ l ((i + 1) % l.length)).f0 - (at_ l i).f0) + ((at_ l ((i + l.length - 1) % l.length)).f1 - (at_ l i).f1) * ((at_ l ((i + 1) % l.length)).f1 - (at_ l i).f1))
   ·refine ⟨false, ⟨2, fun k hk => ?_⟩, ⟨fun h => by simp at h, fun h => absurd e2 (h i (Nat.le_refl _) hlt).2.1⟩⟩
    obtain ⟨k, rfl⟩ : ∃ m, k = m + 1 + 1 := ⟨k - 2, by omega⟩
    dsimp only
    rw [shape_simple.l0, if_pos (by omega), if_neg (by omega), tmod_last i l.length hlt hN, tmod_nat i l.length (by omega), if_pos (by omega), if_pos (by omega), if_pos (by omega), if_pos (by omega), if_pos (by omega), if_pos (by omega), rd_at, rd_at, rd_at, pt_beq, if_neg (by simpa using e1), sub_f hBl hBi, Option.bind_some, sub_f hBn hBi, Option.bind_some, hcross, Option.bind_some, if_pos e2.1, dot_f hBl hBn hBi, Option.bind_some, shape_simple.j1, if_pos (by simpa using e2.2)]
   ·refine ⟨b2, ⟨K + 2, fun k hk => ?_⟩, ?_⟩
    ·obtain ⟨k, rfl⟩ : ∃ m, k = m + 1 + 1 := ⟨k - 2, by omega⟩
     dsimp only
     rw [shape_simple.l0, if_pos (by omega), if_neg (by omega), tmod_last i l.length hlt hN, tmod_nat i l.length (by omega), if_pos (by omega), if_pos (by omega), if_pos (by omega), if_pos (by omega), if_pos (by omega), if_pos (by omega), rd_at, rd_at, rd_at, pt_beq, if_neg (by simpa using e1), sub_f hBl hBi, Option.bind_some, sub_f hBn hBi, Option.bind_some, hcross, Option.bind_some]
     have := hK k (by omega)
     by_cases h3 : cr (at_ l i) (at_ l ((i + l.length - 1) % l.length)) (at_ l ((i + 1) % l.length)) = 0
     ·rw [if_pos h3, dot_f hBl hBn hBi, Option.bind_some, shape_simple.j1, if_neg (by simpa using fun h4 => e2 ⟨h3, h4⟩)]
      exact this
     ·rw [if_neg h3, shape_simple.j1, if_neg (by simp)]
      exact this
    ·rw [split_, hb2, hb1]
     constructor
     ·rintro ⟨h1, h2⟩
      exact ⟨⟨e1, e2, fun j hj h3 h4 => h1 j (Nat.zero_le _) hj h3 h4⟩, h2⟩
     ·rintro ⟨⟨_, _, h1⟩, h2⟩
      exact ⟨fun j _ hj h3 h4 => h1 j hj h3 h4, h2⟩
theorem simple_run {l : List Pt} (hb : ∀ p ∈ l, Bd p) (hn : 3 ≤ l.length) (hN : l.length ≤ 1000000) : ∃ b, Rt (fun k => shape_simple.f k l) b ∧ (b = true ↔ Simple l) := by
 obtain ⟨b, hR, h⟩ := simple_l0 hb hn hN l.length 0 (by omega)
 refine ⟨b, hR, ?_⟩
 rw [← csimple_iff l hn, h]
 exact ⟨fun h i hi => h i (Nat.zero_le _) hi, fun h i _ hi => h i hi⟩
end Go.Proofs.Ytoffmpkgickfhaa.M
end
section
namespace Go.Proofs.Ytoffmpkgickfhaa.M
open Go.RowKit Go.Proofs.Ytoffmpkgickfhaa.PG Go.Proofs.YtoffmpkgickfhaaW.PrintMore Go.Proofs.YtoffmpkgickfhaaW.PrintWords
theorem from_split {n i : Nat} (hi : i < n) (P : Nat → Prop) : (∀ i', i ≤ i' → i' < n → P i') ↔ (P i ∧ ∀ i', i + 1 ≤ i' → i' < n → P i') := by
 constructor
 ·intro h; exact ⟨h i (Nat.le_refl _) hi, fun j' h1 h2 => h j' (by omega) h2⟩
 ·rintro ⟨h0, h⟩ j' h1 h2
  rcases Nat.eq_or_lt_of_le h1 with rfl | h3
  ·exact h0
  ·exact h j' h3 h2
theorem fuel1 {k K : Nat} (h : K + 1 ≤ k) : ∃ m, k = m + 1 := ⟨k - 1, by omega⟩
theorem fuel2 {k K : Nat} (h : K + 2 ≤ k) : ∃ m, k = m + 1 + 1 := ⟨k - 2, by omega⟩
theorem rt_step {α : Type} {g h : Nat → Option α} {v : α} (e : ∀ k, g (k + 1) = h k) (r : Rt h v) : Rt g v := by
 obtain ⟨K, hK⟩ := r
 refine ⟨K + 1, fun k hk => ?_⟩
 obtain ⟨k, rfl⟩ := fuel1 hk
 rw [e]; exact hK k (by omega)
theorem rt_ret {α : Type} {g : Nat → Option α} {v : α} (e : ∀ k, g (k + 1) = some v) : Rt g v := by
 refine ⟨0 + 1, fun k hk => ?_⟩
 obtain ⟨k, rfl⟩ := fuel1 hk
 exact e k
theorem wrap_succ (i : Nat) (h : i ≤ 1000000) : wrap64 ((i : Int) + 1) = ((i + 1 : Nat) : Int) := by rw [wz _ (by omega) (by omega)]; omega
theorem wrap_succ2 (i : Nat) (h : i ≤ 1000000) : wrap64 ((i : Int) + 2) = ((i + 2 : Nat) : Int) := by rw [wz _ (by omega) (by omega)]; omega
theorem tmod_nat' (i n : Nat) (_h : i ≤ 1000000) : Int.tmod (((i + 1 : Nat)) : Int) (n : Int) = (((i + 1) % n : Nat) : Int) := by
 rw [← Int.ofNat_tmod]
theorem ref_l2 {l : List Pt} (hb : ∀ p ∈ l, Bd p) (hn : 3 ≤ l.length) (hN : l.length ≤ 1000000) {i : Nat} (hi : i < l.length) {b' : Bool} (hnext : Rt (fun k => cracknelref04_Simple.l1 k l (l.length : Int) ((i + 1 : Nat) : Int)) b') :
  ∀ d j, l.length + 1 = j + d → ∃ b, Rt (fun k => cracknelref04_Simple.l2 k l (l.length : Int) (i : Int) (j : Int) (at_ l i).f0 (at_ l i).f1 (at_ l ((i + 1) % l.length)).f0 (at_ l ((i + 1) % l.length)).f1) b ∧ (b = true ↔ (∀ j', j ≤ j' → j' < l.length → (j' + 1) % l.length ≠ i → ¬ Meet (at_ l i) (at_ l ((i + 1) % l.length)) (at_ l j') (at_ l ((j' + 1) % l.length))) ∧ b' = true) := by
 intro d
 induction d with
 | zero =>
  intro j hj
  obtain ⟨K, hK⟩ := hnext
  refine ⟨b', ⟨K + 1, fun k hk => ?_⟩, ⟨fun h => ⟨fun j' h1 h2 => by omega, h⟩, fun h => h.2⟩⟩
  obtain ⟨k, rfl⟩ := fuel1 hk
  dsimp only; rw [cracknelref04_Simple.l2, if_neg (by omega), wrap_succ i (by omega)]
  exact hK k (by omega)
 | succ d ih =>
  intro j hj
  by_cases hlt : j < l.length
  rotate_left
  ·obtain ⟨K, hK⟩ := hnext
   refine ⟨b', ⟨K + 1, fun k hk => ?_⟩, ⟨fun h => ⟨fun j' h1 h2 => by omega, h⟩, fun h => h.2⟩⟩
   obtain ⟨k, rfl⟩ := fuel1 hk
   dsimp only; rw [cracknelref04_Simple.l2, if_neg (by omega), wrap_succ i (by omega)]
   exact hK k (by omega)
  obtain ⟨b1, ⟨K, hK⟩, hb1⟩ := ih (j + 1) (by omega)
  have hBi := at_bd hb hi
  have hBn := at_bd hb (show (i + 1) % l.length < l.length from Nat.mod_lt _ (by omega))
  have hBj := at_bd hb hlt
  have hBk := at_bd hb (show (j + 1) % l.length < l.length from Nat.mod_lt _ (by omega))
  rw [from_split hlt]
  by_cases h1 : (j + 1) % l.length = i
  ·refine ⟨b1, ⟨K + 1, fun k hk => ?_⟩, ?_⟩
   ·obtain ⟨k, rfl⟩ := fuel1 hk
    dsimp only; rw [cracknelref04_Simple.l2, if_pos (by omega), if_neg (by omega), wrap_succ j (by omega), tmod_nat' j _ (by omega), if_pos (by omega)]
    exact hK k (by omega)
   ·rw [hb1]; exact ⟨fun h => ⟨⟨fun h2 => absurd h1 h2, h.1⟩, h.2⟩, fun h => ⟨h.1.2, h.2⟩⟩
  ·by_cases hm : Meet (at_ l i) (at_ l ((i + 1) % l.length)) (at_ l j) (at_ l ((j + 1) % l.length))
   ·refine ⟨false, ⟨0 + 2, fun k hk => ?_⟩, ⟨fun h => by simp at h, fun h => absurd hm (h.1.1 h1)⟩⟩
    obtain ⟨k, rfl⟩ := fuel2 hk
    dsimp only; rw [cracknelref04_Simple.l2, if_pos (by omega), if_neg (by omega), wrap_succ j (by omega), tmod_nat' j _ (by omega), if_neg (by omega), if_pos (by omega), if_pos (by omega), next_f (by omega) (by omega), Option.bind_some, rd_at, refMeet_f hBi hBn hBj hBk, Option.bind_some, if_pos (by simpa using hm)]
   ·refine ⟨b1, ⟨K + 2, fun k hk => ?_⟩, ?_⟩
    ·obtain ⟨k, rfl⟩ := fuel2 hk
     dsimp only; rw [cracknelref04_Simple.l2, if_pos (by omega), if_neg (by omega), wrap_succ j (by omega), tmod_nat' j _ (by omega), if_neg (by omega), if_pos (by omega), if_pos (by omega), next_f (by omega) (by omega), Option.bind_some, rd_at, refMeet_f hBi hBn hBj hBk, Option.bind_some, if_neg (by simpa using hm)]
     exact hK _ (by omega)
    ·rw [hb1]; exact ⟨fun h => ⟨⟨fun _ => hm, h.1⟩, h.2⟩, fun h => ⟨h.1.2, h.2⟩⟩
theorem ref_l1 {l : List Pt} (hb : ∀ p ∈ l, Bd p) (hn : 3 ≤ l.length) (hN : l.length ≤ 1000000) :
  ∀ d i, l.length = i + d → ∃ b, Rt (fun k => cracknelref04_Simple.l1 k l (l.length : Int) (i : Int)) b ∧ (b = true ↔ ∀ i', i ≤ i' → i' < l.length →
   ¬ On (at_ l i') (at_ l ((i' + 1) % l.length)) (at_ l ((i' + 1 + 1) % l.length)) ∧
   ¬ On (at_ l ((i' + 1) % l.length)) (at_ l ((i' + 1 + 1) % l.length)) (at_ l i') ∧
   ∀ k, i' + 2 ≤ k → k < l.length → (k + 1) % l.length ≠ i' → ¬ Meet (at_ l i') (at_ l ((i' + 1) % l.length)) (at_ l k) (at_ l ((k + 1) % l.length))) := by
 intro d
 induction d with
 | zero =>
  intro i hi
  refine ⟨true, ⟨0 + 1, fun k hk => ?_⟩, ⟨fun _ i' h1 h2 => by omega, fun _ => rfl⟩⟩
  obtain ⟨k, rfl⟩ := fuel1 hk
  dsimp only; rw [cracknelref04_Simple.l1, if_neg (by omega)]
 | succ d ih =>
  intro i hi
  have hlt : i < l.length := by omega
  obtain ⟨b1, hR1, hb1⟩ := ih (i + 1) (by omega)
  obtain ⟨b2, ⟨K, hK⟩, hb2⟩ := ref_l2 hb hn hN hlt hR1 (l.length + 1 - (i + 2)) (i + 2) (by omega)
  have hBi := at_bd hb hlt
  have hBn := at_bd hb (show (i + 1) % l.length < l.length from Nat.mod_lt _ (by omega))
  have hBm := at_bd hb (show (i + 1 + 1) % l.length < l.length from Nat.mod_lt _ (by omega))
  rw [from_split hlt]
  by_cases h1 : On (at_ l i) (at_ l ((i + 1) % l.length)) (at_ l ((i + 1 + 1) % l.length))
  ·refine ⟨false, ⟨0 + 2, fun k hk => ?_⟩, ⟨fun h => by simp at h, fun h => absurd h1 h.1.1⟩⟩
   obtain ⟨k, rfl⟩ := fuel2 hk
   dsimp only; rw [cracknelref04_Simple.l1, if_pos (by omega), if_pos (by omega), if_pos (by omega), next_f (by omega) (by omega), Option.bind_some, wrap_succ i (by omega), next_f (by omega) (by omega), Option.bind_some, rd_at, On_f hBi hBn hBm, Option.bind_some, if_pos (by simpa using h1), cracknelref04_Simple.j2, if_pos rfl]
  ·by_cases h2 : On (at_ l ((i + 1) % l.length)) (at_ l ((i + 1 + 1) % l.length)) (at_ l i)
   ·refine ⟨false, ⟨0 + 2, fun k hk => ?_⟩, ⟨fun h => by simp at h, fun h => absurd h2 h.1.2.1⟩⟩
    obtain ⟨k, rfl⟩ := fuel2 hk
    dsimp only; rw [cracknelref04_Simple.l1, if_pos (by omega), if_pos (by omega), if_pos (by omega), next_f (by omega) (by omega), Option.bind_some, wrap_succ i (by omega), next_f (by omega) (by omega), Option.bind_some, rd_at, On_f hBi hBn hBm, Option.bind_some, if_neg (by simpa using h1), On_f hBn hBm hBi, Option.bind_some, cracknelref04_Simple.j2, if_pos (by simpa using h2)]
   ·refine ⟨b2, ⟨K + 2, fun k hk => ?_⟩, ?_⟩
    ·obtain ⟨k, rfl⟩ := fuel2 hk
     dsimp only; rw [cracknelref04_Simple.l1, if_pos (by omega), if_pos (by omega), if_pos (by omega), next_f (by omega) (by omega), Option.bind_some, wrap_succ i (by omega), next_f (by omega) (by omega), Option.bind_some, rd_at, On_f hBi hBn hBm, Option.bind_some, if_neg (by simpa using h1), On_f hBn hBm hBi, Option.bind_some, cracknelref04_Simple.j2, if_neg (by simpa using h2), wrap_succ2 i (by omega)]
     exact hK _ (by omega)
    ·rw [hb2, hb1]
     exact ⟨fun h => ⟨⟨h1, h2, fun k h3 h4 h5 => h.1 k h3 h4 h5⟩, h.2⟩, fun h => ⟨fun k h3 h4 h5 => h.1.2.2 k h3 h4 h5, h.2⟩⟩
theorem ref_l0 {l : List Pt} (hn : 3 ≤ l.length) (hN : l.length ≤ 1000000) {b' : Bool} (hnext : Rt (fun k => cracknelref04_Simple.l1 k l (l.length : Int) 0) b') :
  ∀ d i, l.length = i + d → ∃ b, Rt (fun k => cracknelref04_Simple.l0 k l (l.length : Int) (i : Int)) b ∧ (b = true ↔ (∀ i', i ≤ i' → i' < l.length → at_ l i' ≠ at_ l ((i' + 1) % l.length)) ∧ b' = true) := by
 intro d
 induction d with
 | zero =>
  intro i hi
  obtain ⟨K, hK⟩ := hnext
  refine ⟨b', ⟨K + 1, fun k hk => ?_⟩, ⟨fun h => ⟨fun i' h1 h2 => by omega, h⟩, fun h => h.2⟩⟩
  obtain ⟨k, rfl⟩ := fuel1 hk
  dsimp only; rw [cracknelref04_Simple.l0, if_neg (by omega)]
  exact hK k (by omega)
 | succ d ih =>
  intro i hi
  have hlt : i < l.length := by omega
  obtain ⟨b1, ⟨K, hK⟩, hb1⟩ := ih (i + 1) (by omega)
  rw [from_split hlt]
  by_cases h1 : at_ l i = at_ l ((i + 1) % l.length)
  ·refine ⟨false, ⟨0 + 1, fun k hk => ?_⟩, ⟨fun h => by simp at h, fun h => absurd h1 h.1.1⟩⟩
   obtain ⟨k, rfl⟩ := fuel1 hk
   dsimp only; rw [cracknelref04_Simple.l0, if_pos (by omega), if_pos (by omega), if_pos (by omega), next_f (by omega) (by omega), Option.bind_some, rd_at, pt_beq, if_pos (by simpa using h1)]
  ·refine ⟨b1, ⟨K + 1, fun k hk => ?_⟩, ?_⟩
   ·obtain ⟨k, rfl⟩ := fuel1 hk
    dsimp only; rw [cracknelref04_Simple.l0, if_pos (by omega), if_pos (by omega), if_pos (by omega), next_f (by omega) (by omega), Option.bind_some, rd_at, pt_beq, if_neg (by simpa using h1), wrap_succ i (by omega)]
    exact hK k (by omega)
   ·rw [hb1]; exact ⟨fun h => ⟨⟨h1, h.1⟩, h.2⟩, fun h => ⟨h.1.2, h.2⟩⟩
theorem refSimple_run {l : List Pt} (hb : ∀ p ∈ l, Bd p) (hn : 3 ≤ l.length) (hN : l.length ≤ 1000000) : ∃ b, Rt (fun k => cracknelref04_Simple.f k l) b ∧ (b = true ↔ Simple l) := by
 obtain ⟨b1, hR1, h1⟩ := ref_l1 hb hn hN l.length 0 (by omega)
 obtain ⟨b, hR, h⟩ := ref_l0 hn hN hR1 l.length 0 (by omega)
 refine ⟨b, hR, ?_⟩
 rw [h, h1]
 exact ⟨fun h => ⟨fun i hi => h.1 i (Nat.zero_le _) hi, fun i hi => h.2 i (Nat.zero_le _) hi⟩, fun h => ⟨fun i _ hi => h.1 i hi, fun i _ hi => h.2 i hi⟩⟩
end Go.Proofs.Ytoffmpkgickfhaa.M
end
section
namespace Go.Proofs.Ytoffmpkgickfhaa.PG
open Go.RowKit Go.Proofs.YtoffmpkgickfhaaW.PrintWords Go.Proofs.YtoffmpkgickfhaaW.PrintLast Go.Proofs.YtoffmpkgickfhaaW.PrintMore
attribute [local go_sem] max2_int min2_int max_two min_two max_three min_three max_four min_four
set_option linter.unusedVariables false
set_option linter.unusedSimpArgs false
attribute [local go_sem high] eqA29
/-! ### shape_normal: function 72 -/
def shape_normal.l0 : Nat → List (S29) → Int → Int → Option (Bool)
 | 0, _, _, _ => none
 | k + 1, x0, x5, x6 => if x6 < x5 then (if 0 ≤ x6 then (if x6 < (x0.length : Int) then (if (x0.length : Int) = 0 then (none) else (if 0 ≤ (Int.tmod (wrap64 (x6 + 1)) (x0.length : Int)) then (if (Int.tmod (wrap64 (x6 + 1)) (x0.length : Int)) < (x0.length : Int) then (if 0 ≤ (Int.tmod (wrap64 (x6 + 2)) (x0.length : Int)) then (if (Int.tmod (wrap64 (x6 + 2)) (x0.length : Int)) < (x0.length : Int) then ((shape_side.f ((rd_T29 x0 x6).f0) ((rd_T29 x0 x6).f1) ((rd_T29 x0 (Int.tmod (wrap64 (x6 + 1)) (x0.length : Int))).f0) ((rd_T29 x0 (Int.tmod (wrap64 (x6 + 1)) (x0.length : Int))).f1) ((rd_T29 x0 (Int.tmod (wrap64 (x6 + 2)) (x0.length : Int))).f0) ((rd_T29 x0 (Int.tmod (wrap64 (x6 + 2)) (x0.length : Int))).f1)).bind fun t104 => (if t104 ≤ 0 then (some false) else (shape_normal.l0 k x0 x5 (wrap64 (x6 + 1))))) else (none)) else (none)) else (none)) else (none))) else (none)) else (none)) else (if 0 < (x0.length : Int) then ((slices_MinFunc_lower.f k x0).bind fun bt106 => (if (((rd_T29 x0 0).f0) == bt106.1 && (((rd_T29 x0 0).f1) == bt106.2)) = true then ((shape_simple.f k x0).bind fun t108 => (some t108)) else (some false))) else (none))
def shape_normal.f (k : Nat) (l0 : List (S29)) : Option (Bool) := shape_normal.l0 k l0 (l0.length : Int) 0
theorem shape_normal.mono_l : ∀ k, (∀ y0 y1 y2, LeO (shape_normal.l0 k y0 y1 y2) (shape_normal.l0 (k + 1) y0 y1 y2))
 | 0 => fun _ _ _ r h => by simp [shape_normal.l0] at h
 | k + 1 => by
  have ih0 := shape_normal.mono_l k
  ·intro y0 y1 y2
   unfold shape_normal.l0
   repeat' first
   | (with_reducible exact ih0 _ _ _)
   | (with_reducible exact shape_simple.mono _ _)
   | (with_reducible exact slices_MinFunc_lower.mono _ _)
   | (with_reducible exact LeO.refl _)
   | (with_reducible exact LeO.none _)
   | (with_reducible refine LeO.ite ?_ ?_)
   | (with_reducible refine LeO.bind ?_ (fun _ => ?_))
   | exact ih0 _ _ _
   | exact shape_simple.mono _ _
   | exact slices_MinFunc_lower.mono _ _
   | exact LeO.none _
   | refine LeO.ite ?_ ?_
   | refine LeO.bind ?_ (fun _ => ?_)
theorem shape_normal.mono : ∀ a0 k, LeO (shape_normal.f k a0) (shape_normal.f (k + 1) a0) := by
 intro a0 k
 have ih0 := shape_normal.mono_l k
 unfold shape_normal.f
 repeat' first
  | (with_reducible exact ih0 _ _ _)
  | (with_reducible exact shape_simple.mono _ _)
  | (with_reducible exact slices_MinFunc_lower.mono _ _)
  | (with_reducible exact LeO.refl _)
  | (with_reducible exact LeO.none _)
  | (with_reducible refine LeO.ite ?_ ?_)
  | (with_reducible refine LeO.bind ?_ (fun _ => ?_))
  | exact ih0 _ _ _
  | exact shape_simple.mono _ _
  | exact slices_MinFunc_lower.mono _ _
  | exact LeO.none _
  | refine LeO.ite ?_ ?_
  | refine LeO.bind ?_ (fun _ => ?_)
def shape_normal.T4 : Bool × List (List Nat × List Nat) := (true, [([], []), ([], []), ([0, 1], [0, 1]), ([2], [2]), ([], []), ([], []), ([5], [5]), ([], []), ([7], [7]), ([6, 8], [6, 8]), ([4, 9], [4, 9]), ([10], [10]), ([], []), ([], []), ([13], [13]), ([], []), ([15], [15]), ([14, 16], [14, 16]), ([12, 17], [12, 17]), ([18], [18]), ([3, 11, 19], [3, 11, 19]), ([20], [20])])
def shape_normal.B4 : List Nat := [0, 0, 3, 7, 0, 0, 32, 0, 128, 480, 1008, 2032, 0, 0, 8192, 0, 32768, 122880, 258048, 520192, 1048575, 2097151]
theorem shape_normal.tab4 : rtab .any (opsOf Try.f72 4) = shape_normal.T4 := by kernel_rfl
theorem shape_normal.bits4 : waitsOk shape_normal.T4.2 shape_normal.B4 = true := by kernel_rfl
def shape_normal.T7 : Bool × List (List Nat × List Nat) := (true, [([], []), ([0], [0]), ([1], [1]), ([], []), ([3], [3]), ([2, 4], [2, 4]), ([5, 4], [5]), ([6], [6]), ([7, 6, 6], [6, 7]), ([6, 8], [6, 8]), ([9, 8, 0, 1, 2, 3, 4, 5, 6, 7, 8, 9], [9])])
def shape_normal.B7 : List Nat := [0, 1, 3, 0, 8, 31, 63, 127, 255, 511, 1023]
theorem shape_normal.tab7 : rtab .any (opsOf Try.f72 7) = shape_normal.T7 := by kernel_rfl
theorem shape_normal.bits7 : waitsOk shape_normal.T7.2 shape_normal.B7 = true := by kernel_rfl
set_option maxHeartbeats 8000000 in
set_option maxRecDepth 100000 in
theorem shape_normal.calls (k : Nat) (A0 : Option Addr) (c0 : Nat) (l0 : List (S29)) (r : Bool) (w : World) (hr0 : Kd.C k29 w A0 l0.length l0) (hc0 : l0.length ≤ c0) (h : shape_normal.f k l0 = some r) :
  Calls Try.prog 72 #[.slice A0 l0.length c0] w fun e w' => e = .returned (.bool r) ∧ Below w.heap.size w w' := by
 have hu29 := Try.underlying29
 have HR0 := Aside0.mk hr0
 have HC0 := Aside0.mk hc0
 clear hr0 hc0
 have HB := Aside0.mk (Below.refl w.heap.size w)
 have H : (shape_normal.l0 k l0 (l0.length : Int) 0) = some r := h
 clear h
 have H' := Aside0.mk H
 clear H
 go_enter Try.func72, Try.ntmps72
 go_wp2
 go_loopg [6] k (fun kq v6 w' => ∃ (x6_1 : Int), v6 = .int .i64 x6_1 ∧ Aside0 (shape_normal.l0 kq l0 (l0.length : Int) x6_1 = some r) ∧ Aside0 (kq ≤ k) ∧ Aside0 (Below w.heap.size w w'))
 case atStart => exact ⟨(0), sd, H', ⟨Nat.le_refl _⟩, ⟨bh⟩⟩
 case round =>
  clear H'
  obtain ⟨x6_1, rfl, HA, HK1, HB⟩ := hrel
  cases gk with
  | zero => exact absurd HA.out (by simp [shape_normal.l0])
  | succ k1 =>
   have H := HA.out
   clear HA
   simp only [shape_normal.l0] at H
   by_cases c2 : x6_1 < (l0.length : Int)
   ·rw [if_pos c2] at H
    have c2b0 : decide (x6_1 < (l0.length : Int)) = true := decide_eq_true c2
    clear c2
    by_cases c3 : 0 ≤ x6_1
    ·rw [if_pos c3] at H
     have c3b0 : decide (0 ≤ x6_1) = true := decide_eq_true c3
     clear c3
     by_cases c4 : x6_1 < (l0.length : Int)
     ·rw [if_pos c4] at H
      have c4b0 : decide (x6_1 < (l0.length : Int)) = true := decide_eq_true c4
      clear c4
      by_cases c5 : (l0.length : Int) = 0
      ·rw [if_pos c5] at H
       exact absurd H (by simp)
      ·rw [if_neg c5] at H
       have c5b0 : ((l0.length : Int) == 0) = false := beq_eq_false_iff_ne.mpr c5
       have c5b1 : ((l0.length : Int) != 0) = true := bne_iff_ne.mpr c5
       have c5b2 : ¬ (l0 = []) := fun h_ => c5 (by rw [h_]; rfl)
       obtain ⟨ji6, hji6⟩ : ∃ j_ : Int, (Int.tmod (wrap64 (x6_1 + 1)) (l0.length : Int)) = j_ := ⟨_, rfl⟩
       replace H : (if 0 ≤ (ji6) then (if (ji6) < (l0.length : Int) then (if 0 ≤ (Int.tmod (wrap64 (x6_1 + 2)) (l0.length : Int)) then (if (Int.tmod (wrap64 (x6_1 + 2)) (l0.length : Int)) < (l0.length : Int) then ((shape_side.f ((rd_T29 l0 x6_1).f0) ((rd_T29 l0 x6_1).f1) ((rd_T29 l0 (ji6)).f0) ((rd_T29 l0 (ji6)).f1) ((rd_T29 l0 (Int.tmod (wrap64 (x6_1 + 2)) (l0.length : Int))).f0) ((rd_T29 l0 (Int.tmod (wrap64 (x6_1 + 2)) (l0.length : Int))).f1)).bind fun t104 => (if t104 ≤ 0 then (some false) else (shape_normal.l0 k1 l0 (l0.length : Int) (wrap64 (x6_1 + 1))))) else (none)) else (none)) else (none)) else (none)) = some r := by first | (rw [hji6] at H; exact H) | (simp only [hji6] at H ⊢; exact H)
       by_cases c7 : 0 ≤ (ji6)
       ·rw [if_pos c7] at H
        have c7b0 : decide (0 ≤ (ji6)) = true := decide_eq_true c7
        clear c7
        by_cases c8 : (ji6) < (l0.length : Int)
        ·rw [if_pos c8] at H
         have c8b0 : decide ((ji6) < (l0.length : Int)) = true := decide_eq_true c8
         clear c8
         obtain ⟨ji9, hji9⟩ : ∃ j_ : Int, (Int.tmod (wrap64 (x6_1 + 2)) (l0.length : Int)) = j_ := ⟨_, rfl⟩
         replace H : (if 0 ≤ (ji9) then (if (ji9) < (l0.length : Int) then ((shape_side.f ((rd_T29 l0 x6_1).f0) ((rd_T29 l0 x6_1).f1) ((rd_T29 l0 (ji6)).f0) ((rd_T29 l0 (ji6)).f1) ((rd_T29 l0 (ji9)).f0) ((rd_T29 l0 (ji9)).f1)).bind fun t104 => (if t104 ≤ 0 then (some false) else (shape_normal.l0 k1 l0 (l0.length : Int) (wrap64 (x6_1 + 1))))) else (none)) else (none)) = some r := by first | (rw [hji9] at H; exact H) | (simp only [hji9] at H ⊢; exact H)
         by_cases c10 : 0 ≤ (ji9)
         ·rw [if_pos c10] at H
          have c10b0 : decide (0 ≤ (ji9)) = true := decide_eq_true c10
          clear c10
          by_cases c11 : (ji9) < (l0.length : Int)
          ·rw [if_pos c11] at H
           have c11b0 : decide ((ji9) < (l0.length : Int)) = true := decide_eq_true c11
           clear c11
           replace H := Option.bind_eq_some_iff.mp H
           obtain ⟨t104, A120, H⟩ := H
           replace H : (if t104 ≤ 0 then (some false) else (shape_normal.l0 k1 l0 (l0.length : Int) (wrap64 (x6_1 + 1)))) = some r := H
           have A12 := Aside0.mk A120
           clear A120
           by_cases c13 : t104 ≤ 0
           ·rw [if_pos c13] at H
            have c13b0 : decide (t104 ≤ 0) = true := decide_eq_true c13
            clear c13
            obtain rfl := Option.some.inj H
            try go_wp2
            replace HB := Aside0.mk (below_drew1 HB.out)
            have p101 : 0 ≤ (x6_1 : Int) := dt
            have q101 : x6_1 < (l0.length : Int) := dt
            obtain ⟨ad101, e101, hx101_0, hx101_1⟩ := at_T29 HR0.out x6_1 p101 q101
            have hw101_1 := hx101_1
            have hw101_0 := hx101_0
            cases e101
            replace hx101_0 := hc HB hx101_0
            replace hx101_1 := hc HB hx101_1
            replace p101 := eq_true p101
            replace q101 := eq_true q101
            have p102 : 0 ≤ ((ji6) : Int) := dt
            have q102 : (ji6) < (l0.length : Int) := dt
            obtain ⟨ad102, e102, hx102_0, hx102_1⟩ := at_T29 HR0.out (ji6) p102 q102
            have hw102_1 := hx102_1
            have hw102_0 := hx102_0
            obtain rfl : ad101 = ad102 := (by injection e102)
            replace hx102_0 := hc HB hx102_0
            replace hx102_1 := hc HB hx102_1
            replace p102 := eq_true p102
            replace q102 := eq_true q102
            have p103 : 0 ≤ ((ji9) : Int) := dt
            have q103 : (ji9) < (l0.length : Int) := dt
            obtain ⟨ad103, e103, hx103_0, hx103_1⟩ := at_T29 HR0.out (ji9) p103 q103
            have hw103_1 := hx103_1
            have hw103_0 := hx103_0
            obtain rfl : ad101 = ad103 := (by injection e103)
            replace hx103_0 := hc HB hx103_0
            replace hx103_1 := hc HB hx103_1
            replace p103 := eq_true p103
            replace q103 := eq_true q103
            refine start_ (n := 22) (S := fun w' => w'.cell? (ad101.add ((x6_1).toNat * 2)) = some (.int .i64 ((rd_T29 l0 x6_1).f0)) ∧ w'.cell? ⟨(ad101.add ((x6_1).toNat * 2)).block, (ad101.add ((x6_1).toNat * 2)).off + 1, none⟩ = some (.int .i64 ((rd_T29 l0 x6_1).f1)) ∧ w'.cell? (ad101.add (((ji6)).toNat * 2)) = some (.int .i64 ((rd_T29 l0 (ji6)).f0)) ∧ w'.cell? ⟨(ad101.add (((ji6)).toNat * 2)).block, (ad101.add (((ji6)).toNat * 2)).off + 1, none⟩ = some (.int .i64 ((rd_T29 l0 (ji6)).f1)) ∧ w'.cell? (ad101.add (((ji9)).toNat * 2)) = some (.int .i64 ((rd_T29 l0 (ji9)).f0)) ∧ w'.cell? ⟨(ad101.add (((ji9)).toNat * 2)).block, (ad101.add (((ji9)).toNat * 2)).off + 1, none⟩ = some (.int .i64 ((rd_T29 l0 (ji9)).f1))) (ds := []) #[false, false, false, false, false, false, false, false, false, false, false, false, false, false, false, false, false, false, false, false, false, false] (by kernel_rfl) rfl rfl ⟨(hc HB hw101_0), (hc HB hw101_1), (hc HB hw102_0), (hc HB hw102_1), (hc HB hw103_0), (hc HB hw103_1)⟩ (fun hHeld => ?_); refine with_tabW shape_normal.tab4 shape_normal.bits4 (fun HT_ HW_ => ?_)
            generalize wr.drew = w14 at HB hx101_0 hx101_1 hx102_0 hx102_1 hx103_0 hx103_1 hHeld ⊢
            refine pu 0 9 HT_ ?_
            refine pu 1 10 HT_ ?_
            refine pu 2 11 HT_ ?_
            refine pu 4 13 HT_ ?_
            refine pu 5 14 HT_ ?_
            refine pu 6 15 HT_ ?_
            refine pu 7 16 HT_ ?_
            refine pu 8 17 HT_ ?_
            refine pu 9 18 HT_ ?_
            refine pu 10 19 HT_ ?_
            refine pu 12 21 HT_ ?_
            refine pu 13 22 HT_ ?_
            refine pu 14 23 HT_ ?_
            refine pu 15 24 HT_ ?_
            refine pu 16 25 HT_ ?_
            refine pu 17 26 HT_ ?_
            refine pu 18 27 HT_ ?_
            refine tk6 3 12 hHeld HT_ HW_ ?_
            refine tk6 11 20 hHeld HT_ HW_ ?_
            refine tk6 19 28 hHeld HT_ HW_ ?_
            refine one_ (i := 20) (N := some 29) #[true, true, true, true, true, true, true, true, true, true, true, true, true, true, true, true, true, true, true, true, true, false] rfl rfl (on1 HT_) (by decide) (fun K hK => ?_)
            refine goes_ Try.func91 (by kernel_rfl) rfl #[.agg #[.int .i64 ((rd_T29 l0 x6_1).f0), .int .i64 ((rd_T29 l0 x6_1).f1)], .agg #[.int .i64 ((rd_T29 l0 (ji6)).f0), .int .i64 ((rd_T29 l0 (ji6)).f1)], .agg #[.int .i64 ((rd_T29 l0 (ji9)).f0), .int .i64 ((rd_T29 l0 (ji9)).f1)]] (by rfl) rfl rfl (by (try simp only [List.map_toArray, List.map_cons, List.map_nil]); first | done | (simp only [hji6, hji9]; rfl) | rfl | (simp only [List.length_drop, List.length_take]; rfl)) ?_
            with_reducible refine (shape_side.calls ((rd_T29 l0 x6_1).f0) ((rd_T29 l0 x6_1).f1) ((rd_T29 l0 (ji6)).f0) ((rd_T29 l0 (ji6)).f1) ((rd_T29 l0 (ji9)).f0) ((rd_T29 l0 (ji9)).f1) t104 _ A12.out).mono ?_
            rintro e w15 ⟨rfl, hb⟩
            refine ⟨_, rfl, ?_⟩
            replace HB := Aside0.mk (below_step bh hb)
            (try clear hb); (try clear hb2); (try clear hk); (try clear hi)
            refine hK.out _ _ ⟨(hc HB hw101_0), (hc HB hw101_1), (hc HB hw102_0), (hc HB hw102_1), (hc HB hw103_0), (hc HB hw103_1)⟩ (fun hHeld => ?_)
            clear hK K
            refine nm 29 ?_
            refine pu 21 30 HT_ ?_
            refine done_ (done_of HT_.out (by kernel_rfl)) ?_
            try go_wp2
            go_ret
            exact ⟨by first | rfl | (simp [errW_none, errW_some] <;> rfl) | (simp only [← hji6, ← hji9]; first | rfl | (simp [errW_none, errW_some] <;> rfl)) | (simp [*, errW_none, errW_some] <;> rfl), bh⟩
           ·rw [if_neg c13] at H
            have c13b0 : decide (t104 ≤ 0) = false := decide_eq_false c13
            clear c13
            have H' := Aside0.mk H
            clear H
            try go_wp2
            replace HB := Aside0.mk (below_drew1 HB.out)
            have p101 : 0 ≤ (x6_1 : Int) := dt
            have q101 : x6_1 < (l0.length : Int) := dt
            obtain ⟨ad101, e101, hx101_0, hx101_1⟩ := at_T29 HR0.out x6_1 p101 q101
            have hw101_1 := hx101_1
            have hw101_0 := hx101_0
            cases e101
            replace hx101_0 := hc HB hx101_0
            replace hx101_1 := hc HB hx101_1
            replace p101 := eq_true p101
            replace q101 := eq_true q101
            have p102 : 0 ≤ ((ji6) : Int) := dt
            have q102 : (ji6) < (l0.length : Int) := dt
            obtain ⟨ad102, e102, hx102_0, hx102_1⟩ := at_T29 HR0.out (ji6) p102 q102
            have hw102_1 := hx102_1
            have hw102_0 := hx102_0
            obtain rfl : ad101 = ad102 := (by injection e102)
            replace hx102_0 := hc HB hx102_0
            replace hx102_1 := hc HB hx102_1
            replace p102 := eq_true p102
            replace q102 := eq_true q102
            have p103 : 0 ≤ ((ji9) : Int) := dt
            have q103 : (ji9) < (l0.length : Int) := dt
            obtain ⟨ad103, e103, hx103_0, hx103_1⟩ := at_T29 HR0.out (ji9) p103 q103
            have hw103_1 := hx103_1
            have hw103_0 := hx103_0
            obtain rfl : ad101 = ad103 := (by injection e103)
            replace hx103_0 := hc HB hx103_0
            replace hx103_1 := hc HB hx103_1
            replace p103 := eq_true p103
            replace q103 := eq_true q103
            refine start_ (n := 22) (S := fun w' => w'.cell? (ad101.add ((x6_1).toNat * 2)) = some (.int .i64 ((rd_T29 l0 x6_1).f0)) ∧ w'.cell? ⟨(ad101.add ((x6_1).toNat * 2)).block, (ad101.add ((x6_1).toNat * 2)).off + 1, none⟩ = some (.int .i64 ((rd_T29 l0 x6_1).f1)) ∧ w'.cell? (ad101.add (((ji6)).toNat * 2)) = some (.int .i64 ((rd_T29 l0 (ji6)).f0)) ∧ w'.cell? ⟨(ad101.add (((ji6)).toNat * 2)).block, (ad101.add (((ji6)).toNat * 2)).off + 1, none⟩ = some (.int .i64 ((rd_T29 l0 (ji6)).f1)) ∧ w'.cell? (ad101.add (((ji9)).toNat * 2)) = some (.int .i64 ((rd_T29 l0 (ji9)).f0)) ∧ w'.cell? ⟨(ad101.add (((ji9)).toNat * 2)).block, (ad101.add (((ji9)).toNat * 2)).off + 1, none⟩ = some (.int .i64 ((rd_T29 l0 (ji9)).f1))) (ds := []) #[false, false, false, false, false, false, false, false, false, false, false, false, false, false, false, false, false, false, false, false, false, false] (by kernel_rfl) rfl rfl ⟨(hc HB hw101_0), (hc HB hw101_1), (hc HB hw102_0), (hc HB hw102_1), (hc HB hw103_0), (hc HB hw103_1)⟩ (fun hHeld => ?_); refine with_tabW shape_normal.tab4 shape_normal.bits4 (fun HT_ HW_ => ?_)
            generalize wr.drew = w16 at HB hx101_0 hx101_1 hx102_0 hx102_1 hx103_0 hx103_1 hHeld ⊢
            refine pu 0 9 HT_ ?_
            refine pu 1 10 HT_ ?_
            refine pu 2 11 HT_ ?_
            refine pu 4 13 HT_ ?_
            refine pu 5 14 HT_ ?_
            refine pu 6 15 HT_ ?_
            refine pu 7 16 HT_ ?_
            refine pu 8 17 HT_ ?_
            refine pu 9 18 HT_ ?_
            refine pu 10 19 HT_ ?_
            refine pu 12 21 HT_ ?_
            refine pu 13 22 HT_ ?_
            refine pu 14 23 HT_ ?_
            refine pu 15 24 HT_ ?_
            refine pu 16 25 HT_ ?_
            refine pu 17 26 HT_ ?_
            refine pu 18 27 HT_ ?_
            refine tk6 3 12 hHeld HT_ HW_ ?_
            refine tk6 11 20 hHeld HT_ HW_ ?_
            refine tk6 19 28 hHeld HT_ HW_ ?_
            refine one_ (i := 20) (N := some 29) #[true, true, true, true, true, true, true, true, true, true, true, true, true, true, true, true, true, true, true, true, true, false] rfl rfl (on1 HT_) (by decide) (fun K hK => ?_)
            refine goes_ Try.func91 (by kernel_rfl) rfl #[.agg #[.int .i64 ((rd_T29 l0 x6_1).f0), .int .i64 ((rd_T29 l0 x6_1).f1)], .agg #[.int .i64 ((rd_T29 l0 (ji6)).f0), .int .i64 ((rd_T29 l0 (ji6)).f1)], .agg #[.int .i64 ((rd_T29 l0 (ji9)).f0), .int .i64 ((rd_T29 l0 (ji9)).f1)]] (by rfl) rfl rfl (by (try simp only [List.map_toArray, List.map_cons, List.map_nil]); first | done | (simp only [hji6, hji9]; rfl) | rfl | (simp only [List.length_drop, List.length_take]; rfl)) ?_
            with_reducible refine (shape_side.calls ((rd_T29 l0 x6_1).f0) ((rd_T29 l0 x6_1).f1) ((rd_T29 l0 (ji6)).f0) ((rd_T29 l0 (ji6)).f1) ((rd_T29 l0 (ji9)).f0) ((rd_T29 l0 (ji9)).f1) t104 _ A12.out).mono ?_
            rintro e w17 ⟨rfl, hb⟩
            refine ⟨_, rfl, ?_⟩
            replace HB := Aside0.mk (below_step bh hb)
            (try clear hb); (try clear hb2); (try clear hk); (try clear hi)
            refine hK.out _ _ ⟨(hc HB hw101_0), (hc HB hw101_1), (hc HB hw102_0), (hc HB hw102_1), (hc HB hw103_0), (hc HB hw103_1)⟩ (fun hHeld => ?_)
            clear hK K
            refine nm 29 ?_
            refine pu 21 30 HT_ ?_
            refine done_ (done_of HT_.out (by kernel_rfl)) ?_
            try go_wp2
            go_roundg k1
            case measure => have := HK1.out; omega
            case rel => exact ⟨(wrap64 (x6_1 + 1)), sd, H', ⟨by have := HK1.out; omega⟩, ⟨bh⟩⟩
          ·rw [if_neg c11] at H
           exact absurd H (by simp)
         ·rw [if_neg c10] at H
          exact absurd H (by simp)
        ·rw [if_neg c8] at H
         exact absurd H (by simp)
       ·rw [if_neg c7] at H
        exact absurd H (by simp)
     ·rw [if_neg c4] at H
      exact absurd H (by simp)
    ·rw [if_neg c3] at H
     exact absurd H (by simp)
   ·rw [if_neg c2] at H
    have c2b0 : decide (x6_1 < (l0.length : Int)) = false := decide_eq_false c2
    clear c2
    by_cases c18 : 0 < (l0.length : Int)
    ·rw [if_pos c18] at H
     have c18b0 : decide (0 < (l0.length : Int)) = true := decide_eq_true c18
     have c18b1 : decide (0 < l0.length) = true := decide_eq_true (by omega)
     clear c18
     replace H := Option.bind_eq_some_iff.mp H
     obtain ⟨⟨t106, t107⟩, A190, H⟩ := H
     replace H : (if (((rd_T29 l0 0).f0) == t106 && (((rd_T29 l0 0).f1) == t107)) = true then ((shape_simple.f k1 l0).bind fun t108 => (some t108)) else (some false)) = some r := H
     have A19 := Aside0.mk A190
     clear A190
     by_cases c20 : (((rd_T29 l0 0).f0) == t106 && (((rd_T29 l0 0).f1) == t107)) = true
     ·rw [if_pos c20] at H
      have c20b0 : (((rd_T29 l0 0).f0) == t106 && (((rd_T29 l0 0).f1) == t107)) = true := c20
      (try (have c20b1 : decide (((rd_T29 l0 0).f0) = t106 && (((rd_T29 l0 0).f1) == t107)) = true := by simpa using c20))
      (try (have c20b2 : (((rd_T29 l0 0).f0) == t106 && (((rd_T29 l0 0).f1) == t107)) = true := by simpa using c20))
      clear c20
      replace H := Option.bind_eq_some_iff.mp H
      obtain ⟨t108, A210, H⟩ := H
      replace H : (some t108) = some r := H
      have A21 := Aside0.mk A210
      clear A210
      obtain rfl := Option.some.inj H
      try go_wp2
      replace HB := Aside0.mk (below_drew1 HB.out)
      have p105 : 0 ≤ (0 : Int) := (by omega)
      have q105 : 0 < (l0.length : Int) := dt
      obtain ⟨ad105, e105, hx105_0, hx105_1⟩ := at_T29 HR0.out 0 p105 q105
      have hw105_1 := hx105_1
      (try rw [show ((0 : Int)).toNat = 0 from rfl] at hw105_1)
      (try rw [show 0 * 2 = 0 from rfl] at hw105_1)
      (try rw [Addr.add_zero'] at hw105_1)
      have hw105_0 := hx105_0
      (try rw [show ((0 : Int)).toNat = 0 from rfl] at hw105_0)
      (try rw [show 0 * 2 = 0 from rfl] at hw105_0)
      (try rw [Addr.add_zero'] at hw105_0)
      cases e105
      have qi105 : (0 < l0.length) = True := eq_true (by omega)
      (try rw [show ((0 : Int)).toNat = 0 from rfl] at hx105_0)
      (try rw [show 0 * 2 = 0 from rfl] at hx105_0)
      (try rw [Addr.add_zero'] at hx105_0)
      (try rw [show ((0 : Int)).toNat = 0 from rfl] at hx105_1)
      (try rw [show 0 * 2 = 0 from rfl] at hx105_1)
      (try rw [Addr.add_zero'] at hx105_1)
      replace hx105_0 := hc HB hx105_0
      replace hx105_1 := hc HB hx105_1
      replace p105 := eq_true p105
      replace q105 := eq_true q105
      refine start_ (n := 11) (S := fun w' => w'.cell? ad105 = some (.int .i64 ((rd_T29 l0 0).f0)) ∧ w'.cell? ⟨ad105.block, ad105.off + 1, none⟩ = some (.int .i64 ((rd_T29 l0 0).f1))) (ds := []) #[false, false, false, false, false, false, false, false, false, false, false] (by kernel_rfl) rfl rfl ⟨(hc HB hw105_0), (hc HB hw105_1)⟩ (fun hHeld => ?_); refine with_tabW shape_normal.tab7 shape_normal.bits7 (fun HT_ HW_ => ?_)
      generalize wr.drew = w22 at HB hx105_0 hx105_1 hHeld ⊢
      refine pu 0 32 HT_ ?_
      refine pu 1 33 HT_ ?_
      refine pu 3 35 HT_ ?_
      refine tk2 2 34 hHeld HT_ HW_ ?_
      refine one_ (i := 4) (N := some 36) #[true, true, true, true, true, false, false, false, false, false, false] rfl rfl (on1 HT_) (by decide) (fun K hK => ?_)
      refine goes_ Try.func94 (by kernel_rfl) rfl #[.slice (some ad105) l0.length c0, .func (.func 95) #[] #[]] (by rfl) rfl rfl sg ?_
      with_reducible refine (slices_MinFunc_lower.calls k1 _ _ l0  t106 t107 _ ?side1 ?side2 A19.out).mono ?_
      (case side1 => exact cs (Kd.C_below HR0.out HB.out))
      (case side2 => exact HC0.out)
      rintro e w23 ⟨rfl, hb⟩
      refine ⟨_, rfl, ?_⟩
      replace HB := Aside0.mk (below_step bh hb)
      (try clear hb); (try clear hb2); (try clear hk); (try clear hi)
      refine hK.out _ _ ⟨(hc HB hw105_0), (hc HB hw105_1)⟩ (fun hHeld => ?_)
      clear hK K
      refine nm 36 ?_
      refine pu 5 37 HT_ ?_
      refine pu 6 38 HT_ ?_
      refine pu 7 39 HT_ ?_
      refine one_ (i := 8) (N := some 40) #[true, true, true, true, true, true, true, true, true, false, false] rfl rfl (on1 HT_) (by decide) (fun K hK => ?_)
      refine goes_ Try.func69 (by kernel_rfl) rfl #[.slice (some ad105) l0.length c0] (by rfl) rfl rfl sg ?_
      with_reducible refine (shape_simple.calls k1 _ _ l0 t108 _ ?side1 ?side2 A21.out).mono ?_
      (case side1 => exact cs (Kd.C_below HR0.out HB.out))
      (case side2 => exact HC0.out)
      rintro e w24 ⟨rfl, hb⟩
      refine ⟨_, rfl, ?_⟩
      replace HB := Aside0.mk (below_step bh hb)
      (try clear hb); (try clear hb2); (try clear hk); (try clear hi)
      refine hK.out _ _ ⟨(hc HB hw105_0), (hc HB hw105_1)⟩ (fun hHeld => ?_)
      clear hK K
      refine nm 40 ?_
      refine pu 9 41 HT_ ?_
      refine pu 10 2 HT_ ?_
      refine done_ (done_of HT_.out (by kernel_rfl)) ?_
      try go_wp2
      go_ret
      exact ⟨by exact er, bh⟩
     ·rw [if_neg c20] at H
      have c20b0 : (((rd_T29 l0 0).f0) == t106 && (((rd_T29 l0 0).f1) == t107)) = false := by simpa using c20
      (try (have c20b1 : decide (((rd_T29 l0 0).f0) = t106 && (((rd_T29 l0 0).f1) == t107)) = false := by simpa using c20))
      (try (have c20b2 : (((rd_T29 l0 0).f0) == t106 && (((rd_T29 l0 0).f1) == t107)) = false := by simpa using c20))
      (try (have c20b3 : ¬ (((rd_T29 l0 0).f0) = t106 && (((rd_T29 l0 0).f1) == t107)) := by simpa using c20))
      clear c20
      obtain rfl := Option.some.inj H
      try go_wp2
      replace HB := Aside0.mk (below_drew1 HB.out)
      have p105 : 0 ≤ (0 : Int) := (by omega)
      have q105 : 0 < (l0.length : Int) := dt
      obtain ⟨ad105, e105, hx105_0, hx105_1⟩ := at_T29 HR0.out 0 p105 q105
      have hw105_1 := hx105_1
      (try rw [show ((0 : Int)).toNat = 0 from rfl] at hw105_1)
      (try rw [show 0 * 2 = 0 from rfl] at hw105_1)
      (try rw [Addr.add_zero'] at hw105_1)
      have hw105_0 := hx105_0
      (try rw [show ((0 : Int)).toNat = 0 from rfl] at hw105_0)
      (try rw [show 0 * 2 = 0 from rfl] at hw105_0)
      (try rw [Addr.add_zero'] at hw105_0)
      cases e105
      have qi105 : (0 < l0.length) = True := eq_true (by omega)
      (try rw [show ((0 : Int)).toNat = 0 from rfl] at hx105_0)
      (try rw [show 0 * 2 = 0 from rfl] at hx105_0)
      (try rw [Addr.add_zero'] at hx105_0)
      (try rw [show ((0 : Int)).toNat = 0 from rfl] at hx105_1)
      (try rw [show 0 * 2 = 0 from rfl] at hx105_1)
      (try rw [Addr.add_zero'] at hx105_1)
      replace hx105_0 := hc HB hx105_0
      replace hx105_1 := hc HB hx105_1
      replace p105 := eq_true p105
      replace q105 := eq_true q105
      refine start_ (n := 11) (S := fun w' => w'.cell? ad105 = some (.int .i64 ((rd_T29 l0 0).f0)) ∧ w'.cell? ⟨ad105.block, ad105.off + 1, none⟩ = some (.int .i64 ((rd_T29 l0 0).f1))) (ds := []) #[false, false, false, false, false, false, false, false, false, false, false] (by kernel_rfl) rfl rfl ⟨(hc HB hw105_0), (hc HB hw105_1)⟩ (fun hHeld => ?_); refine with_tabW shape_normal.tab7 shape_normal.bits7 (fun HT_ HW_ => ?_)
      generalize wr.drew = w25 at HB hx105_0 hx105_1 hHeld ⊢
      refine pu 0 32 HT_ ?_
      refine pu 1 33 HT_ ?_
      refine pu 3 35 HT_ ?_
      refine tk2 2 34 hHeld HT_ HW_ ?_
      refine one_ (i := 4) (N := some 36) #[true, true, true, true, true, false, false, false, false, false, false] rfl rfl (on1 HT_) (by decide) (fun K hK => ?_)
      refine goes_ Try.func94 (by kernel_rfl) rfl #[.slice (some ad105) l0.length c0, .func (.func 95) #[] #[]] (by rfl) rfl rfl sg ?_
      with_reducible refine (slices_MinFunc_lower.calls k1 _ _ l0  t106 t107 _ ?side1 ?side2 A19.out).mono ?_
      (case side1 => exact cs (Kd.C_below HR0.out HB.out))
      (case side2 => exact HC0.out)
      rintro e w26 ⟨rfl, hb⟩
      refine ⟨_, rfl, ?_⟩
      replace HB := Aside0.mk (below_step bh hb)
      (try clear hb); (try clear hb2); (try clear hk); (try clear hi)
      refine hK.out _ _ ⟨(hc HB hw105_0), (hc HB hw105_1)⟩ (fun hHeld => ?_)
      clear hK K
      refine nm 36 ?_
      refine pu 5 37 HT_ ?_
      refine pu 6 38 HT_ ?_
      refine pz 7 39 HT_ ?_
      refine pz 8 40 HT_ ?_
      refine pu 9 41 HT_ ?_
      refine pu 10 2 HT_ ?_
      refine done_ (done_of HT_.out (by kernel_rfl)) ?_
      try go_wp2
      go_ret
      exact ⟨by exact er, bh⟩
    ·rw [if_neg c18] at H
     exact absurd H (by simp)
end Go.Proofs.Ytoffmpkgickfhaa.PG
end
section
namespace Go.Proofs.Ytoffmpkgickfhaa.PG
open Go.RowKit Go.Proofs.YtoffmpkgickfhaaW.PrintWords Go.Proofs.YtoffmpkgickfhaaW.PrintLast Go.Proofs.YtoffmpkgickfhaaW.PrintMore
attribute [local go_sem] max2_int min2_int max_two min_two max_three min_three max_four min_four
set_option linter.unusedVariables false
set_option linter.unusedSimpArgs false
/-! ### cracknelref04_Convex: function 31 -/
mutual
def cracknelref04_Convex.l0 : Nat → List (S29) → Int → Option (Bool)
 | 0, _, _ => none
 | k + 1, x0, x3 => if x3 < (x0.length : Int) then (if 0 ≤ x3 then ((cracknelref04_next.f x0 x3).bind fun bt103 => ((cracknelref04_next.f x0 (wrap64 (x3 + 1))).bind fun bt105 => ((cracknelref04_Cross.f ((rd_T29 x0 x3).f0) ((rd_T29 x0 x3).f1) bt103.1 bt103.2 bt105.1 bt105.2).bind fun t107 => (if t107 ≤ 0 then (cracknelref04_Convex.j1 k x0 x3 true) else (if x3 > 0 then (if 0 < (x0.length : Int) then ((cracknelref04_first.f ((rd_T29 x0 0).f0) ((rd_T29 x0 0).f1) ((rd_T29 x0 x3).f0) ((rd_T29 x0 x3).f1)).bind fun t110 => (cracknelref04_Convex.j1 k x0 x3 (!t110))) else (none)) else (cracknelref04_Convex.j1 k x0 x3 false)))))) else (none)) else (some true)
def cracknelref04_Convex.j1 : Nat → List (S29) → Int → Bool → Option (Bool)
 | 0, _, _, _ => none
 | k + 1, x0, x3, x40 => if x40 = true then (some false) else (cracknelref04_Convex.l0 k x0 (wrap64 (x3 + 1)))
end
def cracknelref04_Convex.f (k : Nat) (l0 : List (S29)) : Option (Bool) := (cracknelref04_Simple.f k l0).bind fun t101 => (if t101 = true then (cracknelref04_Convex.l0 k l0 0) else (some false))
theorem cracknelref04_Convex.mono_l : ∀ k, (∀ y0 y1, LeO (cracknelref04_Convex.l0 k y0 y1) (cracknelref04_Convex.l0 (k + 1) y0 y1)) ∧ (∀ y0 y1 y2, LeO (cracknelref04_Convex.j1 k y0 y1 y2) (cracknelref04_Convex.j1 (k + 1) y0 y1 y2))
 | 0 => ⟨fun _ _ r h => by simp [cracknelref04_Convex.l0] at h, fun _ _ _ r h => by simp [cracknelref04_Convex.j1] at h⟩
 | k + 1 => by
  obtain ⟨ih0, ih1⟩ := cracknelref04_Convex.mono_l k
  refine ⟨?_, ?_⟩
  ·intro y0 y1
   unfold cracknelref04_Convex.l0
   repeat' first
   | (with_reducible exact ih0 _ _)
   | (with_reducible exact ih1 _ _ _)
   | (with_reducible exact cracknelref04_Simple.mono _ _)
   | (with_reducible exact LeO.refl _)
   | (with_reducible exact LeO.none _)
   | (with_reducible refine LeO.ite ?_ ?_)
   | (with_reducible refine LeO.bind ?_ (fun _ => ?_))
   | exact ih0 _ _
   | exact ih1 _ _ _
   | exact cracknelref04_Simple.mono _ _
   | exact LeO.none _
   | refine LeO.ite ?_ ?_
   | refine LeO.bind ?_ (fun _ => ?_)
  ·intro y0 y1 y2
   unfold cracknelref04_Convex.j1
   repeat' first
   | (with_reducible exact ih0 _ _)
   | (with_reducible exact ih1 _ _ _)
   | (with_reducible exact cracknelref04_Simple.mono _ _)
   | (with_reducible exact LeO.refl _)
   | (with_reducible exact LeO.none _)
   | (with_reducible refine LeO.ite ?_ ?_)
   | (with_reducible refine LeO.bind ?_ (fun _ => ?_))
   | exact ih0 _ _
   | exact ih1 _ _ _
   | exact cracknelref04_Simple.mono _ _
   | exact LeO.none _
   | refine LeO.ite ?_ ?_
   | refine LeO.bind ?_ (fun _ => ?_)
theorem cracknelref04_Convex.mono : ∀ a0 k, LeO (cracknelref04_Convex.f k a0) (cracknelref04_Convex.f (k + 1) a0) := by
 intro a0 k
 obtain ⟨ih0, ih1⟩ := cracknelref04_Convex.mono_l k
 unfold cracknelref04_Convex.f
 repeat' first
  | (with_reducible exact ih0 _ _)
  | (with_reducible exact ih1 _ _ _)
  | (with_reducible exact cracknelref04_Simple.mono _ _)
  | (with_reducible exact LeO.refl _)
  | (with_reducible exact LeO.none _)
  | (with_reducible refine LeO.ite ?_ ?_)
  | (with_reducible refine LeO.bind ?_ (fun _ => ?_))
  | exact ih0 _ _
  | exact ih1 _ _ _
  | exact cracknelref04_Simple.mono _ _
  | exact LeO.none _
  | refine LeO.ite ?_ ?_
  | refine LeO.bind ?_ (fun _ => ?_)
def cracknelref04_Convex.T6 : Bool × List (List Nat × List Nat) := (true, [([], []), ([], []), ([0, 1], [0, 1]), ([2], [2]), ([], []), ([], []), ([4, 5], [4, 5]), ([], []), ([], []), ([8], [8]), ([7, 9, 6], [7, 9]), ([3, 6, 10, 10], [3, 6, 10]), ([11], [11]), ([12, 11], [12]), ([13], [13]), ([14, 13], [13, 14]), ([15, 13, 13], [13, 15]), ([16], [16]), ([17, 16], [16, 17]), ([18, 16], [16, 18]), ([16], [16]), ([16], [16]), ([20, 21, 16], [16, 20, 21]), ([22, 16], [16, 22]), ([19, 23, 16, 16], [16, 19, 23]), ([24, 16], [16, 24]), ([16, 25, 13], [13, 16, 25]), ([13, 26], [13, 26])])
def cracknelref04_Convex.B6 : List Nat := [0, 0, 3, 7, 0, 0, 48, 0, 0, 256, 1008, 2047, 4095, 8191, 16383, 32767, 65535, 131071, 262143, 524287, 131071, 131071, 3276799, 7471103, 16777215, 33554431, 67108863, 134217727]
theorem cracknelref04_Convex.tab6 : rtab .any (opsOf Try.f31 6) = cracknelref04_Convex.T6 := by kernel_rfl
theorem cracknelref04_Convex.bits6 : waitsOk cracknelref04_Convex.T6.2 cracknelref04_Convex.B6 = true := by kernel_rfl
set_option maxHeartbeats 8000000 in
set_option maxRecDepth 100000 in
theorem cracknelref04_Convex.calls (k : Nat) (A0 : Option Addr) (c0 : Nat) (l0 : List (S29)) (r : Bool) (w : World) (hr0 : Kd.C k29 w A0 l0.length l0) (hc0 : l0.length ≤ c0) (h : cracknelref04_Convex.f k l0 = some r) :
  Calls Try.prog 31 #[.slice A0 l0.length c0] w fun e w' => e = .returned (.bool r) ∧ Below w.heap.size w w' := by
 have hu29 := Try.underlying29
 have HR0 := Aside0.mk hr0
 have HC0 := Aside0.mk hc0
 clear hr0 hc0
 have HB := Aside0.mk (Below.refl w.heap.size w)
 have H : ((cracknelref04_Simple.f k l0).bind fun t101 => (if t101 = true then (cracknelref04_Convex.l0 k l0 0) else (some false))) = some r := h
 clear h
 replace H := Option.bind_eq_some_iff.mp H
 obtain ⟨t101, A20, H⟩ := H
 replace H : (if t101 = true then (cracknelref04_Convex.l0 k l0 0) else (some false)) = some r := H
 have A2 := Aside0.mk A20
 clear A20
 by_cases c3 : t101 = true
 ·subst c3
  rw [if_pos rfl] at H
  have H' := Aside0.mk H
  clear H
  go_enter Try.func31, Try.ntmps31
  go_wp2_with (first | ((with_reducible refine gate_callee (f := 22) rfl ?_); refine goesL_ (some 5) rfl rfl Try.func22 (by kernel_rfl) rfl #[.slice A0 l0.length c0] rfl sg ?_; (with_reducible refine (cracknelref04_Simple.calls k _ _ l0 true _ ?side1 ?side2 A2.out).mono ?_); (case side1 => repeat (first | exact HR0.out | (with_reducible refine Kd.C_alloc ?_ _) | (with_reducible refine Kd.C_drewN ?_ _) | (with_reducible refine Kd.C_drew ?_))); (case side2 => exact HC0.out); rintro e w4 ⟨rfl, hb⟩; refine ⟨_, rfl, ?_⟩; have n0_ := Aside0.mk (below_step bh hb); clear HB; have HB := n0_; clear n0_; (try clear hb); (try clear hb2); (try clear hk); (try clear hi)))
  go_loopg [3] k (fun kq v3 w' => ∃ (x3_1 : Int), v3 = .int .i64 x3_1 ∧ Aside0 (cracknelref04_Convex.l0 kq l0 x3_1 = some r) ∧ Aside0 (kq ≤ k) ∧ Aside0 (Below w.heap.size w w'))
  case atStart => exact ⟨(0), sd, H', ⟨Nat.le_refl _⟩, ⟨bh⟩⟩
  case round =>
   clear H'
   try clear c2
   try clear p2
   try clear c3
   obtain ⟨x3_1, rfl, HA, HK1, HB⟩ := hrel
   cases gk with
   | zero => exact absurd HA.out (by simp [cracknelref04_Convex.l0])
   | succ k1 =>
    have H := HA.out
    clear HA
    simp only [cracknelref04_Convex.l0] at H
    by_cases c5 : x3_1 < (l0.length : Int)
    ·rw [if_pos c5] at H
     have c5b0 : decide (x3_1 < (l0.length : Int)) = true := decide_eq_true c5
     clear c5
     have HC6 := Aside0.mk H
     clear H
     go_upto_region 6 with (fail)
     go_cut [40] (fun v40 wc => ∃ (kq : Nat) (x40_5 : Bool), v40 = .bool x40_5 ∧ Aside0 (cracknelref04_Convex.j1 kq l0 x3_1 x40_5 = some r) ∧ Aside0 (kq ≤ k1) ∧ Aside0 (Below w.heap.size w wc))
     case first =>
      have H := HC6.out
      clear HC6
      by_cases c7 : 0 ≤ x3_1
      ·rw [if_pos c7] at H
       have c7b0 : decide (0 ≤ x3_1) = true := decide_eq_true c7
       clear c7
       (first | rw [c7b0] | (simp only [i64_w, i32_w]; rw [c7b0]) | skip)
       replace H := Option.bind_eq_some_iff.mp H
       obtain ⟨⟨t103, t104⟩, A80, H⟩ := H
       replace H : ((cracknelref04_next.f l0 (wrap64 (x3_1 + 1))).bind fun bt105 => ((cracknelref04_Cross.f ((rd_T29 l0 x3_1).f0) ((rd_T29 l0 x3_1).f1) t103 t104 bt105.1 bt105.2).bind fun t107 => (if t107 ≤ 0 then (cracknelref04_Convex.j1 k1 l0 x3_1 true) else (if x3_1 > 0 then (if 0 < (l0.length : Int) then ((cracknelref04_first.f ((rd_T29 l0 0).f0) ((rd_T29 l0 0).f1) ((rd_T29 l0 x3_1).f0) ((rd_T29 l0 x3_1).f1)).bind fun t110 => (cracknelref04_Convex.j1 k1 l0 x3_1 (!t110))) else (none)) else (cracknelref04_Convex.j1 k1 l0 x3_1 false))))) = some r := H
       have A8 := Aside0.mk A80
       clear A80
       replace H := Option.bind_eq_some_iff.mp H
       obtain ⟨⟨t105, t106⟩, A90, H⟩ := H
       replace H : ((cracknelref04_Cross.f ((rd_T29 l0 x3_1).f0) ((rd_T29 l0 x3_1).f1) t103 t104 t105 t106).bind fun t107 => (if t107 ≤ 0 then (cracknelref04_Convex.j1 k1 l0 x3_1 true) else (if x3_1 > 0 then (if 0 < (l0.length : Int) then ((cracknelref04_first.f ((rd_T29 l0 0).f0) ((rd_T29 l0 0).f1) ((rd_T29 l0 x3_1).f0) ((rd_T29 l0 x3_1).f1)).bind fun t110 => (cracknelref04_Convex.j1 k1 l0 x3_1 (!t110))) else (none)) else (cracknelref04_Convex.j1 k1 l0 x3_1 false)))) = some r := H
       have A9 := Aside0.mk A90
       clear A90
       replace H := Option.bind_eq_some_iff.mp H
       obtain ⟨t107, A100, H⟩ := H
       replace H : (if t107 ≤ 0 then (cracknelref04_Convex.j1 k1 l0 x3_1 true) else (if x3_1 > 0 then (if 0 < (l0.length : Int) then ((cracknelref04_first.f ((rd_T29 l0 0).f0) ((rd_T29 l0 0).f1) ((rd_T29 l0 x3_1).f0) ((rd_T29 l0 x3_1).f1)).bind fun t110 => (cracknelref04_Convex.j1 k1 l0 x3_1 (!t110))) else (none)) else (cracknelref04_Convex.j1 k1 l0 x3_1 false))) = some r := H
       have A10 := Aside0.mk A100
       clear A100
       by_cases c11 : t107 ≤ 0
       ·rw [if_pos c11] at H
        have c11b0 : decide (t107 ≤ 0) = true := decide_eq_true c11
        clear c11
        have H' := Aside0.mk H
        clear H
        try go_wp2
        replace HB := Aside0.mk (below_drew1 HB.out)
        have p102 : 0 ≤ (x3_1 : Int) := dt
        have q102 : x3_1 < (l0.length : Int) := dt
        obtain ⟨ad102, e102, hx102_0, hx102_1⟩ := at_T29 HR0.out x3_1 p102 q102
        have hw102_1 := hx102_1
        have hw102_0 := hx102_0
        cases e102
        replace hx102_0 := hc HB hx102_0
        replace hx102_1 := hc HB hx102_1
        replace p102 := eq_true p102
        replace q102 := eq_true q102
        refine start_ (n := 28) (S := fun w' => w'.cell? (ad102.add ((x3_1).toNat * 2)) = some (.int .i64 ((rd_T29 l0 x3_1).f0)) ∧ w'.cell? ⟨(ad102.add ((x3_1).toNat * 2)).block, (ad102.add ((x3_1).toNat * 2)).off + 1, none⟩ = some (.int .i64 ((rd_T29 l0 x3_1).f1))) (ds := []) #[false, false, false, false, false, false, false, false, false, false, false, false, false, false, false, false, false, false, false, false, false, false, false, false, false, false, false, false] (by kernel_rfl) rfl rfl ⟨(hc HB hw102_0), (hc HB hw102_1)⟩ (fun hHeld => ?_); refine with_tabW cracknelref04_Convex.tab6 cracknelref04_Convex.bits6 (fun HT_ HW_ => ?_)
        generalize wr.drew = w12 at HB hx102_0 hx102_1 hHeld ⊢
        refine pu 0 13 HT_ ?_
        refine pu 1 14 HT_ ?_
        refine pu 2 15 HT_ ?_
        refine pu 4 17 HT_ ?_
        refine pu 5 18 HT_ ?_
        refine pu 7 20 HT_ ?_
        refine pu 8 21 HT_ ?_
        refine pu 9 22 HT_ ?_
        refine tk2 3 16 hHeld HT_ HW_ ?_
        refine one_ (i := 6) (N := some 19) #[true, true, true, true, true, true, true, true, true, true, false, false, false, false, false, false, false, false, false, false, false, false, false, false, false, false, false, false] rfl rfl (on1 HT_) (by decide) (fun K hK => ?_)
        refine goes_ Try.func64 (by kernel_rfl) rfl #[.slice (some ad102) l0.length c0, .int .i64 x3_1] (by rfl) rfl rfl sg ?_
        with_reducible refine (cracknelref04_next.calls _ _ l0 x3_1 t103 t104 _ ?side1 ?side2 A8.out).mono ?_
        (case side1 => exact cs (Kd.C_below HR0.out HB.out))
        (case side2 => exact HC0.out)
        rintro e w13 ⟨rfl, hb⟩
        refine ⟨_, rfl, ?_⟩
        replace HB := Aside0.mk (below_step bh hb)
        (try clear hb); (try clear hb2); (try clear hk); (try clear hi)
        refine hK.out _ _ ⟨(hc HB hw102_0), (hc HB hw102_1)⟩ (fun hHeld => ?_)
        clear hK K
        refine nm 19 ?_
        refine one_ (i := 10) (N := some 23) #[true, true, true, true, true, true, true, true, true, true, true, false, false, false, false, false, false, false, false, false, false, false, false, false, false, false, false, false] rfl rfl (on1 HT_) (by decide) (fun K hK => ?_)
        refine goes_ Try.func64 (by kernel_rfl) rfl #[.slice (some ad102) l0.length c0, .int .i64 (wrap64 (x3_1 + 1))] (by rfl) rfl rfl sg ?_
        with_reducible refine (cracknelref04_next.calls _ _ l0 (wrap64 (x3_1 + 1)) t105 t106 _ ?side1 ?side2 A9.out).mono ?_
        (case side1 => exact cs (Kd.C_below HR0.out HB.out))
        (case side2 => exact HC0.out)
        rintro e w14 ⟨rfl, hb⟩
        refine ⟨_, rfl, ?_⟩
        replace HB := Aside0.mk (below_step bh hb)
        (try clear hb); (try clear hb2); (try clear hk); (try clear hi)
        refine hK.out _ _ ⟨(hc HB hw102_0), (hc HB hw102_1)⟩ (fun hHeld => ?_)
        clear hK K
        refine nm 23 ?_
        refine one_ (i := 11) (N := some 24) #[true, true, true, true, true, true, true, true, true, true, true, true, false, false, false, false, false, false, false, false, false, false, false, false, false, false, false, false] rfl rfl (on1 HT_) (by decide) (fun K hK => ?_)
        refine goes_ Try.func61 (by kernel_rfl) rfl #[.agg #[.int .i64 ((rd_T29 l0 x3_1).f0), .int .i64 ((rd_T29 l0 x3_1).f1)], .agg #[.int .i64 t103, .int .i64 t104], .agg #[.int .i64 t105, .int .i64 t106]] (by rfl) rfl rfl sg ?_
        with_reducible refine (cracknelref04_Cross.calls ((rd_T29 l0 x3_1).f0) ((rd_T29 l0 x3_1).f1) t103 t104 t105 t106 t107 _ A10.out).mono ?_
        rintro e w15 ⟨rfl, hb⟩
        refine ⟨_, rfl, ?_⟩
        replace HB := Aside0.mk (below_step bh hb)
        (try clear hb); (try clear hb2); (try clear hk); (try clear hi)
        refine hK.out _ _ ⟨(hc HB hw102_0), (hc HB hw102_1)⟩ (fun hHeld => ?_)
        clear hK K
        refine nm 24 ?_
        refine pu 12 25 HT_ ?_
        refine pu 13 26 HT_ ?_
        refine pz 14 27 HT_ ?_
        refine pz 15 28 HT_ ?_
        refine pz 16 29 HT_ ?_
        refine pz 17 30 HT_ ?_
        refine pz 18 31 HT_ ?_
        refine pz 19 32 HT_ ?_
        refine pz 20 33 HT_ ?_
        refine pz 21 34 HT_ ?_
        refine pz 22 35 HT_ ?_
        refine pz 23 36 HT_ ?_
        refine pz 24 37 HT_ ?_
        refine pz 25 38 HT_ ?_
        refine pz 26 39 HT_ ?_
        refine pu 27 40 HT_ ?_
        refine done_ (done_of HT_.out (by kernel_rfl)) ?_
        try go_wp2
        go_meet
        case rel => exact ⟨_, (true), sd, H', ⟨by have := HK1.out; first | omega | exact Nat.le_refl _⟩, ⟨bh⟩⟩
       ·rw [if_neg c11] at H
        have c11b0 : decide (t107 ≤ 0) = false := decide_eq_false c11
        clear c11
        by_cases c16 : x3_1 > 0
        ·rw [if_pos c16] at H
         have c16b0 : decide (0 < x3_1) = true := decide_eq_true c16
         clear c16
         by_cases c17 : 0 < (l0.length : Int)
         ·rw [if_pos c17] at H
          have c17b0 : decide (0 < (l0.length : Int)) = true := decide_eq_true c17
          have c17b1 : decide (0 < l0.length) = true := decide_eq_true (by omega)
          clear c17
          replace H := Option.bind_eq_some_iff.mp H
          obtain ⟨t110, A180, H⟩ := H
          replace H : (cracknelref04_Convex.j1 k1 l0 x3_1 (!t110)) = some r := H
          have A18 := Aside0.mk A180
          clear A180
          have H' := Aside0.mk H
          clear H
          try go_wp2
          replace HB := Aside0.mk (below_drew1 HB.out)
          have p102 : 0 ≤ (x3_1 : Int) := dt
          have q102 : x3_1 < (l0.length : Int) := dt
          obtain ⟨ad102, e102, hx102_0, hx102_1⟩ := at_T29 HR0.out x3_1 p102 q102
          have hw102_1 := hx102_1
          have hw102_0 := hx102_0
          cases e102
          replace hx102_0 := hc HB hx102_0
          replace hx102_1 := hc HB hx102_1
          replace p102 := eq_true p102
          replace q102 := eq_true q102
          have p108 : 0 ≤ (0 : Int) := (by omega)
          have q108 : 0 < (l0.length : Int) := dt
          obtain ⟨ad108, e108, hx108_0, hx108_1⟩ := at_T29 HR0.out 0 p108 q108
          have hw108_1 := hx108_1
          (try rw [show ((0 : Int)).toNat = 0 from rfl] at hw108_1)
          (try rw [show 0 * 2 = 0 from rfl] at hw108_1)
          (try rw [Addr.add_zero'] at hw108_1)
          have hw108_0 := hx108_0
          (try rw [show ((0 : Int)).toNat = 0 from rfl] at hw108_0)
          (try rw [show 0 * 2 = 0 from rfl] at hw108_0)
          (try rw [Addr.add_zero'] at hw108_0)
          obtain rfl : ad102 = ad108 := (by injection e108)
          have qi108 : (0 < l0.length) = True := eq_true (by omega)
          (try rw [show ((0 : Int)).toNat = 0 from rfl] at hx108_0)
          (try rw [show 0 * 2 = 0 from rfl] at hx108_0)
          (try rw [Addr.add_zero'] at hx108_0)
          (try rw [show ((0 : Int)).toNat = 0 from rfl] at hx108_1)
          (try rw [show 0 * 2 = 0 from rfl] at hx108_1)
          (try rw [Addr.add_zero'] at hx108_1)
          replace hx108_0 := hc HB hx108_0
          replace hx108_1 := hc HB hx108_1
          replace p108 := eq_true p108
          replace q108 := eq_true q108
          have p109 : 0 ≤ (x3_1 : Int) := dt
          have q109 : x3_1 < (l0.length : Int) := dt
          obtain ⟨ad109, e109, hx109_0, hx109_1⟩ := at_T29 HR0.out x3_1 p109 q109
          have hw109_1 := hx109_1
          have hw109_0 := hx109_0
          obtain rfl : ad102 = ad109 := (by injection e109)
          replace hx109_0 := hc HB hx109_0
          replace hx109_1 := hc HB hx109_1
          replace p109 := eq_true p109
          replace q109 := eq_true q109
          refine start_ (n := 28) (S := fun w' => w'.cell? (ad102.add ((x3_1).toNat * 2)) = some (.int .i64 ((rd_T29 l0 x3_1).f0)) ∧ w'.cell? ⟨(ad102.add ((x3_1).toNat * 2)).block, (ad102.add ((x3_1).toNat * 2)).off + 1, none⟩ = some (.int .i64 ((rd_T29 l0 x3_1).f1)) ∧ w'.cell? ad102 = some (.int .i64 ((rd_T29 l0 0).f0)) ∧ w'.cell? ⟨ad102.block, ad102.off + 1, none⟩ = some (.int .i64 ((rd_T29 l0 0).f1)) ∧ w'.cell? (ad102.add ((x3_1).toNat * 2)) = some (.int .i64 ((rd_T29 l0 x3_1).f0)) ∧ w'.cell? ⟨(ad102.add ((x3_1).toNat * 2)).block, (ad102.add ((x3_1).toNat * 2)).off + 1, none⟩ = some (.int .i64 ((rd_T29 l0 x3_1).f1))) (ds := []) #[false, false, false, false, false, false, false, false, false, false, false, false, false, false, false, false, false, false, false, false, false, false, false, false, false, false, false, false] (by kernel_rfl) rfl rfl ⟨(hc HB hw102_0), (hc HB hw102_1), (hc HB hw108_0), (hc HB hw108_1), (hc HB hw109_0), (hc HB hw109_1)⟩ (fun hHeld => ?_); refine with_tabW cracknelref04_Convex.tab6 cracknelref04_Convex.bits6 (fun HT_ HW_ => ?_)
          generalize wr.drew = w19 at HB hx102_0 hx102_1 hx108_0 hx108_1 hx109_0 hx109_1 hHeld ⊢
          refine pu 0 13 HT_ ?_
          refine pu 1 14 HT_ ?_
          refine pu 2 15 HT_ ?_
          refine pu 4 17 HT_ ?_
          refine pu 5 18 HT_ ?_
          refine pu 7 20 HT_ ?_
          refine pu 8 21 HT_ ?_
          refine pu 9 22 HT_ ?_
          refine tk6 3 16 hHeld HT_ HW_ ?_
          refine one_ (i := 6) (N := some 19) #[true, true, true, true, true, true, true, true, true, true, false, false, false, false, false, false, false, false, false, false, false, false, false, false, false, false, false, false] rfl rfl (on1 HT_) (by decide) (fun K hK => ?_)
          refine goes_ Try.func64 (by kernel_rfl) rfl #[.slice (some ad102) l0.length c0, .int .i64 x3_1] (by rfl) rfl rfl sg ?_
          with_reducible refine (cracknelref04_next.calls _ _ l0 x3_1 t103 t104 _ ?side1 ?side2 A8.out).mono ?_
          (case side1 => exact cs (Kd.C_below HR0.out HB.out))
          (case side2 => exact HC0.out)
          rintro e w20 ⟨rfl, hb⟩
          refine ⟨_, rfl, ?_⟩
          replace HB := Aside0.mk (below_step bh hb)
          (try clear hb); (try clear hb2); (try clear hk); (try clear hi)
          refine hK.out _ _ ⟨(hc HB hw102_0), (hc HB hw102_1), (hc HB hw108_0), (hc HB hw108_1), (hc HB hw109_0), (hc HB hw109_1)⟩ (fun hHeld => ?_)
          clear hK K
          refine nm 19 ?_
          refine one_ (i := 10) (N := some 23) #[true, true, true, true, true, true, true, true, true, true, true, false, false, false, false, false, false, false, false, false, false, false, false, false, false, false, false, false] rfl rfl (on1 HT_) (by decide) (fun K hK => ?_)
          refine goes_ Try.func64 (by kernel_rfl) rfl #[.slice (some ad102) l0.length c0, .int .i64 (wrap64 (x3_1 + 1))] (by rfl) rfl rfl sg ?_
          with_reducible refine (cracknelref04_next.calls _ _ l0 (wrap64 (x3_1 + 1)) t105 t106 _ ?side1 ?side2 A9.out).mono ?_
          (case side1 => exact cs (Kd.C_below HR0.out HB.out))
          (case side2 => exact HC0.out)
          rintro e w21 ⟨rfl, hb⟩
          refine ⟨_, rfl, ?_⟩
          replace HB := Aside0.mk (below_step bh hb)
          (try clear hb); (try clear hb2); (try clear hk); (try clear hi)
          refine hK.out _ _ ⟨(hc HB hw102_0), (hc HB hw102_1), (hc HB hw108_0), (hc HB hw108_1), (hc HB hw109_0), (hc HB hw109_1)⟩ (fun hHeld => ?_)
          clear hK K
          refine nm 23 ?_
          refine one_ (i := 11) (N := some 24) #[true, true, true, true, true, true, true, true, true, true, true, true, false, false, false, false, false, false, false, false, false, false, false, false, false, false, false, false] rfl rfl (on1 HT_) (by decide) (fun K hK => ?_)
          refine goes_ Try.func61 (by kernel_rfl) rfl #[.agg #[.int .i64 ((rd_T29 l0 x3_1).f0), .int .i64 ((rd_T29 l0 x3_1).f1)], .agg #[.int .i64 t103, .int .i64 t104], .agg #[.int .i64 t105, .int .i64 t106]] (by rfl) rfl rfl sg ?_
          with_reducible refine (cracknelref04_Cross.calls ((rd_T29 l0 x3_1).f0) ((rd_T29 l0 x3_1).f1) t103 t104 t105 t106 t107 _ A10.out).mono ?_
          rintro e w22 ⟨rfl, hb⟩
          refine ⟨_, rfl, ?_⟩
          replace HB := Aside0.mk (below_step bh hb)
          (try clear hb); (try clear hb2); (try clear hk); (try clear hi)
          refine hK.out _ _ ⟨(hc HB hw102_0), (hc HB hw102_1), (hc HB hw108_0), (hc HB hw108_1), (hc HB hw109_0), (hc HB hw109_1)⟩ (fun hHeld => ?_)
          clear hK K
          refine nm 24 ?_
          refine pu 12 25 HT_ ?_
          refine pu 13 26 HT_ ?_
          refine pu 14 27 HT_ ?_
          refine pu 15 28 HT_ ?_
          refine pu 16 29 HT_ ?_
          refine pu 17 30 HT_ ?_
          refine pu 18 31 HT_ ?_
          refine pu 20 33 HT_ ?_
          refine pu 21 34 HT_ ?_
          refine pu 22 35 HT_ ?_
          refine tk6 19 32 hHeld HT_ HW_ ?_
          refine tk6 23 36 hHeld HT_ HW_ ?_
          refine one_ (i := 24) (N := some 37) #[true, true, true, true, true, true, true, true, true, true, true, true, true, true, true, true, true, true, true, true, true, true, true, true, true, false, false, false] rfl rfl (on1 HT_) (by decide) (fun K hK => ?_)
          refine goes_ Try.func60 (by kernel_rfl) rfl #[.agg #[.int .i64 ((rd_T29 l0 0).f0), .int .i64 ((rd_T29 l0 0).f1)], .agg #[.int .i64 ((rd_T29 l0 x3_1).f0), .int .i64 ((rd_T29 l0 x3_1).f1)]] (by rfl) rfl rfl sg ?_
          with_reducible refine (cracknelref04_first.calls ((rd_T29 l0 0).f0) ((rd_T29 l0 0).f1) ((rd_T29 l0 x3_1).f0) ((rd_T29 l0 x3_1).f1) t110 _ A18.out).mono ?_
          rintro e w23 ⟨rfl, hb⟩
          refine ⟨_, rfl, ?_⟩
          replace HB := Aside0.mk (below_step bh hb)
          (try clear hb); (try clear hb2); (try clear hk); (try clear hi)
          refine hK.out _ _ ⟨(hc HB hw102_0), (hc HB hw102_1), (hc HB hw108_0), (hc HB hw108_1), (hc HB hw109_0), (hc HB hw109_1)⟩ (fun hHeld => ?_)
          clear hK K
          refine nm 37 ?_
          refine pu 25 38 HT_ ?_
          refine pu 26 39 HT_ ?_
          refine pu 27 40 HT_ ?_
          refine done_ (done_of HT_.out (by kernel_rfl)) ?_
          try go_wp2
          go_meet
          case rel => exact ⟨_, (!t110), sd, H', ⟨by have := HK1.out; first | omega | exact Nat.le_refl _⟩, ⟨bh⟩⟩
         ·rw [if_neg c17] at H
          exact absurd H (by simp)
        ·rw [if_neg c16] at H
         have c16b0 : decide (0 < x3_1) = false := decide_eq_false c16
         clear c16
         have H' := Aside0.mk H
         clear H
         try go_wp2
         replace HB := Aside0.mk (below_drew1 HB.out)
         have p102 : 0 ≤ (x3_1 : Int) := dt
         have q102 : x3_1 < (l0.length : Int) := dt
         obtain ⟨ad102, e102, hx102_0, hx102_1⟩ := at_T29 HR0.out x3_1 p102 q102
         have hw102_1 := hx102_1
         have hw102_0 := hx102_0
         cases e102
         replace hx102_0 := hc HB hx102_0
         replace hx102_1 := hc HB hx102_1
         replace p102 := eq_true p102
         replace q102 := eq_true q102
         refine start_ (n := 28) (S := fun w' => w'.cell? (ad102.add ((x3_1).toNat * 2)) = some (.int .i64 ((rd_T29 l0 x3_1).f0)) ∧ w'.cell? ⟨(ad102.add ((x3_1).toNat * 2)).block, (ad102.add ((x3_1).toNat * 2)).off + 1, none⟩ = some (.int .i64 ((rd_T29 l0 x3_1).f1))) (ds := []) #[false, false, false, false, false, false, false, false, false, false, false, false, false, false, false, false, false, false, false, false, false, false, false, false, false, false, false, false] (by kernel_rfl) rfl rfl ⟨(hc HB hw102_0), (hc HB hw102_1)⟩ (fun hHeld => ?_); refine with_tabW cracknelref04_Convex.tab6 cracknelref04_Convex.bits6 (fun HT_ HW_ => ?_)
         generalize wr.drew = w24 at HB hx102_0 hx102_1 hHeld ⊢
         refine pu 0 13 HT_ ?_
         refine pu 1 14 HT_ ?_
         refine pu 2 15 HT_ ?_
         refine pu 4 17 HT_ ?_
         refine pu 5 18 HT_ ?_
         refine pu 7 20 HT_ ?_
         refine pu 8 21 HT_ ?_
         refine pu 9 22 HT_ ?_
         refine tk2 3 16 hHeld HT_ HW_ ?_
         refine one_ (i := 6) (N := some 19) #[true, true, true, true, true, true, true, true, true, true, false, false, false, false, false, false, false, false, false, false, false, false, false, false, false, false, false, false] rfl rfl (on1 HT_) (by decide) (fun K hK => ?_)
         refine goes_ Try.func64 (by kernel_rfl) rfl #[.slice (some ad102) l0.length c0, .int .i64 x3_1] (by rfl) rfl rfl sg ?_
         with_reducible refine (cracknelref04_next.calls _ _ l0 x3_1 t103 t104 _ ?side1 ?side2 A8.out).mono ?_
         (case side1 => exact cs (Kd.C_below HR0.out HB.out))
         (case side2 => exact HC0.out)
         rintro e w25 ⟨rfl, hb⟩
         refine ⟨_, rfl, ?_⟩
         replace HB := Aside0.mk (below_step bh hb)
         (try clear hb); (try clear hb2); (try clear hk); (try clear hi)
         refine hK.out _ _ ⟨(hc HB hw102_0), (hc HB hw102_1)⟩ (fun hHeld => ?_)
         clear hK K
         refine nm 19 ?_
         refine one_ (i := 10) (N := some 23) #[true, true, true, true, true, true, true, true, true, true, true, false, false, false, false, false, false, false, false, false, false, false, false, false, false, false, false, false] rfl rfl (on1 HT_) (by decide) (fun K hK => ?_)
         refine goes_ Try.func64 (by kernel_rfl) rfl #[.slice (some ad102) l0.length c0, .int .i64 (wrap64 (x3_1 + 1))] (by rfl) rfl rfl sg ?_
         with_reducible refine (cracknelref04_next.calls _ _ l0 (wrap64 (x3_1 + 1)) t105 t106 _ ?side1 ?side2 A9.out).mono ?_
         (case side1 => exact cs (Kd.C_below HR0.out HB.out))
         (case side2 => exact HC0.out)
         rintro e w26 ⟨rfl, hb⟩
         refine ⟨_, rfl, ?_⟩
         replace HB := Aside0.mk (below_step bh hb)
         (try clear hb); (try clear hb2); (try clear hk); (try clear hi)
         refine hK.out _ _ ⟨(hc HB hw102_0), (hc HB hw102_1)⟩ (fun hHeld => ?_)
         clear hK K
         refine nm 23 ?_
         refine one_ (i := 11) (N := some 24) #[true, true, true, true, true, true, true, true, true, true, true, true, false, false, false, false, false, false, false, false, false, false, false, false, false, false, false, false] rfl rfl (on1 HT_) (by decide) (fun K hK => ?_)
         refine goes_ Try.func61 (by kernel_rfl) rfl #[.agg #[.int .i64 ((rd_T29 l0 x3_1).f0), .int .i64 ((rd_T29 l0 x3_1).f1)], .agg #[.int .i64 t103, .int .i64 t104], .agg #[.int .i64 t105, .int .i64 t106]] (by rfl) rfl rfl sg ?_
         with_reducible refine (cracknelref04_Cross.calls ((rd_T29 l0 x3_1).f0) ((rd_T29 l0 x3_1).f1) t103 t104 t105 t106 t107 _ A10.out).mono ?_
         rintro e w27 ⟨rfl, hb⟩
         refine ⟨_, rfl, ?_⟩
         replace HB := Aside0.mk (below_step bh hb)
         (try clear hb); (try clear hb2); (try clear hk); (try clear hi)
         refine hK.out _ _ ⟨(hc HB hw102_0), (hc HB hw102_1)⟩ (fun hHeld => ?_)
         clear hK K
         refine nm 24 ?_
         refine pu 12 25 HT_ ?_
         refine pu 13 26 HT_ ?_
         refine pu 14 27 HT_ ?_
         refine pu 15 28 HT_ ?_
         refine pu 16 29 HT_ ?_
         refine pz 17 30 HT_ ?_
         refine pz 18 31 HT_ ?_
         refine pz 19 32 HT_ ?_
         refine pz 20 33 HT_ ?_
         refine pz 21 34 HT_ ?_
         refine pz 22 35 HT_ ?_
         refine pz 23 36 HT_ ?_
         refine pz 24 37 HT_ ?_
         refine pz 25 38 HT_ ?_
         refine pu 26 39 HT_ ?_
         refine pu 27 40 HT_ ?_
         refine done_ (done_of HT_.out (by kernel_rfl)) ?_
         try go_wp2
         go_meet
         case rel => exact ⟨_, (false), sd, H', ⟨by have := HK1.out; first | omega | exact Nat.le_refl _⟩, ⟨bh⟩⟩
      ·rw [if_neg c7] at H
       exact absurd H (by simp)
     case rest =>
      clear HC6
      try clear c1
      try clear p1
      try clear q1
      try clear hx1
      try clear qi1
      try clear p2
      try clear c6
      try clear p6
      try clear c7
      try clear p10
      try clear q10
      try clear hx10
      try clear qi10
      try clear c16
      try clear c16b0
      try clear c17
      try clear c17b0
      try clear c17b1
      try clear hx102_0
      try clear hx102_1
      try clear hx108_0
      try clear hx108_1
      try clear hx109_0
      try clear hx109_1
      try clear p102
      try clear p108
      try clear p109
      try clear q102
      try clear q108
      try clear q109
      obtain ⟨kq, x40_5, rfl, HA, HJ5, HB⟩ := hcut
      cases kq with
      | zero => exact absurd HA.out (by simp [cracknelref04_Convex.j1])
      | succ kj5 =>
       have H := HA.out
       clear HA
       simp only [cracknelref04_Convex.j1] at H
       by_cases c28 : x40_5 = true
       ·subst c28
        rw [if_pos rfl] at H
        obtain rfl := Option.some.inj H
        go_wp2
        go_ret
        exact ⟨by exact er, bh⟩
       ·replace c28 := Bool.eq_false_iff.mpr c28
        subst c28
        rw [if_neg (show ¬ (false = true) by decide)] at H
        have H' := Aside0.mk H
        clear H
        go_wp2
        go_roundg kj5
        case measure => have := HK1.out; have := HJ5.out; omega
        case rel => exact ⟨(wrap64 (x3_1 + 1)), sd, H', ⟨by have := HK1.out; have := HJ5.out; omega⟩, ⟨bh⟩⟩
    ·rw [if_neg c5] at H
     have c5b0 : decide (x3_1 < (l0.length : Int)) = false := decide_eq_false c5
     clear c5
     obtain rfl := Option.some.inj H
     go_wp2
     go_ret
     exact ⟨by exact er, bh⟩
 ·replace c3 := Bool.eq_false_iff.mpr c3
  subst c3
  rw [if_neg (show ¬ (false = true) by decide)] at H
  obtain rfl := Option.some.inj H
  go_enter Try.func31, Try.ntmps31
  go_wp2_with (first | ((with_reducible refine gate_callee (f := 22) rfl ?_); refine goesL_ (some 5) rfl rfl Try.func22 (by kernel_rfl) rfl #[.slice A0 l0.length c0] rfl sg ?_; (with_reducible refine (cracknelref04_Simple.calls k _ _ l0 false _ ?side1 ?side2 A2.out).mono ?_); (case side1 => repeat (first | exact HR0.out | (with_reducible refine Kd.C_alloc ?_ _) | (with_reducible refine Kd.C_drewN ?_ _) | (with_reducible refine Kd.C_drew ?_))); (case side2 => exact HC0.out); rintro e w29 ⟨rfl, hb⟩; refine ⟨_, rfl, ?_⟩; have n0_ := Aside0.mk (below_step bh hb); clear HB; have HB := n0_; clear n0_; (try clear hb); (try clear hb2); (try clear hk); (try clear hi)))
  go_ret
  exact ⟨by exact er, bh⟩
end Go.Proofs.Ytoffmpkgickfhaa.PG
end
section
namespace Go.Proofs.Ytoffmpkgickfhaa.M
open Go.RowKit Go.Proofs.Ytoffmpkgickfhaa.PG Go.Proofs.YtoffmpkgickfhaaW.PrintMore Go.Proofs.YtoffmpkgickfhaaW.PrintWords
theorem or_f (a b : Int) (k : Nat) (hk : 3 ≤ k) : cmp_Or_int.f k [a, b] = some (if a = 0 then b else a) := by
 obtain ⟨k, rfl⟩ : ∃ m, k = m + 3 := ⟨k - 3, by omega⟩
 unfold cmp_Or_int.f
 rw [cmp_Or_int.l0]
 simp only [List.length_cons, List.length_nil]
 rw [if_pos (by omega), if_pos (by omega), if_pos (by omega)]
 by_cases h : a = 0
 ·rw [if_pos (show rd [a, b] 0 = 0 from h), cmp_Or_int.l0]
  rw [show wrap64 (0 + 1) = 1 from by unfold wrap64; omega]
  simp only [List.length_cons, List.length_nil]
  rw [if_pos (by omega), if_pos (by omega), if_pos (by omega), if_pos h]
  by_cases h2 : b = 0
  ·rw [if_pos (show rd [a, b] 1 = 0 from h2), cmp_Or_int.l0]
   rw [show wrap64 (1 + 1) = 2 from by unfold wrap64; omega]
   simp only [List.length_cons, List.length_nil]
   rw [if_neg (by omega), h2]
  ·rw [if_neg (show ¬ rd [a, b] 1 = 0 from h2)]; rfl
 ·rw [if_neg (show ¬ rd [a, b] 0 = 0 from h), if_neg h]; rfl
theorem lower_f (a b : Pt) (k : Nat) (hk : 3 ≤ k) : ∃ c, shape_lower.f k a.f0 a.f1 b.f0 b.f1 = some c ∧ (c < 0 ↔ first a b) := by
 refine ⟨_, by unfold shape_lower.f; rw [compare_f, Option.bind_some, compare_f, Option.bind_some, or_f _ _ _ hk, Option.bind_some], ?_⟩
 unfold sg first
 split <;> (try split) <;> (try split) <;> (try split) <;> (try split) <;> omega
/-- the least of the first n points, from m on -/
theorem min_l0 {l : List Pt} (hN : l.length ≤ 1000000) : ∀ d i (m : Pt), l.length = i + d → ∃ r : Pt, Rt (fun k => slices_MinFunc_lower.l0 k l (i : Int) m.f0 m.f1) (r.f0, r.f1) ∧ (r = m ∨ ∃ j, i ≤ j ∧ j < l.length ∧ r = at_ l j) ∧ ¬ first m r ∧ ∀ j, i ≤ j → j < l.length → ¬ first (at_ l j) r := by
 intro d
 induction d with
 | zero =>
  intro i m hi
  refine ⟨m, ⟨0 + 1, fun k hk => ?_⟩, Or.inl rfl, first_irrefl m, fun j h1 h2 => by omega⟩
  obtain ⟨k, rfl⟩ := fuel1 hk
  dsimp only; rw [slices_MinFunc_lower.l0, if_neg (by omega)]
 | succ d ih =>
  intro i m hi
  have hlt : i < l.length := by omega
  by_cases h : first (at_ l i) m
  ·obtain ⟨r, ⟨K, hK⟩, h1, h2, h3⟩ := ih (i + 1) (at_ l i) (by omega)
   refine ⟨r, ⟨K + 4, fun k hk => ?_⟩, ?_, ?_, ?_⟩
   ·obtain ⟨k, rfl⟩ : ∃ m, k = m + 1 := ⟨k - 1, by omega⟩
    obtain ⟨c, hc, hc'⟩ := lower_f (at_ l i) m k (by omega)
    dsimp only; rw [slices_MinFunc_lower.l0, if_pos (by omega), if_pos (by omega), rd_at, hc, Option.bind_some, if_pos (hc'.mpr h), wrap_succ i (by omega)]
    exact hK k (by omega)
   ·right
    rcases h1 with h1 | ⟨j, h4, h5, h6⟩
    ·exact ⟨i, Nat.le_refl _, hlt, h1⟩
    ·exact ⟨j, by omega, h5, h6⟩
   ·intro h4
    exact h2 (first_trans h h4)
   ·intro j h4 h5
    rcases Nat.eq_or_lt_of_le h4 with rfl | h6
    ·exact h2
    ·exact h3 j h6 h5
  ·obtain ⟨r, ⟨K, hK⟩, h1, h2, h3⟩ := ih (i + 1) m (by omega)
   refine ⟨r, ⟨K + 4, fun k hk => ?_⟩, ?_, h2, ?_⟩
   ·obtain ⟨k, rfl⟩ : ∃ m, k = m + 1 := ⟨k - 1, by omega⟩
    obtain ⟨c, hc, hc'⟩ := lower_f (at_ l i) m k (by omega)
    dsimp only; rw [slices_MinFunc_lower.l0, if_pos (by omega), if_pos (by omega), rd_at, hc, Option.bind_some, if_neg (fun h4 => h (hc'.mp h4)), wrap_succ i (by omega)]
    exact hK k (by omega)
   ·rcases h1 with h1 | ⟨j, h4, h5, h6⟩
    ·exact Or.inl h1
    ·exact Or.inr ⟨j, by omega, h5, h6⟩
   ·intro j h4 h5
    rcases Nat.eq_or_lt_of_le h4 with rfl | h6
    ·intro h7
     rcases first_tri m r with e | e | e
     ·rw [e] at h; exact h h7
     ·exact h2 e
     ·exact h (first_trans h7 e)
    ·exact h3 j h6 h5
theorem min_run {l : List Pt} (h0 : 0 < l.length) (hN : l.length ≤ 1000000) : ∃ r : Pt, Rt (fun k => slices_MinFunc_lower.f k l) (r.f0, r.f1) ∧ r ∈ l ∧ ∀ p ∈ l, ¬ first p r := by
 obtain ⟨r, ⟨K, hK⟩, h1, h2, h3⟩ := min_l0 hN (l.length - 1) 1 (at_ l 0) (by omega)
 refine ⟨r, ⟨K, fun k hk => ?_⟩, ?_, ?_⟩
 ·unfold slices_MinFunc_lower.f
  dsimp only; rw [if_neg (by omega), if_pos (by omega)]
  exact hK k hk
 ·rcases h1 with rfl | ⟨j, _, h5, rfl⟩
  ·exact at_mem h0
  ·exact at_mem h5
 ·intro p hp
  obtain ⟨j, hj, rfl⟩ := List.mem_iff_getElem.mp hp
  rw [← at_eq hj]
  by_cases h4 : j = 0
  ·subst h4; exact h2
  ·exact h3 j (by omega) hj
theorem tmod_two (i n : Nat) (h : i ≤ 1000000) : Int.tmod (wrap64 ((i : Int) + 2)) (n : Int) = (((i + 1 + 1) % n : Nat) : Int) := by
 rw [wrap_succ2 i h, ← Int.ofNat_tmod]
theorem normal_l0 {l : List Pt} (hb : ∀ p ∈ l, Bd p) (hn : 3 ≤ l.length) (hN : l.length ≤ 1000000) {r : Pt} (hmin : Rt (fun k => slices_MinFunc_lower.f k l) (r.f0, r.f1)) {b' : Bool} (hs : Rt (fun k => shape_simple.f k l) b') :
  ∀ d i, l.length = i + d → ∃ b, Rt (fun k => shape_normal.l0 k l (l.length : Int) (i : Int)) b ∧ (b = true ↔ (∀ i', i ≤ i' → i' < l.length → 0 < cr (at_ l i') (at_ l ((i' + 1) % l.length)) (at_ l ((i' + 1 + 1) % l.length))) ∧ at_ l 0 = r ∧ b' = true) := by
 intro d
 induction d with
 | zero =>
  intro i hi
  obtain ⟨K1, hK1⟩ := hmin
  obtain ⟨K2, hK2⟩ := hs
  refine ⟨decide (at_ l 0 = r) && b', ⟨K1 + K2 + 1, fun k hk => ?_⟩, ?_⟩
  ·obtain ⟨k, rfl⟩ := fuel1 hk
   have e1 := hK1 k (by omega)
   have e2 := hK2 k (by omega)
   dsimp only at e1 e2 ⊢
   rw [shape_normal.l0, if_neg (by omega), if_pos (by omega), e1, Option.bind_some]
   dsimp only
   rw [show rd_T29 l 0 = at_ l 0 from rfl, pt_beq]
   by_cases h : at_ l 0 = r
   ·rw [if_pos (by simpa using h), e2, Option.bind_some]; simp [h]
   ·rw [if_neg (by simpa using h)]; simp [h]
  ·simp only [Bool.and_eq_true, decide_eq_true_eq]
   exact ⟨fun h => ⟨fun i' h1 h2 => by omega, h⟩, fun h => h.2⟩
 | succ d ih =>
  intro i hi
  have hlt : i < l.length := by omega
  obtain ⟨b1, ⟨K, hK⟩, hb1⟩ := ih (i + 1) (by omega)
  have hBi := at_bd hb hlt
  have hBn := at_bd hb (show (i + 1) % l.length < l.length from Nat.mod_lt _ (by omega))
  have hBm := at_bd hb (show (i + 1 + 1) % l.length < l.length from Nat.mod_lt _ (by omega))
  have t1 := tmod_in (i + 1) l.length (by omega)
  have t2 := tmod_in (i + 1 + 1) l.length (by omega)
  rw [from_split hlt]
  by_cases h1 : cr (at_ l i) (at_ l ((i + 1) % l.length)) (at_ l ((i + 1 + 1) % l.length)) ≤ 0
  ·refine ⟨false, ⟨0 + 1, fun k hk => ?_⟩, ⟨fun h => by simp at h, fun h => absurd h.1.1 (by omega)⟩⟩
   obtain ⟨k, rfl⟩ := fuel1 hk
   dsimp only
   rw [shape_normal.l0, if_pos (by omega), if_pos (by omega), if_pos (by omega), if_neg (by omega), tmod_nat i _ (by omega), tmod_two i _ (by omega), if_pos (by omega), if_pos (by omega), if_pos (by omega), if_pos (by omega), rd_at, rd_at, rd_at, side_f hBi hBn hBm, Option.bind_some, if_pos h1]
  ·refine ⟨b1, ⟨K + 1, fun k hk => ?_⟩, ?_⟩
   ·obtain ⟨k, rfl⟩ := fuel1 hk
    dsimp only
    rw [shape_normal.l0, if_pos (by omega), if_pos (by omega), if_pos (by omega), if_neg (by omega), tmod_nat i _ (by omega), tmod_two i _ (by omega), if_pos (by omega), if_pos (by omega), if_pos (by omega), if_pos (by omega), rd_at, rd_at, rd_at, side_f hBi hBn hBm, Option.bind_some, if_neg h1, wrap_succ i (by omega)]
    exact hK k (by omega)
   ·rw [hb1]; exact ⟨fun h => ⟨⟨by omega, h.1⟩, h.2⟩, fun h => ⟨h.1.2, h.2⟩⟩
/-- a simple polygon comes to its first corner but once -/
theorem simple_once {l : List Pt} (hn : 3 ≤ l.length) (h : Simple l) {i : Nat} (hi : i < l.length) (h0 : 0 < i) : at_ l 0 ≠ at_ l i := by
 intro e
 by_cases h1 : i = 1
 ·subst h1
  have := h.1 0 (by omega)
  rw [Nat.mod_eq_of_lt (by omega)] at this; exact this e
 ·by_cases h2 : i + 1 = l.length
  ·have := h.1 i hi
   rw [h2, Nat.mod_self] at this; exact this e.symm
  ·have := (h.2 0 (by omega)).2.2 i (by omega) hi (by rw [Nat.mod_eq_of_lt (by omega)]; omega)
   apply this
   left
   rw [← e]
   exact ⟨cr_self1 _ _, btw_start _ _⟩
theorem normal_run {l : List Pt} (hb : ∀ p ∈ l, Bd p) (hn : 3 ≤ l.length) (hN : l.length ≤ 1000000) : ∃ b, Rt (fun k => shape_normal.f k l) b ∧ (b = true ↔ Convex l) := by
 obtain ⟨r, hR, hr1, hr2⟩ := min_run (show 0 < l.length by omega) hN
 obtain ⟨b1, hS, hb1⟩ := simple_run hb hn hN
 obtain ⟨b, hB, hb2⟩ := normal_l0 hb hn hN hR hS l.length 0 (by omega)
 refine ⟨b, hB, ?_⟩
 rw [hb2, hb1]
 constructor
 ·rintro ⟨h1, h2, h3⟩
  refine ⟨h3, fun i hi => ⟨h1 i (Nat.zero_le _) hi, fun h0 => ?_⟩⟩
  rcases first_tri (at_ l 0) (at_ l i) with e | e | e
  ·exact absurd e (simple_once hn h3 hi h0)
  ·exact e
  ·rw [h2] at e; exact absurd e (hr2 _ (at_mem hi))
 ·rintro ⟨h3, h4⟩
  refine ⟨fun i _ hi => (h4 i hi).1, ?_, h3⟩
  obtain ⟨j, hj, rfl⟩ := List.mem_iff_getElem.mp hr1
  rw [← at_eq hj] at hr2 ⊢
  by_cases h5 : j = 0
  ·rw [h5]
  ·exact absurd ((h4 j hj).2 (by omega)) (hr2 _ (at_mem (by omega)))
theorem refConvex_l0 {l : List Pt} (hb : ∀ p ∈ l, Bd p) (hn : 3 ≤ l.length) (hN : l.length ≤ 1000000) :
  ∀ d i, l.length = i + d → ∃ b, Rt (fun k => cracknelref04_Convex.l0 k l (i : Int)) b ∧ (b = true ↔ (∀ i', i ≤ i' → i' < l.length → 0 < cr (at_ l i') (at_ l ((i' + 1) % l.length)) (at_ l ((i' + 1 + 1) % l.length)) ∧ (0 < i' → first (at_ l 0) (at_ l i')))) := by
 intro d
 induction d with
 | zero =>
  intro i hi
  refine ⟨true, ⟨0 + 1, fun k hk => ?_⟩, ⟨fun _ i' h1 h2 => by omega, fun _ => rfl⟩⟩
  obtain ⟨k, rfl⟩ := fuel1 hk
  dsimp only; rw [cracknelref04_Convex.l0, if_neg (by omega)]
 | succ d ih =>
  intro i hi
  have hlt : i < l.length := by omega
  obtain ⟨b1, ⟨K, hK⟩, hb1⟩ := ih (i + 1) (by omega)
  have hBi := at_bd hb hlt
  have hBn := at_bd hb (show (i + 1) % l.length < l.length from Nat.mod_lt _ (by omega))
  have hBm := at_bd hb (show (i + 1 + 1) % l.length < l.length from Nat.mod_lt _ (by omega))
  rw [from_split hlt]
  by_cases h1 : cr (at_ l i) (at_ l ((i + 1) % l.length)) (at_ l ((i + 1 + 1) % l.length)) ≤ 0
  ·refine ⟨false, ⟨0 + 2, fun k hk => ?_⟩, ⟨fun h => by simp at h, fun h => absurd h.1.1 (by omega)⟩⟩
   obtain ⟨k, rfl⟩ := fuel2 hk
   dsimp only
   rw [cracknelref04_Convex.l0, if_pos (by omega), if_pos (by omega), next_f (by omega) (by omega), Option.bind_some, wrap_succ i (by omega), next_f (by omega) (by omega), Option.bind_some, rd_at, Cross_f hBi hBn hBm, Option.bind_some, if_pos h1, cracknelref04_Convex.j1, if_pos rfl]
  ·by_cases h2 : 0 < i
   ·by_cases h3 : first (at_ l 0) (at_ l i)
    ·refine ⟨b1, ⟨K + 2, fun k hk => ?_⟩, ?_⟩
     ·obtain ⟨k, rfl⟩ := fuel2 hk
      dsimp only
      rw [cracknelref04_Convex.l0, if_pos (by omega), if_pos (by omega), next_f (by omega) (by omega), Option.bind_some, wrap_succ i (by omega), next_f (by omega) (by omega), Option.bind_some, rd_at, Cross_f hBi hBn hBm, Option.bind_some, if_neg h1, if_pos (by omega), if_pos (by omega), show rd_T29 l 0 = at_ l 0 from rfl, first_f, Option.bind_some, cracknelref04_Convex.j1, if_neg (by simpa using h3), wrap_succ i (by omega)]
      exact hK _ (by omega)
     ·rw [hb1]; exact ⟨fun h => ⟨⟨by omega, fun _ => h3⟩, h⟩, fun h => h.2⟩
    ·refine ⟨false, ⟨0 + 2, fun k hk => ?_⟩, ⟨fun h => by simp at h, fun h => absurd (h.1.2 h2) h3⟩⟩
     obtain ⟨k, rfl⟩ := fuel2 hk
     dsimp only
     rw [cracknelref04_Convex.l0, if_pos (by omega), if_pos (by omega), next_f (by omega) (by omega), Option.bind_some, wrap_succ i (by omega), next_f (by omega) (by omega), Option.bind_some, rd_at, Cross_f hBi hBn hBm, Option.bind_some, if_neg h1, if_pos (by omega), if_pos (by omega), show rd_T29 l 0 = at_ l 0 from rfl, first_f, Option.bind_some, cracknelref04_Convex.j1, if_pos (by simpa using h3)]
   ·refine ⟨b1, ⟨K + 2, fun k hk => ?_⟩, ?_⟩
    ·obtain ⟨k, rfl⟩ := fuel2 hk
     dsimp only
     rw [cracknelref04_Convex.l0, if_pos (by omega), if_pos (by omega), next_f (by omega) (by omega), Option.bind_some, wrap_succ i (by omega), next_f (by omega) (by omega), Option.bind_some, rd_at, Cross_f hBi hBn hBm, Option.bind_some, if_neg h1, if_neg (by omega), cracknelref04_Convex.j1, if_neg (by simp), wrap_succ i (by omega)]
     exact hK _ (by omega)
    ·rw [hb1]; exact ⟨fun h => ⟨⟨by omega, fun h4 => absurd h4 h2⟩, h⟩, fun h => h.2⟩
theorem refConvex_run {l : List Pt} (hb : ∀ p ∈ l, Bd p) (hn : 3 ≤ l.length) (hN : l.length ≤ 1000000) : ∃ b, Rt (fun k => cracknelref04_Convex.f k l) b ∧ (b = true ↔ Convex l) := by
 obtain ⟨b1, ⟨K1, hS⟩, hb1⟩ := refSimple_run hb hn hN
 obtain ⟨b, ⟨K2, hB⟩, hb2⟩ := refConvex_l0 hb hn hN l.length 0 (by omega)
 refine ⟨b1 && b, ⟨K1 + K2, fun k hk => ?_⟩, ?_⟩
 ·have e1 := hS k (by omega)
  have e2 := hB k (by omega)
  dsimp only at e1 e2 ⊢
  unfold cracknelref04_Convex.f
  rw [e1, Option.bind_some]
  cases b1
  ·rw [if_neg (by simp)]; rfl
  ·rw [if_pos rfl]; exact e2
 ·rw [Bool.and_eq_true, hb1, hb2]
  unfold Convex
  exact ⟨fun h => ⟨h.1, fun i hi => h.2 i (Nat.zero_le _) hi⟩, fun h => ⟨h.1, fun i _ hi => h.2 i hi⟩⟩
end Go.Proofs.Ytoffmpkgickfhaa.M
end
section
namespace Go.Proofs.Ytoffmpkgickfhaa.PG
open Go.RowKit Go.Proofs.YtoffmpkgickfhaaW.PrintWords Go.Proofs.YtoffmpkgickfhaaW.PrintLast Go.Proofs.YtoffmpkgickfhaaW.PrintMore
attribute [local go_sem] max2_int min2_int max_two min_two max_three min_three max_four min_four
set_option linter.unusedVariables false
set_option linter.unusedSimpArgs false
/-! ### cracknelref04_Polygon: function 29 -/
def cracknelref04_Polygon.l0 : Nat → List (S29) → Int → Option (Bool)
 | 0, _, _ => none
 | k + 1, x0, x3 => if x3 < (x0.length : Int) then (if 0 ≤ x3 then ((cracknelref04_Valid.f ((rd_T29 x0 x3).f0) ((rd_T29 x0 x3).f1) 10000).bind fun t103 => (if t103 = true then (cracknelref04_Polygon.l0 k x0 (wrap64 (x3 + 1))) else (some false))) else (none)) else ((cracknelref04_in.f (x0.length : Int) 3 32).bind fun t101 => (some t101))
def cracknelref04_Polygon.f (k : Nat) (l0 : List (S29)) : Option (Bool) := cracknelref04_Polygon.l0 k l0 0
theorem cracknelref04_Polygon.mono_l : ∀ k, (∀ y0 y1, LeO (cracknelref04_Polygon.l0 k y0 y1) (cracknelref04_Polygon.l0 (k + 1) y0 y1))
 | 0 => fun _ _ r h => by simp [cracknelref04_Polygon.l0] at h
 | k + 1 => by
  have ih0 := cracknelref04_Polygon.mono_l k
  ·intro y0 y1
   unfold cracknelref04_Polygon.l0
   repeat' first
   | (with_reducible exact ih0 _ _)
   | (with_reducible exact LeO.refl _)
   | (with_reducible exact LeO.none _)
   | (with_reducible refine LeO.ite ?_ ?_)
   | (with_reducible refine LeO.bind ?_ (fun _ => ?_))
   | exact ih0 _ _
   | exact LeO.none _
   | refine LeO.ite ?_ ?_
   | refine LeO.bind ?_ (fun _ => ?_)
theorem cracknelref04_Polygon.mono : ∀ a0 k, LeO (cracknelref04_Polygon.f k a0) (cracknelref04_Polygon.f (k + 1) a0) := by
 intro a0 k
 have ih0 := cracknelref04_Polygon.mono_l k
 unfold cracknelref04_Polygon.f
 repeat' first
  | (with_reducible exact ih0 _ _)
  | (with_reducible exact LeO.refl _)
  | (with_reducible exact LeO.none _)
  | (with_reducible refine LeO.ite ?_ ?_)
  | (with_reducible refine LeO.bind ?_ (fun _ => ?_))
  | exact ih0 _ _
  | exact LeO.none _
  | refine LeO.ite ?_ ?_
  | refine LeO.bind ?_ (fun _ => ?_)
set_option maxHeartbeats 8000000 in
set_option maxRecDepth 100000 in
theorem cracknelref04_Polygon.calls (k : Nat) (A0 : Option Addr) (c0 : Nat) (l0 : List (S29)) (r : Bool) (w : World) (hr0 : Kd.C k29 w A0 l0.length l0) (hc0 : l0.length ≤ c0) (h : cracknelref04_Polygon.f k l0 = some r) :
  Calls Try.prog 29 #[.slice A0 l0.length c0] w fun e w' => e = .returned (.bool r) ∧ Below w.heap.size w w' := by
 have hu29 := Try.underlying29
 have HR0 := Aside0.mk hr0
 have HC0 := Aside0.mk hc0
 clear hr0 hc0
 have HB := Aside0.mk (Below.refl w.heap.size w)
 have H : (cracknelref04_Polygon.l0 k l0 0) = some r := h
 clear h
 have H' := Aside0.mk H
 clear H
 go_enter Try.func29, Try.ntmps29
 go_wp2
 go_loopg [3] k (fun kq v3 w' => ∃ (x3_1 : Int), v3 = .int .i64 x3_1 ∧ Aside0 (cracknelref04_Polygon.l0 kq l0 x3_1 = some r) ∧ Aside0 (kq ≤ k) ∧ Aside0 (Below w.heap.size w w'))
 case atStart => exact ⟨(0), sd, H', ⟨Nat.le_refl _⟩, ⟨bh⟩⟩
 case round =>
  clear H'
  obtain ⟨x3_1, rfl, HA, HK1, HB⟩ := hrel
  cases gk with
  | zero => exact absurd HA.out (by simp [cracknelref04_Polygon.l0])
  | succ k1 =>
   have H := HA.out
   clear HA
   simp only [cracknelref04_Polygon.l0] at H
   by_cases c2 : x3_1 < (l0.length : Int)
   ·rw [if_pos c2] at H
    have c2b0 : decide (x3_1 < (l0.length : Int)) = true := decide_eq_true c2
    clear c2
    by_cases c3 : 0 ≤ x3_1
    ·rw [if_pos c3] at H
     have c3b0 : decide (0 ≤ x3_1) = true := decide_eq_true c3
     clear c3
     replace H := Option.bind_eq_some_iff.mp H
     obtain ⟨t103, A40, H⟩ := H
     replace H : (if t103 = true then (cracknelref04_Polygon.l0 k1 l0 (wrap64 (x3_1 + 1))) else (some false)) = some r := H
     have A4 := Aside0.mk A40
     clear A40
     by_cases c5 : t103 = true
     ·subst c5
      rw [if_pos rfl] at H
      have H' := Aside0.mk H
      clear H
      have p102 : 0 ≤ (x3_1 : Int) := dt
      have q102 : x3_1 < (l0.length : Int) := dt
      obtain ⟨ad102, e102, hx102_0, hx102_1⟩ := at_T29 HR0.out x3_1 p102 q102
      cases e102
      replace hx102_0 := hc HB hx102_0
      replace hx102_1 := hc HB hx102_1
      replace p102 := eq_true p102
      replace q102 := eq_true q102
      go_wp2_with (first | ((with_reducible refine gate_callee (f := 17) rfl ?_); refine goesL_ (some 14) rfl rfl Try.func17 (by kernel_rfl) rfl #[.agg #[.int .i64 ((rd_T29 l0 x3_1).f0), .int .i64 ((rd_T29 l0 x3_1).f1)], .int .i64 10000] rfl sg ?_; (with_reducible refine (cracknelref04_Valid.calls ((rd_T29 l0 x3_1).f0) ((rd_T29 l0 x3_1).f1) 10000 true _ A4.out).mono ?_); rintro e w6 ⟨rfl, hb⟩; refine ⟨_, rfl, ?_⟩; have n0_ := Aside0.mk (below_step bh hb); clear HB; have HB := n0_; clear n0_; (try clear hb); (try clear hb2); (try clear hk); (try clear hi)))
      go_roundg k1
      case measure => have := HK1.out; omega
      case rel => exact ⟨(wrap64 (x3_1 + 1)), sd, H', ⟨by have := HK1.out; omega⟩, ⟨bh⟩⟩
     ·replace c5 := Bool.eq_false_iff.mpr c5
      subst c5
      rw [if_neg (show ¬ (false = true) by decide)] at H
      obtain rfl := Option.some.inj H
      have p102 : 0 ≤ (x3_1 : Int) := dt
      have q102 : x3_1 < (l0.length : Int) := dt
      obtain ⟨ad102, e102, hx102_0, hx102_1⟩ := at_T29 HR0.out x3_1 p102 q102
      cases e102
      replace hx102_0 := hc HB hx102_0
      replace hx102_1 := hc HB hx102_1
      replace p102 := eq_true p102
      replace q102 := eq_true q102
      go_wp2_with (first | ((with_reducible refine gate_callee (f := 17) rfl ?_); refine goesL_ (some 14) rfl rfl Try.func17 (by kernel_rfl) rfl #[.agg #[.int .i64 ((rd_T29 l0 x3_1).f0), .int .i64 ((rd_T29 l0 x3_1).f1)], .int .i64 10000] rfl sg ?_; (with_reducible refine (cracknelref04_Valid.calls ((rd_T29 l0 x3_1).f0) ((rd_T29 l0 x3_1).f1) 10000 false _ A4.out).mono ?_); rintro e w7 ⟨rfl, hb⟩; refine ⟨_, rfl, ?_⟩; have n0_ := Aside0.mk (below_step bh hb); clear HB; have HB := n0_; clear n0_; (try clear hb); (try clear hb2); (try clear hk); (try clear hi)))
      go_ret
      exact ⟨by exact er, bh⟩
    ·rw [if_neg c3] at H
     exact absurd H (by simp)
   ·rw [if_neg c2] at H
    have c2b0 : decide (x3_1 < (l0.length : Int)) = false := decide_eq_false c2
    clear c2
    replace H := Option.bind_eq_some_iff.mp H
    obtain ⟨t101, A80, H⟩ := H
    replace H : (some t101) = some r := H
    have A8 := Aside0.mk A80
    clear A80
    obtain rfl := Option.some.inj H
    go_wp2_with (first | ((with_reducible refine gate_callee (f := 59) rfl ?_); refine goesL_ (some 18) rfl rfl Try.func59 (by kernel_rfl) rfl #[.int .i64 (l0.length : Int), .int .i64 3, .int .i64 32] rfl sg ?_; (with_reducible refine (cracknelref04_in.calls (l0.length : Int) 3 32 t101 _ A8.out).mono ?_); rintro e w' ⟨rfl, ⟨nd, rfl⟩⟩; refine ⟨_, rfl, ?_⟩))
    go_ret
    exact ⟨by exact er, bh⟩
end Go.Proofs.Ytoffmpkgickfhaa.PG
end
section
namespace Go.Proofs.Ytoffmpkgickfhaa.PG
open Go.RowKit Go.Proofs.YtoffmpkgickfhaaW.PrintWords Go.Proofs.YtoffmpkgickfhaaW.PrintLast Go.Proofs.YtoffmpkgickfhaaW.PrintMore
attribute [local go_sem] max2_int min2_int max_two min_two max_three min_three max_four min_four
set_option linter.unusedVariables false
set_option linter.unusedSimpArgs false
/-! ### cracknellaw04_cut: function 15 -/
def cracknellaw04_cut.f (l0 : List (S29)) (a1 : Int) : Option ((List (S29))) := if (l0.length : Int) > 32 then ((some (([] : List (S29)) : List (S29))).bind fun y101 => (if 0 ≤ (mn (l0.length : Int) 33) then (if (mn (l0.length : Int) 33) ≤ (l0.length : Int) then ((some (l0.take ((mn (l0.length : Int) 33) : Int).toNat : List (S29))).bind fun y104 => (if y101.length + y104.length < 8796093022208 then (some (y101 ++ y104)) else (none))) else (none)) else (none))) else ((some (([] : List (S29)) : List (S29))).bind fun y111 => (if 0 ≤ (mn (l0.length : Int) a1) then (if (mn (l0.length : Int) a1) ≤ (l0.length : Int) then ((some (l0.take ((mn (l0.length : Int) a1) : Int).toNat : List (S29))).bind fun y114 => (if y111.length + y114.length < 8796093022208 then (some (y111 ++ y114)) else (none))) else (none)) else (none)))
set_option maxHeartbeats 8000000 in
set_option maxRecDepth 100000 in
theorem cracknellaw04_cut.calls (A0 : Option Addr) (c0 : Nat) (l0 : List (S29)) (a1 : Int) (r : List (S29)) (w : World) (hr0 : Kd.C k29 w A0 l0.length l0) (hc0 : l0.length ≤ c0) (h : cracknellaw04_cut.f l0 a1 = some r) :
  Calls Try.prog 15 #[.slice A0 l0.length c0, .int .i64 a1] w fun e w' => ∃ v0_ : Value, e = .returned (v0_) ∧ Kd.R k29 29 w' w.heap.size (fun _ => True) v0_ r ∧ Below w.heap.size w w' := by
 have HR0 := Aside0.mk hr0
 have HC0 := Aside0.mk hc0
 clear hr0 hc0
 have HB := Aside0.mk (Below.refl w.heap.size w)
 have H : (if (l0.length : Int) > 32 then ((some (([] : List (S29)) : List (S29))).bind fun y101 => (if 0 ≤ (mn (l0.length : Int) 33) then (if (mn (l0.length : Int) 33) ≤ (l0.length : Int) then ((some (l0.take ((mn (l0.length : Int) 33) : Int).toNat : List (S29))).bind fun y104 => (if y101.length + y104.length < 8796093022208 then (some (y101 ++ y104)) else (none))) else (none)) else (none))) else ((some (([] : List (S29)) : List (S29))).bind fun y111 => (if 0 ≤ (mn (l0.length : Int) a1) then (if (mn (l0.length : Int) a1) ≤ (l0.length : Int) then ((some (l0.take ((mn (l0.length : Int) a1) : Int).toNat : List (S29))).bind fun y114 => (if y111.length + y114.length < 8796093022208 then (some (y111 ++ y114)) else (none))) else (none)) else (none)))) = some r := h
 clear h
 by_cases c3 : (l0.length : Int) > 32
 ·rw [if_pos c3] at H
  have c3b0 : decide (32 < (l0.length : Int)) = true := decide_eq_true c3
  have c3b1 : decide (32 < l0.length) = true := decide_eq_true (by omega)
  clear c3
  obtain ⟨y101, hy101⟩ : ∃ y_ : List (S29), y_ = (([] : List (S29))) := ⟨_, rfl⟩
  replace H : (if 0 ≤ (mn (l0.length : Int) 33) then (if (mn (l0.length : Int) 33) ≤ (l0.length : Int) then ((some (l0.take ((mn (l0.length : Int) 33) : Int).toNat : List (S29))).bind fun y104 => (if y101.length + y104.length < 8796093022208 then (some (y101 ++ y104)) else (none))) else (none)) else (none)) = some r := by first | (rw [hy101]; with_reducible exact H) | (have H2_ := (Option.bind_some _ _).symm.trans H; rw [hy101]; with_reducible exact H2_) | (have H2_ := (Option.bind_some _ _).symm.trans H; with_reducible exact H2_) | with_reducible exact H | (rw [hy101]; exact H) | exact H
  have Ny101 := Aside0.mk hy101
  clear hy101
  obtain ⟨ji4, hji4⟩ : ∃ j_ : Int, (mn (l0.length : Int) 33) = j_ := ⟨_, rfl⟩
  replace H : (if 0 ≤ (ji4) then (if (ji4) ≤ (l0.length : Int) then ((some (l0.take ((ji4) : Int).toNat : List (S29))).bind fun y104 => (if y101.length + y104.length < 8796093022208 then (some (y101 ++ y104)) else (none))) else (none)) else (none)) = some r := by first | (rw [hji4] at H; exact H) | (simp only [hji4] at H ⊢; exact H)
  (try (have hji4h : ji4 ≤ 33 := by (rw [← hji4]; unfold mn; (repeat' split) <;> omega)))
  (try (have hji4g : ji4 ≤ 64 := by omega))
  (try (have hji4l : 0 ≤ ji4 := by (rw [← hji4]; unfold mn; (repeat' split) <;> omega)))
  (try (have hji4m : 0 ≤ ji4 := by omega))
  have hji4_ : (if 33 < (l0.length : Int) then 33 else (l0.length : Int)) = ji4 := hji4
  by_cases c5 : 0 ≤ (ji4)
  ·rw [if_pos c5] at H
   have c5b0 := eq_true c5
   have c5b1 : decide (0 ≤ (ji4)) = true := decide_eq_true c5
   clear c5
   by_cases c6 : (ji4) ≤ (l0.length : Int)
   ·rw [if_pos c6] at H
    have c6b0 := eq_true c6
    have c6b1 : decide ((ji4) ≤ (l0.length : Int)) = true := decide_eq_true c6
    clear c6
    obtain ⟨y104, hy104⟩ : ∃ y_ : List (S29), y_ = (l0.take ((ji4) : Int).toNat) := ⟨_, rfl⟩
    replace H : (if y101.length + y104.length < 8796093022208 then (some (y101 ++ y104)) else (none)) = some r := by first | (rw [hy104]; with_reducible exact H) | (have H2_ := (Option.bind_some _ _).symm.trans H; rw [hy104]; with_reducible exact H2_) | (have H2_ := (Option.bind_some _ _).symm.trans H; with_reducible exact H2_) | with_reducible exact H | (rw [hy104]; exact H) | exact H
    have Ny104 := Aside0.mk hy104
    clear hy104
    by_cases c7 : y101.length + y104.length < 8796093022208
    ·rw [if_pos c7] at H
     have LMc7 := Aside0.mk c7
     clear c7
     obtain ⟨y108, hy108⟩ : ∃ y_ : List (S29), y_ = (y101 ++ y104) := ⟨_, rfl⟩
     replace H : (some y108) = some r := by first | (rw [hy108]; with_reducible exact H) | (have H2_ := (Option.bind_some _ _).symm.trans H; rw [hy108]; with_reducible exact H2_) | (have H2_ := (Option.bind_some _ _).symm.trans H; with_reducible exact H2_) | with_reducible exact H | (rw [hy108]; exact H) | exact H
     have Ny108 := Aside0.mk hy108
     clear hy108
     obtain rfl := Option.some.inj H
     go_enter Try.func15, Try.ntmps15
     go_wp2_with (first | ((with_reducible refine gate_dst (N := 8) rfl ?_); refine Kd.R_lit k29 _ 29 ?hg (N := 8) ?hd (xs := ([] : List (S29))) (inner := []) (ok := fun _ => True) (okp := fun _ => True) ?hr ?hp (fun _ hk => hk) trivial (Below.refl _ _) (Nat.le_refl _) (by simp) ?_; (case hd => rfl); (case hg => rfl); (case hr => first | (go_simp; done) | (go_simp; rfl)); (case hp => exact (Reps.none _ _)); intro v102 w8 ho9 hb hg_ hnew_; clear hg_ hnew_; (first | rw [← Ny101.out] at ho9 | (simp only [Int.reduceToNat] at ho9; rw [← Ny101.out] at ho9)); have n0_ := Aside0.mk (Kd.R_lower ho9 (below_size bh)); have n1_ := Aside0.mk (below_step bh hb); clear HB; have HO103 := n0_; have HB := n1_; clear n0_ n1_; clear hb ho9; have q10 : ((ji4) : Int) ≤ ((l0.length : Int) : Int) := dt; obtain ⟨i010, hi010, _, hsz10, _⟩ := info_parts info29; have hroom10 : l0.length ≤ c0 := HC0.out; have hC10 : Kd.C k29 _ A0 l0.length l0 := HR0.out; have hcut10 := cut_to (P := Try.prog) 22 29 .i64 Try.underlying22 hi010 A0 l0.length c0 (ji4) (dt) q10 hroom10; have hr10 := Kd.C_take (m := ((ji4) : Int).toNat) hC10 (by omega); have hy10 : y104.length = ((ji4) : Int).toNat := (by rw [Ny104.out, List.length_take]; omega); rw [← Ny104.out] at hr10; rw [← hy10] at hcut10; have HR107 := Aside0.mk hr10; have HC107 := Aside0.mk (show y104.length ≤ c0 from by omega); clear hr10 hC10 hroom10 hi010 hsz10; have KY10 := Aside0.mk hy10; clear hy10; replace q10 := eq_true q10) | ((with_reducible refine gate_builtin (b := .append) (xs := #[.tmp 8, .tmp 14]) rfl ?_); at_builtin; refine Kd.R_append_rows k29 (w0 := w) w.heap.size rfl (.tmp 8) (.tmp 14) 22 29 (.agg #[(.int .i64 0), (.int .i64 0)]) 16 rfl Try.underlying22 info29 rfl (by decide) (by omega) v102 y101 y104 _ _ _ (fun _ => True) (fun _ => False) rfl rfl ?aO ?aR (fun _ _ h => h) (fun _ h => h.elim) ?aF ?aB ?aS ?aL ?_; (case aR => repeat (first | exact (Kd.C_below HR107.out HB.out) | (with_reducible refine Kd.C_alloc ?_ _) | (with_reducible refine Kd.C_drewN ?_ _) | (with_reducible refine Kd.C_drew ?_))); (case aB => exact bh); (case aF => exact (fun _ _ => trivial)); (case aO => exact (ro HO103)); (case aS => exact (below_size bh)); (case aL => have := LMc7.out; omega); intro v109 w11 ho hb hg hat; rw [← Ny108.out] at ho; have n0_ := Aside0.mk (hb); have n1_ := Aside0.mk (ho); clear HB; clear HO103; have HB := n0_; have HO110 := n1_; clear n0_ n1_; clear ho hb hg hat))
     go_ret
     exact ⟨_, by first | rfl | (simp [errW_none, errW_some] <;> rfl) | (simp only [← hji4]; first | rfl | (simp [errW_none, errW_some] <;> rfl)) | (simp [*, errW_none, errW_some] <;> rfl), by (with_reducible repeat (first | apply Kd.R_alloc | apply Kd.R_drewN | apply Kd.R_drew)); exact HO110.out, bh⟩
    ·rw [if_neg c7] at H
     exact absurd H (by simp)
   ·rw [if_neg c6] at H
    exact absurd H (by simp)
  ·rw [if_neg c5] at H
   exact absurd H (by simp)
 ·rw [if_neg c3] at H
  have c3b0 : decide (32 < (l0.length : Int)) = false := decide_eq_false c3
  have c3b1 : decide (32 < l0.length) = false := decide_eq_false (by omega)
  clear c3
  obtain ⟨y111, hy111⟩ : ∃ y_ : List (S29), y_ = (([] : List (S29))) := ⟨_, rfl⟩
  replace H : (if 0 ≤ (mn (l0.length : Int) a1) then (if (mn (l0.length : Int) a1) ≤ (l0.length : Int) then ((some (l0.take ((mn (l0.length : Int) a1) : Int).toNat : List (S29))).bind fun y114 => (if y111.length + y114.length < 8796093022208 then (some (y111 ++ y114)) else (none))) else (none)) else (none)) = some r := by first | (rw [hy111]; with_reducible exact H) | (have H2_ := (Option.bind_some _ _).symm.trans H; rw [hy111]; with_reducible exact H2_) | (have H2_ := (Option.bind_some _ _).symm.trans H; with_reducible exact H2_) | with_reducible exact H | (rw [hy111]; exact H) | exact H
  have Ny111 := Aside0.mk hy111
  clear hy111
  obtain ⟨ji12, hji12⟩ : ∃ j_ : Int, (mn (l0.length : Int) a1) = j_ := ⟨_, rfl⟩
  replace H : (if 0 ≤ (ji12) then (if (ji12) ≤ (l0.length : Int) then ((some (l0.take ((ji12) : Int).toNat : List (S29))).bind fun y114 => (if y111.length + y114.length < 8796093022208 then (some (y111 ++ y114)) else (none))) else (none)) else (none)) = some r := by first | (rw [hji12] at H; exact H) | (simp only [hji12] at H ⊢; exact H)
  have hji12_ : (if a1 < (l0.length : Int) then a1 else (l0.length : Int)) = ji12 := hji12
  by_cases c13 : 0 ≤ (ji12)
  ·rw [if_pos c13] at H
   have c13b0 := eq_true c13
   have c13b1 : decide (0 ≤ (ji12)) = true := decide_eq_true c13
   clear c13
   by_cases c14 : (ji12) ≤ (l0.length : Int)
   ·rw [if_pos c14] at H
    have c14b0 := eq_true c14
    have c14b1 : decide ((ji12) ≤ (l0.length : Int)) = true := decide_eq_true c14
    clear c14
    obtain ⟨y114, hy114⟩ : ∃ y_ : List (S29), y_ = (l0.take ((ji12) : Int).toNat) := ⟨_, rfl⟩
    replace H : (if y111.length + y114.length < 8796093022208 then (some (y111 ++ y114)) else (none)) = some r := by first | (rw [hy114]; with_reducible exact H) | (have H2_ := (Option.bind_some _ _).symm.trans H; rw [hy114]; with_reducible exact H2_) | (have H2_ := (Option.bind_some _ _).symm.trans H; with_reducible exact H2_) | with_reducible exact H | (rw [hy114]; exact H) | exact H
    have Ny114 := Aside0.mk hy114
    clear hy114
    by_cases c15 : y111.length + y114.length < 8796093022208
    ·rw [if_pos c15] at H
     have LMc15 := Aside0.mk c15
     clear c15
     obtain ⟨y118, hy118⟩ : ∃ y_ : List (S29), y_ = (y111 ++ y114) := ⟨_, rfl⟩
     replace H : (some y118) = some r := by first | (rw [hy118]; with_reducible exact H) | (have H2_ := (Option.bind_some _ _).symm.trans H; rw [hy118]; with_reducible exact H2_) | (have H2_ := (Option.bind_some _ _).symm.trans H; with_reducible exact H2_) | with_reducible exact H | (rw [hy118]; exact H) | exact H
     have Ny118 := Aside0.mk hy118
     clear hy118
     obtain rfl := Option.some.inj H
     go_enter Try.func15, Try.ntmps15
     go_wp2_with (first | ((with_reducible refine gate_dst (N := 8) rfl ?_); refine Kd.R_lit k29 _ 29 ?hg (N := 8) ?hd (xs := ([] : List (S29))) (inner := []) (ok := fun _ => True) (okp := fun _ => True) ?hr ?hp (fun _ hk => hk) trivial (Below.refl _ _) (Nat.le_refl _) (by simp) ?_; (case hd => rfl); (case hg => rfl); (case hr => first | (go_simp; done) | (go_simp; rfl)); (case hp => exact (Reps.none _ _)); intro v112 w16 ho17 hb hg_ hnew_; clear hg_ hnew_; (first | rw [← Ny111.out] at ho17 | (simp only [Int.reduceToNat] at ho17; rw [← Ny111.out] at ho17)); have n0_ := Aside0.mk (Kd.R_lower ho17 (below_size bh)); have n1_ := Aside0.mk (below_step bh hb); clear HB; have HO113 := n0_; have HB := n1_; clear n0_ n1_; clear hb ho17; have q18 : ((ji12) : Int) ≤ ((l0.length : Int) : Int) := dt; obtain ⟨i018, hi018, _, hsz18, _⟩ := info_parts info29; have hroom18 : l0.length ≤ c0 := HC0.out; have hC18 : Kd.C k29 _ A0 l0.length l0 := HR0.out; have hcut18 := cut_to (P := Try.prog) 22 29 .i64 Try.underlying22 hi018 A0 l0.length c0 (ji12) (dt) q18 hroom18; have hr18 := Kd.C_take (m := ((ji12) : Int).toNat) hC18 (by omega); have hy18 : y114.length = ((ji12) : Int).toNat := (by rw [Ny114.out, List.length_take]; omega); rw [← Ny114.out] at hr18; rw [← hy18] at hcut18; have HR117 := Aside0.mk hr18; have HC117 := Aside0.mk (show y114.length ≤ c0 from by omega); clear hr18 hC18 hroom18 hi018 hsz18; have KY18 := Aside0.mk hy18; clear hy18; replace q18 := eq_true q18) | ((with_reducible refine gate_builtin (b := .append) (xs := #[.tmp 8, .tmp 14]) rfl ?_); at_builtin; refine Kd.R_append_rows k29 (w0 := w) w.heap.size rfl (.tmp 8) (.tmp 14) 22 29 (.agg #[(.int .i64 0), (.int .i64 0)]) 16 rfl Try.underlying22 info29 rfl (by decide) (by omega) v112 y111 y114 _ _ _ (fun _ => True) (fun _ => False) rfl rfl ?aO ?aR (fun _ _ h => h) (fun _ h => h.elim) ?aF ?aB ?aS ?aL ?_; (case aR => repeat (first | exact (Kd.C_below HR117.out HB.out) | (with_reducible refine Kd.C_alloc ?_ _) | (with_reducible refine Kd.C_drewN ?_ _) | (with_reducible refine Kd.C_drew ?_))); (case aB => exact bh); (case aF => exact (fun _ _ => trivial)); (case aO => exact (ro HO113)); (case aS => exact (below_size bh)); (case aL => have := LMc15.out; omega); intro v119 w19 ho hb hg hat; rw [← Ny118.out] at ho; have n0_ := Aside0.mk (hb); have n1_ := Aside0.mk (ho); clear HB; clear HO113; have HB := n0_; have HO120 := n1_; clear n0_ n1_; clear ho hb hg hat))
     go_ret
     exact ⟨_, by first | rfl | (simp [errW_none, errW_some] <;> rfl) | (simp only [← hji12]; first | rfl | (simp [errW_none, errW_some] <;> rfl)) | (simp [*, errW_none, errW_some] <;> rfl), by (with_reducible repeat (first | apply Kd.R_alloc | apply Kd.R_drewN | apply Kd.R_drew)); exact HO120.out, bh⟩
    ·rw [if_neg c15] at H
     exact absurd H (by simp)
   ·rw [if_neg c14] at H
    exact absurd H (by simp)
  ·rw [if_neg c13] at H
   exact absurd H (by simp)
end Go.Proofs.Ytoffmpkgickfhaa.PG
end
section
namespace Go.Proofs.Ytoffmpkgickfhaa.PG
open Go.RowKit Go.Proofs.YtoffmpkgickfhaaW.PrintWords Go.Proofs.YtoffmpkgickfhaaW.PrintLast Go.Proofs.YtoffmpkgickfhaaW.PrintMore
attribute [local go_sem] max2_int min2_int max_two min_two max_three min_three max_four min_four
set_option linter.unusedVariables false
set_option linter.unusedSimpArgs false
/-! ### cracknelref04_Area2: function 30 -/
def cracknelref04_Area2.l0 : Nat → List (S29) → Int → Int → Option (Int)
 | 0, _, _, _ => none
 | k + 1, x0, x3, x4 => if x4 < (x0.length : Int) then (if 0 ≤ x4 then ((cracknelref04_next.f x0 x4).bind fun bt102 => (cracknelref04_Area2.l0 k x0 (wrap64 (x3 + (wrap64 ((wrap64 (((rd_T29 x0 x4).f0) * bt102.2)) - (wrap64 (bt102.1 * ((rd_T29 x0 x4).f1))))))) (wrap64 (x4 + 1)))) else (none)) else (some x3)
def cracknelref04_Area2.f (k : Nat) (l0 : List (S29)) : Option (Int) := cracknelref04_Area2.l0 k l0 0 0
theorem cracknelref04_Area2.mono_l : ∀ k, (∀ y0 y1 y2, LeO (cracknelref04_Area2.l0 k y0 y1 y2) (cracknelref04_Area2.l0 (k + 1) y0 y1 y2))
 | 0 => fun _ _ _ r h => by simp [cracknelref04_Area2.l0] at h
 | k + 1 => by
  have ih0 := cracknelref04_Area2.mono_l k
  ·intro y0 y1 y2
   unfold cracknelref04_Area2.l0
   repeat' first
   | (with_reducible exact ih0 _ _ _)
   | (with_reducible exact LeO.refl _)
   | (with_reducible exact LeO.none _)
   | (with_reducible refine LeO.ite ?_ ?_)
   | (with_reducible refine LeO.bind ?_ (fun _ => ?_))
   | exact ih0 _ _ _
   | exact LeO.none _
   | refine LeO.ite ?_ ?_
   | refine LeO.bind ?_ (fun _ => ?_)
theorem cracknelref04_Area2.mono : ∀ a0 k, LeO (cracknelref04_Area2.f k a0) (cracknelref04_Area2.f (k + 1) a0) := by
 intro a0 k
 have ih0 := cracknelref04_Area2.mono_l k
 unfold cracknelref04_Area2.f
 repeat' first
  | (with_reducible exact ih0 _ _ _)
  | (with_reducible exact LeO.refl _)
  | (with_reducible exact LeO.none _)
  | (with_reducible refine LeO.ite ?_ ?_)
  | (with_reducible refine LeO.bind ?_ (fun _ => ?_))
  | exact ih0 _ _ _
  | exact LeO.none _
  | refine LeO.ite ?_ ?_
  | refine LeO.bind ?_ (fun _ => ?_)
def cracknelref04_Area2.T5 : Bool × List (List Nat × List Nat) := (true, [([], []), ([], []), ([0, 1], [0, 1]), ([2], [2]), ([], []), ([], []), ([4, 5], [4, 5]), ([], []), ([], []), ([7, 3, 6, 0, 1, 2, 3, 7, 8], [3, 7]), ([8, 6, 9, 0, 1, 2, 3, 4, 5, 6, 7, 8, 9], [6, 8])])
def cracknelref04_Area2.B5 : List Nat := [0, 0, 3, 7, 0, 0, 48, 0, 0, 511, 1023]
theorem cracknelref04_Area2.tab5 : rtab .any (opsOf Try.f30 5) = cracknelref04_Area2.T5 := by kernel_rfl
theorem cracknelref04_Area2.bits5 : waitsOk cracknelref04_Area2.T5.2 cracknelref04_Area2.B5 = true := by kernel_rfl
set_option maxHeartbeats 8000000 in
set_option maxRecDepth 100000 in
theorem cracknelref04_Area2.calls (k : Nat) (A0 : Option Addr) (c0 : Nat) (l0 : List (S29)) (r : Int) (w : World) (hr0 : Kd.C k29 w A0 l0.length l0) (hc0 : l0.length ≤ c0) (h : cracknelref04_Area2.f k l0 = some r) :
  Calls Try.prog 30 #[.slice A0 l0.length c0] w fun e w' => e = .returned (.int .i64 r) ∧ Below w.heap.size w w' := by
 have hu29 := Try.underlying29
 have HR0 := Aside0.mk hr0
 have HC0 := Aside0.mk hc0
 clear hr0 hc0
 have HB := Aside0.mk (Below.refl w.heap.size w)
 have H : (cracknelref04_Area2.l0 k l0 0 0) = some r := h
 clear h
 have H' := Aside0.mk H
 clear H
 go_enter Try.func30, Try.ntmps30
 go_wp2
 go_loopg [3, 4] k (fun kq v3 v4 w' => ∃ (x3_1 : Int) (x4_1 : Int), v3 = .int .i64 x3_1 ∧ v4 = .int .i64 x4_1 ∧ Aside0 (cracknelref04_Area2.l0 kq l0 x3_1 x4_1 = some r) ∧ Aside0 (kq ≤ k) ∧ Aside0 (Below w.heap.size w w'))
 case atStart => exact ⟨(0), (0), sd, sd, H', ⟨Nat.le_refl _⟩, ⟨bh⟩⟩
 case round =>
  clear H'
  obtain ⟨x3_1, x4_1, rfl, rfl, HA, HK1, HB⟩ := hrel
  cases gk with
  | zero => exact absurd HA.out (by simp [cracknelref04_Area2.l0])
  | succ k1 =>
   have H := HA.out
   clear HA
   simp only [cracknelref04_Area2.l0] at H
   by_cases c2 : x4_1 < (l0.length : Int)
   ·rw [if_pos c2] at H
    have c2b0 : decide (x4_1 < (l0.length : Int)) = true := decide_eq_true c2
    clear c2
    by_cases c3 : 0 ≤ x4_1
    ·rw [if_pos c3] at H
     have c3b0 : decide (0 ≤ x4_1) = true := decide_eq_true c3
     clear c3
     replace H := Option.bind_eq_some_iff.mp H
     obtain ⟨⟨t102, t103⟩, A40, H⟩ := H
     replace H : (cracknelref04_Area2.l0 k1 l0 (wrap64 (x3_1 + (wrap64 ((wrap64 (((rd_T29 l0 x4_1).f0) * t103)) - (wrap64 (t102 * ((rd_T29 l0 x4_1).f1))))))) (wrap64 (x4_1 + 1))) = some r := H
     have A4 := Aside0.mk A40
     clear A40
     have H' := Aside0.mk H
     clear H
     try go_wp2
     replace HB := Aside0.mk (below_drew1 HB.out)
     have p101 : 0 ≤ (x4_1 : Int) := dt
     have q101 : x4_1 < (l0.length : Int) := dt
     obtain ⟨ad101, e101, hx101_0, hx101_1⟩ := at_T29 HR0.out x4_1 p101 q101
     have hw101_1 := hx101_1
     have hw101_0 := hx101_0
     cases e101
     replace hx101_0 := hc HB hx101_0
     replace hx101_1 := hc HB hx101_1
     replace p101 := eq_true p101
     replace q101 := eq_true q101
     refine start_ (n := 11) (S := fun w' => w'.cell? (ad101.add ((x4_1).toNat * 2)) = some (.int .i64 ((rd_T29 l0 x4_1).f0)) ∧ w'.cell? ⟨(ad101.add ((x4_1).toNat * 2)).block, (ad101.add ((x4_1).toNat * 2)).off + 1, none⟩ = some (.int .i64 ((rd_T29 l0 x4_1).f1))) (ds := []) #[false, false, false, false, false, false, false, false, false, false, false] (by kernel_rfl) rfl rfl ⟨(hc HB hw101_0), (hc HB hw101_1)⟩ (fun hHeld => ?_); refine with_tabW cracknelref04_Area2.tab5 cracknelref04_Area2.bits5 (fun HT_ HW_ => ?_)
     generalize wr.drew = w5 at HB hx101_0 hx101_1 hHeld ⊢
     refine pu 0 13 HT_ ?_
     refine pu 1 14 HT_ ?_
     refine pu 2 15 HT_ ?_
     refine pu 4 17 HT_ ?_
     refine pu 5 18 HT_ ?_
     refine tk2 3 16 hHeld HT_ HW_ ?_
     refine join_ (σ := Nat × Nat) 2 #[true, true, true, true, true, true, true, true, true, false, false] (fun s_ => [(19, .agg #[.int .i64 t102, .int .i64 t103]), (5, .pointer (some ⟨s_.1, 0, none⟩)), (6, .pointer (some ⟨s_.2, 0, none⟩))]) (fun s_ w' => (w'.cell? (ad101.add ((x4_1).toNat * 2)) = some (.int .i64 ((rd_T29 l0 x4_1).f0)) ∧ w'.cell? ⟨(ad101.add ((x4_1).toNat * 2)).block, (ad101.add ((x4_1).toNat * 2)).off + 1, none⟩ = some (.int .i64 ((rd_T29 l0 x4_1).f1))) ∧ (w'.heap[s_.1]? = some (.cells #[.int .i64 0, .int .i64 0] 29 (0, 0))) ∧ (w'.heap[s_.2]? = some (.cells #[.int .i64 0, .int .i64 0] 29 (0, 0))) ∧ (w.heap.size ≤ s_.1) ∧ (w.heap.size ≤ s_.1) ∧ (s_.2 ≠ s_.1) ∧ (s_.1 ≠ s_.2) ∧ (w.heap.size ≤ s_.2) ∧ (w.heap.size ≤ s_.2) ∧ (Below w.heap.size w w')) ?_ ?_
     rotate_left
     ·intro hJ6_7_8
      refine join_ (σ := Nat) 3 #[true, true, true, true, true, true, true, true, false, false, false] (fun s_ => [(19, .agg #[.int .i64 t102, .int .i64 t103]), (5, .pointer (some ⟨s_, 0, none⟩))]) (fun s_ w' => (w'.cell? (ad101.add ((x4_1).toNat * 2)) = some (.int .i64 ((rd_T29 l0 x4_1).f0)) ∧ w'.cell? ⟨(ad101.add ((x4_1).toNat * 2)).block, (ad101.add ((x4_1).toNat * 2)).off + 1, none⟩ = some (.int .i64 ((rd_T29 l0 x4_1).f1))) ∧ (w'.heap[s_]? = some (.cells #[.int .i64 0, .int .i64 0] 29 (0, 0))) ∧ (w.heap.size ≤ s_) ∧ (w.heap.size ≤ s_) ∧ (Below w.heap.size w w')) ?_ ?_
      rotate_left
      ·intro hJ6_7
       refine join_ (σ := Nat) 3 #[true, true, true, true, true, true, true, false, true, false, false] (fun s_ => [(19, .agg #[.int .i64 t102, .int .i64 t103]), (6, .pointer (some ⟨s_, 0, none⟩))]) (fun s_ w' => (w'.cell? (ad101.add ((x4_1).toNat * 2)) = some (.int .i64 ((rd_T29 l0 x4_1).f0)) ∧ w'.cell? ⟨(ad101.add ((x4_1).toNat * 2)).block, (ad101.add ((x4_1).toNat * 2)).off + 1, none⟩ = some (.int .i64 ((rd_T29 l0 x4_1).f1))) ∧ (w'.heap[s_]? = some (.cells #[.int .i64 0, .int .i64 0] 29 (0, 0))) ∧ (w.heap.size ≤ s_) ∧ (w.heap.size ≤ s_) ∧ (Below w.heap.size w w')) ?_ ?_
       rotate_left
       ·intro hJ6_8
        refine join_ (σ := Nat × Nat) 3 #[true, true, true, true, true, true, false, true, true, false, false] (fun s_ => [(5, .pointer (some ⟨s_.1, 0, none⟩)), (6, .pointer (some ⟨s_.2, 0, none⟩))]) (fun s_ w' => (w'.cell? (ad101.add ((x4_1).toNat * 2)) = some (.int .i64 ((rd_T29 l0 x4_1).f0)) ∧ w'.cell? ⟨(ad101.add ((x4_1).toNat * 2)).block, (ad101.add ((x4_1).toNat * 2)).off + 1, none⟩ = some (.int .i64 ((rd_T29 l0 x4_1).f1))) ∧ (w'.heap[s_.1]? = some (.cells #[.int .i64 0, .int .i64 0] 29 (0, 0))) ∧ (w'.heap[s_.2]? = some (.cells #[.int .i64 0, .int .i64 0] 29 (0, 0))) ∧ (w.heap.size ≤ s_.1) ∧ (w.heap.size ≤ s_.1) ∧ (s_.2 ≠ s_.1) ∧ (s_.1 ≠ s_.2) ∧ (w.heap.size ≤ s_.2) ∧ (w.heap.size ≤ s_.2) ∧ (Below w.heap.size w w')) ?_ ?_
        rotate_left
        ·intro hJ7_8
         refine join_ (σ := Unit) 4 #[true, true, true, true, true, true, true, false, false, false, false] (fun s_ => [(19, .agg #[.int .i64 t102, .int .i64 t103])]) (fun s_ w' => (w'.cell? (ad101.add ((x4_1).toNat * 2)) = some (.int .i64 ((rd_T29 l0 x4_1).f0)) ∧ w'.cell? ⟨(ad101.add ((x4_1).toNat * 2)).block, (ad101.add ((x4_1).toNat * 2)).off + 1, none⟩ = some (.int .i64 ((rd_T29 l0 x4_1).f1))) ∧ (Below w.heap.size w w')) ?_ ?_
         rotate_left
         ·intro hJ6
          refine join_ (σ := Nat) 4 #[true, true, true, true, true, true, false, true, false, false, false] (fun s_ => [(5, .pointer (some ⟨s_, 0, none⟩))]) (fun s_ w' => (w'.cell? (ad101.add ((x4_1).toNat * 2)) = some (.int .i64 ((rd_T29 l0 x4_1).f0)) ∧ w'.cell? ⟨(ad101.add ((x4_1).toNat * 2)).block, (ad101.add ((x4_1).toNat * 2)).off + 1, none⟩ = some (.int .i64 ((rd_T29 l0 x4_1).f1))) ∧ (w'.heap[s_]? = some (.cells #[.int .i64 0, .int .i64 0] 29 (0, 0))) ∧ (w.heap.size ≤ s_) ∧ (w.heap.size ≤ s_) ∧ (Below w.heap.size w w')) ?_ ?_
          rotate_left
          ·intro hJ7
           refine join_ (σ := Nat) 4 #[true, true, true, true, true, true, false, false, true, false, false] (fun s_ => [(6, .pointer (some ⟨s_, 0, none⟩))]) (fun s_ w' => (w'.cell? (ad101.add ((x4_1).toNat * 2)) = some (.int .i64 ((rd_T29 l0 x4_1).f0)) ∧ w'.cell? ⟨(ad101.add ((x4_1).toNat * 2)).block, (ad101.add ((x4_1).toNat * 2)).off + 1, none⟩ = some (.int .i64 ((rd_T29 l0 x4_1).f1))) ∧ (w'.heap[s_]? = some (.cells #[.int .i64 0, .int .i64 0] 29 (0, 0))) ∧ (w.heap.size ≤ s_) ∧ (w.heap.size ≤ s_) ∧ (Below w.heap.size w w')) ?_ ?_
           rotate_left
           ·intro hJ8
            refine three_ (i := 6) (j := 7) (k := 8) (Ni := some 19) (Nj := some 5) (Nk := some 6) #[true, true, true, true, true, true, true, false, false, false, false] #[true, true, true, true, true, true, false, true, false, false, false] #[true, true, true, true, true, true, false, false, true, false, false] rfl rfl rfl rfl rfl rfl (on3 HT_) (by decide) (by decide) (by decide) (fun K hK => ?_) (fun K hK => ?_) (fun K hK => ?_)
            ·skip
             refine goes_ Try.func64 (by kernel_rfl) rfl #[.slice (some ad101) l0.length c0, .int .i64 x4_1] (by rfl) rfl rfl sg ?_
             with_reducible refine (cracknelref04_next.calls _ _ l0 x4_1 t102 t103 _ ?side1 ?side2 A4.out).mono ?_
             (case side1 => exact cs (Kd.C_below HR0.out HB.out))
             (case side2 => exact HC0.out)
             rintro e w6 ⟨rfl, hb⟩
             refine ⟨_, rfl, ?_⟩
             replace HB := Aside0.mk (below_step bh hb)
             (try clear hb); (try clear hb2); (try clear hk); (try clear hi)
             refine hK.out _ _ ⟨(hc HB hw101_0), (hc HB hw101_1)⟩ (fun hHeld => ?_)
             clear hK K
             refine nm 19 ?_
             exact norm_ pa (hJ6 () _ ⟨hHeld, bh⟩)
            ·skip
             refine bxs 5 #[.int .i64 0, .int .i64 0] 29 ?_
             intro gb104 hg w6 hbox hb
             have BK104 := Aside0.mk (hbox)
             have GW104 := Aside0.mk (gs hg : w.heap.size ≤ gb104)
             have GE104 := Aside0.mk (gs hg : w.heap.size ≤ gb104)
             replace HB := Aside0.mk (below_step bh hb)
             clear hb hbox hg
             refine hK.out _ _ ⟨(hc HB hw101_0), (hc HB hw101_1)⟩ (fun hHeld => ?_)
             clear hK K
             refine nm 5 ?_
             exact norm_ pa (hJ7 (gb104) _ ⟨hHeld, bk BK104, GW104.out, GE104.out, bh⟩)
            ·skip
             refine bxs 6 #[.int .i64 0, .int .i64 0] 29 ?_
             intro gb105 hg w6 hbox hb
             have BK105 := Aside0.mk (hbox)
             have GW105 := Aside0.mk (gs hg : w.heap.size ≤ gb105)
             have GE105 := Aside0.mk (gs hg : w.heap.size ≤ gb105)
             replace HB := Aside0.mk (below_step bh hb)
             clear hb hbox hg
             refine hK.out _ _ ⟨(hc HB hw101_0), (hc HB hw101_1)⟩ (fun hHeld => ?_)
             clear hK K
             refine nm 6 ?_
             exact norm_ pa (hJ8 (gb105) _ ⟨hHeld, bk BK105, GW105.out, GE105.out, bh⟩)
           ·skip
            rintro gb105 w7 ⟨hS_, h0_, h1_, h2_, h3_⟩
            have BK105 := Aside0.mk h0_
            have GW105 := Aside0.mk h1_
            have GE105 := Aside0.mk h2_
            replace HB := Aside0.mk h3_
            clear h0_ h1_ h2_ h3_
            have hHeld := hS_
            refine nn ?_
            refine two_ (i := 6) (j := 7) (Ni := some 19) (Nj := some 5) #[true, true, true, true, true, true, true, false, true, false, false] #[true, true, true, true, true, true, false, true, true, false, false] rfl rfl rfl rfl (on2 HT_) (by decide) (by decide) (fun K hK => ?_) (fun K hK => ?_)
            ·skip
             refine goes_ Try.func64 (by kernel_rfl) rfl #[.slice (some ad101) l0.length c0, .int .i64 x4_1] (by rfl) rfl rfl sg ?_
             with_reducible refine (cracknelref04_next.calls _ _ l0 x4_1 t102 t103 _ ?side1 ?side2 A4.out).mono ?_
             (case side1 => exact cs (Kd.C_below HR0.out HB.out))
             (case side2 => exact HC0.out)
             rintro e w8 ⟨rfl, hb⟩
             refine ⟨_, rfl, ?_⟩
             replace BK105 := kb BK105 hb
             replace HB := Aside0.mk (below_step bh hb)
             (try clear hb); (try clear hb2); (try clear hk); (try clear hi)
             refine hK.out _ _ ⟨(hc HB hw101_0), (hc HB hw101_1)⟩ (fun hHeld => ?_)
             clear hK K
             refine nm 19 ?_
             exact norm_ pa (hJ6_8 (gb105) _ ⟨hHeld, bk BK105, GW105.out, GE105.out, bh⟩)
            ·skip
             refine bxs 5 #[.int .i64 0, .int .i64 0] 29 ?_
             intro gb104 hg w8 hbox hb
             have BK104 := Aside0.mk (hbox)
             have GW104 := Aside0.mk (gs hg : w.heap.size ≤ gb104)
             have GE104 := Aside0.mk (gs hg : w.heap.size ≤ gb104)
             have NB105_104 := Aside0.mk ((by rw [hg]; exact Nat.ne_of_lt (kl BK105) : gb105 ≠ gb104))
             have NB104_105 := Aside0.mk ((by rw [hg]; exact Nat.ne_of_gt (kl BK105) : gb104 ≠ gb105))
             replace BK105 := kb BK105 hb
             replace HB := Aside0.mk (below_step bh hb)
             clear hb hbox hg
             refine hK.out _ _ ⟨(hc HB hw101_0), (hc HB hw101_1)⟩ (fun hHeld => ?_)
             clear hK K
             refine nm 5 ?_
             exact norm_ pa (hJ7_8 (gb104, gb105) _ ⟨hHeld, bk BK104, bk BK105, GW104.out, GE104.out, NB105_104.out, NB104_105.out, GW105.out, GE105.out, bh⟩)
          ·skip
           rintro gb104 w7 ⟨hS_, h0_, h1_, h2_, h3_⟩
           have BK104 := Aside0.mk h0_
           have GW104 := Aside0.mk h1_
           have GE104 := Aside0.mk h2_
           replace HB := Aside0.mk h3_
           clear h0_ h1_ h2_ h3_
           have hHeld := hS_
           refine nn ?_
           refine two_ (i := 6) (j := 8) (Ni := some 19) (Nj := some 6) #[true, true, true, true, true, true, true, true, false, false, false] #[true, true, true, true, true, true, false, true, true, false, false] rfl rfl rfl rfl (on2 HT_) (by decide) (by decide) (fun K hK => ?_) (fun K hK => ?_)
           ·skip
            refine goes_ Try.func64 (by kernel_rfl) rfl #[.slice (some ad101) l0.length c0, .int .i64 x4_1] (by rfl) rfl rfl sg ?_
            with_reducible refine (cracknelref04_next.calls _ _ l0 x4_1 t102 t103 _ ?side1 ?side2 A4.out).mono ?_
            (case side1 => exact cs (Kd.C_below HR0.out HB.out))
            (case side2 => exact HC0.out)
            rintro e w8 ⟨rfl, hb⟩
            refine ⟨_, rfl, ?_⟩
            replace BK104 := kb BK104 hb
            replace HB := Aside0.mk (below_step bh hb)
            (try clear hb); (try clear hb2); (try clear hk); (try clear hi)
            refine hK.out _ _ ⟨(hc HB hw101_0), (hc HB hw101_1)⟩ (fun hHeld => ?_)
            clear hK K
            refine nm 19 ?_
            exact norm_ pa (hJ6_7 (gb104) _ ⟨hHeld, bk BK104, GW104.out, GE104.out, bh⟩)
           ·skip
            refine bxs 6 #[.int .i64 0, .int .i64 0] 29 ?_
            intro gb105 hg w8 hbox hb
            have BK105 := Aside0.mk (hbox)
            have GW105 := Aside0.mk (gs hg : w.heap.size ≤ gb105)
            have GE105 := Aside0.mk (gs hg : w.heap.size ≤ gb105)
            have NB104_105 := Aside0.mk ((by rw [hg]; exact Nat.ne_of_lt (kl BK104) : gb104 ≠ gb105))
            have NB105_104 := Aside0.mk ((by rw [hg]; exact Nat.ne_of_gt (kl BK104) : gb105 ≠ gb104))
            replace BK104 := kb BK104 hb
            replace HB := Aside0.mk (below_step bh hb)
            clear hb hbox hg
            refine hK.out _ _ ⟨(hc HB hw101_0), (hc HB hw101_1)⟩ (fun hHeld => ?_)
            clear hK K
            refine nm 6 ?_
            exact norm_ pa (hJ7_8 (gb104, gb105) _ ⟨hHeld, bk BK104, bk BK105, GW104.out, GE104.out, NB105_104.out, NB104_105.out, GW105.out, GE105.out, bh⟩)
         ·skip
          rintro _ w7 ⟨hS_, h0_⟩
          replace HB := Aside0.mk h0_
          clear h0_
          have hHeld := hS_
          refine nn ?_
          refine two_ (i := 7) (j := 8) (Ni := some 5) (Nj := some 6) #[true, true, true, true, true, true, true, true, false, false, false] #[true, true, true, true, true, true, true, false, true, false, false] rfl rfl rfl rfl (on2 HT_) (by decide) (by decide) (fun K hK => ?_) (fun K hK => ?_)
          ·skip
           refine bxs 5 #[.int .i64 0, .int .i64 0] 29 ?_
           intro gb104 hg w8 hbox hb
           have BK104 := Aside0.mk (hbox)
           have GW104 := Aside0.mk (gs hg : w.heap.size ≤ gb104)
           have GE104 := Aside0.mk (gs hg : w.heap.size ≤ gb104)
           replace HB := Aside0.mk (below_step bh hb)
           clear hb hbox hg
           refine hK.out _ _ ⟨(hc HB hw101_0), (hc HB hw101_1)⟩ (fun hHeld => ?_)
           clear hK K
           refine nm 5 ?_
           exact norm_ pa (hJ6_7 (gb104) _ ⟨hHeld, bk BK104, GW104.out, GE104.out, bh⟩)
          ·skip
           refine bxs 6 #[.int .i64 0, .int .i64 0] 29 ?_
           intro gb105 hg w8 hbox hb
           have BK105 := Aside0.mk (hbox)
           have GW105 := Aside0.mk (gs hg : w.heap.size ≤ gb105)
           have GE105 := Aside0.mk (gs hg : w.heap.size ≤ gb105)
           replace HB := Aside0.mk (below_step bh hb)
           clear hb hbox hg
           refine hK.out _ _ ⟨(hc HB hw101_0), (hc HB hw101_1)⟩ (fun hHeld => ?_)
           clear hK K
           refine nm 6 ?_
           exact norm_ pa (hJ6_8 (gb105) _ ⟨hHeld, bk BK105, GW105.out, GE105.out, bh⟩)
        ·skip
         rintro ⟨gb104, gb105⟩ w8 ⟨hS_, h0_, h1_, h2_, h3_, h4_, h5_, h6_, h7_, h8_⟩
         have BK104 := Aside0.mk h0_
         have BK105 := Aside0.mk h1_
         have GW104 := Aside0.mk h2_
         have GE104 := Aside0.mk h3_
         have NB105_104 := Aside0.mk h4_
         have NB104_105 := Aside0.mk h5_
         have GW105 := Aside0.mk h6_
         have GE105 := Aside0.mk h7_
         replace HB := Aside0.mk h8_
         clear h0_ h1_ h2_ h3_ h4_ h5_ h6_ h7_ h8_
         have hHeld := hS_
         refine nn ?_
         refine one_ (i := 6) (N := some 19) #[true, true, true, true, true, true, true, true, true, false, false] rfl rfl (on1 HT_) (by decide) (fun K hK => ?_)
         refine goes_ Try.func64 (by kernel_rfl) rfl #[.slice (some ad101) l0.length c0, .int .i64 x4_1] (by rfl) rfl rfl sg ?_
         with_reducible refine (cracknelref04_next.calls _ _ l0 x4_1 t102 t103 _ ?side1 ?side2 A4.out).mono ?_
         (case side1 => exact cs (Kd.C_below HR0.out HB.out))
         (case side2 => exact HC0.out)
         rintro e w9 ⟨rfl, hb⟩
         refine ⟨_, rfl, ?_⟩
         replace BK104 := kb BK104 hb
         replace BK105 := kb BK105 hb
         replace HB := Aside0.mk (below_step bh hb)
         (try clear hb); (try clear hb2); (try clear hk); (try clear hi)
         refine hK.out _ _ ⟨(hc HB hw101_0), (hc HB hw101_1)⟩ (fun hHeld => ?_)
         clear hK K
         refine nm 19 ?_
         exact norm_ pa (hJ6_7_8 (gb104, gb105) _ ⟨hHeld, bk BK104, bk BK105, GW104.out, GE104.out, NB105_104.out, NB104_105.out, GW105.out, GE105.out, bh⟩)
       ·skip
        rintro gb105 w8 ⟨hS_, h0_, h1_, h2_, h3_⟩
        have BK105 := Aside0.mk h0_
        have GW105 := Aside0.mk h1_
        have GE105 := Aside0.mk h2_
        replace HB := Aside0.mk h3_
        clear h0_ h1_ h2_ h3_
        have hHeld := hS_
        refine nn ?_
        refine one_ (i := 7) (N := some 5) #[true, true, true, true, true, true, true, true, true, false, false] rfl rfl (on1 HT_) (by decide) (fun K hK => ?_)
        refine bxs 5 #[.int .i64 0, .int .i64 0] 29 ?_
        intro gb104 hg w9 hbox hb
        have BK104 := Aside0.mk (hbox)
        have GW104 := Aside0.mk (gs hg : w.heap.size ≤ gb104)
        have GE104 := Aside0.mk (gs hg : w.heap.size ≤ gb104)
        have NB105_104 := Aside0.mk ((by rw [hg]; exact Nat.ne_of_lt (kl BK105) : gb105 ≠ gb104))
        have NB104_105 := Aside0.mk ((by rw [hg]; exact Nat.ne_of_gt (kl BK105) : gb104 ≠ gb105))
        replace BK105 := kb BK105 hb
        replace HB := Aside0.mk (below_step bh hb)
        clear hb hbox hg
        refine hK.out _ _ ⟨(hc HB hw101_0), (hc HB hw101_1)⟩ (fun hHeld => ?_)
        clear hK K
        refine nm 5 ?_
        exact norm_ pa (hJ6_7_8 (gb104, gb105) _ ⟨hHeld, bk BK104, bk BK105, GW104.out, GE104.out, NB105_104.out, NB104_105.out, GW105.out, GE105.out, bh⟩)
      ·skip
       rintro gb104 w8 ⟨hS_, h0_, h1_, h2_, h3_⟩
       have BK104 := Aside0.mk h0_
       have GW104 := Aside0.mk h1_
       have GE104 := Aside0.mk h2_
       replace HB := Aside0.mk h3_
       clear h0_ h1_ h2_ h3_
       have hHeld := hS_
       refine nn ?_
       refine one_ (i := 8) (N := some 6) #[true, true, true, true, true, true, true, true, true, false, false] rfl rfl (on1 HT_) (by decide) (fun K hK => ?_)
       refine bxs 6 #[.int .i64 0, .int .i64 0] 29 ?_
       intro gb105 hg w9 hbox hb
       have BK105 := Aside0.mk (hbox)
       have GW105 := Aside0.mk (gs hg : w.heap.size ≤ gb105)
       have GE105 := Aside0.mk (gs hg : w.heap.size ≤ gb105)
       have NB104_105 := Aside0.mk ((by rw [hg]; exact Nat.ne_of_lt (kl BK104) : gb104 ≠ gb105))
       have NB105_104 := Aside0.mk ((by rw [hg]; exact Nat.ne_of_gt (kl BK104) : gb105 ≠ gb104))
       replace BK104 := kb BK104 hb
       replace HB := Aside0.mk (below_step bh hb)
       clear hb hbox hg
       refine hK.out _ _ ⟨(hc HB hw101_0), (hc HB hw101_1)⟩ (fun hHeld => ?_)
       clear hK K
       refine nm 6 ?_
       exact norm_ pa (hJ6_7_8 (gb104, gb105) _ ⟨hHeld, bk BK104, bk BK105, GW104.out, GE104.out, NB105_104.out, NB104_105.out, GW105.out, GE105.out, bh⟩)
     rintro ⟨gb104, gb105⟩ w9 ⟨hS_, h0_, h1_, h2_, h3_, h4_, h5_, h6_, h7_, h8_⟩
     have BK104 := Aside0.mk h0_
     have BK105 := Aside0.mk h1_
     have GW104 := Aside0.mk h2_
     have GE104 := Aside0.mk h3_
     have NB105_104 := Aside0.mk h4_
     have NB104_105 := Aside0.mk h5_
     have GW105 := Aside0.mk h6_
     have GE105 := Aside0.mk h7_
     replace HB := Aside0.mk h8_
     clear h0_ h1_ h2_ h3_ h4_ h5_ h6_ h7_ h8_
     have hHeld := hS_
     refine nn ?_
     refine one_ (i := 9) (N := none) #[true, true, true, true, true, true, true, true, true, true, false] rfl rfl (on1 HT_) (by decide) (fun K hK => ?_)
     have hs10 : w9.cell? ⟨gb104, 0, none⟩ = some (.int .i64 0) := bc BK104 0
     have hfs10 := blk_frozen BK104.out 0
     have hns10_1 := NB105_104.out
     have hms10_1 := NB104_105.out
     have hs11 : w9.cell? ⟨gb104, 1, none⟩ = some (.int .i64 0) := bc BK104 1
     have hfs11 := blk_frozen BK104.out 1
     have hns11_1 := NB105_104.out
     have hms11_1 := NB104_105.out
     refine skip_ (w1 := ?_) (by rfl) rfl ?_ ?_
     rotate_left
     ·go_simp
      rfl
     refine hK.out _ _ ⟨((cell_far (p := ⟨gb104, _, none⟩) (fr hw101_0 GW104) _).trans (((cell_far (p := ⟨gb104, _, none⟩) (fr hw101_0 GW104) _).trans (hHeld.1)))), ((cell_far (p := ⟨gb104, _, none⟩) (fr hw101_1 GW104) _).trans (((cell_far (p := ⟨gb104, _, none⟩) (fr hw101_1 GW104) _).trans (hHeld.2))))⟩ (fun hHeld => ?_)
     clear hK K
     refine one_ (i := 10) (N := none) #[true, true, true, true, true, true, true, true, true, true, true] rfl rfl (on1 HT_) (by decide) (fun K hK => ?_)
     have hs12 : w9.cell? ⟨gb105, 0, none⟩ = some (.int .i64 0) := bc BK105 0
     have hfs12 := blk_frozen BK105.out 0
     have hns12_0 := NB104_105.out
     have hms12_0 := NB105_104.out
     have hs13 : w9.cell? ⟨gb105, 1, none⟩ = some (.int .i64 0) := bc BK105 1
     have hfs13 := blk_frozen BK105.out 1
     have hns13_0 := NB104_105.out
     have hms13_0 := NB105_104.out
     refine skip_ (w1 := ?_) (by rfl) rfl ?_ ?_
     rotate_left
     ·go_simp
      rfl
     refine hK.out _ _ ⟨((cell_far (p := ⟨gb105, _, none⟩) (fr hw101_0 GW105) _).trans (((cell_far (p := ⟨gb105, _, none⟩) (fr hw101_0 GW105) _).trans (hHeld.1)))), ((cell_far (p := ⟨gb105, _, none⟩) (fr hw101_1 GW105) _).trans (((cell_far (p := ⟨gb105, _, none⟩) (fr hw101_1 GW105) _).trans (hHeld.2))))⟩ (fun hHeld => ?_)
     clear hK K
     refine done_ (done_of HT_.out (by kernel_rfl)) ?_
     have hnb14 := NB104_105.out
     have hnc14 := NB105_104.out
     obtain ⟨hcz15_0, hcz15_1, hfz15_0, hfz15_1⟩ := b2 BK104
     obtain ⟨hcz16_0, hcz16_1, hfz16_0, hfz16_1⟩ := b2 BK105
     try go_wp2
     go_roundg k1
     case measure => have := HK1.out; omega
     case rel => exact ⟨(wrap64 (x3_1 + (wrap64 ((wrap64 (((rd_T29 l0 x4_1).f0) * t103)) - (wrap64 (t102 * ((rd_T29 l0 x4_1).f1))))))), (wrap64 (x4_1 + 1)), sd, sd, H', ⟨by have := HK1.out; omega⟩, ⟨bh⟩⟩
    ·rw [if_neg c3] at H
     exact absurd H (by simp)
   ·rw [if_neg c2] at H
    have c2b0 : decide (x4_1 < (l0.length : Int)) = false := decide_eq_false c2
    clear c2
    obtain rfl := Option.some.inj H
    go_wp2
    go_ret
    exact ⟨by exact er, bh⟩
end Go.Proofs.Ytoffmpkgickfhaa.PG
end
section
namespace Go.Proofs.Ytoffmpkgickfhaa.M
open Go.RowKit Go.Proofs.Ytoffmpkgickfhaa.PG Go.Proofs.YtoffmpkgickfhaaW.PrintMore Go.Proofs.YtoffmpkgickfhaaW.PrintWords
theorem cut_f (l : List Pt) (m : Nat) (hm : m ≤ 32) : ∃ r, cracknellaw04_cut.f l (m : Int) = some r ∧ r.length ≤ 33 := by
 unfold cracknellaw04_cut.f
 by_cases h : (l.length : Int) > 32
 ·rw [if_pos h, mn_eq, Option.bind_some, if_pos (by omega), if_pos (by omega), Option.bind_some, if_pos (by simp only [List.length_nil, List.length_take]; omega)]
  refine ⟨_, rfl, ?_⟩
  simp only [List.nil_append, List.length_take]; omega
 ·rw [if_neg h, mn_eq, Option.bind_some, if_pos (by omega), if_pos (by omega), Option.bind_some, if_pos (by simp only [List.length_nil, List.length_take]; omega)]
  refine ⟨_, rfl, ?_⟩
  simp only [List.nil_append, List.length_take]; omega
/-- coordinates up to a limit -/
def In (m : Int) (p : Pt) : Prop := -m ≤ p.f0 ∧ p.f0 ≤ m ∧ -m ≤ p.f1 ∧ p.f1 ≤ m
instance (m : Int) (p : Pt) : Decidable (In m p) := by unfold In; infer_instance
def Poly (l : List Pt) : Prop := 3 ≤ l.length ∧ l.length ≤ 32 ∧ ∀ p ∈ l, In 10000 p
instance (l : List Pt) : Decidable (Poly l) := by unfold Poly; infer_instance
theorem beyond_f (m : Int) (h0 : 0 ≤ m) (h1 : m ≤ 1000000) (p : Pt) : beyond m p = !decide (In m p) := by
 unfold beyond
 rw [wz _ (by omega) (by omega), Bool.eq_iff_iff]
 simp only [Bool.or_eq_true, decide_eq_true_eq, Bool.not_eq_true']
 rw [decide_eq_false_iff_not]
 unfold In
 omega
theorem within_f (l : List Pt) (m : Int) (h0 : 0 ≤ m) (h1 : m ≤ 1000000) : shape_within.f l m = some (decide (∀ p ∈ l, In m p)) := by
 unfold shape_within.f
 congr 1
 rw [Bool.eq_iff_iff]
 simp only [Bool.not_eq_true', List.any_eq_false, beyond_f m h0 h1, decide_eq_true_eq, Bool.not_eq_true', decide_eq_false_iff_not, Decidable.not_not]
theorem polygon_f (l : List Pt) : shape_polygon.f l = some (decide (Poly l)) := by
 unfold shape_polygon.f
 by_cases h : (l.length : Int) ≥ 3
 ·rw [if_pos h]
  by_cases h2 : (l.length : Int) ≤ 32
  ·rw [if_pos h2, within_f _ _ (by omega) (by omega), Option.bind_some]
   congr 1; rw [decide_eq_decide]
   exact ⟨fun h3 => ⟨by omega, by omega, h3⟩, fun h3 => h3.2.2⟩
  ·rw [if_neg h2]
   congr 1; symm; rw [decide_eq_false_iff_not]
   intro h3; have := h3.2.1; omega
 ·rw [if_neg h]
  congr 1; symm; rw [decide_eq_false_iff_not]
  intro h3; have := h3.1; omega
theorem valid_f (p : Pt) (m : Int) (h0 : 0 ≤ m) (h1 : m ≤ 1000000) : cracknelref04_Valid.f p.f0 p.f1 m = some (decide (In m p)) := by
 unfold cracknelref04_Valid.f
 rw [wz _ (by omega) (by omega), in_f, Option.bind_some, in_f]
 by_cases h : -m ≤ p.f0 ∧ p.f0 ≤ m
 ·rw [if_pos (by simpa using h), Option.bind_some]
  congr 1; rw [decide_eq_decide]; unfold In; omega
 ·rw [if_neg (by simpa using h)]
  congr 1; symm; rw [decide_eq_false_iff_not]; unfold In; omega
theorem refPolygon_l0 (l : List Pt) (hN : l.length ≤ 1000000) : ∀ d i, l.length = i + d → ∃ b, Rt (fun k => cracknelref04_Polygon.l0 k l (i : Int)) b ∧ (b = true ↔ ((∀ i', i ≤ i' → i' < l.length → In 10000 (at_ l i')) ∧ 3 ≤ l.length ∧ l.length ≤ 32)) := by
 intro d
 induction d with
 | zero =>
  intro i hi
  refine ⟨decide (3 ≤ l.length ∧ l.length ≤ 32), ⟨0 + 1, fun k hk => ?_⟩, ?_⟩
  ·obtain ⟨k, rfl⟩ := fuel1 hk
   dsimp only; rw [cracknelref04_Polygon.l0, if_neg (by omega), in_f, Option.bind_some]
   congr 1; rw [decide_eq_decide]; omega
  ·rw [decide_eq_true_eq]
   exact ⟨fun h => ⟨fun i' h1 h2 => by omega, by omega⟩, fun h => by omega⟩
 | succ d ih =>
  intro i hi
  have hlt : i < l.length := by omega
  obtain ⟨b, ⟨K, hK⟩, hb⟩ := ih (i + 1) (by omega)
  rw [from_split hlt]
  by_cases h : In 10000 (at_ l i)
  ·refine ⟨b, ⟨K + 1, fun k hk => ?_⟩, ?_⟩
   ·obtain ⟨k, rfl⟩ := fuel1 hk
    dsimp only; rw [cracknelref04_Polygon.l0, if_pos (by omega), if_pos (by omega), rd_at, valid_f _ _ (by omega) (by omega), Option.bind_some, if_pos (by simpa using h), wrap_succ i (by omega)]
    exact hK k (by omega)
   ·rw [hb]
    exact ⟨fun h1 => ⟨⟨h, h1.1⟩, h1.2⟩, fun h1 => ⟨h1.1.2, h1.2⟩⟩
  ·refine ⟨false, ⟨0 + 1, fun k hk => ?_⟩, ⟨fun h1 => by simp at h1, fun h1 => absurd h1.1.1 h⟩⟩
   obtain ⟨k, rfl⟩ := fuel1 hk
   dsimp only; rw [cracknelref04_Polygon.l0, if_pos (by omega), if_pos (by omega), rd_at, valid_f _ _ (by omega) (by omega), Option.bind_some, if_neg (by simpa using h)]
theorem refPolygon_run (l : List Pt) (hN : l.length ≤ 1000000) : Rt (fun k => cracknelref04_Polygon.f k l) (decide (Poly l)) := by
 obtain ⟨b, ⟨K, hK⟩, hb⟩ := refPolygon_l0 l hN l.length 0 (by omega)
 refine ⟨K, fun k hk => ?_⟩
 have := hK k hk
 unfold cracknelref04_Polygon.f
 dsimp only at this ⊢
 rw [show (0 : Int) = ((0 : Nat) : Int) from rfl, this]
 congr 1; rw [Bool.eq_iff_iff, hb, decide_eq_true_eq]
 unfold Poly
 constructor
 ·rintro ⟨h1, h2, h3⟩
  refine ⟨h2, h3, fun p hp => ?_⟩
  obtain ⟨j, hj, rfl⟩ := List.mem_iff_getElem.mp hp
  rw [← at_eq hj]; exact h1 j (Nat.zero_le _) hj
 ·rintro ⟨h1, h2, h3⟩
  exact ⟨fun i _ hi => h3 _ (at_mem hi), h1, h2⟩
theorem in_bd {p : Pt} (h : In 10000 p) : Bd p := by unfold In at h; unfold Bd; omega
/-- what edge i adds to twice the area -/
def term (l : List Pt) (i : Nat) : Int := (at_ l i).f0 * (at_ l ((i + 1) % l.length)).f1 - (at_ l i).f1 * (at_ l ((i + 1) % l.length)).f0
def areaTo (l : List Pt) : Nat → Int
 | 0 => 0
 | i + 1 => areaTo l i + term l i
/-- twice the signed area -/
def area (l : List Pt) : Int := areaTo l l.length
theorem prod_bd {a b : Pt} (ha : Bd a) (hb : Bd b) : (-4000000000000 ≤ a.f0 * b.f1 ∧ a.f0 * b.f1 ≤ 4000000000000) ∧ (-4000000000000 ≤ a.f1 * b.f0 ∧ a.f1 * b.f0 ≤ 4000000000000) := by
 obtain ⟨a0, a1, a2, a3⟩ := ha; obtain ⟨b0, b1, b2, b3⟩ := hb
 exact ⟨mulb (by omega) (by omega) (by omega) (by omega), mulb (by omega) (by omega) (by omega) (by omega)⟩
theorem areaTo_bd {l : List Pt} (hb : ∀ p ∈ l, Bd p) : ∀ i, i ≤ l.length → -8000000000000 * (i : Int) ≤ areaTo l i ∧ areaTo l i ≤ 8000000000000 * (i : Int) := by
 intro i
 induction i with
 | zero => intro _; unfold areaTo; omega
 | succ i ih =>
  intro hi
  have h := ih (by omega)
  have h2 := prod_bd (at_bd hb (show i < l.length by omega)) (at_bd hb (show (i + 1) % l.length < l.length from Nat.mod_lt _ (by omega)))
  unfold areaTo term; omega
theorem area_l0 {l : List Pt} (hb : ∀ p ∈ l, Bd p) (hN : l.length ≤ 1000000) : ∀ d i, l.length = i + d → Rt (fun k => shape_area2.l0 k l (areaTo l i) (l.length : Int) (i : Int)) (area l) := by
 intro d
 induction d with
 | zero =>
  intro i hi
  refine ⟨0 + 1, fun k hk => ?_⟩
  obtain ⟨k, rfl⟩ := fuel1 hk
  dsimp only; rw [shape_area2.l0, if_neg (by omega)]
  rw [show i = l.length by omega]; rfl
 | succ d ih =>
  intro i hi
  have hlt : i < l.length := by omega
  obtain ⟨K, hK⟩ := ih (i + 1) (by omega)
  refine ⟨K + 1, fun k hk => ?_⟩
  obtain ⟨k, rfl⟩ := fuel1 hk
  have t1 := tmod_in (i + 1) l.length (by omega)
  have h2 := prod_bd (at_bd hb hlt) (at_bd hb (show (i + 1) % l.length < l.length from Nat.mod_lt _ (by omega)))
  have h3 := areaTo_bd hb (i + 1) (by omega)
  have h4 := areaTo_bd hb i (by omega)
  have e : areaTo l (i + 1) = areaTo l i + term l i := rfl
  unfold term at e
  dsimp only
  rw [shape_area2.l0, if_pos (by omega), if_pos (by omega), if_pos (by omega), if_neg (by omega), tmod_nat i _ (by omega), if_pos (by omega), if_pos (by omega), rd_at, rd_at]
  unfold shape_cross.f
  rw [Option.bind_some, wz ((at_ l i).f0 * _) (by omega) (by omega), wz ((at_ l i).f1 * _) (by omega) (by omega), wz (_ - _) (by omega) (by omega), wz (areaTo l i + _) (by omega) (by omega), ← e, wrap_succ i (by omega)]
  exact hK k (by omega)
theorem area_run {l : List Pt} (hb : ∀ p ∈ l, Bd p) (hN : l.length ≤ 1000000) : Rt (fun k => shape_area2.f k l) (area l) := by
 obtain ⟨K, hK⟩ := area_l0 hb hN l.length 0 (by omega)
 exact ⟨K, fun k hk => hK k hk⟩
theorem refArea_l0 {l : List Pt} (hb : ∀ p ∈ l, Bd p) (hN : l.length ≤ 1000000) : ∀ d i, l.length = i + d → Rt (fun k => cracknelref04_Area2.l0 k l (areaTo l i) (i : Int)) (area l) := by
 intro d
 induction d with
 | zero =>
  intro i hi
  refine ⟨0 + 1, fun k hk => ?_⟩
  obtain ⟨k, rfl⟩ := fuel1 hk
  dsimp only; rw [cracknelref04_Area2.l0, if_neg (by omega)]
  rw [show i = l.length by omega]; rfl
 | succ d ih =>
  intro i hi
  have hlt : i < l.length := by omega
  obtain ⟨K, hK⟩ := ih (i + 1) (by omega)
  refine ⟨K + 1, fun k hk => ?_⟩
  obtain ⟨k, rfl⟩ := fuel1 hk
  have h2 := prod_bd (at_bd hb hlt) (at_bd hb (show (i + 1) % l.length < l.length from Nat.mod_lt _ (by omega)))
  have h3 := areaTo_bd hb (i + 1) (by omega)
  have h4 := areaTo_bd hb i (by omega)
  have e : areaTo l (i + 1) = areaTo l i + term l i := rfl
  unfold term at e
  dsimp only
  rw [cracknelref04_Area2.l0, if_pos (by omega), if_pos (by omega), next_f (by omega) (by omega), Option.bind_some, rd_at]
  dsimp only
  rw [Int.mul_comm (at_ l ((i + 1) % l.length)).f0, wz ((at_ l i).f0 * _) (by omega) (by omega), wz ((at_ l i).f1 * _) (by omega) (by omega), wz (_ - _) (by omega) (by omega), wz (areaTo l i + _) (by omega) (by omega), ← e, wrap_succ i (by omega)]
  exact hK k (by omega)
theorem refArea_run {l : List Pt} (hb : ∀ p ∈ l, Bd p) (hN : l.length ≤ 1000000) : Rt (fun k => cracknelref04_Area2.f k l) (area l) := by
 obtain ⟨K, hK⟩ := refArea_l0 hb hN l.length 0 (by omega)
 exact ⟨K, fun k hk => hK k hk⟩
end Go.Proofs.Ytoffmpkgickfhaa.M
end
section
namespace Go.Proofs.Ytoffmpkgickfhaa.R
open Go.ChangeShapes Go.WideShapes Go.ChangeAt Go.RowKit Go.Deep
open Go.Proofs.Ytoffmpkgickfhaa.PG Go.Proofs.YtoffmpkgickfhaaW.PrintWords Go.Proofs.YtoffmpkgickfhaaW.PrintLast Go.Proofs.YtoffmpkgickfhaaW.PrintMore
theorem pts_arg {H : Type} {enc : TypeId × Value → H} {W : World} {T : TypeId} {a : Option Addr} {len cap : Nat} {d : DataW H} {ps : List MemPlace} (ht : Try.prog.underlying T = some (.slice 29))
  (h : DataW.Trod enc Try.prog W 0 (fun _ => true) true T (.slice a len cap) d ps) : ∃ l : List S29, l.length = len ∧ len ≤ cap ∧ Kd.C k29 W a len l := by
 obtain ⟨fuel, hf⟩ := h
 rcases open_slice_pairs ht Try.underlying29 (by kernel_rfl) rfl rfl (by kernel_rfl) (by kernel_rfl) hf with ⟨hcs, _⟩ | ⟨x, l, c, m, n, V0, V1, D0, D1, P0, P1, hcs, _, hl, hm, hmm, _, hx⟩
 ·simp [Value.cells] at hcs
  obtain ⟨rfl, rfl, rfl⟩ := hcs
  exact ⟨[], rfl, Nat.le_refl _, rfl, by omega, fun h => by omega⟩
 ·simp [Value.cells] at hcs
  obtain ⟨rfl, rfl, rfl⟩ := hcs
  have hm1 : m = cap := by rw [hmm]; rfl
  have each : ∀ i, i < m → ∃ q : S29, V0 i = .int .i64 q.f0 ∧ V1 i = .int .i64 q.f1 := by
   intro i hi
   obtain ⟨_, _, t0, t1⟩ := hx i hi
   obtain ⟨p0, e0, _, _⟩ := DataW.trod_int Try.underlying3 t0
   obtain ⟨p1, e1, _, _⟩ := DataW.trod_int Try.underlying3 t1
   simp at e0 e1
   exact ⟨⟨p0, p1⟩, e0, e1⟩
  have : Inhabited S29 := ⟨z29⟩
  obtain ⟨f, hf⟩ := choose_lt each
  have hmax : maxLen ≤ 9223372036854775807 := by decide
  refine ⟨(List.range len).map f, by simp, hl, by simp, by omega, fun _ => ⟨x, rfl, fun j p hj => ?_⟩⟩
  simp only [List.getElem?_map] at hj
  obtain ⟨j', hj', rfl⟩ := Option.map_eq_some_iff.mp hj
  obtain ⟨hlt, rfl⟩ := List.getElem?_eq_some_iff.mp hj'
  simp at hlt
  simp only [List.getElem_range] at *
  obtain ⟨c0, c1, _, _⟩ := hx j (by omega)
  obtain ⟨e0, e1⟩ := hf j (by omega)
  rw [e0] at c0; rw [e1] at c1
  refine ⟨_, rfl, k29_mk W (f j), fun i u hu => ?_⟩
  have hsz : k29.sz = 2 := rfl
  rw [hsz]
  match i, hu with
  | 0, hu => simp at hu; rw [← hu]; exact c0
  | 1, hu => simp at hu; rw [← hu]; exact c1
  | i + 2, hu => simp at hu
set_option maxRecDepth 100000 in
/-- a point by value -/
theorem pt_arg {H : Type} {enc : TypeId × Value → H} {W : World} {r : Reach} {b : Nat} {v : Value} {d : DataW H} {p : List MemPlace} (hv : Value.okWide Try.prog W r b 29 v)
  (h : DataW.Trod enc Try.prog W 0 (fun _ => true) true 29 v d p) : ∃ a : S29, v = .agg #[.int .i64 a.f0, .int .i64 a.f1] ∧ d = .agg [.lit (.int .i64 a.f0), .lit (.int .i64 a.f1)] ∧ p = [] ∧
   (Lit.int .i64 a.f0).wf = true ∧ (Lit.int .i64 a.f1).wf = true ∧ ∀ (W' : World) (sp : Nat → Bool), DataW.Trod enc Try.prog W' 0 sp true 29 (.agg #[.int .i64 a.f0, .int .i64 a.f1]) (.agg [.lit (.int .i64 a.f0), .lit (.int .i64 a.f1)]) [] := by
 obtain ⟨c0, c1, y0, y1, m, rfl, rfl, rfl, hy0, hy1⟩ := Go.Joins.open_agg2 Try.underlying29 (by kernel_rfl) (by kernel_rfl) hv h
 obtain ⟨a, e0, rfl, wa⟩ := DataW.trod_int Try.underlying3 hy0
 obtain ⟨b, e1, rfl, wb⟩ := DataW.trod_int Try.underlying3 hy1
 simp at e0 e1
 subst e0 e1
 refine ⟨⟨a, b⟩, rfl, rfl, rfl, wa, wb, fun W' sp => ?_⟩
 exact Go.Joins.shut_agg2 (y0 := (.lit (.int .i64 a), [])) (y1 := (.lit (.int .i64 b), [])) Try.underlying29 (by kernel_rfl) (by kernel_rfl) ⟨1, by simp [DataW.trod, Try.underlying3, wa]⟩ ⟨1, by simp [DataW.trod, Try.underlying3, wb]⟩
end Go.Proofs.Ytoffmpkgickfhaa.R
end
