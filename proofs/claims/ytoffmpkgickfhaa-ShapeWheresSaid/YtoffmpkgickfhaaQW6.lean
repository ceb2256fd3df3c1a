/- Parts of the proof: printed walks, their words, and plain laws. -/
import Derived.Test.YtoffmpkgickfhaaQB1
import Derived.Test.YtoffmpkgickfhaaQB5
import Derived.Test.YtoffmpkgickfhaaQB4
import Derived.Test.YtoffmpkgickfhaaQB2
import Derived.Test.YtoffmpkgickfhaaQB3
section
namespace Go.Proofs.Ytoffmpkgickfhaa.PG
open Go.RowKit Go.Proofs.YtoffmpkgickfhaaW.PrintWords Go.Proofs.YtoffmpkgickfhaaW.PrintLast Go.Proofs.YtoffmpkgickfhaaW.PrintMore
attribute [local go_sem] max2_int min2_int max_two min_two max_three min_three max_four min_four
set_option linter.unusedVariables false
set_option linter.unusedSimpArgs false
/-! ### cracknellaw04_simple: function 33 -/
def cracknellaw04_simple.f (k : Nat) (l0 : List (S29)) : Option (Int) := (cracknelref04_Polygon.f k l0).bind fun t101 => (if t101 = true then ((cracknelref04_Simple.f k l0).bind fun t102 => (if t102 = true then (some 0) else (some 2))) else (some 1))
theorem cracknellaw04_simple.mono : ∀ a0 k, LeO (cracknellaw04_simple.f k a0) (cracknellaw04_simple.f (k + 1) a0) := by
 intro a0 k
 unfold cracknellaw04_simple.f
 repeat' first
  | (with_reducible exact cracknelref04_Polygon.mono _ _)
  | (with_reducible exact cracknelref04_Simple.mono _ _)
  | (with_reducible exact LeO.refl _)
  | (with_reducible exact LeO.none _)
  | (with_reducible refine LeO.ite ?_ ?_)
  | (with_reducible refine LeO.bind ?_ (fun _ => ?_))
  | exact cracknelref04_Polygon.mono _ _
  | exact cracknelref04_Simple.mono _ _
  | exact LeO.none _
  | refine LeO.ite ?_ ?_
  | refine LeO.bind ?_ (fun _ => ?_)
set_option maxHeartbeats 8000000 in
set_option maxRecDepth 100000 in
theorem cracknellaw04_simple.calls (k : Nat) (A0 : Option Addr) (c0 : Nat) (l0 : List (S29)) (r : Int) (w : World) (hr0 : Kd.C k29 w A0 l0.length l0) (hc0 : l0.length ≤ c0) (h : cracknellaw04_simple.f k l0 = some r) :
  Calls Try.prog 33 #[.slice A0 l0.length c0] w fun e w' => e = .returned (.int .i64 r) ∧ Below w.heap.size w w' := by
 have HR0 := Aside0.mk hr0
 have HC0 := Aside0.mk hc0
 clear hr0 hc0
 have HB := Aside0.mk (Below.refl w.heap.size w)
 have H : ((cracknelref04_Polygon.f k l0).bind fun t101 => (if t101 = true then ((cracknelref04_Simple.f k l0).bind fun t102 => (if t102 = true then (some 0) else (some 2))) else (some 1))) = some r := h
 clear h
 replace H := Option.bind_eq_some_iff.mp H
 obtain ⟨t101, A20, H⟩ := H
 replace H : (if t101 = true then ((cracknelref04_Simple.f k l0).bind fun t102 => (if t102 = true then (some 0) else (some 2))) else (some 1)) = some r := H
 have A2 := Aside0.mk A20
 clear A20
 by_cases c3 : t101 = true
 ·subst c3
  rw [if_pos rfl] at H
  replace H := Option.bind_eq_some_iff.mp H
  obtain ⟨t102, A40, H⟩ := H
  replace H : (if t102 = true then (some 0) else (some 2)) = some r := H
  have A4 := Aside0.mk A40
  clear A40
  by_cases c5 : t102 = true
  ·subst c5
   rw [if_pos rfl] at H
   obtain rfl := Option.some.inj H
   go_enter Try.func33, Try.ntmps33
   go_wp2_with (first | ((with_reducible refine gate_callee (f := 29) rfl ?_); refine goesL_ (some 4) rfl rfl Try.func29 (by kernel_rfl) rfl #[.slice A0 l0.length c0] rfl sg ?_; (with_reducible refine (cracknelref04_Polygon.calls k _ _ l0 true _ ?side1 ?side2 A2.out).mono ?_); (case side1 => repeat (first | exact HR0.out | (with_reducible refine Kd.C_alloc ?_ _) | (with_reducible refine Kd.C_drewN ?_ _) | (with_reducible refine Kd.C_drew ?_))); (case side2 => exact HC0.out); rintro e w6 ⟨rfl, hb⟩; refine ⟨_, rfl, ?_⟩; have n0_ := Aside0.mk (below_step bh hb); clear HB; have HB := n0_; clear n0_; (try clear hb); (try clear hb2); (try clear hk); (try clear hi)) | ((with_reducible refine gate_callee (f := 22) rfl ?_); refine goesL_ (some 7) rfl rfl Try.func22 (by kernel_rfl) rfl #[.slice A0 l0.length c0] rfl sg ?_; (with_reducible refine (cracknelref04_Simple.calls k _ _ l0 true _ ?side1 ?side2 A4.out).mono ?_); (case side1 => exact cs (Kd.C_below HR0.out HB.out)); (case side2 => exact HC0.out); rintro e w7 ⟨rfl, hb⟩; refine ⟨_, rfl, ?_⟩; have n0_ := Aside0.mk (below_step bh hb); clear HB; have HB := n0_; clear n0_; (try clear hb); (try clear hb2); (try clear hk); (try clear hi)))
   go_ret
   exact ⟨by exact er, bh⟩
  ·replace c5 := Bool.eq_false_iff.mpr c5
   subst c5
   rw [if_neg (show ¬ (false = true) by decide)] at H
   obtain rfl := Option.some.inj H
   go_enter Try.func33, Try.ntmps33
   go_wp2_with (first | ((with_reducible refine gate_callee (f := 29) rfl ?_); refine goesL_ (some 4) rfl rfl Try.func29 (by kernel_rfl) rfl #[.slice A0 l0.length c0] rfl sg ?_; (with_reducible refine (cracknelref04_Polygon.calls k _ _ l0 true _ ?side1 ?side2 A2.out).mono ?_); (case side1 => repeat (first | exact HR0.out | (with_reducible refine Kd.C_alloc ?_ _) | (with_reducible refine Kd.C_drewN ?_ _) | (with_reducible refine Kd.C_drew ?_))); (case side2 => exact HC0.out); rintro e w8 ⟨rfl, hb⟩; refine ⟨_, rfl, ?_⟩; have n0_ := Aside0.mk (below_step bh hb); clear HB; have HB := n0_; clear n0_; (try clear hb); (try clear hb2); (try clear hk); (try clear hi)) | ((with_reducible refine gate_callee (f := 22) rfl ?_); refine goesL_ (some 7) rfl rfl Try.func22 (by kernel_rfl) rfl #[.slice A0 l0.length c0] rfl sg ?_; (with_reducible refine (cracknelref04_Simple.calls k _ _ l0 false _ ?side1 ?side2 A4.out).mono ?_); (case side1 => exact cs (Kd.C_below HR0.out HB.out)); (case side2 => exact HC0.out); rintro e w9 ⟨rfl, hb⟩; refine ⟨_, rfl, ?_⟩; have n0_ := Aside0.mk (below_step bh hb); clear HB; have HB := n0_; clear n0_; (try clear hb); (try clear hb2); (try clear hk); (try clear hi)))
   go_ret
   exact ⟨by exact er, bh⟩
 ·replace c3 := Bool.eq_false_iff.mpr c3
  subst c3
  rw [if_neg (show ¬ (false = true) by decide)] at H
  obtain rfl := Option.some.inj H
  go_enter Try.func33, Try.ntmps33
  go_wp2_with (first | ((with_reducible refine gate_callee (f := 29) rfl ?_); refine goesL_ (some 4) rfl rfl Try.func29 (by kernel_rfl) rfl #[.slice A0 l0.length c0] rfl sg ?_; (with_reducible refine (cracknelref04_Polygon.calls k _ _ l0 false _ ?side1 ?side2 A2.out).mono ?_); (case side1 => repeat (first | exact HR0.out | (with_reducible refine Kd.C_alloc ?_ _) | (with_reducible refine Kd.C_drewN ?_ _) | (with_reducible refine Kd.C_drew ?_))); (case side2 => exact HC0.out); rintro e w10 ⟨rfl, hb⟩; refine ⟨_, rfl, ?_⟩; have n0_ := Aside0.mk (below_step bh hb); clear HB; have HB := n0_; clear n0_; (try clear hb); (try clear hb2); (try clear hk); (try clear hi)))
  go_ret
  exact ⟨by exact er, bh⟩
end Go.Proofs.Ytoffmpkgickfhaa.PG
end
section
namespace Go.Proofs.Ytoffmpkgickfhaa.PG
open Go.RowKit Go.Proofs.YtoffmpkgickfhaaW.PrintWords Go.Proofs.YtoffmpkgickfhaaW.PrintLast Go.Proofs.YtoffmpkgickfhaaW.PrintMore
attribute [local go_sem] max2_int min2_int max_two min_two max_three min_three max_four min_four
set_option linter.unusedVariables false
set_option linter.unusedSimpArgs false
/-! ### cracknelref04_Where: function 34 -/
mutual
def cracknelref04_Where.l0 : Nat → List (S29) → Bool → Int → Int → Int → Option (Int)
 | 0, _, _, _, _, _ => none
 | k + 1, x0, x5, x6, x102000, x102001 => if x6 < (x0.length : Int) then (if 0 ≤ x6 then ((cracknelref04_next.f x0 x6).bind fun bt103 => ((cracknelref04_On.f ((rd_T29 x0 x6).f0) ((rd_T29 x0 x6).f1) bt103.1 bt103.2 x102000 x102001).bind fun t107 => (if t107 = true then (some 0) else (if ((decide (((rd_T29 x0 x6).f1) > x102001)) != (decide (bt103.2 > x102001))) = true then ((cracknelref04_Cross.f ((rd_T29 x0 x6).f0) ((rd_T29 x0 x6).f1) bt103.1 bt103.2 x102000 x102001).bind fun t108 => (if bt103.2 < ((rd_T29 x0 x6).f1) then (cracknelref04_Where.j1 k x0 x5 x6 (wrap64 (-t108)) x102000 x102001) else (cracknelref04_Where.j1 k x0 x5 x6 t108 x102000 x102001))) else (cracknelref04_Where.l0 k x0 x5 (wrap64 (x6 + 1)) x102000 x102001))))) else (none)) else (if x5 = true then (some 1) else (some (-1)))
def cracknelref04_Where.j1 : Nat → List (S29) → Bool → Int → Int → Int → Int → Option (Int)
 | 0, _, _, _, _, _, _ => none
 | k + 1, x0, x5, x6, x9, x102000, x102001 => if x9 > 0 then (cracknelref04_Where.l0 k x0 (!x5) (wrap64 (x6 + 1)) x102000 x102001) else (cracknelref04_Where.l0 k x0 x5 (wrap64 (x6 + 1)) x102000 x102001)
end
def cracknelref04_Where.f (k : Nat) (l0 : List (S29)) (a1_0 : Int) (a1_1 : Int) : Option (Int) := cracknelref04_Where.l0 k l0 false 0 a1_0 a1_1
theorem cracknelref04_Where.mono_l : ∀ k, (∀ y0 y1 y2 y3 y4, LeO (cracknelref04_Where.l0 k y0 y1 y2 y3 y4) (cracknelref04_Where.l0 (k + 1) y0 y1 y2 y3 y4)) ∧ (∀ y0 y1 y2 y3 y4 y5, LeO (cracknelref04_Where.j1 k y0 y1 y2 y3 y4 y5) (cracknelref04_Where.j1 (k + 1) y0 y1 y2 y3 y4 y5))
 | 0 => ⟨fun _ _ _ _ _ r h => by simp [cracknelref04_Where.l0] at h, fun _ _ _ _ _ _ r h => by simp [cracknelref04_Where.j1] at h⟩
 | k + 1 => by
  obtain ⟨ih0, ih1⟩ := cracknelref04_Where.mono_l k
  refine ⟨?_, ?_⟩
  ·intro y0 y1 y2 y3 y4
   unfold cracknelref04_Where.l0
   repeat' first
   | (with_reducible exact ih0 _ _ _ _ _)
   | (with_reducible exact ih1 _ _ _ _ _ _)
   | (with_reducible exact LeO.refl _)
   | (with_reducible exact LeO.none _)
   | (with_reducible refine LeO.ite ?_ ?_)
   | (with_reducible refine LeO.bind ?_ (fun _ => ?_))
   | exact ih0 _ _ _ _ _
   | exact ih1 _ _ _ _ _ _
   | exact LeO.none _
   | refine LeO.ite ?_ ?_
   | refine LeO.bind ?_ (fun _ => ?_)
  ·intro y0 y1 y2 y3 y4 y5
   unfold cracknelref04_Where.j1
   repeat' first
   | (with_reducible exact ih0 _ _ _ _ _)
   | (with_reducible exact ih1 _ _ _ _ _ _)
   | (with_reducible exact LeO.refl _)
   | (with_reducible exact LeO.none _)
   | (with_reducible refine LeO.ite ?_ ?_)
   | (with_reducible refine LeO.bind ?_ (fun _ => ?_))
   | exact ih0 _ _ _ _ _
   | exact ih1 _ _ _ _ _ _
   | exact LeO.none _
   | refine LeO.ite ?_ ?_
   | refine LeO.bind ?_ (fun _ => ?_)
theorem cracknelref04_Where.mono : ∀ a0 a1 a2 k, LeO (cracknelref04_Where.f k a0 a1 a2) (cracknelref04_Where.f (k + 1) a0 a1 a2) := by
 intro a0 a1 a2 k
 obtain ⟨ih0, ih1⟩ := cracknelref04_Where.mono_l k
 unfold cracknelref04_Where.f
 repeat' first
  | (with_reducible exact ih0 _ _ _ _ _)
  | (with_reducible exact ih1 _ _ _ _ _ _)
  | (with_reducible exact LeO.refl _)
  | (with_reducible exact LeO.none _)
  | (with_reducible refine LeO.ite ?_ ?_)
  | (with_reducible refine LeO.bind ?_ (fun _ => ?_))
  | exact ih0 _ _ _ _ _
  | exact ih1 _ _ _ _ _ _
  | exact LeO.none _
  | refine LeO.ite ?_ ?_
  | refine LeO.bind ?_ (fun _ => ?_)
def cracknelref04_Where.T5 : Bool × List (List Nat × List Nat) := (true, [([], []), ([], []), ([0, 1], [0, 1]), ([2], [2]), ([], []), ([], []), ([4, 5], [4, 5]), ([], []), ([], []), ([7, 3, 6, 0, 1, 2, 3, 7, 8], [3, 7]), ([8, 6, 9, 0, 1, 2, 3, 4, 5, 6, 7, 8, 9], [6, 8])])
def cracknelref04_Where.B5 : List Nat := [0, 0, 3, 7, 0, 0, 48, 0, 0, 511, 1023]
theorem cracknelref04_Where.tab5 : rtab .any (opsOf Try.f34 5) = cracknelref04_Where.T5 := by kernel_rfl
theorem cracknelref04_Where.bits5 : waitsOk cracknelref04_Where.T5.2 cracknelref04_Where.B5 = true := by kernel_rfl
set_option maxHeartbeats 8000000 in
set_option maxRecDepth 100000 in
theorem cracknelref04_Where.calls (k : Nat) (A0 : Option Addr) (c0 : Nat) (l0 : List (S29)) (a1_0 : Int) (a1_1 : Int) (r : Int) (w : World) (hr0 : Kd.C k29 w A0 l0.length l0) (hc0 : l0.length ≤ c0) (h : cracknelref04_Where.f k l0 a1_0 a1_1 = some r) :
  Calls Try.prog 34 #[.slice A0 l0.length c0, .agg #[.int .i64 a1_0, .int .i64 a1_1]] w fun e w' => e = .returned (.int .i64 r) ∧ Below w.heap.size w w' := by
 have hu29 := Try.underlying29
 have HR0 := Aside0.mk hr0
 have HC0 := Aside0.mk hc0
 clear hr0 hc0
 have HB := Aside0.mk (Below.refl w.heap.size w)
 have H : (cracknelref04_Where.l0 k l0 false 0 a1_0 a1_1) = some r := h
 clear h
 have H' := Aside0.mk H
 clear H
 go_enter Try.func34, Try.ntmps34
 go_wp2_with (first | ((with_reducible refine gate_dst (N := 3) rfl ?_); refine bxe 3 #[.int .i64 a1_0, .int .i64 a1_1] 29 ?_; intro gb101 hg w3 hbox hb; have n0_ := Aside0.mk (below_step bh hb); have n1_ := Aside0.mk (hbox); have n2_ := Aside0.mk (gs hg : w.heap.size ≤ gb101); have n3_ := Aside0.mk (gs hg : w.heap.size ≤ gb101); clear HB; have HB := n0_; have BK101 := n1_; have GW101 := n2_; have GE101 := n3_; clear n0_ n1_ n2_ n3_; clear hb hbox hg))
 go_loopg [5, 6] k (fun kq v5 v6 w' => ∃ (x5_1 : Bool) (x6_1 : Int), v5 = .bool x5_1 ∧ v6 = .int .i64 x6_1 ∧ Aside0 (cracknelref04_Where.l0 kq l0 x5_1 x6_1 a1_0 a1_1 = some r) ∧ Aside0 (kq ≤ k) ∧ Aside0 (w'.heap[gb101]? = some (.cells #[.int .i64 a1_0, .int .i64 a1_1] 29 (0, 0))) ∧ Aside0 (Below w.heap.size w w'))
 case atStart => exact ⟨(false), (0), sd, sd, H', ⟨Nat.le_refl _⟩, ⟨bk BK101⟩, ⟨bh⟩⟩
 case round =>
  clear H'
  try clear p2
  try clear c3
  obtain ⟨x5_1, x6_1, rfl, rfl, HA, HK1, BK101, HB⟩ := hrel
  cases gk with
  | zero => exact absurd HA.out (by simp [cracknelref04_Where.l0])
  | succ k1 =>
   have H := HA.out
   clear HA
   simp only [cracknelref04_Where.l0] at H
   by_cases c4 : x6_1 < (l0.length : Int)
   ·rw [if_pos c4] at H
    have c4b0 : decide (x6_1 < (l0.length : Int)) = true := decide_eq_true c4
    clear c4
    by_cases c5 : 0 ≤ x6_1
    ·rw [if_pos c5] at H
     have c5b0 : decide (0 ≤ x6_1) = true := decide_eq_true c5
     clear c5
     replace H := Option.bind_eq_some_iff.mp H
     obtain ⟨⟨t103, t104⟩, A60, H⟩ := H
     replace H : ((cracknelref04_On.f ((rd_T29 l0 x6_1).f0) ((rd_T29 l0 x6_1).f1) t103 t104 a1_0 a1_1).bind fun t107 => (if t107 = true then (some 0) else (if ((decide (((rd_T29 l0 x6_1).f1) > a1_1)) != (decide (t104 > a1_1))) = true then ((cracknelref04_Cross.f ((rd_T29 l0 x6_1).f0) ((rd_T29 l0 x6_1).f1) t103 t104 a1_0 a1_1).bind fun t108 => (if t104 < ((rd_T29 l0 x6_1).f1) then (cracknelref04_Where.j1 k1 l0 x5_1 x6_1 (wrap64 (-t108)) a1_0 a1_1) else (cracknelref04_Where.j1 k1 l0 x5_1 x6_1 t108 a1_0 a1_1))) else (cracknelref04_Where.l0 k1 l0 x5_1 (wrap64 (x6_1 + 1)) a1_0 a1_1)))) = some r := H
     have A6 := Aside0.mk A60
     clear A60
     replace H := Option.bind_eq_some_iff.mp H
     obtain ⟨t107, A70, H⟩ := H
     replace H : (if t107 = true then (some 0) else (if ((decide (((rd_T29 l0 x6_1).f1) > a1_1)) != (decide (t104 > a1_1))) = true then ((cracknelref04_Cross.f ((rd_T29 l0 x6_1).f0) ((rd_T29 l0 x6_1).f1) t103 t104 a1_0 a1_1).bind fun t108 => (if t104 < ((rd_T29 l0 x6_1).f1) then (cracknelref04_Where.j1 k1 l0 x5_1 x6_1 (wrap64 (-t108)) a1_0 a1_1) else (cracknelref04_Where.j1 k1 l0 x5_1 x6_1 t108 a1_0 a1_1))) else (cracknelref04_Where.l0 k1 l0 x5_1 (wrap64 (x6_1 + 1)) a1_0 a1_1))) = some r := H
     have A7 := Aside0.mk A70
     clear A70
     by_cases c8 : t107 = true
     ·subst c8
      rw [if_pos rfl] at H
      obtain rfl := Option.some.inj H
      try go_wp2
      replace BK101 := Aside0.mk (blk_drew BK101.out)
      replace HB := Aside0.mk (below_drew1 HB.out)
      have p102 : 0 ≤ (x6_1 : Int) := dt
      have q102 : x6_1 < (l0.length : Int) := dt
      obtain ⟨ad102, e102, hx102_0, hx102_1⟩ := at_T29 HR0.out x6_1 p102 q102
      have hw102_1 := hx102_1
      have hw102_0 := hx102_0
      cases e102
      replace hx102_0 := hc HB hx102_0
      replace hx102_1 := hc HB hx102_1
      replace p102 := eq_true p102
      replace q102 := eq_true q102
      refine start_ (n := 11) (S := fun w' => w'.cell? (ad102.add ((x6_1).toNat * 2)) = some (.int .i64 ((rd_T29 l0 x6_1).f0)) ∧ w'.cell? ⟨(ad102.add ((x6_1).toNat * 2)).block, (ad102.add ((x6_1).toNat * 2)).off + 1, none⟩ = some (.int .i64 ((rd_T29 l0 x6_1).f1))) (ds := []) #[false, false, false, false, false, false, false, false, false, false, false] (by kernel_rfl) rfl rfl ⟨(hc HB hw102_0), (hc HB hw102_1)⟩ (fun hHeld => ?_); refine with_tabW cracknelref04_Where.tab5 cracknelref04_Where.bits5 (fun HT_ HW_ => ?_)
      generalize wr.drew = w9 at BK101 HB hx102_0 hx102_1 hHeld ⊢
      refine pu 0 16 HT_ ?_
      refine pu 1 17 HT_ ?_
      refine pu 2 18 HT_ ?_
      refine pu 4 20 HT_ ?_
      refine pu 5 21 HT_ ?_
      refine tk2 3 19 hHeld HT_ HW_ ?_
      refine join_ (σ := Nat × Nat) 2 #[true, true, true, true, true, true, true, true, true, false, false] (fun s_ => [(22, .agg #[.int .i64 t103, .int .i64 t104]), (7, .pointer (some ⟨s_.1, 0, none⟩)), (8, .pointer (some ⟨s_.2, 0, none⟩))]) (fun s_ w' => (w'.cell? (ad102.add ((x6_1).toNat * 2)) = some (.int .i64 ((rd_T29 l0 x6_1).f0)) ∧ w'.cell? ⟨(ad102.add ((x6_1).toNat * 2)).block, (ad102.add ((x6_1).toNat * 2)).off + 1, none⟩ = some (.int .i64 ((rd_T29 l0 x6_1).f1))) ∧ (w'.heap[gb101]? = some (.cells #[.int .i64 a1_0, .int .i64 a1_1] 29 (0, 0))) ∧ (w'.heap[s_.1]? = some (.cells #[.int .i64 0, .int .i64 0] 29 (0, 0))) ∧ (w'.heap[s_.2]? = some (.cells #[.int .i64 0, .int .i64 0] 29 (0, 0))) ∧ (w.heap.size ≤ s_.1) ∧ (w.heap.size ≤ s_.1) ∧ (gb101 ≠ s_.1) ∧ (s_.1 ≠ gb101) ∧ (s_.2 ≠ s_.1) ∧ (s_.1 ≠ s_.2) ∧ (w.heap.size ≤ s_.2) ∧ (w.heap.size ≤ s_.2) ∧ (gb101 ≠ s_.2) ∧ (s_.2 ≠ gb101) ∧ (Below w.heap.size w w')) ?_ ?_
      rotate_left
      ·intro hJ6_7_8
       refine join_ (σ := Nat) 3 #[true, true, true, true, true, true, true, true, false, false, false] (fun s_ => [(22, .agg #[.int .i64 t103, .int .i64 t104]), (7, .pointer (some ⟨s_, 0, none⟩))]) (fun s_ w' => (w'.cell? (ad102.add ((x6_1).toNat * 2)) = some (.int .i64 ((rd_T29 l0 x6_1).f0)) ∧ w'.cell? ⟨(ad102.add ((x6_1).toNat * 2)).block, (ad102.add ((x6_1).toNat * 2)).off + 1, none⟩ = some (.int .i64 ((rd_T29 l0 x6_1).f1))) ∧ (w'.heap[gb101]? = some (.cells #[.int .i64 a1_0, .int .i64 a1_1] 29 (0, 0))) ∧ (w'.heap[s_]? = some (.cells #[.int .i64 0, .int .i64 0] 29 (0, 0))) ∧ (w.heap.size ≤ s_) ∧ (w.heap.size ≤ s_) ∧ (gb101 ≠ s_) ∧ (s_ ≠ gb101) ∧ (Below w.heap.size w w')) ?_ ?_
       rotate_left
       ·intro hJ6_7
        refine join_ (σ := Nat) 3 #[true, true, true, true, true, true, true, false, true, false, false] (fun s_ => [(22, .agg #[.int .i64 t103, .int .i64 t104]), (8, .pointer (some ⟨s_, 0, none⟩))]) (fun s_ w' => (w'.cell? (ad102.add ((x6_1).toNat * 2)) = some (.int .i64 ((rd_T29 l0 x6_1).f0)) ∧ w'.cell? ⟨(ad102.add ((x6_1).toNat * 2)).block, (ad102.add ((x6_1).toNat * 2)).off + 1, none⟩ = some (.int .i64 ((rd_T29 l0 x6_1).f1))) ∧ (w'.heap[gb101]? = some (.cells #[.int .i64 a1_0, .int .i64 a1_1] 29 (0, 0))) ∧ (w'.heap[s_]? = some (.cells #[.int .i64 0, .int .i64 0] 29 (0, 0))) ∧ (w.heap.size ≤ s_) ∧ (w.heap.size ≤ s_) ∧ (gb101 ≠ s_) ∧ (s_ ≠ gb101) ∧ (Below w.heap.size w w')) ?_ ?_
        rotate_left
        ·intro hJ6_8
         refine join_ (σ := Nat × Nat) 3 #[true, true, true, true, true, true, false, true, true, false, false] (fun s_ => [(7, .pointer (some ⟨s_.1, 0, none⟩)), (8, .pointer (some ⟨s_.2, 0, none⟩))]) (fun s_ w' => (w'.cell? (ad102.add ((x6_1).toNat * 2)) = some (.int .i64 ((rd_T29 l0 x6_1).f0)) ∧ w'.cell? ⟨(ad102.add ((x6_1).toNat * 2)).block, (ad102.add ((x6_1).toNat * 2)).off + 1, none⟩ = some (.int .i64 ((rd_T29 l0 x6_1).f1))) ∧ (w'.heap[gb101]? = some (.cells #[.int .i64 a1_0, .int .i64 a1_1] 29 (0, 0))) ∧ (w'.heap[s_.1]? = some (.cells #[.int .i64 0, .int .i64 0] 29 (0, 0))) ∧ (w'.heap[s_.2]? = some (.cells #[.int .i64 0, .int .i64 0] 29 (0, 0))) ∧ (w.heap.size ≤ s_.1) ∧ (w.heap.size ≤ s_.1) ∧ (gb101 ≠ s_.1) ∧ (s_.1 ≠ gb101) ∧ (s_.2 ≠ s_.1) ∧ (s_.1 ≠ s_.2) ∧ (w.heap.size ≤ s_.2) ∧ (w.heap.size ≤ s_.2) ∧ (gb101 ≠ s_.2) ∧ (s_.2 ≠ gb101) ∧ (Below w.heap.size w w')) ?_ ?_
         rotate_left
         ·intro hJ7_8
          refine join_ (σ := Unit) 4 #[true, true, true, true, true, true, true, false, false, false, false] (fun s_ => [(22, .agg #[.int .i64 t103, .int .i64 t104])]) (fun s_ w' => (w'.cell? (ad102.add ((x6_1).toNat * 2)) = some (.int .i64 ((rd_T29 l0 x6_1).f0)) ∧ w'.cell? ⟨(ad102.add ((x6_1).toNat * 2)).block, (ad102.add ((x6_1).toNat * 2)).off + 1, none⟩ = some (.int .i64 ((rd_T29 l0 x6_1).f1))) ∧ (w'.heap[gb101]? = some (.cells #[.int .i64 a1_0, .int .i64 a1_1] 29 (0, 0))) ∧ (Below w.heap.size w w')) ?_ ?_
          rotate_left
          ·intro hJ6
           refine join_ (σ := Nat) 4 #[true, true, true, true, true, true, false, true, false, false, false] (fun s_ => [(7, .pointer (some ⟨s_, 0, none⟩))]) (fun s_ w' => (w'.cell? (ad102.add ((x6_1).toNat * 2)) = some (.int .i64 ((rd_T29 l0 x6_1).f0)) ∧ w'.cell? ⟨(ad102.add ((x6_1).toNat * 2)).block, (ad102.add ((x6_1).toNat * 2)).off + 1, none⟩ = some (.int .i64 ((rd_T29 l0 x6_1).f1))) ∧ (w'.heap[gb101]? = some (.cells #[.int .i64 a1_0, .int .i64 a1_1] 29 (0, 0))) ∧ (w'.heap[s_]? = some (.cells #[.int .i64 0, .int .i64 0] 29 (0, 0))) ∧ (w.heap.size ≤ s_) ∧ (w.heap.size ≤ s_) ∧ (gb101 ≠ s_) ∧ (s_ ≠ gb101) ∧ (Below w.heap.size w w')) ?_ ?_
           rotate_left
           ·intro hJ7
            refine join_ (σ := Nat) 4 #[true, true, true, true, true, true, false, false, true, false, false] (fun s_ => [(8, .pointer (some ⟨s_, 0, none⟩))]) (fun s_ w' => (w'.cell? (ad102.add ((x6_1).toNat * 2)) = some (.int .i64 ((rd_T29 l0 x6_1).f0)) ∧ w'.cell? ⟨(ad102.add ((x6_1).toNat * 2)).block, (ad102.add ((x6_1).toNat * 2)).off + 1, none⟩ = some (.int .i64 ((rd_T29 l0 x6_1).f1))) ∧ (w'.heap[gb101]? = some (.cells #[.int .i64 a1_0, .int .i64 a1_1] 29 (0, 0))) ∧ (w'.heap[s_]? = some (.cells #[.int .i64 0, .int .i64 0] 29 (0, 0))) ∧ (w.heap.size ≤ s_) ∧ (w.heap.size ≤ s_) ∧ (gb101 ≠ s_) ∧ (s_ ≠ gb101) ∧ (Below w.heap.size w w')) ?_ ?_
            rotate_left
            ·intro hJ8
             refine three_ (i := 6) (j := 7) (k := 8) (Ni := some 22) (Nj := some 7) (Nk := some 8) #[true, true, true, true, true, true, true, false, false, false, false] #[true, true, true, true, true, true, false, true, false, false, false] #[true, true, true, true, true, true, false, false, true, false, false] rfl rfl rfl rfl rfl rfl (on3 HT_) (by decide) (by decide) (by decide) (fun K hK => ?_) (fun K hK => ?_) (fun K hK => ?_)
             ·skip
              refine goes_ Try.func64 (by kernel_rfl) rfl #[.slice (some ad102) l0.length c0, .int .i64 x6_1] (by rfl) rfl rfl sg ?_
              with_reducible refine (cracknelref04_next.calls _ _ l0 x6_1 t103 t104 _ ?side1 ?side2 A6.out).mono ?_
              (case side1 => exact cs (Kd.C_below HR0.out HB.out))
              (case side2 => exact HC0.out)
              rintro e w10 ⟨rfl, hb⟩
              refine ⟨_, rfl, ?_⟩
              replace BK101 := kb BK101 hb
              replace HB := Aside0.mk (below_step bh hb)
              (try clear hb); (try clear hb2); (try clear hk); (try clear hi)
              refine hK.out _ _ ⟨(hc HB hw102_0), (hc HB hw102_1)⟩ (fun hHeld => ?_)
              clear hK K
              refine nm 22 ?_
              exact norm_ pa (hJ6 () _ ⟨hHeld, bk BK101, bh⟩)
             ·skip
              refine bxs 7 #[.int .i64 0, .int .i64 0] 29 ?_
              intro gb105 hg w10 hbox hb
              have BK105 := Aside0.mk (hbox)
              have GW105 := Aside0.mk (gs hg : w.heap.size ≤ gb105)
              have GE105 := Aside0.mk (gs hg : w.heap.size ≤ gb105)
              have NB101_105 := Aside0.mk ((by rw [hg]; exact Nat.ne_of_lt (kl BK101) : gb101 ≠ gb105))
              have NB105_101 := Aside0.mk ((by rw [hg]; exact Nat.ne_of_gt (kl BK101) : gb105 ≠ gb101))
              replace BK101 := kb BK101 hb
              replace HB := Aside0.mk (below_step bh hb)
              clear hb hbox hg
              refine hK.out _ _ ⟨(hc HB hw102_0), (hc HB hw102_1)⟩ (fun hHeld => ?_)
              clear hK K
              refine nm 7 ?_
              exact norm_ pa (hJ7 (gb105) _ ⟨hHeld, bk BK101, bk BK105, GW105.out, GE105.out, NB101_105.out, NB105_101.out, bh⟩)
             ·skip
              refine bxs 8 #[.int .i64 0, .int .i64 0] 29 ?_
              intro gb106 hg w10 hbox hb
              have BK106 := Aside0.mk (hbox)
              have GW106 := Aside0.mk (gs hg : w.heap.size ≤ gb106)
              have GE106 := Aside0.mk (gs hg : w.heap.size ≤ gb106)
              have NB101_106 := Aside0.mk ((by rw [hg]; exact Nat.ne_of_lt (kl BK101) : gb101 ≠ gb106))
              have NB106_101 := Aside0.mk ((by rw [hg]; exact Nat.ne_of_gt (kl BK101) : gb106 ≠ gb101))
              replace BK101 := kb BK101 hb
              replace HB := Aside0.mk (below_step bh hb)
              clear hb hbox hg
              refine hK.out _ _ ⟨(hc HB hw102_0), (hc HB hw102_1)⟩ (fun hHeld => ?_)
              clear hK K
              refine nm 8 ?_
              exact norm_ pa (hJ8 (gb106) _ ⟨hHeld, bk BK101, bk BK106, GW106.out, GE106.out, NB101_106.out, NB106_101.out, bh⟩)
            ·skip
             rintro gb106 w11 ⟨hS_, h0_, h1_, h2_, h3_, h4_, h5_, h6_⟩
             have BK106 := Aside0.mk h1_
             have GW106 := Aside0.mk h2_
             have GE106 := Aside0.mk h3_
             have NB101_106 := Aside0.mk h4_
             have NB106_101 := Aside0.mk h5_
             replace BK101 := Aside0.mk h0_
             replace HB := Aside0.mk h6_
             clear h0_ h1_ h2_ h3_ h4_ h5_ h6_
             have hHeld := hS_
             refine nn ?_
             refine two_ (i := 6) (j := 7) (Ni := some 22) (Nj := some 7) #[true, true, true, true, true, true, true, false, true, false, false] #[true, true, true, true, true, true, false, true, true, false, false] rfl rfl rfl rfl (on2 HT_) (by decide) (by decide) (fun K hK => ?_) (fun K hK => ?_)
             ·skip
              refine goes_ Try.func64 (by kernel_rfl) rfl #[.slice (some ad102) l0.length c0, .int .i64 x6_1] (by rfl) rfl rfl sg ?_
              with_reducible refine (cracknelref04_next.calls _ _ l0 x6_1 t103 t104 _ ?side1 ?side2 A6.out).mono ?_
              (case side1 => exact cs (Kd.C_below HR0.out HB.out))
              (case side2 => exact HC0.out)
              rintro e w12 ⟨rfl, hb⟩
              refine ⟨_, rfl, ?_⟩
              replace BK101 := kb BK101 hb
              replace BK106 := kb BK106 hb
              replace HB := Aside0.mk (below_step bh hb)
              (try clear hb); (try clear hb2); (try clear hk); (try clear hi)
              refine hK.out _ _ ⟨(hc HB hw102_0), (hc HB hw102_1)⟩ (fun hHeld => ?_)
              clear hK K
              refine nm 22 ?_
              exact norm_ pa (hJ6_8 (gb106) _ ⟨hHeld, bk BK101, bk BK106, GW106.out, GE106.out, NB101_106.out, NB106_101.out, bh⟩)
             ·skip
              refine bxs 7 #[.int .i64 0, .int .i64 0] 29 ?_
              intro gb105 hg w12 hbox hb
              have BK105 := Aside0.mk (hbox)
              have GW105 := Aside0.mk (gs hg : w.heap.size ≤ gb105)
              have GE105 := Aside0.mk (gs hg : w.heap.size ≤ gb105)
              have NB101_105 := Aside0.mk ((by rw [hg]; exact Nat.ne_of_lt (kl BK101) : gb101 ≠ gb105))
              have NB105_101 := Aside0.mk ((by rw [hg]; exact Nat.ne_of_gt (kl BK101) : gb105 ≠ gb101))
              have NB106_105 := Aside0.mk ((by rw [hg]; exact Nat.ne_of_lt (kl BK106) : gb106 ≠ gb105))
              have NB105_106 := Aside0.mk ((by rw [hg]; exact Nat.ne_of_gt (kl BK106) : gb105 ≠ gb106))
              replace BK101 := kb BK101 hb
              replace BK106 := kb BK106 hb
              replace HB := Aside0.mk (below_step bh hb)
              clear hb hbox hg
              refine hK.out _ _ ⟨(hc HB hw102_0), (hc HB hw102_1)⟩ (fun hHeld => ?_)
              clear hK K
              refine nm 7 ?_
              exact norm_ pa (hJ7_8 (gb105, gb106) _ ⟨hHeld, bk BK101, bk BK105, bk BK106, GW105.out, GE105.out, NB101_105.out, NB105_101.out, NB106_105.out, NB105_106.out, GW106.out, GE106.out, NB101_106.out, NB106_101.out, bh⟩)
           ·skip
            rintro gb105 w11 ⟨hS_, h0_, h1_, h2_, h3_, h4_, h5_, h6_⟩
            have BK105 := Aside0.mk h1_
            have GW105 := Aside0.mk h2_
            have GE105 := Aside0.mk h3_
            have NB101_105 := Aside0.mk h4_
            have NB105_101 := Aside0.mk h5_
            replace BK101 := Aside0.mk h0_
            replace HB := Aside0.mk h6_
            clear h0_ h1_ h2_ h3_ h4_ h5_ h6_
            have hHeld := hS_
            refine nn ?_
            refine two_ (i := 6) (j := 8) (Ni := some 22) (Nj := some 8) #[true, true, true, true, true, true, true, true, false, false, false] #[true, true, true, true, true, true, false, true, true, false, false] rfl rfl rfl rfl (on2 HT_) (by decide) (by decide) (fun K hK => ?_) (fun K hK => ?_)
            ·skip
             refine goes_ Try.func64 (by kernel_rfl) rfl #[.slice (some ad102) l0.length c0, .int .i64 x6_1] (by rfl) rfl rfl sg ?_
             with_reducible refine (cracknelref04_next.calls _ _ l0 x6_1 t103 t104 _ ?side1 ?side2 A6.out).mono ?_
             (case side1 => exact cs (Kd.C_below HR0.out HB.out))
             (case side2 => exact HC0.out)
             rintro e w12 ⟨rfl, hb⟩
             refine ⟨_, rfl, ?_⟩
             replace BK101 := kb BK101 hb
             replace BK105 := kb BK105 hb
             replace HB := Aside0.mk (below_step bh hb)
             (try clear hb); (try clear hb2); (try clear hk); (try clear hi)
             refine hK.out _ _ ⟨(hc HB hw102_0), (hc HB hw102_1)⟩ (fun hHeld => ?_)
             clear hK K
             refine nm 22 ?_
             exact norm_ pa (hJ6_7 (gb105) _ ⟨hHeld, bk BK101, bk BK105, GW105.out, GE105.out, NB101_105.out, NB105_101.out, bh⟩)
            ·skip
             refine bxs 8 #[.int .i64 0, .int .i64 0] 29 ?_
             intro gb106 hg w12 hbox hb
             have BK106 := Aside0.mk (hbox)
             have GW106 := Aside0.mk (gs hg : w.heap.size ≤ gb106)
             have GE106 := Aside0.mk (gs hg : w.heap.size ≤ gb106)
             have NB101_106 := Aside0.mk ((by rw [hg]; exact Nat.ne_of_lt (kl BK101) : gb101 ≠ gb106))
             have NB106_101 := Aside0.mk ((by rw [hg]; exact Nat.ne_of_gt (kl BK101) : gb106 ≠ gb101))
             have NB105_106 := Aside0.mk ((by rw [hg]; exact Nat.ne_of_lt (kl BK105) : gb105 ≠ gb106))
             have NB106_105 := Aside0.mk ((by rw [hg]; exact Nat.ne_of_gt (kl BK105) : gb106 ≠ gb105))
             replace BK101 := kb BK101 hb
             replace BK105 := kb BK105 hb
             replace HB := Aside0.mk (below_step bh hb)
             clear hb hbox hg
             refine hK.out _ _ ⟨(hc HB hw102_0), (hc HB hw102_1)⟩ (fun hHeld => ?_)
             clear hK K
             refine nm 8 ?_
             exact norm_ pa (hJ7_8 (gb105, gb106) _ ⟨hHeld, bk BK101, bk BK105, bk BK106, GW105.out, GE105.out, NB101_105.out, NB105_101.out, NB106_105.out, NB105_106.out, GW106.out, GE106.out, NB101_106.out, NB106_101.out, bh⟩)
          ·skip
           rintro _ w11 ⟨hS_, h0_, h1_⟩
           replace BK101 := Aside0.mk h0_
           replace HB := Aside0.mk h1_
           clear h0_ h1_
           have hHeld := hS_
           refine nn ?_
           refine two_ (i := 7) (j := 8) (Ni := some 7) (Nj := some 8) #[true, true, true, true, true, true, true, true, false, false, false] #[true, true, true, true, true, true, true, false, true, false, false] rfl rfl rfl rfl (on2 HT_) (by decide) (by decide) (fun K hK => ?_) (fun K hK => ?_)
           ·skip
            refine bxs 7 #[.int .i64 0, .int .i64 0] 29 ?_
            intro gb105 hg w12 hbox hb
            have BK105 := Aside0.mk (hbox)
            have GW105 := Aside0.mk (gs hg : w.heap.size ≤ gb105)
            have GE105 := Aside0.mk (gs hg : w.heap.size ≤ gb105)
            have NB101_105 := Aside0.mk ((by rw [hg]; exact Nat.ne_of_lt (kl BK101) : gb101 ≠ gb105))
            have NB105_101 := Aside0.mk ((by rw [hg]; exact Nat.ne_of_gt (kl BK101) : gb105 ≠ gb101))
            replace BK101 := kb BK101 hb
            replace HB := Aside0.mk (below_step bh hb)
            clear hb hbox hg
            refine hK.out _ _ ⟨(hc HB hw102_0), (hc HB hw102_1)⟩ (fun hHeld => ?_)
            clear hK K
            refine nm 7 ?_
            exact norm_ pa (hJ6_7 (gb105) _ ⟨hHeld, bk BK101, bk BK105, GW105.out, GE105.out, NB101_105.out, NB105_101.out, bh⟩)
           ·skip
            refine bxs 8 #[.int .i64 0, .int .i64 0] 29 ?_
            intro gb106 hg w12 hbox hb
            have BK106 := Aside0.mk (hbox)
            have GW106 := Aside0.mk (gs hg : w.heap.size ≤ gb106)
            have GE106 := Aside0.mk (gs hg : w.heap.size ≤ gb106)
            have NB101_106 := Aside0.mk ((by rw [hg]; exact Nat.ne_of_lt (kl BK101) : gb101 ≠ gb106))
            have NB106_101 := Aside0.mk ((by rw [hg]; exact Nat.ne_of_gt (kl BK101) : gb106 ≠ gb101))
            replace BK101 := kb BK101 hb
            replace HB := Aside0.mk (below_step bh hb)
            clear hb hbox hg
            refine hK.out _ _ ⟨(hc HB hw102_0), (hc HB hw102_1)⟩ (fun hHeld => ?_)
            clear hK K
            refine nm 8 ?_
            exact norm_ pa (hJ6_8 (gb106) _ ⟨hHeld, bk BK101, bk BK106, GW106.out, GE106.out, NB101_106.out, NB106_101.out, bh⟩)
         ·skip
          rintro ⟨gb105, gb106⟩ w12 ⟨hS_, h0_, h1_, h2_, h3_, h4_, h5_, h6_, h7_, h8_, h9_, h10_, h11_, h12_, h13_⟩
          have BK105 := Aside0.mk h1_
          have BK106 := Aside0.mk h2_
          have GW105 := Aside0.mk h3_
          have GE105 := Aside0.mk h4_
          have NB101_105 := Aside0.mk h5_
          have NB105_101 := Aside0.mk h6_
          have NB106_105 := Aside0.mk h7_
          have NB105_106 := Aside0.mk h8_
          have GW106 := Aside0.mk h9_
          have GE106 := Aside0.mk h10_
          have NB101_106 := Aside0.mk h11_
          have NB106_101 := Aside0.mk h12_
          replace BK101 := Aside0.mk h0_
          replace HB := Aside0.mk h13_
          clear h0_ h1_ h2_ h3_ h4_ h5_ h6_ h7_ h8_ h9_ h10_ h11_ h12_ h13_
          have hHeld := hS_
          refine nn ?_
          refine one_ (i := 6) (N := some 22) #[true, true, true, true, true, true, true, true, true, false, false] rfl rfl (on1 HT_) (by decide) (fun K hK => ?_)
          refine goes_ Try.func64 (by kernel_rfl) rfl #[.slice (some ad102) l0.length c0, .int .i64 x6_1] (by rfl) rfl rfl sg ?_
          with_reducible refine (cracknelref04_next.calls _ _ l0 x6_1 t103 t104 _ ?side1 ?side2 A6.out).mono ?_
          (case side1 => exact cs (Kd.C_below HR0.out HB.out))
          (case side2 => exact HC0.out)
          rintro e w13 ⟨rfl, hb⟩
          refine ⟨_, rfl, ?_⟩
          replace BK101 := kb BK101 hb
          replace BK105 := kb BK105 hb
          replace BK106 := kb BK106 hb
          replace HB := Aside0.mk (below_step bh hb)
          (try clear hb); (try clear hb2); (try clear hk); (try clear hi)
          refine hK.out _ _ ⟨(hc HB hw102_0), (hc HB hw102_1)⟩ (fun hHeld => ?_)
          clear hK K
          refine nm 22 ?_
          exact norm_ pa (hJ6_7_8 (gb105, gb106) _ ⟨hHeld, bk BK101, bk BK105, bk BK106, GW105.out, GE105.out, NB101_105.out, NB105_101.out, NB106_105.out, NB105_106.out, GW106.out, GE106.out, NB101_106.out, NB106_101.out, bh⟩)
        ·skip
         rintro gb106 w12 ⟨hS_, h0_, h1_, h2_, h3_, h4_, h5_, h6_⟩
         have BK106 := Aside0.mk h1_
         have GW106 := Aside0.mk h2_
         have GE106 := Aside0.mk h3_
         have NB101_106 := Aside0.mk h4_
         have NB106_101 := Aside0.mk h5_
         replace BK101 := Aside0.mk h0_
         replace HB := Aside0.mk h6_
         clear h0_ h1_ h2_ h3_ h4_ h5_ h6_
         have hHeld := hS_
         refine nn ?_
         refine one_ (i := 7) (N := some 7) #[true, true, true, true, true, true, true, true, true, false, false] rfl rfl (on1 HT_) (by decide) (fun K hK => ?_)
         refine bxs 7 #[.int .i64 0, .int .i64 0] 29 ?_
         intro gb105 hg w13 hbox hb
         have BK105 := Aside0.mk (hbox)
         have GW105 := Aside0.mk (gs hg : w.heap.size ≤ gb105)
         have GE105 := Aside0.mk (gs hg : w.heap.size ≤ gb105)
         have NB101_105 := Aside0.mk ((by rw [hg]; exact Nat.ne_of_lt (kl BK101) : gb101 ≠ gb105))
         have NB105_101 := Aside0.mk ((by rw [hg]; exact Nat.ne_of_gt (kl BK101) : gb105 ≠ gb101))
         have NB106_105 := Aside0.mk ((by rw [hg]; exact Nat.ne_of_lt (kl BK106) : gb106 ≠ gb105))
         have NB105_106 := Aside0.mk ((by rw [hg]; exact Nat.ne_of_gt (kl BK106) : gb105 ≠ gb106))
         replace BK101 := kb BK101 hb
         replace BK106 := kb BK106 hb
         replace HB := Aside0.mk (below_step bh hb)
         clear hb hbox hg
         refine hK.out _ _ ⟨(hc HB hw102_0), (hc HB hw102_1)⟩ (fun hHeld => ?_)
         clear hK K
         refine nm 7 ?_
         exact norm_ pa (hJ6_7_8 (gb105, gb106) _ ⟨hHeld, bk BK101, bk BK105, bk BK106, GW105.out, GE105.out, NB101_105.out, NB105_101.out, NB106_105.out, NB105_106.out, GW106.out, GE106.out, NB101_106.out, NB106_101.out, bh⟩)
       ·skip
        rintro gb105 w12 ⟨hS_, h0_, h1_, h2_, h3_, h4_, h5_, h6_⟩
        have BK105 := Aside0.mk h1_
        have GW105 := Aside0.mk h2_
        have GE105 := Aside0.mk h3_
        have NB101_105 := Aside0.mk h4_
        have NB105_101 := Aside0.mk h5_
        replace BK101 := Aside0.mk h0_
        replace HB := Aside0.mk h6_
        clear h0_ h1_ h2_ h3_ h4_ h5_ h6_
        have hHeld := hS_
        refine nn ?_
        refine one_ (i := 8) (N := some 8) #[true, true, true, true, true, true, true, true, true, false, false] rfl rfl (on1 HT_) (by decide) (fun K hK => ?_)
        refine bxs 8 #[.int .i64 0, .int .i64 0] 29 ?_
        intro gb106 hg w13 hbox hb
        have BK106 := Aside0.mk (hbox)
        have GW106 := Aside0.mk (gs hg : w.heap.size ≤ gb106)
        have GE106 := Aside0.mk (gs hg : w.heap.size ≤ gb106)
        have NB101_106 := Aside0.mk ((by rw [hg]; exact Nat.ne_of_lt (kl BK101) : gb101 ≠ gb106))
        have NB106_101 := Aside0.mk ((by rw [hg]; exact Nat.ne_of_gt (kl BK101) : gb106 ≠ gb101))
        have NB105_106 := Aside0.mk ((by rw [hg]; exact Nat.ne_of_lt (kl BK105) : gb105 ≠ gb106))
        have NB106_105 := Aside0.mk ((by rw [hg]; exact Nat.ne_of_gt (kl BK105) : gb106 ≠ gb105))
        replace BK101 := kb BK101 hb
        replace BK105 := kb BK105 hb
        replace HB := Aside0.mk (below_step bh hb)
        clear hb hbox hg
        refine hK.out _ _ ⟨(hc HB hw102_0), (hc HB hw102_1)⟩ (fun hHeld => ?_)
        clear hK K
        refine nm 8 ?_
        exact norm_ pa (hJ6_7_8 (gb105, gb106) _ ⟨hHeld, bk BK101, bk BK105, bk BK106, GW105.out, GE105.out, NB101_105.out, NB105_101.out, NB106_105.out, NB105_106.out, GW106.out, GE106.out, NB101_106.out, NB106_101.out, bh⟩)
      rintro ⟨gb105, gb106⟩ w13 ⟨hS_, h0_, h1_, h2_, h3_, h4_, h5_, h6_, h7_, h8_, h9_, h10_, h11_, h12_, h13_⟩
      have BK105 := Aside0.mk h1_
      have BK106 := Aside0.mk h2_
      have GW105 := Aside0.mk h3_
      have GE105 := Aside0.mk h4_
      have NB101_105 := Aside0.mk h5_
      have NB105_101 := Aside0.mk h6_
      have NB106_105 := Aside0.mk h7_
      have NB105_106 := Aside0.mk h8_
      have GW106 := Aside0.mk h9_
      have GE106 := Aside0.mk h10_
      have NB101_106 := Aside0.mk h11_
      have NB106_101 := Aside0.mk h12_
      replace BK101 := Aside0.mk h0_
      replace HB := Aside0.mk h13_
      clear h0_ h1_ h2_ h3_ h4_ h5_ h6_ h7_ h8_ h9_ h10_ h11_ h12_ h13_
      have hHeld := hS_
      refine nn ?_
      refine one_ (i := 9) (N := none) #[true, true, true, true, true, true, true, true, true, true, false] rfl rfl (on1 HT_) (by decide) (fun K hK => ?_)
      have hs14 : w13.cell? ⟨gb105, 0, none⟩ = some (.int .i64 0) := bc BK105 0
      have hfs14 := blk_frozen BK105.out 0
      have hns14_0 := NB101_105.out
      have hns14_2 := NB106_105.out
      have hms14_0 := NB105_101.out
      have hms14_2 := NB105_106.out
      have hs15 : w13.cell? ⟨gb105, 1, none⟩ = some (.int .i64 0) := bc BK105 1
      have hfs15 := blk_frozen BK105.out 1
      have hns15_0 := NB101_105.out
      have hns15_2 := NB106_105.out
      have hms15_0 := NB105_101.out
      have hms15_2 := NB105_106.out
      refine skip_ (w1 := ?_) (by rfl) rfl ?_ ?_
      rotate_left
      ·go_simp
       rfl
      refine hK.out _ _ ⟨((cell_far (p := ⟨gb105, _, none⟩) (fr hw102_0 GW105) _).trans (((cell_far (p := ⟨gb105, _, none⟩) (fr hw102_0 GW105) _).trans (hHeld.1)))), ((cell_far (p := ⟨gb105, _, none⟩) (fr hw102_1 GW105) _).trans (((cell_far (p := ⟨gb105, _, none⟩) (fr hw102_1 GW105) _).trans (hHeld.2))))⟩ (fun hHeld => ?_)
      clear hK K
      refine one_ (i := 10) (N := none) #[true, true, true, true, true, true, true, true, true, true, true] rfl rfl (on1 HT_) (by decide) (fun K hK => ?_)
      have hs16 : w13.cell? ⟨gb106, 0, none⟩ = some (.int .i64 0) := bc BK106 0
      have hfs16 := blk_frozen BK106.out 0
      have hns16_0 := NB101_106.out
      have hns16_1 := NB105_106.out
      have hms16_0 := NB106_101.out
      have hms16_1 := NB106_105.out
      have hs17 : w13.cell? ⟨gb106, 1, none⟩ = some (.int .i64 0) := bc BK106 1
      have hfs17 := blk_frozen BK106.out 1
      have hns17_0 := NB101_106.out
      have hns17_1 := NB105_106.out
      have hms17_0 := NB106_101.out
      have hms17_1 := NB106_105.out
      refine skip_ (w1 := ?_) (by rfl) rfl ?_ ?_
      rotate_left
      ·go_simp
       rfl
      refine hK.out _ _ ⟨((cell_far (p := ⟨gb106, _, none⟩) (fr hw102_0 GW106) _).trans (((cell_far (p := ⟨gb106, _, none⟩) (fr hw102_0 GW106) _).trans (hHeld.1)))), ((cell_far (p := ⟨gb106, _, none⟩) (fr hw102_1 GW106) _).trans (((cell_far (p := ⟨gb106, _, none⟩) (fr hw102_1 GW106) _).trans (hHeld.2))))⟩ (fun hHeld => ?_)
      clear hK K
      refine done_ (done_of HT_.out (by kernel_rfl)) ?_
      have hnb18 := NB105_101.out
      have hnc18 := NB101_105.out
      have hnb19 := NB105_106.out
      have hnc19 := NB106_105.out
      obtain ⟨hcz20_0, hcz20_1, hfz20_0, hfz20_1⟩ := b2 BK105
      have hnb21 := NB106_101.out
      have hnc21 := NB101_106.out
      obtain ⟨hcz22_0, hcz22_1, hfz22_0, hfz22_1⟩ := b2 BK106
      obtain ⟨hcz23_0, hcz23_1, hfz23_0, hfz23_1⟩ := b2 BK101
      try go_wp2_with (first | ((with_reducible refine gate_callee (f := 62) rfl ?_); refine goesL_ (some 26) rfl rfl Try.func62 (by kernel_rfl) rfl #[.agg #[.int .i64 ((rd_T29 l0 x6_1).f0), .int .i64 ((rd_T29 l0 x6_1).f1)], .agg #[.int .i64 t103, .int .i64 t104], .agg #[.int .i64 a1_0, .int .i64 a1_1]] rfl sg ?_; (with_reducible refine (cracknelref04_On.calls ((rd_T29 l0 x6_1).f0) ((rd_T29 l0 x6_1).f1) t103 t104 a1_0 a1_1 true _ A7.out).mono ?_); rintro e w24 ⟨rfl, hb⟩; refine ⟨_, rfl, ?_⟩; have n0_ := Aside0.mk (blk_below (g := gb101) (o := .cells #[.int .i64 a1_0, .int .i64 a1_1] 29 (0, 0)) (by (with_reducible repeat (first | refine blk_drewN ?_ _ | refine blk_drew ?_ | refine blk_alloc ?_ _)); refine blk_far ?_ NB101_106.out _; (with_reducible repeat (first | refine blk_drewN ?_ _ | refine blk_drew ?_ | refine blk_alloc ?_ _)); refine blk_far ?_ NB101_106.out _; (with_reducible repeat (first | refine blk_drewN ?_ _ | refine blk_drew ?_ | refine blk_alloc ?_ _)); refine blk_far ?_ NB101_105.out _; (with_reducible repeat (first | refine blk_drewN ?_ _ | refine blk_drew ?_ | refine blk_alloc ?_ _)); refine blk_far ?_ NB101_105.out _; (with_reducible repeat (first | refine blk_drewN ?_ _ | refine blk_drew ?_ | refine blk_alloc ?_ _)); exact BK101.out) hb); have n1_ := Aside0.mk (blk_below (g := gb105) (o := .cells #[.int .i64 ((rd_T29 l0 x6_1).f0), .int .i64 ((rd_T29 l0 x6_1).f1)] 29 (0, 0)) (by (with_reducible repeat (first | refine blk_drewN ?_ _ | refine blk_drew ?_ | refine blk_alloc ?_ _)); refine blk_far ?_ NB105_106.out _; (with_reducible repeat (first | refine blk_drewN ?_ _ | refine blk_drew ?_ | refine blk_alloc ?_ _)); refine blk_far ?_ NB105_106.out _; (with_reducible repeat (first | refine blk_drewN ?_ _ | refine blk_drew ?_ | refine blk_alloc ?_ _)); refine blk_put (cs := #[.int .i64 ((rd_T29 l0 x6_1).f0), .int .i64 0]) ?_ 1 _ rfl; (with_reducible repeat (first | refine blk_drewN ?_ _ | refine blk_drew ?_ | refine blk_alloc ?_ _)); refine blk_put (cs := #[.int .i64 0, .int .i64 0]) ?_ 0 _ rfl; (with_reducible repeat (first | refine blk_drewN ?_ _ | refine blk_drew ?_ | refine blk_alloc ?_ _)); exact BK105.out) hb); have n2_ := Aside0.mk (blk_below (g := gb106) (o := .cells #[.int .i64 t103, .int .i64 t104] 29 (0, 0)) (by (with_reducible repeat (first | refine blk_drewN ?_ _ | refine blk_drew ?_ | refine blk_alloc ?_ _)); refine blk_put (cs := #[.int .i64 t103, .int .i64 0]) ?_ 1 _ rfl; (with_reducible repeat (first | refine blk_drewN ?_ _ | refine blk_drew ?_ | refine blk_alloc ?_ _)); refine blk_put (cs := #[.int .i64 0, .int .i64 0]) ?_ 0 _ rfl; (with_reducible repeat (first | refine blk_drewN ?_ _ | refine blk_drew ?_ | refine blk_alloc ?_ _)); refine blk_far ?_ NB106_105.out _; (with_reducible repeat (first | refine blk_drewN ?_ _ | refine blk_drew ?_ | refine blk_alloc ?_ _)); refine blk_far ?_ NB106_105.out _; (with_reducible repeat (first | refine blk_drewN ?_ _ | refine blk_drew ?_ | refine blk_alloc ?_ _)); exact BK106.out) hb); have n3_ := Aside0.mk (below_step bh hb); clear BK101; clear BK105; clear BK106; clear HB; have BK101 := n0_; have BK105 := n1_; have BK106 := n2_; have HB := n3_; clear n0_ n1_ n2_ n3_; (try clear hb); (try clear hb2); (try clear hk); (try clear hi)))
      go_ret
      exact ⟨by exact er, bh⟩
     ·replace c8 := Bool.eq_false_iff.mpr c8
      subst c8
      rw [if_neg (show ¬ (false = true) by decide)] at H
      by_cases c25 : ((decide (((rd_T29 l0 x6_1).f1) > a1_1)) != (decide (t104 > a1_1))) = true
      ·rw [if_pos c25] at H
       have c25b0 : ((decide (((rd_T29 l0 x6_1).f1) > a1_1)) != (decide (t104 > a1_1))) = true := c25
       (try (have c25b1 : decide ((decide (((rd_T29 l0 x6_1).f1) > a1_1)) = (decide (t104 > a1_1))) = false := by simpa using c25))
       (try (have c25b2 : ((decide (((rd_T29 l0 x6_1).f1) > a1_1)) == (decide (t104 > a1_1))) = false := by simpa using c25))
       (try (have c25b3 : ¬ ((decide (((rd_T29 l0 x6_1).f1) > a1_1)) = (decide (t104 > a1_1))) := by simpa using c25))
       clear c25
       replace H := Option.bind_eq_some_iff.mp H
       obtain ⟨t108, A260, H⟩ := H
       replace H : (if t104 < ((rd_T29 l0 x6_1).f1) then (cracknelref04_Where.j1 k1 l0 x5_1 x6_1 (wrap64 (-t108)) a1_0 a1_1) else (cracknelref04_Where.j1 k1 l0 x5_1 x6_1 t108 a1_0 a1_1)) = some r := H
       have A26 := Aside0.mk A260
       clear A260
       have HC27 := Aside0.mk H
       clear H
       try go_wp2
       replace BK101 := Aside0.mk (blk_drew BK101.out)
       replace HB := Aside0.mk (below_drew1 HB.out)
       have p102 : 0 ≤ (x6_1 : Int) := dt
       have q102 : x6_1 < (l0.length : Int) := dt
       obtain ⟨ad102, e102, hx102_0, hx102_1⟩ := at_T29 HR0.out x6_1 p102 q102
       have hw102_1 := hx102_1
       have hw102_0 := hx102_0
       cases e102
       replace hx102_0 := hc HB hx102_0
       replace hx102_1 := hc HB hx102_1
       replace p102 := eq_true p102
       replace q102 := eq_true q102
       refine start_ (n := 11) (S := fun w' => w'.cell? (ad102.add ((x6_1).toNat * 2)) = some (.int .i64 ((rd_T29 l0 x6_1).f0)) ∧ w'.cell? ⟨(ad102.add ((x6_1).toNat * 2)).block, (ad102.add ((x6_1).toNat * 2)).off + 1, none⟩ = some (.int .i64 ((rd_T29 l0 x6_1).f1))) (ds := []) #[false, false, false, false, false, false, false, false, false, false, false] (by kernel_rfl) rfl rfl ⟨(hc HB hw102_0), (hc HB hw102_1)⟩ (fun hHeld => ?_); refine with_tabW cracknelref04_Where.tab5 cracknelref04_Where.bits5 (fun HT_ HW_ => ?_)
       generalize wr.drew = w28 at BK101 HB hx102_0 hx102_1 hHeld ⊢
       refine pu 0 16 HT_ ?_
       refine pu 1 17 HT_ ?_
       refine pu 2 18 HT_ ?_
       refine pu 4 20 HT_ ?_
       refine pu 5 21 HT_ ?_
       refine tk2 3 19 hHeld HT_ HW_ ?_
       refine join_ (σ := Nat × Nat) 2 #[true, true, true, true, true, true, true, true, true, false, false] (fun s_ => [(22, .agg #[.int .i64 t103, .int .i64 t104]), (7, .pointer (some ⟨s_.1, 0, none⟩)), (8, .pointer (some ⟨s_.2, 0, none⟩))]) (fun s_ w' => (w'.cell? (ad102.add ((x6_1).toNat * 2)) = some (.int .i64 ((rd_T29 l0 x6_1).f0)) ∧ w'.cell? ⟨(ad102.add ((x6_1).toNat * 2)).block, (ad102.add ((x6_1).toNat * 2)).off + 1, none⟩ = some (.int .i64 ((rd_T29 l0 x6_1).f1))) ∧ (w'.heap[gb101]? = some (.cells #[.int .i64 a1_0, .int .i64 a1_1] 29 (0, 0))) ∧ (w'.heap[s_.1]? = some (.cells #[.int .i64 0, .int .i64 0] 29 (0, 0))) ∧ (w'.heap[s_.2]? = some (.cells #[.int .i64 0, .int .i64 0] 29 (0, 0))) ∧ (w.heap.size ≤ s_.1) ∧ (w.heap.size ≤ s_.1) ∧ (gb101 ≠ s_.1) ∧ (s_.1 ≠ gb101) ∧ (s_.2 ≠ s_.1) ∧ (s_.1 ≠ s_.2) ∧ (w.heap.size ≤ s_.2) ∧ (w.heap.size ≤ s_.2) ∧ (gb101 ≠ s_.2) ∧ (s_.2 ≠ gb101) ∧ (Below w.heap.size w w')) ?_ ?_
       rotate_left
       ·intro hJ6_7_8
        refine join_ (σ := Nat) 3 #[true, true, true, true, true, true, true, true, false, false, false] (fun s_ => [(22, .agg #[.int .i64 t103, .int .i64 t104]), (7, .pointer (some ⟨s_, 0, none⟩))]) (fun s_ w' => (w'.cell? (ad102.add ((x6_1).toNat * 2)) = some (.int .i64 ((rd_T29 l0 x6_1).f0)) ∧ w'.cell? ⟨(ad102.add ((x6_1).toNat * 2)).block, (ad102.add ((x6_1).toNat * 2)).off + 1, none⟩ = some (.int .i64 ((rd_T29 l0 x6_1).f1))) ∧ (w'.heap[gb101]? = some (.cells #[.int .i64 a1_0, .int .i64 a1_1] 29 (0, 0))) ∧ (w'.heap[s_]? = some (.cells #[.int .i64 0, .int .i64 0] 29 (0, 0))) ∧ (w.heap.size ≤ s_) ∧ (w.heap.size ≤ s_) ∧ (gb101 ≠ s_) ∧ (s_ ≠ gb101) ∧ (Below w.heap.size w w')) ?_ ?_
        rotate_left
        ·intro hJ6_7
         refine join_ (σ := Nat) 3 #[true, true, true, true, true, true, true, false, true, false, false] (fun s_ => [(22, .agg #[.int .i64 t103, .int .i64 t104]), (8, .pointer (some ⟨s_, 0, none⟩))]) (fun s_ w' => (w'.cell? (ad102.add ((x6_1).toNat * 2)) = some (.int .i64 ((rd_T29 l0 x6_1).f0)) ∧ w'.cell? ⟨(ad102.add ((x6_1).toNat * 2)).block, (ad102.add ((x6_1).toNat * 2)).off + 1, none⟩ = some (.int .i64 ((rd_T29 l0 x6_1).f1))) ∧ (w'.heap[gb101]? = some (.cells #[.int .i64 a1_0, .int .i64 a1_1] 29 (0, 0))) ∧ (w'.heap[s_]? = some (.cells #[.int .i64 0, .int .i64 0] 29 (0, 0))) ∧ (w.heap.size ≤ s_) ∧ (w.heap.size ≤ s_) ∧ (gb101 ≠ s_) ∧ (s_ ≠ gb101) ∧ (Below w.heap.size w w')) ?_ ?_
         rotate_left
         ·intro hJ6_8
          refine join_ (σ := Nat × Nat) 3 #[true, true, true, true, true, true, false, true, true, false, false] (fun s_ => [(7, .pointer (some ⟨s_.1, 0, none⟩)), (8, .pointer (some ⟨s_.2, 0, none⟩))]) (fun s_ w' => (w'.cell? (ad102.add ((x6_1).toNat * 2)) = some (.int .i64 ((rd_T29 l0 x6_1).f0)) ∧ w'.cell? ⟨(ad102.add ((x6_1).toNat * 2)).block, (ad102.add ((x6_1).toNat * 2)).off + 1, none⟩ = some (.int .i64 ((rd_T29 l0 x6_1).f1))) ∧ (w'.heap[gb101]? = some (.cells #[.int .i64 a1_0, .int .i64 a1_1] 29 (0, 0))) ∧ (w'.heap[s_.1]? = some (.cells #[.int .i64 0, .int .i64 0] 29 (0, 0))) ∧ (w'.heap[s_.2]? = some (.cells #[.int .i64 0, .int .i64 0] 29 (0, 0))) ∧ (w.heap.size ≤ s_.1) ∧ (w.heap.size ≤ s_.1) ∧ (gb101 ≠ s_.1) ∧ (s_.1 ≠ gb101) ∧ (s_.2 ≠ s_.1) ∧ (s_.1 ≠ s_.2) ∧ (w.heap.size ≤ s_.2) ∧ (w.heap.size ≤ s_.2) ∧ (gb101 ≠ s_.2) ∧ (s_.2 ≠ gb101) ∧ (Below w.heap.size w w')) ?_ ?_
          rotate_left
          ·intro hJ7_8
           refine join_ (σ := Unit) 4 #[true, true, true, true, true, true, true, false, false, false, false] (fun s_ => [(22, .agg #[.int .i64 t103, .int .i64 t104])]) (fun s_ w' => (w'.cell? (ad102.add ((x6_1).toNat * 2)) = some (.int .i64 ((rd_T29 l0 x6_1).f0)) ∧ w'.cell? ⟨(ad102.add ((x6_1).toNat * 2)).block, (ad102.add ((x6_1).toNat * 2)).off + 1, none⟩ = some (.int .i64 ((rd_T29 l0 x6_1).f1))) ∧ (w'.heap[gb101]? = some (.cells #[.int .i64 a1_0, .int .i64 a1_1] 29 (0, 0))) ∧ (Below w.heap.size w w')) ?_ ?_
           rotate_left
           ·intro hJ6
            refine join_ (σ := Nat) 4 #[true, true, true, true, true, true, false, true, false, false, false] (fun s_ => [(7, .pointer (some ⟨s_, 0, none⟩))]) (fun s_ w' => (w'.cell? (ad102.add ((x6_1).toNat * 2)) = some (.int .i64 ((rd_T29 l0 x6_1).f0)) ∧ w'.cell? ⟨(ad102.add ((x6_1).toNat * 2)).block, (ad102.add ((x6_1).toNat * 2)).off + 1, none⟩ = some (.int .i64 ((rd_T29 l0 x6_1).f1))) ∧ (w'.heap[gb101]? = some (.cells #[.int .i64 a1_0, .int .i64 a1_1] 29 (0, 0))) ∧ (w'.heap[s_]? = some (.cells #[.int .i64 0, .int .i64 0] 29 (0, 0))) ∧ (w.heap.size ≤ s_) ∧ (w.heap.size ≤ s_) ∧ (gb101 ≠ s_) ∧ (s_ ≠ gb101) ∧ (Below w.heap.size w w')) ?_ ?_
            rotate_left
            ·intro hJ7
             refine join_ (σ := Nat) 4 #[true, true, true, true, true, true, false, false, true, false, false] (fun s_ => [(8, .pointer (some ⟨s_, 0, none⟩))]) (fun s_ w' => (w'.cell? (ad102.add ((x6_1).toNat * 2)) = some (.int .i64 ((rd_T29 l0 x6_1).f0)) ∧ w'.cell? ⟨(ad102.add ((x6_1).toNat * 2)).block, (ad102.add ((x6_1).toNat * 2)).off + 1, none⟩ = some (.int .i64 ((rd_T29 l0 x6_1).f1))) ∧ (w'.heap[gb101]? = some (.cells #[.int .i64 a1_0, .int .i64 a1_1] 29 (0, 0))) ∧ (w'.heap[s_]? = some (.cells #[.int .i64 0, .int .i64 0] 29 (0, 0))) ∧ (w.heap.size ≤ s_) ∧ (w.heap.size ≤ s_) ∧ (gb101 ≠ s_) ∧ (s_ ≠ gb101) ∧ (Below w.heap.size w w')) ?_ ?_
             rotate_left
             ·intro hJ8
              refine three_ (i := 6) (j := 7) (k := 8) (Ni := some 22) (Nj := some 7) (Nk := some 8) #[true, true, true, true, true, true, true, false, false, false, false] #[true, true, true, true, true, true, false, true, false, false, false] #[true, true, true, true, true, true, false, false, true, false, false] rfl rfl rfl rfl rfl rfl (on3 HT_) (by decide) (by decide) (by decide) (fun K hK => ?_) (fun K hK => ?_) (fun K hK => ?_)
              ·skip
               refine goes_ Try.func64 (by kernel_rfl) rfl #[.slice (some ad102) l0.length c0, .int .i64 x6_1] (by rfl) rfl rfl sg ?_
               with_reducible refine (cracknelref04_next.calls _ _ l0 x6_1 t103 t104 _ ?side1 ?side2 A6.out).mono ?_
               (case side1 => exact cs (Kd.C_below HR0.out HB.out))
               (case side2 => exact HC0.out)
               rintro e w29 ⟨rfl, hb⟩
               refine ⟨_, rfl, ?_⟩
               replace BK101 := kb BK101 hb
               replace HB := Aside0.mk (below_step bh hb)
               (try clear hb); (try clear hb2); (try clear hk); (try clear hi)
               refine hK.out _ _ ⟨(hc HB hw102_0), (hc HB hw102_1)⟩ (fun hHeld => ?_)
               clear hK K
               refine nm 22 ?_
               exact norm_ pa (hJ6 () _ ⟨hHeld, bk BK101, bh⟩)
              ·skip
               refine bxs 7 #[.int .i64 0, .int .i64 0] 29 ?_
               intro gb105 hg w29 hbox hb
               have BK105 := Aside0.mk (hbox)
               have GW105 := Aside0.mk (gs hg : w.heap.size ≤ gb105)
               have GE105 := Aside0.mk (gs hg : w.heap.size ≤ gb105)
               have NB101_105 := Aside0.mk ((by rw [hg]; exact Nat.ne_of_lt (kl BK101) : gb101 ≠ gb105))
               have NB105_101 := Aside0.mk ((by rw [hg]; exact Nat.ne_of_gt (kl BK101) : gb105 ≠ gb101))
               replace BK101 := kb BK101 hb
               replace HB := Aside0.mk (below_step bh hb)
               clear hb hbox hg
               refine hK.out _ _ ⟨(hc HB hw102_0), (hc HB hw102_1)⟩ (fun hHeld => ?_)
               clear hK K
               refine nm 7 ?_
               exact norm_ pa (hJ7 (gb105) _ ⟨hHeld, bk BK101, bk BK105, GW105.out, GE105.out, NB101_105.out, NB105_101.out, bh⟩)
              ·skip
               refine bxs 8 #[.int .i64 0, .int .i64 0] 29 ?_
               intro gb106 hg w29 hbox hb
               have BK106 := Aside0.mk (hbox)
               have GW106 := Aside0.mk (gs hg : w.heap.size ≤ gb106)
               have GE106 := Aside0.mk (gs hg : w.heap.size ≤ gb106)
               have NB101_106 := Aside0.mk ((by rw [hg]; exact Nat.ne_of_lt (kl BK101) : gb101 ≠ gb106))
               have NB106_101 := Aside0.mk ((by rw [hg]; exact Nat.ne_of_gt (kl BK101) : gb106 ≠ gb101))
               replace BK101 := kb BK101 hb
               replace HB := Aside0.mk (below_step bh hb)
               clear hb hbox hg
               refine hK.out _ _ ⟨(hc HB hw102_0), (hc HB hw102_1)⟩ (fun hHeld => ?_)
               clear hK K
               refine nm 8 ?_
               exact norm_ pa (hJ8 (gb106) _ ⟨hHeld, bk BK101, bk BK106, GW106.out, GE106.out, NB101_106.out, NB106_101.out, bh⟩)
             ·skip
              rintro gb106 w30 ⟨hS_, h0_, h1_, h2_, h3_, h4_, h5_, h6_⟩
              have BK106 := Aside0.mk h1_
              have GW106 := Aside0.mk h2_
              have GE106 := Aside0.mk h3_
              have NB101_106 := Aside0.mk h4_
              have NB106_101 := Aside0.mk h5_
              replace BK101 := Aside0.mk h0_
              replace HB := Aside0.mk h6_
              clear h0_ h1_ h2_ h3_ h4_ h5_ h6_
              have hHeld := hS_
              refine nn ?_
              refine two_ (i := 6) (j := 7) (Ni := some 22) (Nj := some 7) #[true, true, true, true, true, true, true, false, true, false, false] #[true, true, true, true, true, true, false, true, true, false, false] rfl rfl rfl rfl (on2 HT_) (by decide) (by decide) (fun K hK => ?_) (fun K hK => ?_)
              ·skip
               refine goes_ Try.func64 (by kernel_rfl) rfl #[.slice (some ad102) l0.length c0, .int .i64 x6_1] (by rfl) rfl rfl sg ?_
               with_reducible refine (cracknelref04_next.calls _ _ l0 x6_1 t103 t104 _ ?side1 ?side2 A6.out).mono ?_
               (case side1 => exact cs (Kd.C_below HR0.out HB.out))
               (case side2 => exact HC0.out)
               rintro e w31 ⟨rfl, hb⟩
               refine ⟨_, rfl, ?_⟩
               replace BK101 := kb BK101 hb
               replace BK106 := kb BK106 hb
               replace HB := Aside0.mk (below_step bh hb)
               (try clear hb); (try clear hb2); (try clear hk); (try clear hi)
               refine hK.out _ _ ⟨(hc HB hw102_0), (hc HB hw102_1)⟩ (fun hHeld => ?_)
               clear hK K
               refine nm 22 ?_
               exact norm_ pa (hJ6_8 (gb106) _ ⟨hHeld, bk BK101, bk BK106, GW106.out, GE106.out, NB101_106.out, NB106_101.out, bh⟩)
              ·skip
               refine bxs 7 #[.int .i64 0, .int .i64 0] 29 ?_
               intro gb105 hg w31 hbox hb
               have BK105 := Aside0.mk (hbox)
               have GW105 := Aside0.mk (gs hg : w.heap.size ≤ gb105)
               have GE105 := Aside0.mk (gs hg : w.heap.size ≤ gb105)
               have NB101_105 := Aside0.mk ((by rw [hg]; exact Nat.ne_of_lt (kl BK101) : gb101 ≠ gb105))
               have NB105_101 := Aside0.mk ((by rw [hg]; exact Nat.ne_of_gt (kl BK101) : gb105 ≠ gb101))
               have NB106_105 := Aside0.mk ((by rw [hg]; exact Nat.ne_of_lt (kl BK106) : gb106 ≠ gb105))
               have NB105_106 := Aside0.mk ((by rw [hg]; exact Nat.ne_of_gt (kl BK106) : gb105 ≠ gb106))
               replace BK101 := kb BK101 hb
               replace BK106 := kb BK106 hb
               replace HB := Aside0.mk (below_step bh hb)
               clear hb hbox hg
               refine hK.out _ _ ⟨(hc HB hw102_0), (hc HB hw102_1)⟩ (fun hHeld => ?_)
               clear hK K
               refine nm 7 ?_
               exact norm_ pa (hJ7_8 (gb105, gb106) _ ⟨hHeld, bk BK101, bk BK105, bk BK106, GW105.out, GE105.out, NB101_105.out, NB105_101.out, NB106_105.out, NB105_106.out, GW106.out, GE106.out, NB101_106.out, NB106_101.out, bh⟩)
            ·skip
             rintro gb105 w30 ⟨hS_, h0_, h1_, h2_, h3_, h4_, h5_, h6_⟩
             have BK105 := Aside0.mk h1_
             have GW105 := Aside0.mk h2_
             have GE105 := Aside0.mk h3_
             have NB101_105 := Aside0.mk h4_
             have NB105_101 := Aside0.mk h5_
             replace BK101 := Aside0.mk h0_
             replace HB := Aside0.mk h6_
             clear h0_ h1_ h2_ h3_ h4_ h5_ h6_
             have hHeld := hS_
             refine nn ?_
             refine two_ (i := 6) (j := 8) (Ni := some 22) (Nj := some 8) #[true, true, true, true, true, true, true, true, false, false, false] #[true, true, true, true, true, true, false, true, true, false, false] rfl rfl rfl rfl (on2 HT_) (by decide) (by decide) (fun K hK => ?_) (fun K hK => ?_)
             ·skip
              refine goes_ Try.func64 (by kernel_rfl) rfl #[.slice (some ad102) l0.length c0, .int .i64 x6_1] (by rfl) rfl rfl sg ?_
              with_reducible refine (cracknelref04_next.calls _ _ l0 x6_1 t103 t104 _ ?side1 ?side2 A6.out).mono ?_
              (case side1 => exact cs (Kd.C_below HR0.out HB.out))
              (case side2 => exact HC0.out)
              rintro e w31 ⟨rfl, hb⟩
              refine ⟨_, rfl, ?_⟩
              replace BK101 := kb BK101 hb
              replace BK105 := kb BK105 hb
              replace HB := Aside0.mk (below_step bh hb)
              (try clear hb); (try clear hb2); (try clear hk); (try clear hi)
              refine hK.out _ _ ⟨(hc HB hw102_0), (hc HB hw102_1)⟩ (fun hHeld => ?_)
              clear hK K
              refine nm 22 ?_
              exact norm_ pa (hJ6_7 (gb105) _ ⟨hHeld, bk BK101, bk BK105, GW105.out, GE105.out, NB101_105.out, NB105_101.out, bh⟩)
             ·skip
              refine bxs 8 #[.int .i64 0, .int .i64 0] 29 ?_
              intro gb106 hg w31 hbox hb
              have BK106 := Aside0.mk (hbox)
              have GW106 := Aside0.mk (gs hg : w.heap.size ≤ gb106)
              have GE106 := Aside0.mk (gs hg : w.heap.size ≤ gb106)
              have NB101_106 := Aside0.mk ((by rw [hg]; exact Nat.ne_of_lt (kl BK101) : gb101 ≠ gb106))
              have NB106_101 := Aside0.mk ((by rw [hg]; exact Nat.ne_of_gt (kl BK101) : gb106 ≠ gb101))
              have NB105_106 := Aside0.mk ((by rw [hg]; exact Nat.ne_of_lt (kl BK105) : gb105 ≠ gb106))
              have NB106_105 := Aside0.mk ((by rw [hg]; exact Nat.ne_of_gt (kl BK105) : gb106 ≠ gb105))
              replace BK101 := kb BK101 hb
              replace BK105 := kb BK105 hb
              replace HB := Aside0.mk (below_step bh hb)
              clear hb hbox hg
              refine hK.out _ _ ⟨(hc HB hw102_0), (hc HB hw102_1)⟩ (fun hHeld => ?_)
              clear hK K
              refine nm 8 ?_
              exact norm_ pa (hJ7_8 (gb105, gb106) _ ⟨hHeld, bk BK101, bk BK105, bk BK106, GW105.out, GE105.out, NB101_105.out, NB105_101.out, NB106_105.out, NB105_106.out, GW106.out, GE106.out, NB101_106.out, NB106_101.out, bh⟩)
           ·skip
            rintro _ w30 ⟨hS_, h0_, h1_⟩
            replace BK101 := Aside0.mk h0_
            replace HB := Aside0.mk h1_
            clear h0_ h1_
            have hHeld := hS_
            refine nn ?_
            refine two_ (i := 7) (j := 8) (Ni := some 7) (Nj := some 8) #[true, true, true, true, true, true, true, true, false, false, false] #[true, true, true, true, true, true, true, false, true, false, false] rfl rfl rfl rfl (on2 HT_) (by decide) (by decide) (fun K hK => ?_) (fun K hK => ?_)
            ·skip
             refine bxs 7 #[.int .i64 0, .int .i64 0] 29 ?_
             intro gb105 hg w31 hbox hb
             have BK105 := Aside0.mk (hbox)
             have GW105 := Aside0.mk (gs hg : w.heap.size ≤ gb105)
             have GE105 := Aside0.mk (gs hg : w.heap.size ≤ gb105)
             have NB101_105 := Aside0.mk ((by rw [hg]; exact Nat.ne_of_lt (kl BK101) : gb101 ≠ gb105))
             have NB105_101 := Aside0.mk ((by rw [hg]; exact Nat.ne_of_gt (kl BK101) : gb105 ≠ gb101))
             replace BK101 := kb BK101 hb
             replace HB := Aside0.mk (below_step bh hb)
             clear hb hbox hg
             refine hK.out _ _ ⟨(hc HB hw102_0), (hc HB hw102_1)⟩ (fun hHeld => ?_)
             clear hK K
             refine nm 7 ?_
             exact norm_ pa (hJ6_7 (gb105) _ ⟨hHeld, bk BK101, bk BK105, GW105.out, GE105.out, NB101_105.out, NB105_101.out, bh⟩)
            ·skip
             refine bxs 8 #[.int .i64 0, .int .i64 0] 29 ?_
             intro gb106 hg w31 hbox hb
             have BK106 := Aside0.mk (hbox)
             have GW106 := Aside0.mk (gs hg : w.heap.size ≤ gb106)
             have GE106 := Aside0.mk (gs hg : w.heap.size ≤ gb106)
             have NB101_106 := Aside0.mk ((by rw [hg]; exact Nat.ne_of_lt (kl BK101) : gb101 ≠ gb106))
             have NB106_101 := Aside0.mk ((by rw [hg]; exact Nat.ne_of_gt (kl BK101) : gb106 ≠ gb101))
             replace BK101 := kb BK101 hb
             replace HB := Aside0.mk (below_step bh hb)
             clear hb hbox hg
             refine hK.out _ _ ⟨(hc HB hw102_0), (hc HB hw102_1)⟩ (fun hHeld => ?_)
             clear hK K
             refine nm 8 ?_
             exact norm_ pa (hJ6_8 (gb106) _ ⟨hHeld, bk BK101, bk BK106, GW106.out, GE106.out, NB101_106.out, NB106_101.out, bh⟩)
          ·skip
           rintro ⟨gb105, gb106⟩ w31 ⟨hS_, h0_, h1_, h2_, h3_, h4_, h5_, h6_, h7_, h8_, h9_, h10_, h11_, h12_, h13_⟩
           have BK105 := Aside0.mk h1_
           have BK106 := Aside0.mk h2_
           have GW105 := Aside0.mk h3_
           have GE105 := Aside0.mk h4_
           have NB101_105 := Aside0.mk h5_
           have NB105_101 := Aside0.mk h6_
           have NB106_105 := Aside0.mk h7_
           have NB105_106 := Aside0.mk h8_
           have GW106 := Aside0.mk h9_
           have GE106 := Aside0.mk h10_
           have NB101_106 := Aside0.mk h11_
           have NB106_101 := Aside0.mk h12_
           replace BK101 := Aside0.mk h0_
           replace HB := Aside0.mk h13_
           clear h0_ h1_ h2_ h3_ h4_ h5_ h6_ h7_ h8_ h9_ h10_ h11_ h12_ h13_
           have hHeld := hS_
           refine nn ?_
           refine one_ (i := 6) (N := some 22) #[true, true, true, true, true, true, true, true, true, false, false] rfl rfl (on1 HT_) (by decide) (fun K hK => ?_)
           refine goes_ Try.func64 (by kernel_rfl) rfl #[.slice (some ad102) l0.length c0, .int .i64 x6_1] (by rfl) rfl rfl sg ?_
           with_reducible refine (cracknelref04_next.calls _ _ l0 x6_1 t103 t104 _ ?side1 ?side2 A6.out).mono ?_
           (case side1 => exact cs (Kd.C_below HR0.out HB.out))
           (case side2 => exact HC0.out)
           rintro e w32 ⟨rfl, hb⟩
           refine ⟨_, rfl, ?_⟩
           replace BK101 := kb BK101 hb
           replace BK105 := kb BK105 hb
           replace BK106 := kb BK106 hb
           replace HB := Aside0.mk (below_step bh hb)
           (try clear hb); (try clear hb2); (try clear hk); (try clear hi)
           refine hK.out _ _ ⟨(hc HB hw102_0), (hc HB hw102_1)⟩ (fun hHeld => ?_)
           clear hK K
           refine nm 22 ?_
           exact norm_ pa (hJ6_7_8 (gb105, gb106) _ ⟨hHeld, bk BK101, bk BK105, bk BK106, GW105.out, GE105.out, NB101_105.out, NB105_101.out, NB106_105.out, NB105_106.out, GW106.out, GE106.out, NB101_106.out, NB106_101.out, bh⟩)
         ·skip
          rintro gb106 w31 ⟨hS_, h0_, h1_, h2_, h3_, h4_, h5_, h6_⟩
          have BK106 := Aside0.mk h1_
          have GW106 := Aside0.mk h2_
          have GE106 := Aside0.mk h3_
          have NB101_106 := Aside0.mk h4_
          have NB106_101 := Aside0.mk h5_
          replace BK101 := Aside0.mk h0_
          replace HB := Aside0.mk h6_
          clear h0_ h1_ h2_ h3_ h4_ h5_ h6_
          have hHeld := hS_
          refine nn ?_
          refine one_ (i := 7) (N := some 7) #[true, true, true, true, true, true, true, true, true, false, false] rfl rfl (on1 HT_) (by decide) (fun K hK => ?_)
          refine bxs 7 #[.int .i64 0, .int .i64 0] 29 ?_
          intro gb105 hg w32 hbox hb
          have BK105 := Aside0.mk (hbox)
          have GW105 := Aside0.mk (gs hg : w.heap.size ≤ gb105)
          have GE105 := Aside0.mk (gs hg : w.heap.size ≤ gb105)
          have NB101_105 := Aside0.mk ((by rw [hg]; exact Nat.ne_of_lt (kl BK101) : gb101 ≠ gb105))
          have NB105_101 := Aside0.mk ((by rw [hg]; exact Nat.ne_of_gt (kl BK101) : gb105 ≠ gb101))
          have NB106_105 := Aside0.mk ((by rw [hg]; exact Nat.ne_of_lt (kl BK106) : gb106 ≠ gb105))
          have NB105_106 := Aside0.mk ((by rw [hg]; exact Nat.ne_of_gt (kl BK106) : gb105 ≠ gb106))
          replace BK101 := kb BK101 hb
          replace BK106 := kb BK106 hb
          replace HB := Aside0.mk (below_step bh hb)
          clear hb hbox hg
          refine hK.out _ _ ⟨(hc HB hw102_0), (hc HB hw102_1)⟩ (fun hHeld => ?_)
          clear hK K
          refine nm 7 ?_
          exact norm_ pa (hJ6_7_8 (gb105, gb106) _ ⟨hHeld, bk BK101, bk BK105, bk BK106, GW105.out, GE105.out, NB101_105.out, NB105_101.out, NB106_105.out, NB105_106.out, GW106.out, GE106.out, NB101_106.out, NB106_101.out, bh⟩)
        ·skip
         rintro gb105 w31 ⟨hS_, h0_, h1_, h2_, h3_, h4_, h5_, h6_⟩
         have BK105 := Aside0.mk h1_
         have GW105 := Aside0.mk h2_
         have GE105 := Aside0.mk h3_
         have NB101_105 := Aside0.mk h4_
         have NB105_101 := Aside0.mk h5_
         replace BK101 := Aside0.mk h0_
         replace HB := Aside0.mk h6_
         clear h0_ h1_ h2_ h3_ h4_ h5_ h6_
         have hHeld := hS_
         refine nn ?_
         refine one_ (i := 8) (N := some 8) #[true, true, true, true, true, true, true, true, true, false, false] rfl rfl (on1 HT_) (by decide) (fun K hK => ?_)
         refine bxs 8 #[.int .i64 0, .int .i64 0] 29 ?_
         intro gb106 hg w32 hbox hb
         have BK106 := Aside0.mk (hbox)
         have GW106 := Aside0.mk (gs hg : w.heap.size ≤ gb106)
         have GE106 := Aside0.mk (gs hg : w.heap.size ≤ gb106)
         have NB101_106 := Aside0.mk ((by rw [hg]; exact Nat.ne_of_lt (kl BK101) : gb101 ≠ gb106))
         have NB106_101 := Aside0.mk ((by rw [hg]; exact Nat.ne_of_gt (kl BK101) : gb106 ≠ gb101))
         have NB105_106 := Aside0.mk ((by rw [hg]; exact Nat.ne_of_lt (kl BK105) : gb105 ≠ gb106))
         have NB106_105 := Aside0.mk ((by rw [hg]; exact Nat.ne_of_gt (kl BK105) : gb106 ≠ gb105))
         replace BK101 := kb BK101 hb
         replace BK105 := kb BK105 hb
         replace HB := Aside0.mk (below_step bh hb)
         clear hb hbox hg
         refine hK.out _ _ ⟨(hc HB hw102_0), (hc HB hw102_1)⟩ (fun hHeld => ?_)
         clear hK K
         refine nm 8 ?_
         exact norm_ pa (hJ6_7_8 (gb105, gb106) _ ⟨hHeld, bk BK101, bk BK105, bk BK106, GW105.out, GE105.out, NB101_105.out, NB105_101.out, NB106_105.out, NB105_106.out, GW106.out, GE106.out, NB101_106.out, NB106_101.out, bh⟩)
       rintro ⟨gb105, gb106⟩ w32 ⟨hS_, h0_, h1_, h2_, h3_, h4_, h5_, h6_, h7_, h8_, h9_, h10_, h11_, h12_, h13_⟩
       have BK105 := Aside0.mk h1_
       have BK106 := Aside0.mk h2_
       have GW105 := Aside0.mk h3_
       have GE105 := Aside0.mk h4_
       have NB101_105 := Aside0.mk h5_
       have NB105_101 := Aside0.mk h6_
       have NB106_105 := Aside0.mk h7_
       have NB105_106 := Aside0.mk h8_
       have GW106 := Aside0.mk h9_
       have GE106 := Aside0.mk h10_
       have NB101_106 := Aside0.mk h11_
       have NB106_101 := Aside0.mk h12_
       replace BK101 := Aside0.mk h0_
       replace HB := Aside0.mk h13_
       clear h0_ h1_ h2_ h3_ h4_ h5_ h6_ h7_ h8_ h9_ h10_ h11_ h12_ h13_
       have hHeld := hS_
       refine nn ?_
       refine one_ (i := 9) (N := none) #[true, true, true, true, true, true, true, true, true, true, false] rfl rfl (on1 HT_) (by decide) (fun K hK => ?_)
       have hs33 : w32.cell? ⟨gb105, 0, none⟩ = some (.int .i64 0) := bc BK105 0
       have hfs33 := blk_frozen BK105.out 0
       have hns33_0 := NB101_105.out
       have hns33_2 := NB106_105.out
       have hms33_0 := NB105_101.out
       have hms33_2 := NB105_106.out
       have hs34 : w32.cell? ⟨gb105, 1, none⟩ = some (.int .i64 0) := bc BK105 1
       have hfs34 := blk_frozen BK105.out 1
       have hns34_0 := NB101_105.out
       have hns34_2 := NB106_105.out
       have hms34_0 := NB105_101.out
       have hms34_2 := NB105_106.out
       refine skip_ (w1 := ?_) (by rfl) rfl ?_ ?_
       rotate_left
       ·go_simp
        rfl
       refine hK.out _ _ ⟨((cell_far (p := ⟨gb105, _, none⟩) (fr hw102_0 GW105) _).trans (((cell_far (p := ⟨gb105, _, none⟩) (fr hw102_0 GW105) _).trans (hHeld.1)))), ((cell_far (p := ⟨gb105, _, none⟩) (fr hw102_1 GW105) _).trans (((cell_far (p := ⟨gb105, _, none⟩) (fr hw102_1 GW105) _).trans (hHeld.2))))⟩ (fun hHeld => ?_)
       clear hK K
       refine one_ (i := 10) (N := none) #[true, true, true, true, true, true, true, true, true, true, true] rfl rfl (on1 HT_) (by decide) (fun K hK => ?_)
       have hs35 : w32.cell? ⟨gb106, 0, none⟩ = some (.int .i64 0) := bc BK106 0
       have hfs35 := blk_frozen BK106.out 0
       have hns35_0 := NB101_106.out
       have hns35_1 := NB105_106.out
       have hms35_0 := NB106_101.out
       have hms35_1 := NB106_105.out
       have hs36 : w32.cell? ⟨gb106, 1, none⟩ = some (.int .i64 0) := bc BK106 1
       have hfs36 := blk_frozen BK106.out 1
       have hns36_0 := NB101_106.out
       have hns36_1 := NB105_106.out
       have hms36_0 := NB106_101.out
       have hms36_1 := NB106_105.out
       refine skip_ (w1 := ?_) (by rfl) rfl ?_ ?_
       rotate_left
       ·go_simp
        rfl
       refine hK.out _ _ ⟨((cell_far (p := ⟨gb106, _, none⟩) (fr hw102_0 GW106) _).trans (((cell_far (p := ⟨gb106, _, none⟩) (fr hw102_0 GW106) _).trans (hHeld.1)))), ((cell_far (p := ⟨gb106, _, none⟩) (fr hw102_1 GW106) _).trans (((cell_far (p := ⟨gb106, _, none⟩) (fr hw102_1 GW106) _).trans (hHeld.2))))⟩ (fun hHeld => ?_)
       clear hK K
       refine done_ (done_of HT_.out (by kernel_rfl)) ?_
       have hnb37 := NB105_101.out
       have hnc37 := NB101_105.out
       have hnb38 := NB105_106.out
       have hnc38 := NB106_105.out
       obtain ⟨hcz39_0, hcz39_1, hfz39_0, hfz39_1⟩ := b2 BK105
       have hnb40 := NB106_101.out
       have hnc40 := NB101_106.out
       obtain ⟨hcz41_0, hcz41_1, hfz41_0, hfz41_1⟩ := b2 BK106
       obtain ⟨hcz42_0, hcz42_1, hfz42_0, hfz42_1⟩ := b2 BK101
       go_upto_if 46 with (first | ((with_reducible refine gate_callee (f := 62) rfl ?_); refine goesL_ (some 26) rfl rfl Try.func62 (by kernel_rfl) rfl #[.agg #[.int .i64 ((rd_T29 l0 x6_1).f0), .int .i64 ((rd_T29 l0 x6_1).f1)], .agg #[.int .i64 t103, .int .i64 t104], .agg #[.int .i64 a1_0, .int .i64 a1_1]] rfl sg ?_; (with_reducible refine (cracknelref04_On.calls ((rd_T29 l0 x6_1).f0) ((rd_T29 l0 x6_1).f1) t103 t104 a1_0 a1_1 false _ A7.out).mono ?_); rintro e w43 ⟨rfl, hb⟩; refine ⟨_, rfl, ?_⟩; have n0_ := Aside0.mk (blk_below (g := gb101) (o := .cells #[.int .i64 a1_0, .int .i64 a1_1] 29 (0, 0)) (by (with_reducible repeat (first | refine blk_drewN ?_ _ | refine blk_drew ?_ | refine blk_alloc ?_ _)); refine blk_far ?_ NB101_106.out _; (with_reducible repeat (first | refine blk_drewN ?_ _ | refine blk_drew ?_ | refine blk_alloc ?_ _)); refine blk_far ?_ NB101_106.out _; (with_reducible repeat (first | refine blk_drewN ?_ _ | refine blk_drew ?_ | refine blk_alloc ?_ _)); refine blk_far ?_ NB101_105.out _; (with_reducible repeat (first | refine blk_drewN ?_ _ | refine blk_drew ?_ | refine blk_alloc ?_ _)); refine blk_far ?_ NB101_105.out _; (with_reducible repeat (first | refine blk_drewN ?_ _ | refine blk_drew ?_ | refine blk_alloc ?_ _)); exact BK101.out) hb); have n1_ := Aside0.mk (blk_below (g := gb105) (o := .cells #[.int .i64 ((rd_T29 l0 x6_1).f0), .int .i64 ((rd_T29 l0 x6_1).f1)] 29 (0, 0)) (by (with_reducible repeat (first | refine blk_drewN ?_ _ | refine blk_drew ?_ | refine blk_alloc ?_ _)); refine blk_far ?_ NB105_106.out _; (with_reducible repeat (first | refine blk_drewN ?_ _ | refine blk_drew ?_ | refine blk_alloc ?_ _)); refine blk_far ?_ NB105_106.out _; (with_reducible repeat (first | refine blk_drewN ?_ _ | refine blk_drew ?_ | refine blk_alloc ?_ _)); refine blk_put (cs := #[.int .i64 ((rd_T29 l0 x6_1).f0), .int .i64 0]) ?_ 1 _ rfl; (with_reducible repeat (first | refine blk_drewN ?_ _ | refine blk_drew ?_ | refine blk_alloc ?_ _)); refine blk_put (cs := #[.int .i64 0, .int .i64 0]) ?_ 0 _ rfl; (with_reducible repeat (first | refine blk_drewN ?_ _ | refine blk_drew ?_ | refine blk_alloc ?_ _)); exact BK105.out) hb); have n2_ := Aside0.mk (blk_below (g := gb106) (o := .cells #[.int .i64 t103, .int .i64 t104] 29 (0, 0)) (by (with_reducible repeat (first | refine blk_drewN ?_ _ | refine blk_drew ?_ | refine blk_alloc ?_ _)); refine blk_put (cs := #[.int .i64 t103, .int .i64 0]) ?_ 1 _ rfl; (with_reducible repeat (first | refine blk_drewN ?_ _ | refine blk_drew ?_ | refine blk_alloc ?_ _)); refine blk_put (cs := #[.int .i64 0, .int .i64 0]) ?_ 0 _ rfl; (with_reducible repeat (first | refine blk_drewN ?_ _ | refine blk_drew ?_ | refine blk_alloc ?_ _)); refine blk_far ?_ NB106_105.out _; (with_reducible repeat (first | refine blk_drewN ?_ _ | refine blk_drew ?_ | refine blk_alloc ?_ _)); refine blk_far ?_ NB106_105.out _; (with_reducible repeat (first | refine blk_drewN ?_ _ | refine blk_drew ?_ | refine blk_alloc ?_ _)); exact BK106.out) hb); have n3_ := Aside0.mk (below_step bh hb); clear BK101; clear BK105; clear BK106; clear HB; have BK101 := n0_; have BK105 := n1_; have BK106 := n2_; have HB := n3_; clear n0_ n1_ n2_ n3_; (try clear hb); (try clear hb2); (try clear hk); (try clear hi); have hcz44_0 : w43.cell? ⟨gb105, 0, none⟩ = some (.int .i64 ((rd_T29 l0 x6_1).f0)) := bc BK105 0; have hcz44_1 : w43.cell? ⟨gb105, 1, none⟩ = some (.int .i64 ((rd_T29 l0 x6_1).f1)) := bc BK105 1; have hfz44_0 := blk_frozen BK105.out 0; have hfz44_1 := blk_frozen BK105.out 1; have hcz45_0 : w43.cell? ⟨gb101, 0, none⟩ = some (.int .i64 a1_0) := bc BK101 0; have hcz45_1 : w43.cell? ⟨gb101, 1, none⟩ = some (.int .i64 a1_1) := bc BK101 1; have hfz45_0 := blk_frozen BK101.out 0; have hfz45_1 := blk_frozen BK101.out 1; have hcz46_0 : w43.cell? ⟨gb106, 0, none⟩ = some (.int .i64 t103) := bc BK106 0; have hcz46_1 : w43.cell? ⟨gb106, 1, none⟩ = some (.int .i64 t104) := bc BK106 1; have hfz46_0 := blk_frozen BK106.out 0; have hfz46_1 := blk_frozen BK106.out 1) | ((with_reducible refine gate_callee (f := 61) rfl ?_); refine goesL_ (some 41) rfl rfl Try.func61 (by kernel_rfl) rfl #[.agg #[.int .i64 ((rd_T29 l0 x6_1).f0), .int .i64 ((rd_T29 l0 x6_1).f1)], .agg #[.int .i64 t103, .int .i64 t104], .agg #[.int .i64 a1_0, .int .i64 a1_1]] rfl sg ?_; (with_reducible refine (cracknelref04_Cross.calls ((rd_T29 l0 x6_1).f0) ((rd_T29 l0 x6_1).f1) t103 t104 a1_0 a1_1 t108 _ A26.out).mono ?_); rintro e w47 ⟨rfl, hb⟩; refine ⟨_, rfl, ?_⟩; have n0_ := kb BK101 hb; have n1_ := kb BK105 hb; have n2_ := kb BK106 hb; have n3_ := Aside0.mk (below_step bh hb); clear BK101; clear BK105; clear BK106; clear HB; have BK101 := n0_; have BK105 := n1_; have BK106 := n2_; have HB := n3_; clear n0_ n1_ n2_ n3_; (try clear hb); (try clear hb2); (try clear hk); (try clear hi); have hcz48_0 : w47.cell? ⟨gb106, 0, none⟩ = some (.int .i64 t103) := bc BK106 0; have hcz48_1 : w47.cell? ⟨gb106, 1, none⟩ = some (.int .i64 t104) := bc BK106 1; have hfz48_0 := blk_frozen BK106.out 0; have hfz48_1 := blk_frozen BK106.out 1; have hcz49_0 : w47.cell? ⟨gb105, 0, none⟩ = some (.int .i64 ((rd_T29 l0 x6_1).f0)) := bc BK105 0; have hcz49_1 : w47.cell? ⟨gb105, 1, none⟩ = some (.int .i64 ((rd_T29 l0 x6_1).f1)) := bc BK105 1; have hfz49_0 := blk_frozen BK105.out 0; have hfz49_1 := blk_frozen BK105.out 1))
       (try simp only [Act.put, List.setIfInBounds_toArray, List.set_cons_zero, List.set_cons_succ])
       go_cut [9] (fun v9 wc => ∃ (kq : Nat) (x9_26 : Int), v9 = .int .i64 x9_26 ∧ Aside0 (cracknelref04_Where.j1 kq l0 x5_1 x6_1 x9_26 a1_0 a1_1 = some r) ∧ Aside0 (kq ≤ k1) ∧ Aside0 (wc.heap[gb101]? = some (.cells #[.int .i64 a1_0, .int .i64 a1_1] 29 (0, 0))) ∧ Aside0 (wc.heap[gb105]? = some (.cells #[.int .i64 ((rd_T29 l0 x6_1).f0), .int .i64 ((rd_T29 l0 x6_1).f1)] 29 (0, 0))) ∧ Aside0 (wc.heap[gb106]? = some (.cells #[.int .i64 t103, .int .i64 t104] 29 (0, 0))) ∧ Aside0 (Below w.heap.size w wc))
       case first =>
        have H := HC27.out
        clear HC27
        by_cases c50 : t104 < ((rd_T29 l0 x6_1).f1)
        ·rw [if_pos c50] at H
         have c50b0 : decide (t104 < ((rd_T29 l0 x6_1).f1)) = true := decide_eq_true c50
         clear c50
         (first | rw [c50b0] | (simp only [i64_w, i32_w]; rw [c50b0]) | skip)
         have H' := Aside0.mk H
         clear H
         go_wp2
         go_meet
         case rel => exact ⟨_, (wrap64 (-t108)), sd, H', ⟨by have := HK1.out; first | omega | exact Nat.le_refl _⟩, ⟨bk BK101⟩, ⟨bk BK105⟩, ⟨bk BK106⟩, ⟨bh⟩⟩
        ·rw [if_neg c50] at H
         have c50b0 : decide (t104 < ((rd_T29 l0 x6_1).f1)) = false := decide_eq_false c50
         clear c50
         (first | rw [c50b0] | (simp only [i64_w, i32_w]; rw [c50b0]) | skip)
         have H' := Aside0.mk H
         clear H
         go_wp2
         go_meet
         case rel => exact ⟨_, (t108), sd, H', ⟨by have := HK1.out; first | omega | exact Nat.le_refl _⟩, ⟨bk BK101⟩, ⟨bk BK105⟩, ⟨bk BK106⟩, ⟨bh⟩⟩
       case rest =>
        clear HC27
        try clear p2
        try clear c3
        try clear c4
        try clear c5
        try clear c6
        try clear p6
        try clear c37
        try clear c38
        try clear c40
        try clear c50
        try clear c50b0
        try clear hcz39_0
        try clear hcz39_1
        try clear hcz41_0
        try clear hcz41_1
        try clear hcz42_0
        try clear hcz42_1
        try clear hcz44_0
        try clear hcz44_1
        try clear hcz45_0
        try clear hcz45_1
        try clear hcz46_0
        try clear hcz46_1
        try clear hcz48_0
        try clear hcz48_1
        try clear hcz49_0
        try clear hcz49_1
        try clear hfz39_0
        try clear hfz39_1
        try clear hfz41_0
        try clear hfz41_1
        try clear hfz42_0
        try clear hfz42_1
        try clear hfz44_0
        try clear hfz44_1
        try clear hfz45_0
        try clear hfz45_1
        try clear hfz46_0
        try clear hfz46_1
        try clear hfz48_0
        try clear hfz48_1
        try clear hfz49_0
        try clear hfz49_1
        obtain ⟨kq, x9_26, rfl, HA, HJ26, BK101, BK105, BK106, HB⟩ := hcut
        cases kq with
        | zero => exact absurd HA.out (by simp [cracknelref04_Where.j1])
        | succ kj26 =>
         have H := HA.out
         clear HA
         simp only [cracknelref04_Where.j1] at H
         by_cases c51 : x9_26 > 0
         ·rw [if_pos c51] at H
          have c51b0 : decide (0 < x9_26) = true := decide_eq_true c51
          clear c51
          have H' := Aside0.mk H
          clear H
          go_wp2
          go_roundg kj26
          case measure => have := HK1.out; have := HJ26.out; omega
          case rel => exact ⟨(!x5_1), (wrap64 (x6_1 + 1)), sd, sd, H', ⟨by have := HK1.out; have := HJ26.out; omega⟩, ⟨bk BK101⟩, ⟨bh⟩⟩
         ·rw [if_neg c51] at H
          have c51b0 : decide (0 < x9_26) = false := decide_eq_false c51
          clear c51
          have H' := Aside0.mk H
          clear H
          go_wp2
          go_roundg kj26
          case measure => have := HK1.out; have := HJ26.out; omega
          case rel => exact ⟨(x5_1), (wrap64 (x6_1 + 1)), sd, sd, H', ⟨by have := HK1.out; have := HJ26.out; omega⟩, ⟨bk BK101⟩, ⟨bh⟩⟩
      ·rw [if_neg c25] at H
       have c25b0 : ((decide (((rd_T29 l0 x6_1).f1) > a1_1)) != (decide (t104 > a1_1))) = false := by simpa using c25
       (try (have c25b1 : decide ((decide (((rd_T29 l0 x6_1).f1) > a1_1)) = (decide (t104 > a1_1))) = true := by simpa using c25))
       (try (have c25b2 : ((decide (((rd_T29 l0 x6_1).f1) > a1_1)) == (decide (t104 > a1_1))) = true := by simpa using c25))
       clear c25
       have H' := Aside0.mk H
       clear H
       try go_wp2
       replace BK101 := Aside0.mk (blk_drew BK101.out)
       replace HB := Aside0.mk (below_drew1 HB.out)
       have p102 : 0 ≤ (x6_1 : Int) := dt
       have q102 : x6_1 < (l0.length : Int) := dt
       obtain ⟨ad102, e102, hx102_0, hx102_1⟩ := at_T29 HR0.out x6_1 p102 q102
       have hw102_1 := hx102_1
       have hw102_0 := hx102_0
       cases e102
       replace hx102_0 := hc HB hx102_0
       replace hx102_1 := hc HB hx102_1
       replace p102 := eq_true p102
       replace q102 := eq_true q102
       refine start_ (n := 11) (S := fun w' => w'.cell? (ad102.add ((x6_1).toNat * 2)) = some (.int .i64 ((rd_T29 l0 x6_1).f0)) ∧ w'.cell? ⟨(ad102.add ((x6_1).toNat * 2)).block, (ad102.add ((x6_1).toNat * 2)).off + 1, none⟩ = some (.int .i64 ((rd_T29 l0 x6_1).f1))) (ds := []) #[false, false, false, false, false, false, false, false, false, false, false] (by kernel_rfl) rfl rfl ⟨(hc HB hw102_0), (hc HB hw102_1)⟩ (fun hHeld => ?_); refine with_tabW cracknelref04_Where.tab5 cracknelref04_Where.bits5 (fun HT_ HW_ => ?_)
       generalize wr.drew = w52 at BK101 HB hx102_0 hx102_1 hHeld ⊢
       refine pu 0 16 HT_ ?_
       refine pu 1 17 HT_ ?_
       refine pu 2 18 HT_ ?_
       refine pu 4 20 HT_ ?_
       refine pu 5 21 HT_ ?_
       refine tk2 3 19 hHeld HT_ HW_ ?_
       refine join_ (σ := Nat × Nat) 2 #[true, true, true, true, true, true, true, true, true, false, false] (fun s_ => [(22, .agg #[.int .i64 t103, .int .i64 t104]), (7, .pointer (some ⟨s_.1, 0, none⟩)), (8, .pointer (some ⟨s_.2, 0, none⟩))]) (fun s_ w' => (w'.cell? (ad102.add ((x6_1).toNat * 2)) = some (.int .i64 ((rd_T29 l0 x6_1).f0)) ∧ w'.cell? ⟨(ad102.add ((x6_1).toNat * 2)).block, (ad102.add ((x6_1).toNat * 2)).off + 1, none⟩ = some (.int .i64 ((rd_T29 l0 x6_1).f1))) ∧ (w'.heap[gb101]? = some (.cells #[.int .i64 a1_0, .int .i64 a1_1] 29 (0, 0))) ∧ (w'.heap[s_.1]? = some (.cells #[.int .i64 0, .int .i64 0] 29 (0, 0))) ∧ (w'.heap[s_.2]? = some (.cells #[.int .i64 0, .int .i64 0] 29 (0, 0))) ∧ (w.heap.size ≤ s_.1) ∧ (w.heap.size ≤ s_.1) ∧ (gb101 ≠ s_.1) ∧ (s_.1 ≠ gb101) ∧ (s_.2 ≠ s_.1) ∧ (s_.1 ≠ s_.2) ∧ (w.heap.size ≤ s_.2) ∧ (w.heap.size ≤ s_.2) ∧ (gb101 ≠ s_.2) ∧ (s_.2 ≠ gb101) ∧ (Below w.heap.size w w')) ?_ ?_
       rotate_left
       ·intro hJ6_7_8
        refine join_ (σ := Nat) 3 #[true, true, true, true, true, true, true, true, false, false, false] (fun s_ => [(22, .agg #[.int .i64 t103, .int .i64 t104]), (7, .pointer (some ⟨s_, 0, none⟩))]) (fun s_ w' => (w'.cell? (ad102.add ((x6_1).toNat * 2)) = some (.int .i64 ((rd_T29 l0 x6_1).f0)) ∧ w'.cell? ⟨(ad102.add ((x6_1).toNat * 2)).block, (ad102.add ((x6_1).toNat * 2)).off + 1, none⟩ = some (.int .i64 ((rd_T29 l0 x6_1).f1))) ∧ (w'.heap[gb101]? = some (.cells #[.int .i64 a1_0, .int .i64 a1_1] 29 (0, 0))) ∧ (w'.heap[s_]? = some (.cells #[.int .i64 0, .int .i64 0] 29 (0, 0))) ∧ (w.heap.size ≤ s_) ∧ (w.heap.size ≤ s_) ∧ (gb101 ≠ s_) ∧ (s_ ≠ gb101) ∧ (Below w.heap.size w w')) ?_ ?_
        rotate_left
        ·intro hJ6_7
         refine join_ (σ := Nat) 3 #[true, true, true, true, true, true, true, false, true, false, false] (fun s_ => [(22, .agg #[.int .i64 t103, .int .i64 t104]), (8, .pointer (some ⟨s_, 0, none⟩))]) (fun s_ w' => (w'.cell? (ad102.add ((x6_1).toNat * 2)) = some (.int .i64 ((rd_T29 l0 x6_1).f0)) ∧ w'.cell? ⟨(ad102.add ((x6_1).toNat * 2)).block, (ad102.add ((x6_1).toNat * 2)).off + 1, none⟩ = some (.int .i64 ((rd_T29 l0 x6_1).f1))) ∧ (w'.heap[gb101]? = some (.cells #[.int .i64 a1_0, .int .i64 a1_1] 29 (0, 0))) ∧ (w'.heap[s_]? = some (.cells #[.int .i64 0, .int .i64 0] 29 (0, 0))) ∧ (w.heap.size ≤ s_) ∧ (w.heap.size ≤ s_) ∧ (gb101 ≠ s_) ∧ (s_ ≠ gb101) ∧ (Below w.heap.size w w')) ?_ ?_
         rotate_left
         ·intro hJ6_8
          refine join_ (σ := Nat × Nat) 3 #[true, true, true, true, true, true, false, true, true, false, false] (fun s_ => [(7, .pointer (some ⟨s_.1, 0, none⟩)), (8, .pointer (some ⟨s_.2, 0, none⟩))]) (fun s_ w' => (w'.cell? (ad102.add ((x6_1).toNat * 2)) = some (.int .i64 ((rd_T29 l0 x6_1).f0)) ∧ w'.cell? ⟨(ad102.add ((x6_1).toNat * 2)).block, (ad102.add ((x6_1).toNat * 2)).off + 1, none⟩ = some (.int .i64 ((rd_T29 l0 x6_1).f1))) ∧ (w'.heap[gb101]? = some (.cells #[.int .i64 a1_0, .int .i64 a1_1] 29 (0, 0))) ∧ (w'.heap[s_.1]? = some (.cells #[.int .i64 0, .int .i64 0] 29 (0, 0))) ∧ (w'.heap[s_.2]? = some (.cells #[.int .i64 0, .int .i64 0] 29 (0, 0))) ∧ (w.heap.size ≤ s_.1) ∧ (w.heap.size ≤ s_.1) ∧ (gb101 ≠ s_.1) ∧ (s_.1 ≠ gb101) ∧ (s_.2 ≠ s_.1) ∧ (s_.1 ≠ s_.2) ∧ (w.heap.size ≤ s_.2) ∧ (w.heap.size ≤ s_.2) ∧ (gb101 ≠ s_.2) ∧ (s_.2 ≠ gb101) ∧ (Below w.heap.size w w')) ?_ ?_
          rotate_left
          ·intro hJ7_8
           refine join_ (σ := Unit) 4 #[true, true, true, true, true, true, true, false, false, false, false] (fun s_ => [(22, .agg #[.int .i64 t103, .int .i64 t104])]) (fun s_ w' => (w'.cell? (ad102.add ((x6_1).toNat * 2)) = some (.int .i64 ((rd_T29 l0 x6_1).f0)) ∧ w'.cell? ⟨(ad102.add ((x6_1).toNat * 2)).block, (ad102.add ((x6_1).toNat * 2)).off + 1, none⟩ = some (.int .i64 ((rd_T29 l0 x6_1).f1))) ∧ (w'.heap[gb101]? = some (.cells #[.int .i64 a1_0, .int .i64 a1_1] 29 (0, 0))) ∧ (Below w.heap.size w w')) ?_ ?_
           rotate_left
           ·intro hJ6
            refine join_ (σ := Nat) 4 #[true, true, true, true, true, true, false, true, false, false, false] (fun s_ => [(7, .pointer (some ⟨s_, 0, none⟩))]) (fun s_ w' => (w'.cell? (ad102.add ((x6_1).toNat * 2)) = some (.int .i64 ((rd_T29 l0 x6_1).f0)) ∧ w'.cell? ⟨(ad102.add ((x6_1).toNat * 2)).block, (ad102.add ((x6_1).toNat * 2)).off + 1, none⟩ = some (.int .i64 ((rd_T29 l0 x6_1).f1))) ∧ (w'.heap[gb101]? = some (.cells #[.int .i64 a1_0, .int .i64 a1_1] 29 (0, 0))) ∧ (w'.heap[s_]? = some (.cells #[.int .i64 0, .int .i64 0] 29 (0, 0))) ∧ (w.heap.size ≤ s_) ∧ (w.heap.size ≤ s_) ∧ (gb101 ≠ s_) ∧ (s_ ≠ gb101) ∧ (Below w.heap.size w w')) ?_ ?_
            rotate_left
            ·intro hJ7
             refine join_ (σ := Nat) 4 #[true, true, true, true, true, true, false, false, true, false, false] (fun s_ => [(8, .pointer (some ⟨s_, 0, none⟩))]) (fun s_ w' => (w'.cell? (ad102.add ((x6_1).toNat * 2)) = some (.int .i64 ((rd_T29 l0 x6_1).f0)) ∧ w'.cell? ⟨(ad102.add ((x6_1).toNat * 2)).block, (ad102.add ((x6_1).toNat * 2)).off + 1, none⟩ = some (.int .i64 ((rd_T29 l0 x6_1).f1))) ∧ (w'.heap[gb101]? = some (.cells #[.int .i64 a1_0, .int .i64 a1_1] 29 (0, 0))) ∧ (w'.heap[s_]? = some (.cells #[.int .i64 0, .int .i64 0] 29 (0, 0))) ∧ (w.heap.size ≤ s_) ∧ (w.heap.size ≤ s_) ∧ (gb101 ≠ s_) ∧ (s_ ≠ gb101) ∧ (Below w.heap.size w w')) ?_ ?_
             rotate_left
             ·intro hJ8
              refine three_ (i := 6) (j := 7) (k := 8) (Ni := some 22) (Nj := some 7) (Nk := some 8) #[true, true, true, true, true, true, true, false, false, false, false] #[true, true, true, true, true, true, false, true, false, false, false] #[true, true, true, true, true, true, false, false, true, false, false] rfl rfl rfl rfl rfl rfl (on3 HT_) (by decide) (by decide) (by decide) (fun K hK => ?_) (fun K hK => ?_) (fun K hK => ?_)
              ·skip
               refine goes_ Try.func64 (by kernel_rfl) rfl #[.slice (some ad102) l0.length c0, .int .i64 x6_1] (by rfl) rfl rfl sg ?_
               with_reducible refine (cracknelref04_next.calls _ _ l0 x6_1 t103 t104 _ ?side1 ?side2 A6.out).mono ?_
               (case side1 => exact cs (Kd.C_below HR0.out HB.out))
               (case side2 => exact HC0.out)
               rintro e w53 ⟨rfl, hb⟩
               refine ⟨_, rfl, ?_⟩
               replace BK101 := kb BK101 hb
               replace HB := Aside0.mk (below_step bh hb)
               (try clear hb); (try clear hb2); (try clear hk); (try clear hi)
               refine hK.out _ _ ⟨(hc HB hw102_0), (hc HB hw102_1)⟩ (fun hHeld => ?_)
               clear hK K
               refine nm 22 ?_
               exact norm_ pa (hJ6 () _ ⟨hHeld, bk BK101, bh⟩)
              ·skip
               refine bxs 7 #[.int .i64 0, .int .i64 0] 29 ?_
               intro gb105 hg w53 hbox hb
               have BK105 := Aside0.mk (hbox)
               have GW105 := Aside0.mk (gs hg : w.heap.size ≤ gb105)
               have GE105 := Aside0.mk (gs hg : w.heap.size ≤ gb105)
               have NB101_105 := Aside0.mk ((by rw [hg]; exact Nat.ne_of_lt (kl BK101) : gb101 ≠ gb105))
               have NB105_101 := Aside0.mk ((by rw [hg]; exact Nat.ne_of_gt (kl BK101) : gb105 ≠ gb101))
               replace BK101 := kb BK101 hb
               replace HB := Aside0.mk (below_step bh hb)
               clear hb hbox hg
               refine hK.out _ _ ⟨(hc HB hw102_0), (hc HB hw102_1)⟩ (fun hHeld => ?_)
               clear hK K
               refine nm 7 ?_
               exact norm_ pa (hJ7 (gb105) _ ⟨hHeld, bk BK101, bk BK105, GW105.out, GE105.out, NB101_105.out, NB105_101.out, bh⟩)
              ·skip
               refine bxs 8 #[.int .i64 0, .int .i64 0] 29 ?_
               intro gb106 hg w53 hbox hb
               have BK106 := Aside0.mk (hbox)
               have GW106 := Aside0.mk (gs hg : w.heap.size ≤ gb106)
               have GE106 := Aside0.mk (gs hg : w.heap.size ≤ gb106)
               have NB101_106 := Aside0.mk ((by rw [hg]; exact Nat.ne_of_lt (kl BK101) : gb101 ≠ gb106))
               have NB106_101 := Aside0.mk ((by rw [hg]; exact Nat.ne_of_gt (kl BK101) : gb106 ≠ gb101))
               replace BK101 := kb BK101 hb
               replace HB := Aside0.mk (below_step bh hb)
               clear hb hbox hg
               refine hK.out _ _ ⟨(hc HB hw102_0), (hc HB hw102_1)⟩ (fun hHeld => ?_)
               clear hK K
               refine nm 8 ?_
               exact norm_ pa (hJ8 (gb106) _ ⟨hHeld, bk BK101, bk BK106, GW106.out, GE106.out, NB101_106.out, NB106_101.out, bh⟩)
             ·skip
              rintro gb106 w54 ⟨hS_, h0_, h1_, h2_, h3_, h4_, h5_, h6_⟩
              have BK106 := Aside0.mk h1_
              have GW106 := Aside0.mk h2_
              have GE106 := Aside0.mk h3_
              have NB101_106 := Aside0.mk h4_
              have NB106_101 := Aside0.mk h5_
              replace BK101 := Aside0.mk h0_
              replace HB := Aside0.mk h6_
              clear h0_ h1_ h2_ h3_ h4_ h5_ h6_
              have hHeld := hS_
              refine nn ?_
              refine two_ (i := 6) (j := 7) (Ni := some 22) (Nj := some 7) #[true, true, true, true, true, true, true, false, true, false, false] #[true, true, true, true, true, true, false, true, true, false, false] rfl rfl rfl rfl (on2 HT_) (by decide) (by decide) (fun K hK => ?_) (fun K hK => ?_)
              ·skip
               refine goes_ Try.func64 (by kernel_rfl) rfl #[.slice (some ad102) l0.length c0, .int .i64 x6_1] (by rfl) rfl rfl sg ?_
               with_reducible refine (cracknelref04_next.calls _ _ l0 x6_1 t103 t104 _ ?side1 ?side2 A6.out).mono ?_
               (case side1 => exact cs (Kd.C_below HR0.out HB.out))
               (case side2 => exact HC0.out)
               rintro e w55 ⟨rfl, hb⟩
               refine ⟨_, rfl, ?_⟩
               replace BK101 := kb BK101 hb
               replace BK106 := kb BK106 hb
               replace HB := Aside0.mk (below_step bh hb)
               (try clear hb); (try clear hb2); (try clear hk); (try clear hi)
               refine hK.out _ _ ⟨(hc HB hw102_0), (hc HB hw102_1)⟩ (fun hHeld => ?_)
               clear hK K
               refine nm 22 ?_
               exact norm_ pa (hJ6_8 (gb106) _ ⟨hHeld, bk BK101, bk BK106, GW106.out, GE106.out, NB101_106.out, NB106_101.out, bh⟩)
              ·skip
               refine bxs 7 #[.int .i64 0, .int .i64 0] 29 ?_
               intro gb105 hg w55 hbox hb
               have BK105 := Aside0.mk (hbox)
               have GW105 := Aside0.mk (gs hg : w.heap.size ≤ gb105)
               have GE105 := Aside0.mk (gs hg : w.heap.size ≤ gb105)
               have NB101_105 := Aside0.mk ((by rw [hg]; exact Nat.ne_of_lt (kl BK101) : gb101 ≠ gb105))
               have NB105_101 := Aside0.mk ((by rw [hg]; exact Nat.ne_of_gt (kl BK101) : gb105 ≠ gb101))
               have NB106_105 := Aside0.mk ((by rw [hg]; exact Nat.ne_of_lt (kl BK106) : gb106 ≠ gb105))
               have NB105_106 := Aside0.mk ((by rw [hg]; exact Nat.ne_of_gt (kl BK106) : gb105 ≠ gb106))
               replace BK101 := kb BK101 hb
               replace BK106 := kb BK106 hb
               replace HB := Aside0.mk (below_step bh hb)
               clear hb hbox hg
               refine hK.out _ _ ⟨(hc HB hw102_0), (hc HB hw102_1)⟩ (fun hHeld => ?_)
               clear hK K
               refine nm 7 ?_
               exact norm_ pa (hJ7_8 (gb105, gb106) _ ⟨hHeld, bk BK101, bk BK105, bk BK106, GW105.out, GE105.out, NB101_105.out, NB105_101.out, NB106_105.out, NB105_106.out, GW106.out, GE106.out, NB101_106.out, NB106_101.out, bh⟩)
            ·skip
             rintro gb105 w54 ⟨hS_, h0_, h1_, h2_, h3_, h4_, h5_, h6_⟩
             have BK105 := Aside0.mk h1_
             have GW105 := Aside0.mk h2_
             have GE105 := Aside0.mk h3_
             have NB101_105 := Aside0.mk h4_
             have NB105_101 := Aside0.mk h5_
             replace BK101 := Aside0.mk h0_
             replace HB := Aside0.mk h6_
             clear h0_ h1_ h2_ h3_ h4_ h5_ h6_
             have hHeld := hS_
             refine nn ?_
             refine two_ (i := 6) (j := 8) (Ni := some 22) (Nj := some 8) #[true, true, true, true, true, true, true, true, false, false, false] #[true, true, true, true, true, true, false, true, true, false, false] rfl rfl rfl rfl (on2 HT_) (by decide) (by decide) (fun K hK => ?_) (fun K hK => ?_)
             ·skip
              refine goes_ Try.func64 (by kernel_rfl) rfl #[.slice (some ad102) l0.length c0, .int .i64 x6_1] (by rfl) rfl rfl sg ?_
              with_reducible refine (cracknelref04_next.calls _ _ l0 x6_1 t103 t104 _ ?side1 ?side2 A6.out).mono ?_
              (case side1 => exact cs (Kd.C_below HR0.out HB.out))
              (case side2 => exact HC0.out)
              rintro e w55 ⟨rfl, hb⟩
              refine ⟨_, rfl, ?_⟩
              replace BK101 := kb BK101 hb
              replace BK105 := kb BK105 hb
              replace HB := Aside0.mk (below_step bh hb)
              (try clear hb); (try clear hb2); (try clear hk); (try clear hi)
              refine hK.out _ _ ⟨(hc HB hw102_0), (hc HB hw102_1)⟩ (fun hHeld => ?_)
              clear hK K
              refine nm 22 ?_
              exact norm_ pa (hJ6_7 (gb105) _ ⟨hHeld, bk BK101, bk BK105, GW105.out, GE105.out, NB101_105.out, NB105_101.out, bh⟩)
             ·skip
              refine bxs 8 #[.int .i64 0, .int .i64 0] 29 ?_
              intro gb106 hg w55 hbox hb
              have BK106 := Aside0.mk (hbox)
              have GW106 := Aside0.mk (gs hg : w.heap.size ≤ gb106)
              have GE106 := Aside0.mk (gs hg : w.heap.size ≤ gb106)
              have NB101_106 := Aside0.mk ((by rw [hg]; exact Nat.ne_of_lt (kl BK101) : gb101 ≠ gb106))
              have NB106_101 := Aside0.mk ((by rw [hg]; exact Nat.ne_of_gt (kl BK101) : gb106 ≠ gb101))
              have NB105_106 := Aside0.mk ((by rw [hg]; exact Nat.ne_of_lt (kl BK105) : gb105 ≠ gb106))
              have NB106_105 := Aside0.mk ((by rw [hg]; exact Nat.ne_of_gt (kl BK105) : gb106 ≠ gb105))
              replace BK101 := kb BK101 hb
              replace BK105 := kb BK105 hb
              replace HB := Aside0.mk (below_step bh hb)
              clear hb hbox hg
              refine hK.out _ _ ⟨(hc HB hw102_0), (hc HB hw102_1)⟩ (fun hHeld => ?_)
              clear hK K
              refine nm 8 ?_
              exact norm_ pa (hJ7_8 (gb105, gb106) _ ⟨hHeld, bk BK101, bk BK105, bk BK106, GW105.out, GE105.out, NB101_105.out, NB105_101.out, NB106_105.out, NB105_106.out, GW106.out, GE106.out, NB101_106.out, NB106_101.out, bh⟩)
           ·skip
            rintro _ w54 ⟨hS_, h0_, h1_⟩
            replace BK101 := Aside0.mk h0_
            replace HB := Aside0.mk h1_
            clear h0_ h1_
            have hHeld := hS_
            refine nn ?_
            refine two_ (i := 7) (j := 8) (Ni := some 7) (Nj := some 8) #[true, true, true, true, true, true, true, true, false, false, false] #[true, true, true, true, true, true, true, false, true, false, false] rfl rfl rfl rfl (on2 HT_) (by decide) (by decide) (fun K hK => ?_) (fun K hK => ?_)
            ·skip
             refine bxs 7 #[.int .i64 0, .int .i64 0] 29 ?_
             intro gb105 hg w55 hbox hb
             have BK105 := Aside0.mk (hbox)
             have GW105 := Aside0.mk (gs hg : w.heap.size ≤ gb105)
             have GE105 := Aside0.mk (gs hg : w.heap.size ≤ gb105)
             have NB101_105 := Aside0.mk ((by rw [hg]; exact Nat.ne_of_lt (kl BK101) : gb101 ≠ gb105))
             have NB105_101 := Aside0.mk ((by rw [hg]; exact Nat.ne_of_gt (kl BK101) : gb105 ≠ gb101))
             replace BK101 := kb BK101 hb
             replace HB := Aside0.mk (below_step bh hb)
             clear hb hbox hg
             refine hK.out _ _ ⟨(hc HB hw102_0), (hc HB hw102_1)⟩ (fun hHeld => ?_)
             clear hK K
             refine nm 7 ?_
             exact norm_ pa (hJ6_7 (gb105) _ ⟨hHeld, bk BK101, bk BK105, GW105.out, GE105.out, NB101_105.out, NB105_101.out, bh⟩)
            ·skip
             refine bxs 8 #[.int .i64 0, .int .i64 0] 29 ?_
             intro gb106 hg w55 hbox hb
             have BK106 := Aside0.mk (hbox)
             have GW106 := Aside0.mk (gs hg : w.heap.size ≤ gb106)
             have GE106 := Aside0.mk (gs hg : w.heap.size ≤ gb106)
             have NB101_106 := Aside0.mk ((by rw [hg]; exact Nat.ne_of_lt (kl BK101) : gb101 ≠ gb106))
             have NB106_101 := Aside0.mk ((by rw [hg]; exact Nat.ne_of_gt (kl BK101) : gb106 ≠ gb101))
             replace BK101 := kb BK101 hb
             replace HB := Aside0.mk (below_step bh hb)
             clear hb hbox hg
             refine hK.out _ _ ⟨(hc HB hw102_0), (hc HB hw102_1)⟩ (fun hHeld => ?_)
             clear hK K
             refine nm 8 ?_
             exact norm_ pa (hJ6_8 (gb106) _ ⟨hHeld, bk BK101, bk BK106, GW106.out, GE106.out, NB101_106.out, NB106_101.out, bh⟩)
          ·skip
           rintro ⟨gb105, gb106⟩ w55 ⟨hS_, h0_, h1_, h2_, h3_, h4_, h5_, h6_, h7_, h8_, h9_, h10_, h11_, h12_, h13_⟩
           have BK105 := Aside0.mk h1_
           have BK106 := Aside0.mk h2_
           have GW105 := Aside0.mk h3_
           have GE105 := Aside0.mk h4_
           have NB101_105 := Aside0.mk h5_
           have NB105_101 := Aside0.mk h6_
           have NB106_105 := Aside0.mk h7_
           have NB105_106 := Aside0.mk h8_
           have GW106 := Aside0.mk h9_
           have GE106 := Aside0.mk h10_
           have NB101_106 := Aside0.mk h11_
           have NB106_101 := Aside0.mk h12_
           replace BK101 := Aside0.mk h0_
           replace HB := Aside0.mk h13_
           clear h0_ h1_ h2_ h3_ h4_ h5_ h6_ h7_ h8_ h9_ h10_ h11_ h12_ h13_
           have hHeld := hS_
           refine nn ?_
           refine one_ (i := 6) (N := some 22) #[true, true, true, true, true, true, true, true, true, false, false] rfl rfl (on1 HT_) (by decide) (fun K hK => ?_)
           refine goes_ Try.func64 (by kernel_rfl) rfl #[.slice (some ad102) l0.length c0, .int .i64 x6_1] (by rfl) rfl rfl sg ?_
           with_reducible refine (cracknelref04_next.calls _ _ l0 x6_1 t103 t104 _ ?side1 ?side2 A6.out).mono ?_
           (case side1 => exact cs (Kd.C_below HR0.out HB.out))
           (case side2 => exact HC0.out)
           rintro e w56 ⟨rfl, hb⟩
           refine ⟨_, rfl, ?_⟩
           replace BK101 := kb BK101 hb
           replace BK105 := kb BK105 hb
           replace BK106 := kb BK106 hb
           replace HB := Aside0.mk (below_step bh hb)
           (try clear hb); (try clear hb2); (try clear hk); (try clear hi)
           refine hK.out _ _ ⟨(hc HB hw102_0), (hc HB hw102_1)⟩ (fun hHeld => ?_)
           clear hK K
           refine nm 22 ?_
           exact norm_ pa (hJ6_7_8 (gb105, gb106) _ ⟨hHeld, bk BK101, bk BK105, bk BK106, GW105.out, GE105.out, NB101_105.out, NB105_101.out, NB106_105.out, NB105_106.out, GW106.out, GE106.out, NB101_106.out, NB106_101.out, bh⟩)
         ·skip
          rintro gb106 w55 ⟨hS_, h0_, h1_, h2_, h3_, h4_, h5_, h6_⟩
          have BK106 := Aside0.mk h1_
          have GW106 := Aside0.mk h2_
          have GE106 := Aside0.mk h3_
          have NB101_106 := Aside0.mk h4_
          have NB106_101 := Aside0.mk h5_
          replace BK101 := Aside0.mk h0_
          replace HB := Aside0.mk h6_
          clear h0_ h1_ h2_ h3_ h4_ h5_ h6_
          have hHeld := hS_
          refine nn ?_
          refine one_ (i := 7) (N := some 7) #[true, true, true, true, true, true, true, true, true, false, false] rfl rfl (on1 HT_) (by decide) (fun K hK => ?_)
          refine bxs 7 #[.int .i64 0, .int .i64 0] 29 ?_
          intro gb105 hg w56 hbox hb
          have BK105 := Aside0.mk (hbox)
          have GW105 := Aside0.mk (gs hg : w.heap.size ≤ gb105)
          have GE105 := Aside0.mk (gs hg : w.heap.size ≤ gb105)
          have NB101_105 := Aside0.mk ((by rw [hg]; exact Nat.ne_of_lt (kl BK101) : gb101 ≠ gb105))
          have NB105_101 := Aside0.mk ((by rw [hg]; exact Nat.ne_of_gt (kl BK101) : gb105 ≠ gb101))
          have NB106_105 := Aside0.mk ((by rw [hg]; exact Nat.ne_of_lt (kl BK106) : gb106 ≠ gb105))
          have NB105_106 := Aside0.mk ((by rw [hg]; exact Nat.ne_of_gt (kl BK106) : gb105 ≠ gb106))
          replace BK101 := kb BK101 hb
          replace BK106 := kb BK106 hb
          replace HB := Aside0.mk (below_step bh hb)
          clear hb hbox hg
          refine hK.out _ _ ⟨(hc HB hw102_0), (hc HB hw102_1)⟩ (fun hHeld => ?_)
          clear hK K
          refine nm 7 ?_
          exact norm_ pa (hJ6_7_8 (gb105, gb106) _ ⟨hHeld, bk BK101, bk BK105, bk BK106, GW105.out, GE105.out, NB101_105.out, NB105_101.out, NB106_105.out, NB105_106.out, GW106.out, GE106.out, NB101_106.out, NB106_101.out, bh⟩)
        ·skip
         rintro gb105 w55 ⟨hS_, h0_, h1_, h2_, h3_, h4_, h5_, h6_⟩
         have BK105 := Aside0.mk h1_
         have GW105 := Aside0.mk h2_
         have GE105 := Aside0.mk h3_
         have NB101_105 := Aside0.mk h4_
         have NB105_101 := Aside0.mk h5_
         replace BK101 := Aside0.mk h0_
         replace HB := Aside0.mk h6_
         clear h0_ h1_ h2_ h3_ h4_ h5_ h6_
         have hHeld := hS_
         refine nn ?_
         refine one_ (i := 8) (N := some 8) #[true, true, true, true, true, true, true, true, true, false, false] rfl rfl (on1 HT_) (by decide) (fun K hK => ?_)
         refine bxs 8 #[.int .i64 0, .int .i64 0] 29 ?_
         intro gb106 hg w56 hbox hb
         have BK106 := Aside0.mk (hbox)
         have GW106 := Aside0.mk (gs hg : w.heap.size ≤ gb106)
         have GE106 := Aside0.mk (gs hg : w.heap.size ≤ gb106)
         have NB101_106 := Aside0.mk ((by rw [hg]; exact Nat.ne_of_lt (kl BK101) : gb101 ≠ gb106))
         have NB106_101 := Aside0.mk ((by rw [hg]; exact Nat.ne_of_gt (kl BK101) : gb106 ≠ gb101))
         have NB105_106 := Aside0.mk ((by rw [hg]; exact Nat.ne_of_lt (kl BK105) : gb105 ≠ gb106))
         have NB106_105 := Aside0.mk ((by rw [hg]; exact Nat.ne_of_gt (kl BK105) : gb106 ≠ gb105))
         replace BK101 := kb BK101 hb
         replace BK105 := kb BK105 hb
         replace HB := Aside0.mk (below_step bh hb)
         clear hb hbox hg
         refine hK.out _ _ ⟨(hc HB hw102_0), (hc HB hw102_1)⟩ (fun hHeld => ?_)
         clear hK K
         refine nm 8 ?_
         exact norm_ pa (hJ6_7_8 (gb105, gb106) _ ⟨hHeld, bk BK101, bk BK105, bk BK106, GW105.out, GE105.out, NB101_105.out, NB105_101.out, NB106_105.out, NB105_106.out, GW106.out, GE106.out, NB101_106.out, NB106_101.out, bh⟩)
       rintro ⟨gb105, gb106⟩ w56 ⟨hS_, h0_, h1_, h2_, h3_, h4_, h5_, h6_, h7_, h8_, h9_, h10_, h11_, h12_, h13_⟩
       have BK105 := Aside0.mk h1_
       have BK106 := Aside0.mk h2_
       have GW105 := Aside0.mk h3_
       have GE105 := Aside0.mk h4_
       have NB101_105 := Aside0.mk h5_
       have NB105_101 := Aside0.mk h6_
       have NB106_105 := Aside0.mk h7_
       have NB105_106 := Aside0.mk h8_
       have GW106 := Aside0.mk h9_
       have GE106 := Aside0.mk h10_
       have NB101_106 := Aside0.mk h11_
       have NB106_101 := Aside0.mk h12_
       replace BK101 := Aside0.mk h0_
       replace HB := Aside0.mk h13_
       clear h0_ h1_ h2_ h3_ h4_ h5_ h6_ h7_ h8_ h9_ h10_ h11_ h12_ h13_
       have hHeld := hS_
       refine nn ?_
       refine one_ (i := 9) (N := none) #[true, true, true, true, true, true, true, true, true, true, false] rfl rfl (on1 HT_) (by decide) (fun K hK => ?_)
       have hs57 : w56.cell? ⟨gb105, 0, none⟩ = some (.int .i64 0) := bc BK105 0
       have hfs57 := blk_frozen BK105.out 0
       have hns57_0 := NB101_105.out
       have hns57_2 := NB106_105.out
       have hms57_0 := NB105_101.out
       have hms57_2 := NB105_106.out
       have hs58 : w56.cell? ⟨gb105, 1, none⟩ = some (.int .i64 0) := bc BK105 1
       have hfs58 := blk_frozen BK105.out 1
       have hns58_0 := NB101_105.out
       have hns58_2 := NB106_105.out
       have hms58_0 := NB105_101.out
       have hms58_2 := NB105_106.out
       refine skip_ (w1 := ?_) (by rfl) rfl ?_ ?_
       rotate_left
       ·go_simp
        rfl
       refine hK.out _ _ ⟨((cell_far (p := ⟨gb105, _, none⟩) (fr hw102_0 GW105) _).trans (((cell_far (p := ⟨gb105, _, none⟩) (fr hw102_0 GW105) _).trans (hHeld.1)))), ((cell_far (p := ⟨gb105, _, none⟩) (fr hw102_1 GW105) _).trans (((cell_far (p := ⟨gb105, _, none⟩) (fr hw102_1 GW105) _).trans (hHeld.2))))⟩ (fun hHeld => ?_)
       clear hK K
       refine one_ (i := 10) (N := none) #[true, true, true, true, true, true, true, true, true, true, true] rfl rfl (on1 HT_) (by decide) (fun K hK => ?_)
       have hs59 : w56.cell? ⟨gb106, 0, none⟩ = some (.int .i64 0) := bc BK106 0
       have hfs59 := blk_frozen BK106.out 0
       have hns59_0 := NB101_106.out
       have hns59_1 := NB105_106.out
       have hms59_0 := NB106_101.out
       have hms59_1 := NB106_105.out
       have hs60 : w56.cell? ⟨gb106, 1, none⟩ = some (.int .i64 0) := bc BK106 1
       have hfs60 := blk_frozen BK106.out 1
       have hns60_0 := NB101_106.out
       have hns60_1 := NB105_106.out
       have hms60_0 := NB106_101.out
       have hms60_1 := NB106_105.out
       refine skip_ (w1 := ?_) (by rfl) rfl ?_ ?_
       rotate_left
       ·go_simp
        rfl
       refine hK.out _ _ ⟨((cell_far (p := ⟨gb106, _, none⟩) (fr hw102_0 GW106) _).trans (((cell_far (p := ⟨gb106, _, none⟩) (fr hw102_0 GW106) _).trans (hHeld.1)))), ((cell_far (p := ⟨gb106, _, none⟩) (fr hw102_1 GW106) _).trans (((cell_far (p := ⟨gb106, _, none⟩) (fr hw102_1 GW106) _).trans (hHeld.2))))⟩ (fun hHeld => ?_)
       clear hK K
       refine done_ (done_of HT_.out (by kernel_rfl)) ?_
       have hnb61 := NB105_101.out
       have hnc61 := NB101_105.out
       have hnb62 := NB105_106.out
       have hnc62 := NB106_105.out
       obtain ⟨hcz63_0, hcz63_1, hfz63_0, hfz63_1⟩ := b2 BK105
       have hnb64 := NB106_101.out
       have hnc64 := NB101_106.out
       obtain ⟨hcz65_0, hcz65_1, hfz65_0, hfz65_1⟩ := b2 BK106
       obtain ⟨hcz66_0, hcz66_1, hfz66_0, hfz66_1⟩ := b2 BK101
       try go_wp2_with (first | ((with_reducible refine gate_callee (f := 62) rfl ?_); refine goesL_ (some 26) rfl rfl Try.func62 (by kernel_rfl) rfl #[.agg #[.int .i64 ((rd_T29 l0 x6_1).f0), .int .i64 ((rd_T29 l0 x6_1).f1)], .agg #[.int .i64 t103, .int .i64 t104], .agg #[.int .i64 a1_0, .int .i64 a1_1]] rfl sg ?_; (with_reducible refine (cracknelref04_On.calls ((rd_T29 l0 x6_1).f0) ((rd_T29 l0 x6_1).f1) t103 t104 a1_0 a1_1 false _ A7.out).mono ?_); rintro e w67 ⟨rfl, hb⟩; refine ⟨_, rfl, ?_⟩; have n0_ := Aside0.mk (blk_below (g := gb101) (o := .cells #[.int .i64 a1_0, .int .i64 a1_1] 29 (0, 0)) (by (with_reducible repeat (first | refine blk_drewN ?_ _ | refine blk_drew ?_ | refine blk_alloc ?_ _)); refine blk_far ?_ NB101_106.out _; (with_reducible repeat (first | refine blk_drewN ?_ _ | refine blk_drew ?_ | refine blk_alloc ?_ _)); refine blk_far ?_ NB101_106.out _; (with_reducible repeat (first | refine blk_drewN ?_ _ | refine blk_drew ?_ | refine blk_alloc ?_ _)); refine blk_far ?_ NB101_105.out _; (with_reducible repeat (first | refine blk_drewN ?_ _ | refine blk_drew ?_ | refine blk_alloc ?_ _)); refine blk_far ?_ NB101_105.out _; (with_reducible repeat (first | refine blk_drewN ?_ _ | refine blk_drew ?_ | refine blk_alloc ?_ _)); exact BK101.out) hb); have n1_ := Aside0.mk (blk_below (g := gb105) (o := .cells #[.int .i64 ((rd_T29 l0 x6_1).f0), .int .i64 ((rd_T29 l0 x6_1).f1)] 29 (0, 0)) (by (with_reducible repeat (first | refine blk_drewN ?_ _ | refine blk_drew ?_ | refine blk_alloc ?_ _)); refine blk_far ?_ NB105_106.out _; (with_reducible repeat (first | refine blk_drewN ?_ _ | refine blk_drew ?_ | refine blk_alloc ?_ _)); refine blk_far ?_ NB105_106.out _; (with_reducible repeat (first | refine blk_drewN ?_ _ | refine blk_drew ?_ | refine blk_alloc ?_ _)); refine blk_put (cs := #[.int .i64 ((rd_T29 l0 x6_1).f0), .int .i64 0]) ?_ 1 _ rfl; (with_reducible repeat (first | refine blk_drewN ?_ _ | refine blk_drew ?_ | refine blk_alloc ?_ _)); refine blk_put (cs := #[.int .i64 0, .int .i64 0]) ?_ 0 _ rfl; (with_reducible repeat (first | refine blk_drewN ?_ _ | refine blk_drew ?_ | refine blk_alloc ?_ _)); exact BK105.out) hb); have n2_ := Aside0.mk (blk_below (g := gb106) (o := .cells #[.int .i64 t103, .int .i64 t104] 29 (0, 0)) (by (with_reducible repeat (first | refine blk_drewN ?_ _ | refine blk_drew ?_ | refine blk_alloc ?_ _)); refine blk_put (cs := #[.int .i64 t103, .int .i64 0]) ?_ 1 _ rfl; (with_reducible repeat (first | refine blk_drewN ?_ _ | refine blk_drew ?_ | refine blk_alloc ?_ _)); refine blk_put (cs := #[.int .i64 0, .int .i64 0]) ?_ 0 _ rfl; (with_reducible repeat (first | refine blk_drewN ?_ _ | refine blk_drew ?_ | refine blk_alloc ?_ _)); refine blk_far ?_ NB106_105.out _; (with_reducible repeat (first | refine blk_drewN ?_ _ | refine blk_drew ?_ | refine blk_alloc ?_ _)); refine blk_far ?_ NB106_105.out _; (with_reducible repeat (first | refine blk_drewN ?_ _ | refine blk_drew ?_ | refine blk_alloc ?_ _)); exact BK106.out) hb); have n3_ := Aside0.mk (below_step bh hb); clear BK101; clear BK105; clear BK106; clear HB; have BK101 := n0_; have BK105 := n1_; have BK106 := n2_; have HB := n3_; clear n0_ n1_ n2_ n3_; (try clear hb); (try clear hb2); (try clear hk); (try clear hi); have hcz68_0 : w67.cell? ⟨gb105, 0, none⟩ = some (.int .i64 ((rd_T29 l0 x6_1).f0)) := bc BK105 0; have hcz68_1 : w67.cell? ⟨gb105, 1, none⟩ = some (.int .i64 ((rd_T29 l0 x6_1).f1)) := bc BK105 1; have hfz68_0 := blk_frozen BK105.out 0; have hfz68_1 := blk_frozen BK105.out 1; have hcz69_0 : w67.cell? ⟨gb101, 0, none⟩ = some (.int .i64 a1_0) := bc BK101 0; have hcz69_1 : w67.cell? ⟨gb101, 1, none⟩ = some (.int .i64 a1_1) := bc BK101 1; have hfz69_0 := blk_frozen BK101.out 0; have hfz69_1 := blk_frozen BK101.out 1; have hcz70_0 : w67.cell? ⟨gb106, 0, none⟩ = some (.int .i64 t103) := bc BK106 0; have hcz70_1 : w67.cell? ⟨gb106, 1, none⟩ = some (.int .i64 t104) := bc BK106 1; have hfz70_0 := blk_frozen BK106.out 0; have hfz70_1 := blk_frozen BK106.out 1))
       go_roundg k1
       case measure => have := HK1.out; omega
       case rel => exact ⟨(x5_1), (wrap64 (x6_1 + 1)), sd, sd, H', ⟨by have := HK1.out; omega⟩, ⟨bk BK101⟩, ⟨bh⟩⟩
    ·rw [if_neg c5] at H
     exact absurd H (by simp)
   ·rw [if_neg c4] at H
    have c4b0 : decide (x6_1 < (l0.length : Int)) = false := decide_eq_false c4
    clear c4
    by_cases c71 : x5_1 = true
    ·subst c71
     rw [if_pos rfl] at H
     obtain rfl := Option.some.inj H
     go_wp2
     go_ret
     exact ⟨by exact er, bh⟩
    ·replace c71 := Bool.eq_false_iff.mpr c71
     subst c71
     rw [if_neg (show ¬ (false = true) by decide)] at H
     obtain rfl := Option.some.inj H
     go_wp2
     go_ret
     exact ⟨by exact er, bh⟩
end Go.Proofs.Ytoffmpkgickfhaa.PG
end
section
namespace Go.Proofs.Ytoffmpkgickfhaa.PG
open Go.RowKit Go.Proofs.YtoffmpkgickfhaaW.PrintWords Go.Proofs.YtoffmpkgickfhaaW.PrintLast Go.Proofs.YtoffmpkgickfhaaW.PrintMore
attribute [local go_sem] max2_int min2_int max_two min_two max_three min_three max_four min_four
set_option linter.unusedVariables false
set_option linter.unusedSimpArgs false
/-! ### shape_where: function 73 -/
mutual
def shape_where.l0 : Nat → List (S29) → Int → Int → Int → Int → Int → Option (Int)
 | 0, _, _, _, _, _, _ => none
 | k + 1, x0, x5, x10, x11, x102000, x102001 => if x11 < x10 then (if 0 ≤ x11 then (if x11 < (x0.length : Int) then (if (x0.length : Int) = 0 then (none) else (if 0 ≤ (Int.tmod (wrap64 (x11 + 1)) (x0.length : Int)) then (if (Int.tmod (wrap64 (x11 + 1)) (x0.length : Int)) < (x0.length : Int) then ((shape_on.f ((rd_T29 x0 x11).f0) ((rd_T29 x0 x11).f1) ((rd_T29 x0 (Int.tmod (wrap64 (x11 + 1)) (x0.length : Int))).f0) ((rd_T29 x0 (Int.tmod (wrap64 (x11 + 1)) (x0.length : Int))).f1) x102000 x102001).bind fun t106 => (if t106 = true then (some 0) else (if ((rd_T29 x0 x11).f1) > ((rd_T29 x0 (Int.tmod (wrap64 (x11 + 1)) (x0.length : Int))).f1) then (shape_where.j1 k x0 x5 x10 x11 x102000 x102001 ((rd_T29 x0 (Int.tmod (wrap64 (x11 + 1)) (x0.length : Int))).f0) ((rd_T29 x0 (Int.tmod (wrap64 (x11 + 1)) (x0.length : Int))).f1) ((rd_T29 x0 x11).f0) ((rd_T29 x0 x11).f1)) else (shape_where.j1 k x0 x5 x10 x11 x102000 x102001 ((rd_T29 x0 x11).f0) ((rd_T29 x0 x11).f1) ((rd_T29 x0 (Int.tmod (wrap64 (x11 + 1)) (x0.length : Int))).f0) ((rd_T29 x0 (Int.tmod (wrap64 (x11 + 1)) (x0.length : Int))).f1))))) else (none)) else (none))) else (none)) else (none)) else (some x5)
def shape_where.j1 : Nat → List (S29) → Int → Int → Int → Int → Int → Int → Int → Int → Int → Option (Int)
 | 0, _, _, _, _, _, _, _, _, _, _ => none
 | k + 1, x0, x5, x10, x11, x102000, x102001, x105000, x105001, x106000, x106001 => if x105001 ≤ x102001 then (if x102001 < x106001 then ((shape_side.f x105000 x105001 x106000 x106001 x102000 x102001).bind fun t107 => (shape_where.j2 k x0 x5 x10 x11 (decide (t107 > 0)) x102000 x102001)) else (shape_where.j2 k x0 x5 x10 x11 false x102000 x102001)) else (shape_where.j2 k x0 x5 x10 x11 false x102000 x102001)
def shape_where.j2 : Nat → List (S29) → Int → Int → Int → Bool → Int → Int → Option (Int)
 | 0, _, _, _, _, _, _, _ => none
 | k + 1, x0, x5, x10, x11, x55, x102000, x102001 => if x55 = true then (shape_where.l0 k x0 (wrap64 (-x5)) x10 (wrap64 (x11 + 1)) x102000 x102001) else (shape_where.l0 k x0 x5 x10 (wrap64 (x11 + 1)) x102000 x102001)
end
def shape_where.f (k : Nat) (l0 : List (S29)) (a1_0 : Int) (a1_1 : Int) : Option (Int) := shape_where.l0 k l0 (-1) (l0.length : Int) 0 a1_0 a1_1
theorem shape_where.mono_l : ∀ k, (∀ y0 y1 y2 y3 y4 y5, LeO (shape_where.l0 k y0 y1 y2 y3 y4 y5) (shape_where.l0 (k + 1) y0 y1 y2 y3 y4 y5)) ∧ (∀ y0 y1 y2 y3 y4 y5 y6 y7 y8 y9, LeO (shape_where.j1 k y0 y1 y2 y3 y4 y5 y6 y7 y8 y9) (shape_where.j1 (k + 1) y0 y1 y2 y3 y4 y5 y6 y7 y8 y9)) ∧ (∀ y0 y1 y2 y3 y4 y5 y6, LeO (shape_where.j2 k y0 y1 y2 y3 y4 y5 y6) (shape_where.j2 (k + 1) y0 y1 y2 y3 y4 y5 y6))
 | 0 => ⟨fun _ _ _ _ _ _ r h => by simp [shape_where.l0] at h, fun _ _ _ _ _ _ _ _ _ _ r h => by simp [shape_where.j1] at h, fun _ _ _ _ _ _ _ r h => by simp [shape_where.j2] at h⟩
 | k + 1 => by
  obtain ⟨ih0, ih1, ih2⟩ := shape_where.mono_l k
  refine ⟨?_, ?_, ?_⟩
  ·intro y0 y1 y2 y3 y4 y5
   unfold shape_where.l0
   repeat' first
   | (with_reducible exact ih0 _ _ _ _ _ _)
   | (with_reducible exact ih1 _ _ _ _ _ _ _ _ _ _)
   | (with_reducible exact ih2 _ _ _ _ _ _ _)
   | (with_reducible exact LeO.refl _)
   | (with_reducible exact LeO.none _)
   | (with_reducible refine LeO.ite ?_ ?_)
   | (with_reducible refine LeO.bind ?_ (fun _ => ?_))
   | exact ih0 _ _ _ _ _ _
   | exact ih1 _ _ _ _ _ _ _ _ _ _
   | exact ih2 _ _ _ _ _ _ _
   | exact LeO.none _
   | refine LeO.ite ?_ ?_
   | refine LeO.bind ?_ (fun _ => ?_)
  ·intro y0 y1 y2 y3 y4 y5 y6 y7 y8 y9
   unfold shape_where.j1
   repeat' first
   | (with_reducible exact ih0 _ _ _ _ _ _)
   | (with_reducible exact ih1 _ _ _ _ _ _ _ _ _ _)
   | (with_reducible exact ih2 _ _ _ _ _ _ _)
   | (with_reducible exact LeO.refl _)
   | (with_reducible exact LeO.none _)
   | (with_reducible refine LeO.ite ?_ ?_)
   | (with_reducible refine LeO.bind ?_ (fun _ => ?_))
   | exact ih0 _ _ _ _ _ _
   | exact ih1 _ _ _ _ _ _ _ _ _ _
   | exact ih2 _ _ _ _ _ _ _
   | exact LeO.none _
   | refine LeO.ite ?_ ?_
   | refine LeO.bind ?_ (fun _ => ?_)
  ·intro y0 y1 y2 y3 y4 y5 y6
   unfold shape_where.j2
   repeat' first
   | (with_reducible exact ih0 _ _ _ _ _ _)
   | (with_reducible exact ih1 _ _ _ _ _ _ _ _ _ _)
   | (with_reducible exact ih2 _ _ _ _ _ _ _)
   | (with_reducible exact LeO.refl _)
   | (with_reducible exact LeO.none _)
   | (with_reducible refine LeO.ite ?_ ?_)
   | (with_reducible refine LeO.bind ?_ (fun _ => ?_))
   | exact ih0 _ _ _ _ _ _
   | exact ih1 _ _ _ _ _ _ _ _ _ _
   | exact ih2 _ _ _ _ _ _ _
   | exact LeO.none _
   | refine LeO.ite ?_ ?_
   | refine LeO.bind ?_ (fun _ => ?_)
theorem shape_where.mono : ∀ a0 a1 a2 k, LeO (shape_where.f k a0 a1 a2) (shape_where.f (k + 1) a0 a1 a2) := by
 intro a0 a1 a2 k
 obtain ⟨ih0, ih1, ih2⟩ := shape_where.mono_l k
 unfold shape_where.f
 repeat' first
  | (with_reducible exact ih0 _ _ _ _ _ _)
  | (with_reducible exact ih1 _ _ _ _ _ _ _ _ _ _)
  | (with_reducible exact ih2 _ _ _ _ _ _ _)
  | (with_reducible exact LeO.refl _)
  | (with_reducible exact LeO.none _)
  | (with_reducible refine LeO.ite ?_ ?_)
  | (with_reducible refine LeO.bind ?_ (fun _ => ?_))
  | exact ih0 _ _ _ _ _ _
  | exact ih1 _ _ _ _ _ _ _ _ _ _
  | exact ih2 _ _ _ _ _ _ _
  | exact LeO.none _
  | refine LeO.ite ?_ ?_
  | refine LeO.bind ?_ (fun _ => ?_)
def shape_where.T5 : Bool × List (List Nat × List Nat) := (true, [([], []), ([], []), ([0, 1], [0, 1]), ([2], [2]), ([], []), ([], []), ([5], [5]), ([], []), ([7], [7]), ([6, 8], [6, 8]), ([4, 9], [4, 9]), ([10], [10]), ([], []), ([], []), ([12, 3, 0, 1, 2, 3, 12, 13], [3, 12]), ([13, 11, 14, 0, 1, 2, 3, 4, 5, 6, 7, 8, 9, 10, 11, 12, 13, 14], [11, 13])])
def shape_where.B5 : List Nat := [0, 0, 3, 7, 0, 0, 32, 0, 128, 480, 1008, 2032, 0, 0, 12303, 32767]
theorem shape_where.tab5 : rtab .any (opsOf Try.f73 5) = shape_where.T5 := by kernel_rfl
theorem shape_where.bits5 : waitsOk shape_where.T5.2 shape_where.B5 = true := by kernel_rfl
set_option maxHeartbeats 8000000 in
set_option maxRecDepth 100000 in
theorem shape_where.calls (k : Nat) (A0 : Option Addr) (c0 : Nat) (l0 : List (S29)) (a1_0 : Int) (a1_1 : Int) (r : Int) (w : World) (hr0 : Kd.C k29 w A0 l0.length l0) (hc0 : l0.length ≤ c0) (h : shape_where.f k l0 a1_0 a1_1 = some r) :
  Calls Try.prog 73 #[.slice A0 l0.length c0, .agg #[.int .i64 a1_0, .int .i64 a1_1]] w fun e w' => e = .returned (.int .i64 r) ∧ Below w.heap.size w w' := by
 have hu29 := Try.underlying29
 have HR0 := Aside0.mk hr0
 have HC0 := Aside0.mk hc0
 clear hr0 hc0
 have HB := Aside0.mk (Below.refl w.heap.size w)
 have H : (shape_where.l0 k l0 (-1) (l0.length : Int) 0 a1_0 a1_1) = some r := h
 clear h
 have H' := Aside0.mk H
 clear H
 go_enter Try.func73, Try.ntmps73
 go_wp2_with (first | ((with_reducible refine gate_dst (N := 3) rfl ?_); refine bxe 3 #[.int .i64 a1_0, .int .i64 a1_1] 29 ?_; intro gb101 hg w3 hbox hb; have n0_ := Aside0.mk (below_step bh hb); have n1_ := Aside0.mk (hbox); have n2_ := Aside0.mk (gs hg : w.heap.size ≤ gb101); have n3_ := Aside0.mk (gs hg : w.heap.size ≤ gb101); clear HB; have HB := n0_; have BK101 := n1_; have GW101 := n2_; have GE101 := n3_; clear n0_ n1_ n2_ n3_; clear hb hbox hg))
 go_loopg [5, 11] k (fun kq v5 v11 w' => ∃ (x5_1 : Int) (x11_1 : Int), v5 = .int .i64 x5_1 ∧ v11 = .int .i64 x11_1 ∧ Aside0 (shape_where.l0 kq l0 x5_1 (l0.length : Int) x11_1 a1_0 a1_1 = some r) ∧ Aside0 (kq ≤ k) ∧ Aside0 (w'.heap[gb101]? = some (.cells #[.int .i64 a1_0, .int .i64 a1_1] 29 (0, 0))) ∧ Aside0 (Below w.heap.size w w'))
 case atStart => exact ⟨((-1)), (0), sd, sd, H', ⟨Nat.le_refl _⟩, ⟨bk BK101⟩, ⟨bh⟩⟩
 case round =>
  clear H'
  try clear p2
  obtain ⟨x5_1, x11_1, rfl, rfl, HA, HK1, BK101, HB⟩ := hrel
  cases gk with
  | zero => exact absurd HA.out (by simp [shape_where.l0])
  | succ k1 =>
   have H := HA.out
   clear HA
   simp only [shape_where.l0] at H
   by_cases c4 : x11_1 < (l0.length : Int)
   ·rw [if_pos c4] at H
    have c4b0 : decide (x11_1 < (l0.length : Int)) = true := decide_eq_true c4
    clear c4
    by_cases c5 : 0 ≤ x11_1
    ·rw [if_pos c5] at H
     have c5b0 : decide (0 ≤ x11_1) = true := decide_eq_true c5
     clear c5
     by_cases c6 : x11_1 < (l0.length : Int)
     ·rw [if_pos c6] at H
      have c6b0 : decide (x11_1 < (l0.length : Int)) = true := decide_eq_true c6
      clear c6
      by_cases c7 : (l0.length : Int) = 0
      ·rw [if_pos c7] at H
       exact absurd H (by simp)
      ·rw [if_neg c7] at H
       have c7b0 : ((l0.length : Int) == 0) = false := beq_eq_false_iff_ne.mpr c7
       have c7b1 : ((l0.length : Int) != 0) = true := bne_iff_ne.mpr c7
       have c7b2 : ¬ (l0 = []) := fun h_ => c7 (by rw [h_]; rfl)
       obtain ⟨ji8, hji8⟩ : ∃ j_ : Int, (Int.tmod (wrap64 (x11_1 + 1)) (l0.length : Int)) = j_ := ⟨_, rfl⟩
       replace H : (if 0 ≤ (ji8) then (if (ji8) < (l0.length : Int) then ((shape_on.f ((rd_T29 l0 x11_1).f0) ((rd_T29 l0 x11_1).f1) ((rd_T29 l0 (ji8)).f0) ((rd_T29 l0 (ji8)).f1) a1_0 a1_1).bind fun t106 => (if t106 = true then (some 0) else (if ((rd_T29 l0 x11_1).f1) > ((rd_T29 l0 (ji8)).f1) then (shape_where.j1 k1 l0 x5_1 (l0.length : Int) x11_1 a1_0 a1_1 ((rd_T29 l0 (ji8)).f0) ((rd_T29 l0 (ji8)).f1) ((rd_T29 l0 x11_1).f0) ((rd_T29 l0 x11_1).f1)) else (shape_where.j1 k1 l0 x5_1 (l0.length : Int) x11_1 a1_0 a1_1 ((rd_T29 l0 x11_1).f0) ((rd_T29 l0 x11_1).f1) ((rd_T29 l0 (ji8)).f0) ((rd_T29 l0 (ji8)).f1))))) else (none)) else (none)) = some r := by first | (rw [hji8] at H; exact H) | (simp only [hji8] at H ⊢; exact H)
       by_cases c9 : 0 ≤ (ji8)
       ·rw [if_pos c9] at H
        have c9b0 : decide (0 ≤ (ji8)) = true := decide_eq_true c9
        clear c9
        by_cases c10 : (ji8) < (l0.length : Int)
        ·rw [if_pos c10] at H
         have c10b0 : decide ((ji8) < (l0.length : Int)) = true := decide_eq_true c10
         clear c10
         replace H := Option.bind_eq_some_iff.mp H
         obtain ⟨t106, A110, H⟩ := H
         replace H : (if t106 = true then (some 0) else (if ((rd_T29 l0 x11_1).f1) > ((rd_T29 l0 (ji8)).f1) then (shape_where.j1 k1 l0 x5_1 (l0.length : Int) x11_1 a1_0 a1_1 ((rd_T29 l0 (ji8)).f0) ((rd_T29 l0 (ji8)).f1) ((rd_T29 l0 x11_1).f0) ((rd_T29 l0 x11_1).f1)) else (shape_where.j1 k1 l0 x5_1 (l0.length : Int) x11_1 a1_0 a1_1 ((rd_T29 l0 x11_1).f0) ((rd_T29 l0 x11_1).f1) ((rd_T29 l0 (ji8)).f0) ((rd_T29 l0 (ji8)).f1)))) = some r := H
         have A11 := Aside0.mk A110
         clear A110
         by_cases c12 : t106 = true
         ·subst c12
          rw [if_pos rfl] at H
          obtain rfl := Option.some.inj H
          try go_wp2
          replace BK101 := Aside0.mk (blk_drew BK101.out)
          replace HB := Aside0.mk (below_drew1 HB.out)
          have p102 : 0 ≤ (x11_1 : Int) := dt
          have q102 : x11_1 < (l0.length : Int) := dt
          obtain ⟨ad102, e102, hx102_0, hx102_1⟩ := at_T29 HR0.out x11_1 p102 q102
          have hw102_1 := hx102_1
          have hw102_0 := hx102_0
          cases e102
          replace hx102_0 := hc HB hx102_0
          replace hx102_1 := hc HB hx102_1
          replace p102 := eq_true p102
          replace q102 := eq_true q102
          have p103 : 0 ≤ ((ji8) : Int) := dt
          have q103 : (ji8) < (l0.length : Int) := dt
          obtain ⟨ad103, e103, hx103_0, hx103_1⟩ := at_T29 HR0.out (ji8) p103 q103
          have hw103_1 := hx103_1
          have hw103_0 := hx103_0
          obtain rfl : ad102 = ad103 := (by injection e103)
          replace hx103_0 := hc HB hx103_0
          replace hx103_1 := hc HB hx103_1
          replace p103 := eq_true p103
          replace q103 := eq_true q103
          refine start_ (n := 16) (S := fun w' => w'.cell? (ad102.add ((x11_1).toNat * 2)) = some (.int .i64 ((rd_T29 l0 x11_1).f0)) ∧ w'.cell? ⟨(ad102.add ((x11_1).toNat * 2)).block, (ad102.add ((x11_1).toNat * 2)).off + 1, none⟩ = some (.int .i64 ((rd_T29 l0 x11_1).f1)) ∧ w'.cell? (ad102.add (((ji8)).toNat * 2)) = some (.int .i64 ((rd_T29 l0 (ji8)).f0)) ∧ w'.cell? ⟨(ad102.add (((ji8)).toNat * 2)).block, (ad102.add (((ji8)).toNat * 2)).off + 1, none⟩ = some (.int .i64 ((rd_T29 l0 (ji8)).f1))) (ds := []) #[false, false, false, false, false, false, false, false, false, false, false, false, false, false, false, false] (by kernel_rfl) rfl rfl ⟨(hc HB hw102_0), (hc HB hw102_1), (hc HB hw103_0), (hc HB hw103_1)⟩ (fun hHeld => ?_); refine with_tabW shape_where.tab5 shape_where.bits5 (fun HT_ HW_ => ?_)
          generalize wr.drew = w13 at BK101 HB hx102_0 hx102_1 hx103_0 hx103_1 hHeld ⊢
          refine pu 0 14 HT_ ?_
          refine pu 1 15 HT_ ?_
          refine pu 2 16 HT_ ?_
          refine pu 4 18 HT_ ?_
          refine pu 5 19 HT_ ?_
          refine pu 6 20 HT_ ?_
          refine pu 7 21 HT_ ?_
          refine pu 8 22 HT_ ?_
          refine pu 9 23 HT_ ?_
          refine pu 10 24 HT_ ?_
          refine tk4 3 17 hHeld HT_ HW_ ?_
          refine tk4 11 25 hHeld HT_ HW_ ?_
          refine join_ (σ := Nat × Nat) 2 #[true, true, true, true, true, true, true, true, true, true, true, true, true, true, false, false] (fun s_ => [(7, .pointer (some ⟨s_.1, 0, none⟩)), (8, .pointer (some ⟨s_.2, 0, none⟩))]) (fun s_ w' => (w'.cell? (ad102.add ((x11_1).toNat * 2)) = some (.int .i64 ((rd_T29 l0 x11_1).f0)) ∧ w'.cell? ⟨(ad102.add ((x11_1).toNat * 2)).block, (ad102.add ((x11_1).toNat * 2)).off + 1, none⟩ = some (.int .i64 ((rd_T29 l0 x11_1).f1)) ∧ w'.cell? (ad102.add (((ji8)).toNat * 2)) = some (.int .i64 ((rd_T29 l0 (ji8)).f0)) ∧ w'.cell? ⟨(ad102.add (((ji8)).toNat * 2)).block, (ad102.add (((ji8)).toNat * 2)).off + 1, none⟩ = some (.int .i64 ((rd_T29 l0 (ji8)).f1))) ∧ (w'.heap[gb101]? = some (.cells #[.int .i64 a1_0, .int .i64 a1_1] 29 (0, 0))) ∧ (w'.heap[s_.1]? = some (.cells #[.int .i64 0, .int .i64 0] 29 (0, 0))) ∧ (w'.heap[s_.2]? = some (.cells #[.int .i64 0, .int .i64 0] 29 (0, 0))) ∧ (w.heap.size ≤ s_.1) ∧ (w.heap.size ≤ s_.1) ∧ (gb101 ≠ s_.1) ∧ (s_.1 ≠ gb101) ∧ (s_.2 ≠ s_.1) ∧ (s_.1 ≠ s_.2) ∧ (w.heap.size ≤ s_.2) ∧ (w.heap.size ≤ s_.2) ∧ (gb101 ≠ s_.2) ∧ (s_.2 ≠ gb101) ∧ (Below w.heap.size w w')) ?_ ?_
          rotate_left
          ·intro hCont
           refine two_ (i := 12) (j := 13) (Ni := some 7) (Nj := some 8) #[true, true, true, true, true, true, true, true, true, true, true, true, true, false, false, false] #[true, true, true, true, true, true, true, true, true, true, true, true, false, true, false, false] rfl rfl rfl rfl (on2 HT_) (by decide) (by decide) (fun K hK => ?_) (fun K hK => ?_)
           ·skip
            refine bxs 7 #[.int .i64 0, .int .i64 0] 29 ?_
            intro gb104 hg w14 hbox hb
            have BK104 := Aside0.mk (hbox)
            have GW104 := Aside0.mk (gs hg : w.heap.size ≤ gb104)
            have GE104 := Aside0.mk (gs hg : w.heap.size ≤ gb104)
            have NB101_104 := Aside0.mk ((by rw [hg]; exact Nat.ne_of_lt (kl BK101) : gb101 ≠ gb104))
            have NB104_101 := Aside0.mk ((by rw [hg]; exact Nat.ne_of_gt (kl BK101) : gb104 ≠ gb101))
            replace BK101 := kb BK101 hb
            replace HB := Aside0.mk (below_step bh hb)
            clear hb hbox hg
            refine hK.out _ _ ⟨(hc HB hw102_0), (hc HB hw102_1), (hc HB hw103_0), (hc HB hw103_1)⟩ (fun hHeld => ?_)
            clear hK K
            refine nm 7 ?_
            refine one_ (i := 13) (N := some 8) #[true, true, true, true, true, true, true, true, true, true, true, true, true, true, false, false] rfl rfl (on1 HT_) (by decide) (fun K hK => ?_)
            refine bxs 8 #[.int .i64 0, .int .i64 0] 29 ?_
            intro gb105 hg w15 hbox hb
            have BK105 := Aside0.mk (hbox)
            have GW105 := Aside0.mk (gs hg : w.heap.size ≤ gb105)
            have GE105 := Aside0.mk (gs hg : w.heap.size ≤ gb105)
            have NB101_105 := Aside0.mk ((by rw [hg]; exact Nat.ne_of_lt (kl BK101) : gb101 ≠ gb105))
            have NB105_101 := Aside0.mk ((by rw [hg]; exact Nat.ne_of_gt (kl BK101) : gb105 ≠ gb101))
            have NB104_105 := Aside0.mk ((by rw [hg]; exact Nat.ne_of_lt (kl BK104) : gb104 ≠ gb105))
            have NB105_104 := Aside0.mk ((by rw [hg]; exact Nat.ne_of_gt (kl BK104) : gb105 ≠ gb104))
            replace BK101 := kb BK101 hb
            replace BK104 := kb BK104 hb
            replace HB := Aside0.mk (below_step bh hb)
            clear hb hbox hg
            refine hK.out _ _ ⟨(hc HB hw102_0), (hc HB hw102_1), (hc HB hw103_0), (hc HB hw103_1)⟩ (fun hHeld => ?_)
            clear hK K
            refine nm 8 ?_
            exact norm_ pa (hCont (gb104, gb105) _ ⟨hHeld, bk BK101, bk BK104, bk BK105, GW104.out, GE104.out, NB101_104.out, NB104_101.out, NB105_104.out, NB104_105.out, GW105.out, GE105.out, NB101_105.out, NB105_101.out, bh⟩)
           ·skip
            refine bxs 8 #[.int .i64 0, .int .i64 0] 29 ?_
            intro gb105 hg w14 hbox hb
            have BK105 := Aside0.mk (hbox)
            have GW105 := Aside0.mk (gs hg : w.heap.size ≤ gb105)
            have GE105 := Aside0.mk (gs hg : w.heap.size ≤ gb105)
            have NB101_105 := Aside0.mk ((by rw [hg]; exact Nat.ne_of_lt (kl BK101) : gb101 ≠ gb105))
            have NB105_101 := Aside0.mk ((by rw [hg]; exact Nat.ne_of_gt (kl BK101) : gb105 ≠ gb101))
            replace BK101 := kb BK101 hb
            replace HB := Aside0.mk (below_step bh hb)
            clear hb hbox hg
            refine hK.out _ _ ⟨(hc HB hw102_0), (hc HB hw102_1), (hc HB hw103_0), (hc HB hw103_1)⟩ (fun hHeld => ?_)
            clear hK K
            refine nm 8 ?_
            refine one_ (i := 12) (N := some 7) #[true, true, true, true, true, true, true, true, true, true, true, true, true, true, false, false] rfl rfl (on1 HT_) (by decide) (fun K hK => ?_)
            refine bxs 7 #[.int .i64 0, .int .i64 0] 29 ?_
            intro gb104 hg w15 hbox hb
            have BK104 := Aside0.mk (hbox)
            have GW104 := Aside0.mk (gs hg : w.heap.size ≤ gb104)
            have GE104 := Aside0.mk (gs hg : w.heap.size ≤ gb104)
            have NB101_104 := Aside0.mk ((by rw [hg]; exact Nat.ne_of_lt (kl BK101) : gb101 ≠ gb104))
            have NB104_101 := Aside0.mk ((by rw [hg]; exact Nat.ne_of_gt (kl BK101) : gb104 ≠ gb101))
            have NB105_104 := Aside0.mk ((by rw [hg]; exact Nat.ne_of_lt (kl BK105) : gb105 ≠ gb104))
            have NB104_105 := Aside0.mk ((by rw [hg]; exact Nat.ne_of_gt (kl BK105) : gb104 ≠ gb105))
            replace BK101 := kb BK101 hb
            replace BK105 := kb BK105 hb
            replace HB := Aside0.mk (below_step bh hb)
            clear hb hbox hg
            refine hK.out _ _ ⟨(hc HB hw102_0), (hc HB hw102_1), (hc HB hw103_0), (hc HB hw103_1)⟩ (fun hHeld => ?_)
            clear hK K
            refine nm 7 ?_
            exact norm_ pa (hCont (gb104, gb105) _ ⟨hHeld, bk BK101, bk BK104, bk BK105, GW104.out, GE104.out, NB101_104.out, NB104_101.out, NB105_104.out, NB104_105.out, GW105.out, GE105.out, NB101_105.out, NB105_101.out, bh⟩)
          rintro ⟨gb104, gb105⟩ w16 ⟨hS_, h0_, h1_, h2_, h3_, h4_, h5_, h6_, h7_, h8_, h9_, h10_, h11_, h12_, h13_⟩
          have BK104 := Aside0.mk h1_
          have BK105 := Aside0.mk h2_
          have GW104 := Aside0.mk h3_
          have GE104 := Aside0.mk h4_
          have NB101_104 := Aside0.mk h5_
          have NB104_101 := Aside0.mk h6_
          have NB105_104 := Aside0.mk h7_
          have NB104_105 := Aside0.mk h8_
          have GW105 := Aside0.mk h9_
          have GE105 := Aside0.mk h10_
          have NB101_105 := Aside0.mk h11_
          have NB105_101 := Aside0.mk h12_
          replace BK101 := Aside0.mk h0_
          replace HB := Aside0.mk h13_
          clear h0_ h1_ h2_ h3_ h4_ h5_ h6_ h7_ h8_ h9_ h10_ h11_ h12_ h13_
          have hHeld := hS_
          refine nn ?_
          refine one_ (i := 14) (N := none) #[true, true, true, true, true, true, true, true, true, true, true, true, true, true, true, false] rfl rfl (on1 HT_) (by decide) (fun K hK => ?_)
          have hs17 : w16.cell? ⟨gb104, 0, none⟩ = some (.int .i64 0) := bc BK104 0
          have hfs17 := blk_frozen BK104.out 0
          have hns17_0 := NB101_104.out
          have hns17_2 := NB105_104.out
          have hms17_0 := NB104_101.out
          have hms17_2 := NB104_105.out
          have hs18 : w16.cell? ⟨gb104, 1, none⟩ = some (.int .i64 0) := bc BK104 1
          have hfs18 := blk_frozen BK104.out 1
          have hns18_0 := NB101_104.out
          have hns18_2 := NB105_104.out
          have hms18_0 := NB104_101.out
          have hms18_2 := NB104_105.out
          refine skip_ (w1 := ?_) (by rfl) rfl ?_ ?_
          rotate_left
          ·go_simp
           rfl
          refine hK.out _ _ ⟨((cell_far (p := ⟨gb104, _, none⟩) (fr hw102_0 GW104) _).trans (((cell_far (p := ⟨gb104, _, none⟩) (fr hw102_0 GW104) _).trans (hHeld.1)))), ((cell_far (p := ⟨gb104, _, none⟩) (fr hw102_1 GW104) _).trans (((cell_far (p := ⟨gb104, _, none⟩) (fr hw102_1 GW104) _).trans (hHeld.2.1)))), ((cell_far (p := ⟨gb104, _, none⟩) (fr hw103_0 GW104) _).trans (((cell_far (p := ⟨gb104, _, none⟩) (fr hw103_0 GW104) _).trans (hHeld.2.2.1)))), ((cell_far (p := ⟨gb104, _, none⟩) (fr hw103_1 GW104) _).trans (((cell_far (p := ⟨gb104, _, none⟩) (fr hw103_1 GW104) _).trans (hHeld.2.2.2))))⟩ (fun hHeld => ?_)
          clear hK K
          refine one_ (i := 15) (N := none) #[true, true, true, true, true, true, true, true, true, true, true, true, true, true, true, true] rfl rfl (on1 HT_) (by decide) (fun K hK => ?_)
          have hs19 : w16.cell? ⟨gb105, 0, none⟩ = some (.int .i64 0) := bc BK105 0
          have hfs19 := blk_frozen BK105.out 0
          have hns19_0 := NB101_105.out
          have hns19_1 := NB104_105.out
          have hms19_0 := NB105_101.out
          have hms19_1 := NB105_104.out
          have hs20 : w16.cell? ⟨gb105, 1, none⟩ = some (.int .i64 0) := bc BK105 1
          have hfs20 := blk_frozen BK105.out 1
          have hns20_0 := NB101_105.out
          have hns20_1 := NB104_105.out
          have hms20_0 := NB105_101.out
          have hms20_1 := NB105_104.out
          refine skip_ (w1 := ?_) (by rfl) rfl ?_ ?_
          rotate_left
          ·go_simp
           rfl
          refine hK.out _ _ ⟨((cell_far (p := ⟨gb105, _, none⟩) (fr hw102_0 GW105) _).trans (((cell_far (p := ⟨gb105, _, none⟩) (fr hw102_0 GW105) _).trans (hHeld.1)))), ((cell_far (p := ⟨gb105, _, none⟩) (fr hw102_1 GW105) _).trans (((cell_far (p := ⟨gb105, _, none⟩) (fr hw102_1 GW105) _).trans (hHeld.2.1)))), ((cell_far (p := ⟨gb105, _, none⟩) (fr hw103_0 GW105) _).trans (((cell_far (p := ⟨gb105, _, none⟩) (fr hw103_0 GW105) _).trans (hHeld.2.2.1)))), ((cell_far (p := ⟨gb105, _, none⟩) (fr hw103_1 GW105) _).trans (((cell_far (p := ⟨gb105, _, none⟩) (fr hw103_1 GW105) _).trans (hHeld.2.2.2))))⟩ (fun hHeld => ?_)
          clear hK K
          refine done_ (done_of HT_.out (by kernel_rfl)) ?_
          have hnb21 := NB104_101.out
          have hnc21 := NB101_104.out
          have hnb22 := NB104_105.out
          have hnc22 := NB105_104.out
          obtain ⟨hcz23_0, hcz23_1, hfz23_0, hfz23_1⟩ := b2 BK104
          have hnb24 := NB105_101.out
          have hnc24 := NB101_105.out
          obtain ⟨hcz25_0, hcz25_1, hfz25_0, hfz25_1⟩ := b2 BK105
          obtain ⟨hcz26_0, hcz26_1, hfz26_0, hfz26_1⟩ := b2 BK101
          try go_wp2_with (first | ((with_reducible refine gate_callee (f := 100) rfl ?_); refine goesL_ (some 29) rfl rfl Try.func100 (by kernel_rfl) rfl #[.agg #[.int .i64 ((rd_T29 l0 x11_1).f0), .int .i64 ((rd_T29 l0 x11_1).f1)], .agg #[.int .i64 ((rd_T29 l0 (ji8)).f0), .int .i64 ((rd_T29 l0 (ji8)).f1)], .agg #[.int .i64 a1_0, .int .i64 a1_1]] rfl (by (try simp only [List.map_toArray, List.map_cons, List.map_nil]); first | done | (simp only [hji8]; rfl) | rfl | (simp only [List.length_drop, List.length_take]; rfl)) ?_; (with_reducible refine (shape_on.calls ((rd_T29 l0 x11_1).f0) ((rd_T29 l0 x11_1).f1) ((rd_T29 l0 (ji8)).f0) ((rd_T29 l0 (ji8)).f1) a1_0 a1_1 true _ A11.out).mono ?_); rintro e w27 ⟨rfl, hb⟩; refine ⟨_, rfl, ?_⟩; have n0_ := Aside0.mk (blk_below (g := gb101) (o := .cells #[.int .i64 a1_0, .int .i64 a1_1] 29 (0, 0)) (by (with_reducible repeat (first | refine blk_drewN ?_ _ | refine blk_drew ?_ | refine blk_alloc ?_ _)); refine blk_far ?_ NB101_105.out _; (with_reducible repeat (first | refine blk_drewN ?_ _ | refine blk_drew ?_ | refine blk_alloc ?_ _)); refine blk_far ?_ NB101_105.out _; (with_reducible repeat (first | refine blk_drewN ?_ _ | refine blk_drew ?_ | refine blk_alloc ?_ _)); refine blk_far ?_ NB101_104.out _; (with_reducible repeat (first | refine blk_drewN ?_ _ | refine blk_drew ?_ | refine blk_alloc ?_ _)); refine blk_far ?_ NB101_104.out _; (with_reducible repeat (first | refine blk_drewN ?_ _ | refine blk_drew ?_ | refine blk_alloc ?_ _)); exact BK101.out) hb); have n1_ := Aside0.mk (blk_below (g := gb104) (o := .cells #[.int .i64 ((rd_T29 l0 x11_1).f0), .int .i64 ((rd_T29 l0 x11_1).f1)] 29 (0, 0)) (by (with_reducible repeat (first | refine blk_drewN ?_ _ | refine blk_drew ?_ | refine blk_alloc ?_ _)); refine blk_far ?_ NB104_105.out _; (with_reducible repeat (first | refine blk_drewN ?_ _ | refine blk_drew ?_ | refine blk_alloc ?_ _)); refine blk_far ?_ NB104_105.out _; (with_reducible repeat (first | refine blk_drewN ?_ _ | refine blk_drew ?_ | refine blk_alloc ?_ _)); refine blk_put (cs := #[.int .i64 ((rd_T29 l0 x11_1).f0), .int .i64 0]) ?_ 1 _ rfl; (with_reducible repeat (first | refine blk_drewN ?_ _ | refine blk_drew ?_ | refine blk_alloc ?_ _)); refine blk_put (cs := #[.int .i64 0, .int .i64 0]) ?_ 0 _ rfl; (with_reducible repeat (first | refine blk_drewN ?_ _ | refine blk_drew ?_ | refine blk_alloc ?_ _)); exact BK104.out) hb); have n2_ := Aside0.mk (blk_below (g := gb105) (o := .cells #[.int .i64 ((rd_T29 l0 (ji8)).f0), .int .i64 ((rd_T29 l0 (ji8)).f1)] 29 (0, 0)) (by (with_reducible repeat (first | refine blk_drewN ?_ _ | refine blk_drew ?_ | refine blk_alloc ?_ _)); refine blk_put (cs := #[.int .i64 ((rd_T29 l0 (ji8)).f0), .int .i64 0]) ?_ 1 _ rfl; (with_reducible repeat (first | refine blk_drewN ?_ _ | refine blk_drew ?_ | refine blk_alloc ?_ _)); refine blk_put (cs := #[.int .i64 0, .int .i64 0]) ?_ 0 _ rfl; (with_reducible repeat (first | refine blk_drewN ?_ _ | refine blk_drew ?_ | refine blk_alloc ?_ _)); refine blk_far ?_ NB105_104.out _; (with_reducible repeat (first | refine blk_drewN ?_ _ | refine blk_drew ?_ | refine blk_alloc ?_ _)); refine blk_far ?_ NB105_104.out _; (with_reducible repeat (first | refine blk_drewN ?_ _ | refine blk_drew ?_ | refine blk_alloc ?_ _)); exact BK105.out) hb); have n3_ := Aside0.mk (below_step bh hb); clear BK101; clear BK104; clear BK105; clear HB; have BK101 := n0_; have BK104 := n1_; have BK105 := n2_; have HB := n3_; clear n0_ n1_ n2_ n3_; (try clear hb); (try clear hb2); (try clear hk); (try clear hi)))
          go_ret
          exact ⟨by first | rfl | (simp [errW_none, errW_some] <;> rfl) | (simp only [← hji8]; first | rfl | (simp [errW_none, errW_some] <;> rfl)) | (simp [*, errW_none, errW_some] <;> rfl), bh⟩
         ·replace c12 := Bool.eq_false_iff.mpr c12
          subst c12
          rw [if_neg (show ¬ (false = true) by decide)] at H
          have HC28 := Aside0.mk H
          clear H
          try go_wp2
          replace BK101 := Aside0.mk (blk_drew BK101.out)
          replace HB := Aside0.mk (below_drew1 HB.out)
          have p102 : 0 ≤ (x11_1 : Int) := dt
          have q102 : x11_1 < (l0.length : Int) := dt
          obtain ⟨ad102, e102, hx102_0, hx102_1⟩ := at_T29 HR0.out x11_1 p102 q102
          have hw102_1 := hx102_1
          have hw102_0 := hx102_0
          cases e102
          replace hx102_0 := hc HB hx102_0
          replace hx102_1 := hc HB hx102_1
          replace p102 := eq_true p102
          replace q102 := eq_true q102
          have p103 : 0 ≤ ((ji8) : Int) := dt
          have q103 : (ji8) < (l0.length : Int) := dt
          obtain ⟨ad103, e103, hx103_0, hx103_1⟩ := at_T29 HR0.out (ji8) p103 q103
          have hw103_1 := hx103_1
          have hw103_0 := hx103_0
          obtain rfl : ad102 = ad103 := (by injection e103)
          replace hx103_0 := hc HB hx103_0
          replace hx103_1 := hc HB hx103_1
          replace p103 := eq_true p103
          replace q103 := eq_true q103
          refine start_ (n := 16) (S := fun w' => w'.cell? (ad102.add ((x11_1).toNat * 2)) = some (.int .i64 ((rd_T29 l0 x11_1).f0)) ∧ w'.cell? ⟨(ad102.add ((x11_1).toNat * 2)).block, (ad102.add ((x11_1).toNat * 2)).off + 1, none⟩ = some (.int .i64 ((rd_T29 l0 x11_1).f1)) ∧ w'.cell? (ad102.add (((ji8)).toNat * 2)) = some (.int .i64 ((rd_T29 l0 (ji8)).f0)) ∧ w'.cell? ⟨(ad102.add (((ji8)).toNat * 2)).block, (ad102.add (((ji8)).toNat * 2)).off + 1, none⟩ = some (.int .i64 ((rd_T29 l0 (ji8)).f1))) (ds := []) #[false, false, false, false, false, false, false, false, false, false, false, false, false, false, false, false] (by kernel_rfl) rfl rfl ⟨(hc HB hw102_0), (hc HB hw102_1), (hc HB hw103_0), (hc HB hw103_1)⟩ (fun hHeld => ?_); refine with_tabW shape_where.tab5 shape_where.bits5 (fun HT_ HW_ => ?_)
          generalize wr.drew = w29 at BK101 HB hx102_0 hx102_1 hx103_0 hx103_1 hHeld ⊢
          refine pu 0 14 HT_ ?_
          refine pu 1 15 HT_ ?_
          refine pu 2 16 HT_ ?_
          refine pu 4 18 HT_ ?_
          refine pu 5 19 HT_ ?_
          refine pu 6 20 HT_ ?_
          refine pu 7 21 HT_ ?_
          refine pu 8 22 HT_ ?_
          refine pu 9 23 HT_ ?_
          refine pu 10 24 HT_ ?_
          refine tk4 3 17 hHeld HT_ HW_ ?_
          refine tk4 11 25 hHeld HT_ HW_ ?_
          refine join_ (σ := Nat × Nat) 2 #[true, true, true, true, true, true, true, true, true, true, true, true, true, true, false, false] (fun s_ => [(7, .pointer (some ⟨s_.1, 0, none⟩)), (8, .pointer (some ⟨s_.2, 0, none⟩))]) (fun s_ w' => (w'.cell? (ad102.add ((x11_1).toNat * 2)) = some (.int .i64 ((rd_T29 l0 x11_1).f0)) ∧ w'.cell? ⟨(ad102.add ((x11_1).toNat * 2)).block, (ad102.add ((x11_1).toNat * 2)).off + 1, none⟩ = some (.int .i64 ((rd_T29 l0 x11_1).f1)) ∧ w'.cell? (ad102.add (((ji8)).toNat * 2)) = some (.int .i64 ((rd_T29 l0 (ji8)).f0)) ∧ w'.cell? ⟨(ad102.add (((ji8)).toNat * 2)).block, (ad102.add (((ji8)).toNat * 2)).off + 1, none⟩ = some (.int .i64 ((rd_T29 l0 (ji8)).f1))) ∧ (w'.heap[gb101]? = some (.cells #[.int .i64 a1_0, .int .i64 a1_1] 29 (0, 0))) ∧ (w'.heap[s_.1]? = some (.cells #[.int .i64 0, .int .i64 0] 29 (0, 0))) ∧ (w'.heap[s_.2]? = some (.cells #[.int .i64 0, .int .i64 0] 29 (0, 0))) ∧ (w.heap.size ≤ s_.1) ∧ (w.heap.size ≤ s_.1) ∧ (gb101 ≠ s_.1) ∧ (s_.1 ≠ gb101) ∧ (s_.2 ≠ s_.1) ∧ (s_.1 ≠ s_.2) ∧ (w.heap.size ≤ s_.2) ∧ (w.heap.size ≤ s_.2) ∧ (gb101 ≠ s_.2) ∧ (s_.2 ≠ gb101) ∧ (Below w.heap.size w w')) ?_ ?_
          rotate_left
          ·intro hCont
           refine two_ (i := 12) (j := 13) (Ni := some 7) (Nj := some 8) #[true, true, true, true, true, true, true, true, true, true, true, true, true, false, false, false] #[true, true, true, true, true, true, true, true, true, true, true, true, false, true, false, false] rfl rfl rfl rfl (on2 HT_) (by decide) (by decide) (fun K hK => ?_) (fun K hK => ?_)
           ·skip
            refine bxs 7 #[.int .i64 0, .int .i64 0] 29 ?_
            intro gb104 hg w30 hbox hb
            have BK104 := Aside0.mk (hbox)
            have GW104 := Aside0.mk (gs hg : w.heap.size ≤ gb104)
            have GE104 := Aside0.mk (gs hg : w.heap.size ≤ gb104)
            have NB101_104 := Aside0.mk ((by rw [hg]; exact Nat.ne_of_lt (kl BK101) : gb101 ≠ gb104))
            have NB104_101 := Aside0.mk ((by rw [hg]; exact Nat.ne_of_gt (kl BK101) : gb104 ≠ gb101))
            replace BK101 := kb BK101 hb
            replace HB := Aside0.mk (below_step bh hb)
            clear hb hbox hg
            refine hK.out _ _ ⟨(hc HB hw102_0), (hc HB hw102_1), (hc HB hw103_0), (hc HB hw103_1)⟩ (fun hHeld => ?_)
            clear hK K
            refine nm 7 ?_
            refine one_ (i := 13) (N := some 8) #[true, true, true, true, true, true, true, true, true, true, true, true, true, true, false, false] rfl rfl (on1 HT_) (by decide) (fun K hK => ?_)
            refine bxs 8 #[.int .i64 0, .int .i64 0] 29 ?_
            intro gb105 hg w31 hbox hb
            have BK105 := Aside0.mk (hbox)
            have GW105 := Aside0.mk (gs hg : w.heap.size ≤ gb105)
            have GE105 := Aside0.mk (gs hg : w.heap.size ≤ gb105)
            have NB101_105 := Aside0.mk ((by rw [hg]; exact Nat.ne_of_lt (kl BK101) : gb101 ≠ gb105))
            have NB105_101 := Aside0.mk ((by rw [hg]; exact Nat.ne_of_gt (kl BK101) : gb105 ≠ gb101))
            have NB104_105 := Aside0.mk ((by rw [hg]; exact Nat.ne_of_lt (kl BK104) : gb104 ≠ gb105))
            have NB105_104 := Aside0.mk ((by rw [hg]; exact Nat.ne_of_gt (kl BK104) : gb105 ≠ gb104))
            replace BK101 := kb BK101 hb
            replace BK104 := kb BK104 hb
            replace HB := Aside0.mk (below_step bh hb)
            clear hb hbox hg
            refine hK.out _ _ ⟨(hc HB hw102_0), (hc HB hw102_1), (hc HB hw103_0), (hc HB hw103_1)⟩ (fun hHeld => ?_)
            clear hK K
            refine nm 8 ?_
            exact norm_ pa (hCont (gb104, gb105) _ ⟨hHeld, bk BK101, bk BK104, bk BK105, GW104.out, GE104.out, NB101_104.out, NB104_101.out, NB105_104.out, NB104_105.out, GW105.out, GE105.out, NB101_105.out, NB105_101.out, bh⟩)
           ·skip
            refine bxs 8 #[.int .i64 0, .int .i64 0] 29 ?_
            intro gb105 hg w30 hbox hb
            have BK105 := Aside0.mk (hbox)
            have GW105 := Aside0.mk (gs hg : w.heap.size ≤ gb105)
            have GE105 := Aside0.mk (gs hg : w.heap.size ≤ gb105)
            have NB101_105 := Aside0.mk ((by rw [hg]; exact Nat.ne_of_lt (kl BK101) : gb101 ≠ gb105))
            have NB105_101 := Aside0.mk ((by rw [hg]; exact Nat.ne_of_gt (kl BK101) : gb105 ≠ gb101))
            replace BK101 := kb BK101 hb
            replace HB := Aside0.mk (below_step bh hb)
            clear hb hbox hg
            refine hK.out _ _ ⟨(hc HB hw102_0), (hc HB hw102_1), (hc HB hw103_0), (hc HB hw103_1)⟩ (fun hHeld => ?_)
            clear hK K
            refine nm 8 ?_
            refine one_ (i := 12) (N := some 7) #[true, true, true, true, true, true, true, true, true, true, true, true, true, true, false, false] rfl rfl (on1 HT_) (by decide) (fun K hK => ?_)
            refine bxs 7 #[.int .i64 0, .int .i64 0] 29 ?_
            intro gb104 hg w31 hbox hb
            have BK104 := Aside0.mk (hbox)
            have GW104 := Aside0.mk (gs hg : w.heap.size ≤ gb104)
            have GE104 := Aside0.mk (gs hg : w.heap.size ≤ gb104)
            have NB101_104 := Aside0.mk ((by rw [hg]; exact Nat.ne_of_lt (kl BK101) : gb101 ≠ gb104))
            have NB104_101 := Aside0.mk ((by rw [hg]; exact Nat.ne_of_gt (kl BK101) : gb104 ≠ gb101))
            have NB105_104 := Aside0.mk ((by rw [hg]; exact Nat.ne_of_lt (kl BK105) : gb105 ≠ gb104))
            have NB104_105 := Aside0.mk ((by rw [hg]; exact Nat.ne_of_gt (kl BK105) : gb104 ≠ gb105))
            replace BK101 := kb BK101 hb
            replace BK105 := kb BK105 hb
            replace HB := Aside0.mk (below_step bh hb)
            clear hb hbox hg
            refine hK.out _ _ ⟨(hc HB hw102_0), (hc HB hw102_1), (hc HB hw103_0), (hc HB hw103_1)⟩ (fun hHeld => ?_)
            clear hK K
            refine nm 7 ?_
            exact norm_ pa (hCont (gb104, gb105) _ ⟨hHeld, bk BK101, bk BK104, bk BK105, GW104.out, GE104.out, NB101_104.out, NB104_101.out, NB105_104.out, NB104_105.out, GW105.out, GE105.out, NB101_105.out, NB105_101.out, bh⟩)
          rintro ⟨gb104, gb105⟩ w32 ⟨hS_, h0_, h1_, h2_, h3_, h4_, h5_, h6_, h7_, h8_, h9_, h10_, h11_, h12_, h13_⟩
          have BK104 := Aside0.mk h1_
          have BK105 := Aside0.mk h2_
          have GW104 := Aside0.mk h3_
          have GE104 := Aside0.mk h4_
          have NB101_104 := Aside0.mk h5_
          have NB104_101 := Aside0.mk h6_
          have NB105_104 := Aside0.mk h7_
          have NB104_105 := Aside0.mk h8_
          have GW105 := Aside0.mk h9_
          have GE105 := Aside0.mk h10_
          have NB101_105 := Aside0.mk h11_
          have NB105_101 := Aside0.mk h12_
          replace BK101 := Aside0.mk h0_
          replace HB := Aside0.mk h13_
          clear h0_ h1_ h2_ h3_ h4_ h5_ h6_ h7_ h8_ h9_ h10_ h11_ h12_ h13_
          have hHeld := hS_
          refine nn ?_
          refine one_ (i := 14) (N := none) #[true, true, true, true, true, true, true, true, true, true, true, true, true, true, true, false] rfl rfl (on1 HT_) (by decide) (fun K hK => ?_)
          have hs33 : w32.cell? ⟨gb104, 0, none⟩ = some (.int .i64 0) := bc BK104 0
          have hfs33 := blk_frozen BK104.out 0
          have hns33_0 := NB101_104.out
          have hns33_2 := NB105_104.out
          have hms33_0 := NB104_101.out
          have hms33_2 := NB104_105.out
          have hs34 : w32.cell? ⟨gb104, 1, none⟩ = some (.int .i64 0) := bc BK104 1
          have hfs34 := blk_frozen BK104.out 1
          have hns34_0 := NB101_104.out
          have hns34_2 := NB105_104.out
          have hms34_0 := NB104_101.out
          have hms34_2 := NB104_105.out
          refine skip_ (w1 := ?_) (by rfl) rfl ?_ ?_
          rotate_left
          ·go_simp
           rfl
          refine hK.out _ _ ⟨((cell_far (p := ⟨gb104, _, none⟩) (fr hw102_0 GW104) _).trans (((cell_far (p := ⟨gb104, _, none⟩) (fr hw102_0 GW104) _).trans (hHeld.1)))), ((cell_far (p := ⟨gb104, _, none⟩) (fr hw102_1 GW104) _).trans (((cell_far (p := ⟨gb104, _, none⟩) (fr hw102_1 GW104) _).trans (hHeld.2.1)))), ((cell_far (p := ⟨gb104, _, none⟩) (fr hw103_0 GW104) _).trans (((cell_far (p := ⟨gb104, _, none⟩) (fr hw103_0 GW104) _).trans (hHeld.2.2.1)))), ((cell_far (p := ⟨gb104, _, none⟩) (fr hw103_1 GW104) _).trans (((cell_far (p := ⟨gb104, _, none⟩) (fr hw103_1 GW104) _).trans (hHeld.2.2.2))))⟩ (fun hHeld => ?_)
          clear hK K
          refine one_ (i := 15) (N := none) #[true, true, true, true, true, true, true, true, true, true, true, true, true, true, true, true] rfl rfl (on1 HT_) (by decide) (fun K hK => ?_)
          have hs35 : w32.cell? ⟨gb105, 0, none⟩ = some (.int .i64 0) := bc BK105 0
          have hfs35 := blk_frozen BK105.out 0
          have hns35_0 := NB101_105.out
          have hns35_1 := NB104_105.out
          have hms35_0 := NB105_101.out
          have hms35_1 := NB105_104.out
          have hs36 : w32.cell? ⟨gb105, 1, none⟩ = some (.int .i64 0) := bc BK105 1
          have hfs36 := blk_frozen BK105.out 1
          have hns36_0 := NB101_105.out
          have hns36_1 := NB104_105.out
          have hms36_0 := NB105_101.out
          have hms36_1 := NB105_104.out
          refine skip_ (w1 := ?_) (by rfl) rfl ?_ ?_
          rotate_left
          ·go_simp
           rfl
          refine hK.out _ _ ⟨((cell_far (p := ⟨gb105, _, none⟩) (fr hw102_0 GW105) _).trans (((cell_far (p := ⟨gb105, _, none⟩) (fr hw102_0 GW105) _).trans (hHeld.1)))), ((cell_far (p := ⟨gb105, _, none⟩) (fr hw102_1 GW105) _).trans (((cell_far (p := ⟨gb105, _, none⟩) (fr hw102_1 GW105) _).trans (hHeld.2.1)))), ((cell_far (p := ⟨gb105, _, none⟩) (fr hw103_0 GW105) _).trans (((cell_far (p := ⟨gb105, _, none⟩) (fr hw103_0 GW105) _).trans (hHeld.2.2.1)))), ((cell_far (p := ⟨gb105, _, none⟩) (fr hw103_1 GW105) _).trans (((cell_far (p := ⟨gb105, _, none⟩) (fr hw103_1 GW105) _).trans (hHeld.2.2.2))))⟩ (fun hHeld => ?_)
          clear hK K
          refine done_ (done_of HT_.out (by kernel_rfl)) ?_
          have hnb37 := NB104_101.out
          have hnc37 := NB101_104.out
          have hnb38 := NB104_105.out
          have hnc38 := NB105_104.out
          obtain ⟨hcz39_0, hcz39_1, hfz39_0, hfz39_1⟩ := b2 BK104
          have hnb40 := NB105_101.out
          have hnc40 := NB101_105.out
          obtain ⟨hcz41_0, hcz41_1, hfz41_0, hfz41_1⟩ := b2 BK105
          obtain ⟨hcz42_0, hcz42_1, hfz42_0, hfz42_1⟩ := b2 BK101
          go_upto_if 34 with (first | ((with_reducible refine gate_callee (f := 100) rfl ?_); refine goesL_ (some 29) rfl rfl Try.func100 (by kernel_rfl) rfl #[.agg #[.int .i64 ((rd_T29 l0 x11_1).f0), .int .i64 ((rd_T29 l0 x11_1).f1)], .agg #[.int .i64 ((rd_T29 l0 (ji8)).f0), .int .i64 ((rd_T29 l0 (ji8)).f1)], .agg #[.int .i64 a1_0, .int .i64 a1_1]] rfl (by (try simp only [List.map_toArray, List.map_cons, List.map_nil]); first | done | (simp only [hji8]; rfl) | rfl | (simp only [List.length_drop, List.length_take]; rfl)) ?_; (with_reducible refine (shape_on.calls ((rd_T29 l0 x11_1).f0) ((rd_T29 l0 x11_1).f1) ((rd_T29 l0 (ji8)).f0) ((rd_T29 l0 (ji8)).f1) a1_0 a1_1 false _ A11.out).mono ?_); rintro e w43 ⟨rfl, hb⟩; refine ⟨_, rfl, ?_⟩; have n0_ := Aside0.mk (blk_below (g := gb101) (o := .cells #[.int .i64 a1_0, .int .i64 a1_1] 29 (0, 0)) (by (with_reducible repeat (first | refine blk_drewN ?_ _ | refine blk_drew ?_ | refine blk_alloc ?_ _)); refine blk_far ?_ NB101_105.out _; (with_reducible repeat (first | refine blk_drewN ?_ _ | refine blk_drew ?_ | refine blk_alloc ?_ _)); refine blk_far ?_ NB101_105.out _; (with_reducible repeat (first | refine blk_drewN ?_ _ | refine blk_drew ?_ | refine blk_alloc ?_ _)); refine blk_far ?_ NB101_104.out _; (with_reducible repeat (first | refine blk_drewN ?_ _ | refine blk_drew ?_ | refine blk_alloc ?_ _)); refine blk_far ?_ NB101_104.out _; (with_reducible repeat (first | refine blk_drewN ?_ _ | refine blk_drew ?_ | refine blk_alloc ?_ _)); exact BK101.out) hb); have n1_ := Aside0.mk (blk_below (g := gb104) (o := .cells #[.int .i64 ((rd_T29 l0 x11_1).f0), .int .i64 ((rd_T29 l0 x11_1).f1)] 29 (0, 0)) (by (with_reducible repeat (first | refine blk_drewN ?_ _ | refine blk_drew ?_ | refine blk_alloc ?_ _)); refine blk_far ?_ NB104_105.out _; (with_reducible repeat (first | refine blk_drewN ?_ _ | refine blk_drew ?_ | refine blk_alloc ?_ _)); refine blk_far ?_ NB104_105.out _; (with_reducible repeat (first | refine blk_drewN ?_ _ | refine blk_drew ?_ | refine blk_alloc ?_ _)); refine blk_put (cs := #[.int .i64 ((rd_T29 l0 x11_1).f0), .int .i64 0]) ?_ 1 _ rfl; (with_reducible repeat (first | refine blk_drewN ?_ _ | refine blk_drew ?_ | refine blk_alloc ?_ _)); refine blk_put (cs := #[.int .i64 0, .int .i64 0]) ?_ 0 _ rfl; (with_reducible repeat (first | refine blk_drewN ?_ _ | refine blk_drew ?_ | refine blk_alloc ?_ _)); exact BK104.out) hb); have n2_ := Aside0.mk (blk_below (g := gb105) (o := .cells #[.int .i64 ((rd_T29 l0 (ji8)).f0), .int .i64 ((rd_T29 l0 (ji8)).f1)] 29 (0, 0)) (by (with_reducible repeat (first | refine blk_drewN ?_ _ | refine blk_drew ?_ | refine blk_alloc ?_ _)); refine blk_put (cs := #[.int .i64 ((rd_T29 l0 (ji8)).f0), .int .i64 0]) ?_ 1 _ rfl; (with_reducible repeat (first | refine blk_drewN ?_ _ | refine blk_drew ?_ | refine blk_alloc ?_ _)); refine blk_put (cs := #[.int .i64 0, .int .i64 0]) ?_ 0 _ rfl; (with_reducible repeat (first | refine blk_drewN ?_ _ | refine blk_drew ?_ | refine blk_alloc ?_ _)); refine blk_far ?_ NB105_104.out _; (with_reducible repeat (first | refine blk_drewN ?_ _ | refine blk_drew ?_ | refine blk_alloc ?_ _)); refine blk_far ?_ NB105_104.out _; (with_reducible repeat (first | refine blk_drewN ?_ _ | refine blk_drew ?_ | refine blk_alloc ?_ _)); exact BK105.out) hb); have n3_ := Aside0.mk (below_step bh hb); clear BK101; clear BK104; clear BK105; clear HB; have BK101 := n0_; have BK104 := n1_; have BK105 := n2_; have HB := n3_; clear n0_ n1_ n2_ n3_; (try clear hb); (try clear hb2); (try clear hk); (try clear hi); have hcz44_0 : w43.cell? ⟨gb104, 0, none⟩ = some (.int .i64 ((rd_T29 l0 x11_1).f0)) := bc BK104 0; have hcz44_1 : w43.cell? ⟨gb104, 1, none⟩ = some (.int .i64 ((rd_T29 l0 x11_1).f1)) := bc BK104 1; have hfz44_0 := blk_frozen BK104.out 0; have hfz44_1 := blk_frozen BK104.out 1; have hcz45_0 : w43.cell? ⟨gb105, 0, none⟩ = some (.int .i64 ((rd_T29 l0 (ji8)).f0)) := bc BK105 0; have hcz45_1 : w43.cell? ⟨gb105, 1, none⟩ = some (.int .i64 ((rd_T29 l0 (ji8)).f1)) := bc BK105 1; have hfz45_0 := blk_frozen BK105.out 0; have hfz45_1 := blk_frozen BK105.out 1))
          (try simp only [Act.put, List.setIfInBounds_toArray, List.set_cons_zero, List.set_cons_succ])
          go_cut [] (fun wc => ∃ (kq : Nat) (x105000_27 : Int) (x105001_27 : Int) (x106000_27 : Int) (x106001_27 : Int), Aside0 (shape_where.j1 kq l0 x5_1 (l0.length : Int) x11_1 a1_0 a1_1 x105000_27 x105001_27 x106000_27 x106001_27 = some r) ∧ Aside0 (kq ≤ k1) ∧ Aside0 (wc.heap[gb101]? = some (.cells #[.int .i64 a1_0, .int .i64 a1_1] 29 (0, 0))) ∧ Aside0 (wc.heap[gb104]? = some (.cells #[.int .i64 x105000_27, .int .i64 x105001_27] 29 (0, 0))) ∧ Aside0 (wc.heap[gb105]? = some (.cells #[.int .i64 x106000_27, .int .i64 x106001_27] 29 (0, 0))) ∧ Aside0 (Below w.heap.size w wc))
          case first =>
           have H := HC28.out
           clear HC28
           by_cases c46 : ((rd_T29 l0 x11_1).f1) > ((rd_T29 l0 (ji8)).f1)
           ·rw [if_pos c46] at H
            have c46b0 : decide (((rd_T29 l0 (ji8)).f1) < ((rd_T29 l0 x11_1).f1)) = true := decide_eq_true c46
            clear c46
            (first | rw [c46b0] | (simp only [i64_w, i32_w]; rw [c46b0]) | skip)
            have H' := Aside0.mk H
            clear H
            have hnb47 := NB105_101.out
            have hnc47 := NB101_105.out
            have hnb48 := NB105_104.out
            have hnc48 := NB104_105.out
            obtain ⟨hcz49_0, hcz49_1, hfz49_0, hfz49_1⟩ := b2 BK105
            have hnb50 := NB104_101.out
            have hnc50 := NB101_104.out
            obtain ⟨hcz51_0, hcz51_1, hfz51_0, hfz51_1⟩ := b2 BK104
            go_wp2
            go_meet
            case rel => exact ⟨_, ((rd_T29 l0 (ji8)).f0), ((rd_T29 l0 (ji8)).f1), ((rd_T29 l0 x11_1).f0), ((rd_T29 l0 x11_1).f1), H', ⟨by have := HK1.out; first | omega | exact Nat.le_refl _⟩, ⟨by (with_reducible repeat (first | refine blk_drewN ?_ _ | refine blk_drew ?_ | refine blk_alloc ?_ _)); refine blk_far ?_ NB101_105.out _; (with_reducible repeat (first | refine blk_drewN ?_ _ | refine blk_drew ?_ | refine blk_alloc ?_ _)); refine blk_far ?_ NB101_105.out _; (with_reducible repeat (first | refine blk_drewN ?_ _ | refine blk_drew ?_ | refine blk_alloc ?_ _)); refine blk_far ?_ NB101_104.out _; (with_reducible repeat (first | refine blk_drewN ?_ _ | refine blk_drew ?_ | refine blk_alloc ?_ _)); refine blk_far ?_ NB101_104.out _; (with_reducible repeat (first | refine blk_drewN ?_ _ | refine blk_drew ?_ | refine blk_alloc ?_ _)); exact BK101.out⟩, ⟨by (with_reducible repeat (first | refine blk_drewN ?_ _ | refine blk_drew ?_ | refine blk_alloc ?_ _)); refine blk_far ?_ NB104_105.out _; (with_reducible repeat (first | refine blk_drewN ?_ _ | refine blk_drew ?_ | refine blk_alloc ?_ _)); refine blk_far ?_ NB104_105.out _; (with_reducible repeat (first | refine blk_drewN ?_ _ | refine blk_drew ?_ | refine blk_alloc ?_ _)); refine blk_put (cs := #[.int .i64 ((rd_T29 l0 (ji8)).f0), .int .i64 ((rd_T29 l0 x11_1).f1)]) ?_ 1 _ rfl; (with_reducible repeat (first | refine blk_drewN ?_ _ | refine blk_drew ?_ | refine blk_alloc ?_ _)); refine blk_put (cs := #[.int .i64 ((rd_T29 l0 x11_1).f0), .int .i64 ((rd_T29 l0 x11_1).f1)]) ?_ 0 _ rfl; (with_reducible repeat (first | refine blk_drewN ?_ _ | refine blk_drew ?_ | refine blk_alloc ?_ _)); exact BK104.out⟩, ⟨by (with_reducible repeat (first | refine blk_drewN ?_ _ | refine blk_drew ?_ | refine blk_alloc ?_ _)); refine blk_put (cs := #[.int .i64 ((rd_T29 l0 x11_1).f0), .int .i64 ((rd_T29 l0 (ji8)).f1)]) ?_ 1 _ rfl; (with_reducible repeat (first | refine blk_drewN ?_ _ | refine blk_drew ?_ | refine blk_alloc ?_ _)); refine blk_put (cs := #[.int .i64 ((rd_T29 l0 (ji8)).f0), .int .i64 ((rd_T29 l0 (ji8)).f1)]) ?_ 0 _ rfl; (with_reducible repeat (first | refine blk_drewN ?_ _ | refine blk_drew ?_ | refine blk_alloc ?_ _)); refine blk_far ?_ NB105_104.out _; (with_reducible repeat (first | refine blk_drewN ?_ _ | refine blk_drew ?_ | refine blk_alloc ?_ _)); refine blk_far ?_ NB105_104.out _; (with_reducible repeat (first | refine blk_drewN ?_ _ | refine blk_drew ?_ | refine blk_alloc ?_ _)); exact BK105.out⟩, ⟨bh⟩⟩
           ·rw [if_neg c46] at H
            have c46b0 : decide (((rd_T29 l0 (ji8)).f1) < ((rd_T29 l0 x11_1).f1)) = false := decide_eq_false c46
            clear c46
            (first | rw [c46b0] | (simp only [i64_w, i32_w]; rw [c46b0]) | skip)
            have H' := Aside0.mk H
            clear H
            go_wp2
            go_meet
            case rel => exact ⟨_, ((rd_T29 l0 x11_1).f0), ((rd_T29 l0 x11_1).f1), ((rd_T29 l0 (ji8)).f0), ((rd_T29 l0 (ji8)).f1), H', ⟨by have := HK1.out; first | omega | exact Nat.le_refl _⟩, ⟨bk BK101⟩, ⟨bk BK104⟩, ⟨bk BK105⟩, ⟨bh⟩⟩
          case rest =>
           clear HC28
           try clear c1
           try clear p1
           try clear q1
           try clear hx1
           try clear c2
           try clear p2
           try clear c3
           try clear c4
           try clear c5
           try clear c10
           try clear p10
           try clear q10
           try clear hx10
           try clear c12
           try clear c21
           try clear c22
           try clear c24
           try clear c37
           try clear c38
           try clear c40
           try clear c46
           try clear c46b0
           try clear c47
           try clear c48
           try clear c50
           try clear hcz23_0
           try clear hcz23_1
           try clear hcz25_0
           try clear hcz25_1
           try clear hcz26_0
           try clear hcz26_1
           try clear hcz39_0
           try clear hcz39_1
           try clear hcz41_0
           try clear hcz41_1
           try clear hcz42_0
           try clear hcz42_1
           try clear hcz44_0
           try clear hcz44_1
           try clear hcz45_0
           try clear hcz45_1
           try clear hcz49_0
           try clear hcz49_1
           try clear hcz51_0
           try clear hcz51_1
           try clear hfz23_0
           try clear hfz23_1
           try clear hfz25_0
           try clear hfz25_1
           try clear hfz26_0
           try clear hfz26_1
           try clear hfz39_0
           try clear hfz39_1
           try clear hfz41_0
           try clear hfz41_1
           try clear hfz42_0
           try clear hfz42_1
           try clear hfz44_0
           try clear hfz44_1
           try clear hfz45_0
           try clear hfz45_1
           try clear hfz49_0
           try clear hfz49_1
           try clear hfz51_0
           try clear hfz51_1
           try clear hx102_0
           try clear hx102_1
           try clear hx103_0
           try clear hx103_1
           try clear p102
           try clear p103
           try clear q102
           try clear q103
           obtain ⟨kq, x105000_27, x105001_27, x106000_27, x106001_27, HA, HJ27, BK101, BK104, BK105, HB⟩ := hcut
           cases kq with
           | zero => exact absurd HA.out (by simp [shape_where.j1])
           | succ kj27 =>
            have H := HA.out
            clear HA
            simp only [shape_where.j1] at H
            have HC52 := Aside0.mk H
            clear H
            go_upto_region 10 with (fail)
            go_cut [55] (fun v55 wc => ∃ (kq : Nat) (x55_51 : Bool), v55 = .bool x55_51 ∧ Aside0 (shape_where.j2 kq l0 x5_1 (l0.length : Int) x11_1 x55_51 a1_0 a1_1 = some r) ∧ Aside0 (kq ≤ kj27) ∧ Aside0 (wc.heap[gb101]? = some (.cells #[.int .i64 a1_0, .int .i64 a1_1] 29 (0, 0))) ∧ Aside0 (wc.heap[gb104]? = some (.cells #[.int .i64 x105000_27, .int .i64 x105001_27] 29 (0, 0))) ∧ Aside0 (wc.heap[gb105]? = some (.cells #[.int .i64 x106000_27, .int .i64 x106001_27] 29 (0, 0))) ∧ Aside0 (Below w.heap.size w wc))
            case first =>
             have H := HC52.out
             clear HC52
             by_cases c53 : x105001_27 ≤ a1_1
             ·rw [if_pos c53] at H
              have c53b0 : decide (x105001_27 ≤ a1_1) = true := decide_eq_true c53
              clear c53
              (first | rw [c53b0] | (simp only [i64_w, i32_w]; rw [c53b0]) | skip)
              by_cases c54 : a1_1 < x106001_27
              ·rw [if_pos c54] at H
               have c54b0 : decide (a1_1 < x106001_27) = true := decide_eq_true c54
               clear c54
               replace H := Option.bind_eq_some_iff.mp H
               obtain ⟨t107, A550, H⟩ := H
               replace H : (shape_where.j2 kj27 l0 x5_1 (l0.length : Int) x11_1 (decide (t107 > 0)) a1_0 a1_1) = some r := H
               have A55 := Aside0.mk A550
               clear A550
               have H' := Aside0.mk H
               clear H
               have hnb56 := NB104_101.out
               have hnc56 := NB101_104.out
               have hnb57 := NB104_105.out
               have hnc57 := NB105_104.out
               obtain ⟨hcz58_0, hcz58_1, hfz58_0, hfz58_1⟩ := b2 BK104
               have hnb59 := NB101_105.out
               have hnc59 := NB105_101.out
               obtain ⟨hcz60_0, hcz60_1, hfz60_0, hfz60_1⟩ := b2 BK101
               obtain ⟨hcz61_0, hcz61_1, hfz61_0, hfz61_1⟩ := b2 BK105
               go_wp2_with (first | (go_at_call 91; (with_reducible refine (shape_side.calls x105000_27 x105001_27 x106000_27 x106001_27 a1_0 a1_1 t107 _ A55.out).mono ?_); rintro e w62 ⟨rfl, hb⟩; have n0_ := kb BK101 hb; have n1_ := kb BK104 hb; have n2_ := kb BK105 hb; have n3_ := Aside0.mk (below_step bh hb); clear BK101; clear BK104; clear BK105; clear HB; have BK101 := n0_; have BK104 := n1_; have BK105 := n2_; have HB := n3_; clear n0_ n1_ n2_ n3_; (try clear hb); (try clear hb2); (try clear hk); (try clear hi)))
               go_meet
               case rel => exact ⟨_, (decide (t107 > 0)), sd, H', ⟨by have := HK1.out; have := HJ27.out; first | omega | exact Nat.le_refl _⟩, ⟨bk BK101⟩, ⟨bk BK104⟩, ⟨bk BK105⟩, ⟨bh⟩⟩
              ·rw [if_neg c54] at H
               have c54b0 : decide (a1_1 < x106001_27) = false := decide_eq_false c54
               clear c54
               have H' := Aside0.mk H
               clear H
               have hnb63 := NB104_101.out
               have hnc63 := NB101_104.out
               have hnb64 := NB104_105.out
               have hnc64 := NB105_104.out
               obtain ⟨hcz65_0, hcz65_1, hfz65_0, hfz65_1⟩ := b2 BK104
               have hnb66 := NB101_105.out
               have hnc66 := NB105_101.out
               obtain ⟨hcz67_0, hcz67_1, hfz67_0, hfz67_1⟩ := b2 BK101
               obtain ⟨hcz68_0, hcz68_1, hfz68_0, hfz68_1⟩ := b2 BK105
               go_wp2
               go_meet
               case rel => exact ⟨_, (false), sd, H', ⟨by have := HK1.out; have := HJ27.out; first | omega | exact Nat.le_refl _⟩, ⟨bk BK101⟩, ⟨bk BK104⟩, ⟨bk BK105⟩, ⟨bh⟩⟩
             ·rw [if_neg c53] at H
              have c53b0 : decide (x105001_27 ≤ a1_1) = false := decide_eq_false c53
              clear c53
              (first | rw [c53b0] | (simp only [i64_w, i32_w]; rw [c53b0]) | skip)
              have H' := Aside0.mk H
              clear H
              have hnb69 := NB104_101.out
              have hnc69 := NB101_104.out
              have hnb70 := NB104_105.out
              have hnc70 := NB105_104.out
              obtain ⟨hcz71_0, hcz71_1, hfz71_0, hfz71_1⟩ := b2 BK104
              have hnb72 := NB101_105.out
              have hnc72 := NB105_101.out
              obtain ⟨hcz73_0, hcz73_1, hfz73_0, hfz73_1⟩ := b2 BK101
              go_wp2
              go_meet
              case rel => exact ⟨_, (false), sd, H', ⟨by have := HK1.out; have := HJ27.out; first | omega | exact Nat.le_refl _⟩, ⟨bk BK101⟩, ⟨bk BK104⟩, ⟨bk BK105⟩, ⟨bh⟩⟩
            case rest =>
             clear HC52
             try clear c1
             try clear p1
             try clear q1
             try clear hx1
             try clear c2
             try clear p2
             try clear c3
             try clear c4
             try clear c5
             try clear c6
             try clear c7
             try clear c10
             try clear p10
             try clear q10
             try clear hx10
             try clear c12
             try clear c21
             try clear c22
             try clear c24
             try clear c37
             try clear c38
             try clear c40
             try clear c46
             try clear c46b0
             try clear c47
             try clear c48
             try clear c50
             try clear c53
             try clear c53b0
             try clear c54
             try clear c54b0
             try clear c56
             try clear c57
             try clear c59
             try clear c63
             try clear c64
             try clear c66
             try clear c69
             try clear c70
             try clear c72
             try clear hcz23_0
             try clear hcz23_1
             try clear hcz25_0
             try clear hcz25_1
             try clear hcz26_0
             try clear hcz26_1
             try clear hcz39_0
             try clear hcz39_1
             try clear hcz41_0
             try clear hcz41_1
             try clear hcz42_0
             try clear hcz42_1
             try clear hcz44_0
             try clear hcz44_1
             try clear hcz45_0
             try clear hcz45_1
             try clear hcz49_0
             try clear hcz49_1
             try clear hcz51_0
             try clear hcz51_1
             try clear hcz58_0
             try clear hcz58_1
             try clear hcz60_0
             try clear hcz60_1
             try clear hcz61_0
             try clear hcz61_1
             try clear hcz65_0
             try clear hcz65_1
             try clear hcz67_0
             try clear hcz67_1
             try clear hcz68_0
             try clear hcz68_1
             try clear hcz71_0
             try clear hcz71_1
             try clear hcz73_0
             try clear hcz73_1
             try clear hfz23_0
             try clear hfz23_1
             try clear hfz25_0
             try clear hfz25_1
             try clear hfz26_0
             try clear hfz26_1
             try clear hfz39_0
             try clear hfz39_1
             try clear hfz41_0
             try clear hfz41_1
             try clear hfz42_0
             try clear hfz42_1
             try clear hfz44_0
             try clear hfz44_1
             try clear hfz45_0
             try clear hfz45_1
             try clear hfz49_0
             try clear hfz49_1
             try clear hfz51_0
             try clear hfz51_1
             try clear hfz58_0
             try clear hfz58_1
             try clear hfz60_0
             try clear hfz60_1
             try clear hfz61_0
             try clear hfz61_1
             try clear hfz65_0
             try clear hfz65_1
             try clear hfz67_0
             try clear hfz67_1
             try clear hfz68_0
             try clear hfz68_1
             try clear hfz71_0
             try clear hfz71_1
             try clear hfz73_0
             try clear hfz73_1
             try clear hx102_0
             try clear hx102_1
             try clear hx103_0
             try clear hx103_1
             try clear p1
             try clear p10
             try clear p102
             try clear p103
             try clear p2
             try clear q1
             try clear q10
             try clear q102
             try clear q103
             obtain ⟨kq, x55_51, rfl, HA, HJ51, BK101, BK104, BK105, HB⟩ := hcut
             cases kq with
             | zero => exact absurd HA.out (by simp [shape_where.j2])
             | succ kj51 =>
              have H := HA.out
              clear HA
              simp only [shape_where.j2] at H
              by_cases c74 : x55_51 = true
              ·subst c74
               rw [if_pos rfl] at H
               have H' := Aside0.mk H
               clear H
               go_wp2
               go_roundg kj51
               case measure => have := HK1.out; have := HJ27.out; have := HJ51.out; omega
               case rel => exact ⟨(wrap64 (-x5_1)), (wrap64 (x11_1 + 1)), sd, sd, H', ⟨by have := HK1.out; have := HJ27.out; have := HJ51.out; omega⟩, ⟨bk BK101⟩, ⟨bh⟩⟩
              ·replace c74 := Bool.eq_false_iff.mpr c74
               subst c74
               rw [if_neg (show ¬ (false = true) by decide)] at H
               have H' := Aside0.mk H
               clear H
               go_wp2
               go_roundg kj51
               case measure => have := HK1.out; have := HJ27.out; have := HJ51.out; omega
               case rel => exact ⟨(x5_1), (wrap64 (x11_1 + 1)), sd, sd, H', ⟨by have := HK1.out; have := HJ27.out; have := HJ51.out; omega⟩, ⟨bk BK101⟩, ⟨bh⟩⟩
        ·rw [if_neg c10] at H
         exact absurd H (by simp)
       ·rw [if_neg c9] at H
        exact absurd H (by simp)
     ·rw [if_neg c6] at H
      exact absurd H (by simp)
    ·rw [if_neg c5] at H
     exact absurd H (by simp)
   ·rw [if_neg c4] at H
    have c4b0 : decide (x11_1 < (l0.length : Int)) = false := decide_eq_false c4
    clear c4
    obtain rfl := Option.some.inj H
    go_wp2
    go_ret
    exact ⟨by exact er, bh⟩
end Go.Proofs.Ytoffmpkgickfhaa.PG
end
section
namespace Go.Proofs.Ytoffmpkgickfhaa.PG
open Go.RowKit Go.Proofs.YtoffmpkgickfhaaW.PrintWords Go.Proofs.YtoffmpkgickfhaaW.PrintLast Go.Proofs.YtoffmpkgickfhaaW.PrintMore
attribute [local go_sem] max2_int min2_int max_two min_two max_three min_three max_four min_four
set_option linter.unusedVariables false
set_option linter.unusedSimpArgs false
/-! ### shape_Where: function 32 -/
def shape_Where.f (k : Nat) (l0 : List (S29)) (a1_0 : Int) (a1_1 : Int) : Option (Int × Int) := (shape_refused_simple.f k l0).bind fun t102 => (if t102 = 0 then ((shape_within.f (([(⟨a1_0, a1_1⟩ : S29)] : List (S29))) 10000).bind fun t106 => (if t106 = true then ((shape_where.f k l0 a1_0 a1_1).bind fun t107 => (some (t107, 0))) else (some (0, 1)))) else (some (0, t102)))
theorem shape_Where.mono : ∀ a0 a1 a2 k, LeO (shape_Where.f k a0 a1 a2) (shape_Where.f (k + 1) a0 a1 a2) := by
 intro a0 a1 a2 k
 unfold shape_Where.f
 repeat' first
  | (with_reducible exact shape_refused_simple.mono _ _)
  | (with_reducible exact shape_where.mono _ _ _ _)
  | (with_reducible exact LeO.refl _)
  | (with_reducible exact LeO.none _)
  | (with_reducible refine LeO.ite ?_ ?_)
  | (with_reducible refine LeO.bind ?_ (fun _ => ?_))
  | exact shape_refused_simple.mono _ _
  | exact shape_where.mono _ _ _ _
  | exact LeO.none _
  | refine LeO.ite ?_ ?_
  | refine LeO.bind ?_ (fun _ => ?_)
set_option maxHeartbeats 8000000 in
set_option maxRecDepth 100000 in
theorem shape_Where.calls (k : Nat) (A0 : Option Addr) (c0 : Nat) (l0 : List (S29)) (a1_0 : Int) (a1_1 : Int) (r1 : Int) (r2 : Int) (w : World) (hr0 : Kd.C k29 w A0 l0.length l0) (hc0 : l0.length ≤ c0) (h : shape_Where.f k l0 a1_0 a1_1 = some (r1, r2)) :
  Calls Try.prog 32 #[.slice A0 l0.length c0, .agg #[.int .i64 a1_0, .int .i64 a1_1]] w fun e w' => e = .returned (.tuple #[.int .i64 r1, .int .i64 r2]) ∧ Below w.heap.size w w' := by
 have hu29 := Try.underlying29
 have HR0 := Aside0.mk hr0
 have HC0 := Aside0.mk hc0
 clear hr0 hc0
 have HB := Aside0.mk (Below.refl w.heap.size w)
 have H : ((shape_refused_simple.f k l0).bind fun t102 => (if t102 = 0 then ((shape_within.f (([(⟨a1_0, a1_1⟩ : S29)] : List (S29))) 10000).bind fun t106 => (if t106 = true then ((shape_where.f k l0 a1_0 a1_1).bind fun t107 => (some (t107, 0))) else (some (0, 1)))) else (some (0, t102)))) = some (r1, r2) := h
 clear h
 replace H := Option.bind_eq_some_iff.mp H
 obtain ⟨t102, A30, H⟩ := H
 replace H : (if t102 = 0 then ((shape_within.f (([(⟨a1_0, a1_1⟩ : S29)] : List (S29))) 10000).bind fun t106 => (if t106 = true then ((shape_where.f k l0 a1_0 a1_1).bind fun t107 => (some (t107, 0))) else (some (0, 1)))) else (some (0, t102))) = some (r1, r2) := H
 have A3 := Aside0.mk A30
 clear A30
 by_cases c4 : t102 = 0
 ·rw [if_pos c4] at H
  have c4b0 : (t102 == 0) = true := beq_iff_eq.mpr c4
  have c4b1 : (t102 != 0) = false := bne_eq_false_iff_eq.mpr c4
  clear c4
  obtain ⟨y103, hy103⟩ : ∃ y_ : List (S29), y_ = (([(⟨a1_0, a1_1⟩ : S29)] : List (S29))) := ⟨_, rfl⟩
  replace H : ((shape_within.f y103 10000).bind fun t106 => (if t106 = true then ((shape_where.f k l0 a1_0 a1_1).bind fun t107 => (some (t107, 0))) else (some (0, 1)))) = some (r1, r2) := by first | (rw [hy103]; with_reducible exact H) | (have H2_ := (Option.bind_some _ _).symm.trans H; rw [hy103]; with_reducible exact H2_) | (have H2_ := (Option.bind_some _ _).symm.trans H; with_reducible exact H2_) | with_reducible exact H | (rw [hy103]; exact H) | exact H
  have Ny103 := Aside0.mk hy103
  clear hy103
  replace H := Option.bind_eq_some_iff.mp H
  obtain ⟨t106, A50, H⟩ := H
  replace H : (if t106 = true then ((shape_where.f k l0 a1_0 a1_1).bind fun t107 => (some (t107, 0))) else (some (0, 1))) = some (r1, r2) := H
  have A5 := Aside0.mk A50
  clear A50
  by_cases c6 : t106 = true
  ·subst c6
   rw [if_pos rfl] at H
   replace H := Option.bind_eq_some_iff.mp H
   obtain ⟨t107, A70, H⟩ := H
   replace H : (some (t107, 0)) = some (r1, r2) := H
   have A7 := Aside0.mk A70
   clear A70
   simp only [Option.some.injEq, Prod.mk.injEq] at H
   obtain ⟨rfl, rfl⟩ := H
   go_enter Try.func32, Try.ntmps32
   go_wp2_with (first | ((with_reducible refine gate_dst (N := 3) rfl ?_); refine bxe 3 #[.int .i64 a1_0, .int .i64 a1_1] 29 ?_; intro gb101 hg w8 hbox hb; have n0_ := Aside0.mk (below_step bh hb); have n1_ := Aside0.mk (hbox); have n2_ := Aside0.mk (gs hg : w.heap.size ≤ gb101); have n3_ := Aside0.mk (gs hg : w.heap.size ≤ gb101); clear HB; have HB := n0_; have BK101 := n1_; have GW101 := n2_; have GE101 := n3_; clear n0_ n1_ n2_ n3_; clear hb hbox hg) | ((with_reducible refine gate_callee (f := 68) rfl ?_); refine goesL_ (some 8) rfl rfl Try.func68 (by kernel_rfl) rfl #[.slice A0 l0.length c0, .func (.func 69) #[] #[]] rfl sg ?_; (with_reducible refine (shape_refused_simple.calls k _ _ l0  t102 _ ?side1 ?side2 A3.out).mono ?_); (case side1 => exact cs (Kd.C_below HR0.out HB.out)); (case side2 => exact HC0.out); rintro e w9 ⟨rfl, hb⟩; refine ⟨_, rfl, ?_⟩; have n0_ := kb BK101 hb; have n1_ := Aside0.mk (below_step bh hb); clear BK101; clear HB; have BK101 := n0_; have HB := n1_; clear n0_ n1_; (try clear hb); (try clear hb2); (try clear hk); (try clear hi); have hcz10_0 : w9.cell? ⟨gb101, 0, none⟩ = some (.int .i64 a1_0) := bc BK101 0; have hcz10_1 : w9.cell? ⟨gb101, 1, none⟩ = some (.int .i64 a1_1) := bc BK101 1; have hfz10_0 := blk_frozen BK101.out 0; have hfz10_1 := blk_frozen BK101.out 1) | ((with_reducible refine gate_dst (N := 13) rfl ?_); refine Kd.R_lit k29 _ 29 ?hg (N := 13) ?hd (xs := ([(⟨a1_0, a1_1⟩ : S29)] : List (S29))) (inner := [.int .i64 a1_0, .int .i64 a1_1]) (ok := fun _ => True) (okp := fun _ => True) ?hr ?hp (fun _ hk => hk) trivial (Below.refl _ _) (Nat.le_refl _) (by simp) ?_; (case hd => rfl); (case hg => rfl); (case hr => first | (go_simp; done) | (go_simp; rfl)); (case hp => exact (Reps.c2 (show Kd.M k29 _ _ _ (⟨a1_0, a1_1⟩ : S29) [.int .i64 a1_0, .int .i64 a1_1] from (k29_mkM _ _ _ (⟨a1_0, a1_1⟩ : S29) )) (Reps.none _ _))); intro v104 w11 ho12 hb hg_ hnew_; clear hg_ hnew_; (first | rw [← Ny103.out] at ho12 | (simp only [Int.reduceToNat] at ho12; rw [← Ny103.out] at ho12)); have n0_ := Aside0.mk (Kd.R_lower (Kd.R_newB ho12 (g := gb101) (o := .cells #[.int .i64 a1_0, .int .i64 a1_1] 29 (0, 0)) (bk BK101)) (below_size bh)); have n1_ := kb BK101 hb; have n2_ := Aside0.mk (below_step bh hb); clear BK101; clear HB; have HO105 := n0_; have BK101 := n1_; have HB := n2_; clear n0_ n1_ n2_; clear hb ho12; obtain ⟨Ao13, co13, eo13⟩ := Kd.R_slice HO105.out; subst eo13) | ((with_reducible refine gate_callee (f := 48) rfl ?_); refine goesL_ (some 14) rfl rfl Try.func48 (by kernel_rfl) rfl #[.slice Ao13 y103.length co13, .int .i64 10000] rfl sg ?_; (with_reducible refine (shape_within.calls _ _ y103 10000 true _ ?side1 ?side2 A5.out).mono ?_); (case side1 => exact cs (Kd.R_reads' HO105.out).2.2); (case side2 => exact (Kd.R_reads' HO105.out).2.1); rintro e w14 ⟨rfl, hb⟩; refine ⟨_, rfl, ?_⟩; have n0_ := Aside0.mk (Kd.R_below (ro HO105) hb); have n1_ := kb BK101 hb; have n2_ := Aside0.mk (below_step bh hb); clear HO105; clear BK101; clear HB; have HO105 := n0_; have BK101 := n1_; have HB := n2_; clear n0_ n1_ n2_; (try clear hb); (try clear hb2); (try clear hk); (try clear hi); have hcz15_0 : w14.cell? ⟨gb101, 0, none⟩ = some (.int .i64 a1_0) := bc BK101 0; have hcz15_1 : w14.cell? ⟨gb101, 1, none⟩ = some (.int .i64 a1_1) := bc BK101 1; have hfz15_0 := blk_frozen BK101.out 0; have hfz15_1 := blk_frozen BK101.out 1) | ((with_reducible refine gate_callee (f := 73) rfl ?_); refine goesL_ (some 18) rfl rfl Try.func73 (by kernel_rfl) rfl #[.slice A0 l0.length c0, .agg #[.int .i64 a1_0, .int .i64 a1_1]] rfl sg ?_; (with_reducible refine (shape_where.calls k _ _ l0 a1_0 a1_1 t107 _ ?side1 ?side2 A7.out).mono ?_); (case side1 => exact cs (Kd.C_below HR0.out HB.out)); (case side2 => exact HC0.out); rintro e w16 ⟨rfl, hb⟩; refine ⟨_, rfl, ?_⟩; have n0_ := Aside0.mk (Kd.R_below (ro HO105) hb); have n1_ := kb BK101 hb; have n2_ := Aside0.mk (below_step bh hb); clear HO105; clear BK101; clear HB; have HO105 := n0_; have BK101 := n1_; have HB := n2_; clear n0_ n1_ n2_; (try clear hb); (try clear hb2); (try clear hk); (try clear hi)))
   go_ret2
   exact ⟨by exact er, bh⟩
  ·replace c6 := Bool.eq_false_iff.mpr c6
   subst c6
   rw [if_neg (show ¬ (false = true) by decide)] at H
   simp only [Option.some.injEq, Prod.mk.injEq] at H
   obtain ⟨rfl, rfl⟩ := H
   go_enter Try.func32, Try.ntmps32
   go_wp2_with (first | ((with_reducible refine gate_dst (N := 3) rfl ?_); refine bxe 3 #[.int .i64 a1_0, .int .i64 a1_1] 29 ?_; intro gb101 hg w17 hbox hb; have n0_ := Aside0.mk (below_step bh hb); have n1_ := Aside0.mk (hbox); have n2_ := Aside0.mk (gs hg : w.heap.size ≤ gb101); have n3_ := Aside0.mk (gs hg : w.heap.size ≤ gb101); clear HB; have HB := n0_; have BK101 := n1_; have GW101 := n2_; have GE101 := n3_; clear n0_ n1_ n2_ n3_; clear hb hbox hg) | ((with_reducible refine gate_callee (f := 68) rfl ?_); refine goesL_ (some 8) rfl rfl Try.func68 (by kernel_rfl) rfl #[.slice A0 l0.length c0, .func (.func 69) #[] #[]] rfl sg ?_; (with_reducible refine (shape_refused_simple.calls k _ _ l0  t102 _ ?side1 ?side2 A3.out).mono ?_); (case side1 => exact cs (Kd.C_below HR0.out HB.out)); (case side2 => exact HC0.out); rintro e w18 ⟨rfl, hb⟩; refine ⟨_, rfl, ?_⟩; have n0_ := kb BK101 hb; have n1_ := Aside0.mk (below_step bh hb); clear BK101; clear HB; have BK101 := n0_; have HB := n1_; clear n0_ n1_; (try clear hb); (try clear hb2); (try clear hk); (try clear hi); have hcz19_0 : w18.cell? ⟨gb101, 0, none⟩ = some (.int .i64 a1_0) := bc BK101 0; have hcz19_1 : w18.cell? ⟨gb101, 1, none⟩ = some (.int .i64 a1_1) := bc BK101 1; have hfz19_0 := blk_frozen BK101.out 0; have hfz19_1 := blk_frozen BK101.out 1) | ((with_reducible refine gate_dst (N := 13) rfl ?_); refine Kd.R_lit k29 _ 29 ?hg (N := 13) ?hd (xs := ([(⟨a1_0, a1_1⟩ : S29)] : List (S29))) (inner := [.int .i64 a1_0, .int .i64 a1_1]) (ok := fun _ => True) (okp := fun _ => True) ?hr ?hp (fun _ hk => hk) trivial (Below.refl _ _) (Nat.le_refl _) (by simp) ?_; (case hd => rfl); (case hg => rfl); (case hr => first | (go_simp; done) | (go_simp; rfl)); (case hp => exact (Reps.c2 (show Kd.M k29 _ _ _ (⟨a1_0, a1_1⟩ : S29) [.int .i64 a1_0, .int .i64 a1_1] from (k29_mkM _ _ _ (⟨a1_0, a1_1⟩ : S29) )) (Reps.none _ _))); intro v104 w20 ho21 hb hg_ hnew_; clear hg_ hnew_; (first | rw [← Ny103.out] at ho21 | (simp only [Int.reduceToNat] at ho21; rw [← Ny103.out] at ho21)); have n0_ := Aside0.mk (Kd.R_lower (Kd.R_newB ho21 (g := gb101) (o := .cells #[.int .i64 a1_0, .int .i64 a1_1] 29 (0, 0)) (bk BK101)) (below_size bh)); have n1_ := kb BK101 hb; have n2_ := Aside0.mk (below_step bh hb); clear BK101; clear HB; have HO105 := n0_; have BK101 := n1_; have HB := n2_; clear n0_ n1_ n2_; clear hb ho21; obtain ⟨Ao22, co22, eo22⟩ := Kd.R_slice HO105.out; subst eo22) | ((with_reducible refine gate_callee (f := 48) rfl ?_); refine goesL_ (some 14) rfl rfl Try.func48 (by kernel_rfl) rfl #[.slice Ao22 y103.length co22, .int .i64 10000] rfl sg ?_; (with_reducible refine (shape_within.calls _ _ y103 10000 false _ ?side1 ?side2 A5.out).mono ?_); (case side1 => exact cs (Kd.R_reads' HO105.out).2.2); (case side2 => exact (Kd.R_reads' HO105.out).2.1); rintro e w23 ⟨rfl, hb⟩; refine ⟨_, rfl, ?_⟩; have n0_ := Aside0.mk (Kd.R_below (ro HO105) hb); have n1_ := kb BK101 hb; have n2_ := Aside0.mk (below_step bh hb); clear HO105; clear BK101; clear HB; have HO105 := n0_; have BK101 := n1_; have HB := n2_; clear n0_ n1_ n2_; (try clear hb); (try clear hb2); (try clear hk); (try clear hi)))
   go_ret2
   exact ⟨by exact er, bh⟩
 ·rw [if_neg c4] at H
  have c4b0 : (t102 == 0) = false := beq_eq_false_iff_ne.mpr c4
  have c4b1 : (t102 != 0) = true := bne_iff_ne.mpr c4
  simp only [Option.some.injEq, Prod.mk.injEq] at H
  obtain ⟨rfl, rfl⟩ := H
  go_enter Try.func32, Try.ntmps32
  go_wp2_with (first | ((with_reducible refine gate_dst (N := 3) rfl ?_); refine bxe 3 #[.int .i64 a1_0, .int .i64 a1_1] 29 ?_; intro gb101 hg w24 hbox hb; have n0_ := Aside0.mk (below_step bh hb); have n1_ := Aside0.mk (hbox); have n2_ := Aside0.mk (gs hg : w.heap.size ≤ gb101); have n3_ := Aside0.mk (gs hg : w.heap.size ≤ gb101); clear HB; have HB := n0_; have BK101 := n1_; have GW101 := n2_; have GE101 := n3_; clear n0_ n1_ n2_ n3_; clear hb hbox hg) | ((with_reducible refine gate_callee (f := 68) rfl ?_); refine goesL_ (some 8) rfl rfl Try.func68 (by kernel_rfl) rfl #[.slice A0 l0.length c0, .func (.func 69) #[] #[]] rfl sg ?_; (with_reducible refine (shape_refused_simple.calls k _ _ l0  t102 _ ?side1 ?side2 A3.out).mono ?_); (case side1 => exact cs (Kd.C_below HR0.out HB.out)); (case side2 => exact HC0.out); rintro e w25 ⟨rfl, hb⟩; refine ⟨_, rfl, ?_⟩; have n0_ := kb BK101 hb; have n1_ := Aside0.mk (below_step bh hb); clear BK101; clear HB; have BK101 := n0_; have HB := n1_; clear n0_ n1_; (try clear hb); (try clear hb2); (try clear hk); (try clear hi)))
  go_ret2
  exact ⟨by exact er, bh⟩
end Go.Proofs.Ytoffmpkgickfhaa.PG
end
section
namespace Go.Proofs.Ytoffmpkgickfhaa.PG
open Go.RowKit Go.Proofs.YtoffmpkgickfhaaW.PrintWords Go.Proofs.YtoffmpkgickfhaaW.PrintLast Go.Proofs.YtoffmpkgickfhaaW.PrintMore
attribute [local go_sem] max2_int min2_int max_two min_two max_three min_three max_four min_four
set_option linter.unusedVariables false
set_option linter.unusedSimpArgs false
/-! ### cracknellaw04_ShapeWheres: function 6 -/
mutual
def cracknellaw04_ShapeWheres.j0 : Nat → List (S29) → Int → Int → Int → Bool → Int → Int → Option (Bool)
 | 0, _, _, _, _, _, _, _ => none
 | k + 1, x5, x6, x7, x8, x25, x102000, x102001 => if x25 = true then (cracknellaw04_ShapeWheres.j1 k x5 x6 x7 1 x102000 x102001) else (cracknellaw04_ShapeWheres.j1 k x5 x6 x7 x8 x102000 x102001)
def cracknellaw04_ShapeWheres.j1 : Nat → List (S29) → Int → Int → Int → Int → Int → Option (Bool)
 | 0, _, _, _, _, _, _ => none
 | k + 1, x5, x6, x7, x8, x102000, x102001 => if x8 = 0 then ((cracknelref04_Where.f k x5 x102000 x102001).bind fun t110 => (if x6 = t110 then (if x7 = 0 then ((cracknellaw04_lives.f k).bind fun t111 => (some t111)) else (some false)) else (some false))) else (if x6 = 0 then (if x7 = x8 then ((cracknellaw04_lives.f k).bind fun t109 => (some t109)) else (some false)) else (some false))
end
def cracknellaw04_ShapeWheres.f (k : Nat) (l0 : List (S29)) (a1_0 : Int) (a1_1 : Int) : Option (Bool) := (cracknellaw04_cut.f l0 20).bind fun t102 => ((shape_Where.f k t102 a1_0 a1_1).bind fun bt105 => ((cracknellaw04_simple.f k t102).bind fun t107 => (if t107 = 0 then ((cracknelref04_Valid.f a1_0 a1_1 10000).bind fun t108 => (cracknellaw04_ShapeWheres.j0 k t102 bt105.1 bt105.2 t107 (!t108) a1_0 a1_1)) else (cracknellaw04_ShapeWheres.j0 k t102 bt105.1 bt105.2 t107 false a1_0 a1_1))))
theorem cracknellaw04_ShapeWheres.mono_l : ∀ k, (∀ y0 y1 y2 y3 y4 y5 y6, LeO (cracknellaw04_ShapeWheres.j0 k y0 y1 y2 y3 y4 y5 y6) (cracknellaw04_ShapeWheres.j0 (k + 1) y0 y1 y2 y3 y4 y5 y6)) ∧ (∀ y0 y1 y2 y3 y4 y5, LeO (cracknellaw04_ShapeWheres.j1 k y0 y1 y2 y3 y4 y5) (cracknellaw04_ShapeWheres.j1 (k + 1) y0 y1 y2 y3 y4 y5))
 | 0 => ⟨fun _ _ _ _ _ _ _ r h => by simp [cracknellaw04_ShapeWheres.j0] at h, fun _ _ _ _ _ _ r h => by simp [cracknellaw04_ShapeWheres.j1] at h⟩
 | k + 1 => by
  obtain ⟨ih0, ih1⟩ := cracknellaw04_ShapeWheres.mono_l k
  refine ⟨?_, ?_⟩
  ·intro y0 y1 y2 y3 y4 y5 y6
   unfold cracknellaw04_ShapeWheres.j0
   repeat' first
   | (with_reducible exact ih0 _ _ _ _ _ _ _)
   | (with_reducible exact ih1 _ _ _ _ _ _)
   | (with_reducible exact cracknellaw04_lives.mono _)
   | (with_reducible exact cracknellaw04_simple.mono _ _)
   | (with_reducible exact cracknelref04_Where.mono _ _ _ _)
   | (with_reducible exact shape_Where.mono _ _ _ _)
   | (with_reducible exact LeO.refl _)
   | (with_reducible exact LeO.none _)
   | (with_reducible refine LeO.ite ?_ ?_)
   | (with_reducible refine LeO.bind ?_ (fun _ => ?_))
   | exact ih0 _ _ _ _ _ _ _
   | exact ih1 _ _ _ _ _ _
   | exact cracknellaw04_lives.mono _
   | exact cracknellaw04_simple.mono _ _
   | exact cracknelref04_Where.mono _ _ _ _
   | exact shape_Where.mono _ _ _ _
   | exact LeO.none _
   | refine LeO.ite ?_ ?_
   | refine LeO.bind ?_ (fun _ => ?_)
  ·intro y0 y1 y2 y3 y4 y5
   unfold cracknellaw04_ShapeWheres.j1
   repeat' first
   | (with_reducible exact ih0 _ _ _ _ _ _ _)
   | (with_reducible exact ih1 _ _ _ _ _ _)
   | (with_reducible exact cracknellaw04_lives.mono _)
   | (with_reducible exact cracknellaw04_simple.mono _ _)
   | (with_reducible exact cracknelref04_Where.mono _ _ _ _)
   | (with_reducible exact shape_Where.mono _ _ _ _)
   | (with_reducible exact LeO.refl _)
   | (with_reducible exact LeO.none _)
   | (with_reducible refine LeO.ite ?_ ?_)
   | (with_reducible refine LeO.bind ?_ (fun _ => ?_))
   | exact ih0 _ _ _ _ _ _ _
   | exact ih1 _ _ _ _ _ _
   | exact cracknellaw04_lives.mono _
   | exact cracknellaw04_simple.mono _ _
   | exact cracknelref04_Where.mono _ _ _ _
   | exact shape_Where.mono _ _ _ _
   | exact LeO.none _
   | refine LeO.ite ?_ ?_
   | refine LeO.bind ?_ (fun _ => ?_)
theorem cracknellaw04_ShapeWheres.mono : ∀ a0 a1 a2 k, LeO (cracknellaw04_ShapeWheres.f k a0 a1 a2) (cracknellaw04_ShapeWheres.f (k + 1) a0 a1 a2) := by
 intro a0 a1 a2 k
 obtain ⟨ih0, ih1⟩ := cracknellaw04_ShapeWheres.mono_l k
 unfold cracknellaw04_ShapeWheres.f
 repeat' first
  | (with_reducible exact ih0 _ _ _ _ _ _ _)
  | (with_reducible exact ih1 _ _ _ _ _ _)
  | (with_reducible exact cracknellaw04_lives.mono _)
  | (with_reducible exact cracknellaw04_simple.mono _ _)
  | (with_reducible exact cracknelref04_Where.mono _ _ _ _)
  | (with_reducible exact shape_Where.mono _ _ _ _)
  | (with_reducible exact LeO.refl _)
  | (with_reducible exact LeO.none _)
  | (with_reducible refine LeO.ite ?_ ?_)
  | (with_reducible refine LeO.bind ?_ (fun _ => ?_))
  | exact ih0 _ _ _ _ _ _ _
  | exact ih1 _ _ _ _ _ _
  | exact cracknellaw04_lives.mono _
  | exact cracknellaw04_simple.mono _ _
  | exact cracknelref04_Where.mono _ _ _ _
  | exact shape_Where.mono _ _ _ _
  | exact LeO.none _
  | refine LeO.ite ?_ ?_
  | refine LeO.bind ?_ (fun _ => ?_)
set_option maxHeartbeats 8000000 in
set_option maxRecDepth 100000 in
theorem cracknellaw04_ShapeWheres.calls (k : Nat) (A0 : Option Addr) (c0 : Nat) (l0 : List (S29)) (a1_0 : Int) (a1_1 : Int) (r : Bool) (w : World) (hr0 : Kd.C k29 w A0 l0.length l0) (hc0 : l0.length ≤ c0) (h : cracknellaw04_ShapeWheres.f k l0 a1_0 a1_1 = some r) :
  Calls Try.prog 6 #[.slice A0 l0.length c0, .agg #[.int .i64 a1_0, .int .i64 a1_1]] w fun e w' => e = .returned (.bool r) ∧ Below w.heap.size w w' := by
 have hu29 := Try.underlying29
 have HR0 := Aside0.mk hr0
 have HC0 := Aside0.mk hc0
 clear hr0 hc0
 have HB := Aside0.mk (Below.refl w.heap.size w)
 have H : ((cracknellaw04_cut.f l0 20).bind fun t102 => ((shape_Where.f k t102 a1_0 a1_1).bind fun bt105 => ((cracknellaw04_simple.f k t102).bind fun t107 => (if t107 = 0 then ((cracknelref04_Valid.f a1_0 a1_1 10000).bind fun t108 => (cracknellaw04_ShapeWheres.j0 k t102 bt105.1 bt105.2 t107 (!t108) a1_0 a1_1)) else (cracknellaw04_ShapeWheres.j0 k t102 bt105.1 bt105.2 t107 false a1_0 a1_1))))) = some r := h
 clear h
 replace H := Option.bind_eq_some_iff.mp H
 obtain ⟨t102, A30, H⟩ := H
 replace H : ((shape_Where.f k t102 a1_0 a1_1).bind fun bt105 => ((cracknellaw04_simple.f k t102).bind fun t107 => (if t107 = 0 then ((cracknelref04_Valid.f a1_0 a1_1 10000).bind fun t108 => (cracknellaw04_ShapeWheres.j0 k t102 bt105.1 bt105.2 t107 (!t108) a1_0 a1_1)) else (cracknellaw04_ShapeWheres.j0 k t102 bt105.1 bt105.2 t107 false a1_0 a1_1)))) = some r := H
 have A3 := Aside0.mk A30
 clear A30
 replace H := Option.bind_eq_some_iff.mp H
 obtain ⟨⟨t105, t106⟩, A40, H⟩ := H
 replace H : ((cracknellaw04_simple.f k t102).bind fun t107 => (if t107 = 0 then ((cracknelref04_Valid.f a1_0 a1_1 10000).bind fun t108 => (cracknellaw04_ShapeWheres.j0 k t102 t105 t106 t107 (!t108) a1_0 a1_1)) else (cracknellaw04_ShapeWheres.j0 k t102 t105 t106 t107 false a1_0 a1_1))) = some r := H
 have A4 := Aside0.mk A40
 clear A40
 replace H := Option.bind_eq_some_iff.mp H
 obtain ⟨t107, A50, H⟩ := H
 replace H : (if t107 = 0 then ((cracknelref04_Valid.f a1_0 a1_1 10000).bind fun t108 => (cracknellaw04_ShapeWheres.j0 k t102 t105 t106 t107 (!t108) a1_0 a1_1)) else (cracknellaw04_ShapeWheres.j0 k t102 t105 t106 t107 false a1_0 a1_1)) = some r := H
 have A5 := Aside0.mk A50
 clear A50
 have HC6 := Aside0.mk H
 clear H
 go_enter Try.func6, Try.ntmps6
 go_upto_region 4 with (first | ((with_reducible refine gate_dst (N := 3) rfl ?_); refine bxe 3 #[.int .i64 a1_0, .int .i64 a1_1] 29 ?_; intro gb101 hg w7 hbox hb; have n0_ := Aside0.mk (below_step bh hb); have n1_ := Aside0.mk (hbox); have n2_ := Aside0.mk (gs hg : w.heap.size ≤ gb101); have n3_ := Aside0.mk (gs hg : w.heap.size ≤ gb101); clear HB; have HB := n0_; have BK101 := n1_; have GW101 := n2_; have GE101 := n3_; clear n0_ n1_ n2_ n3_; clear hb hbox hg) | ((with_reducible refine gate_callee (f := 15) rfl ?_); refine goesL_ (some 10) rfl rfl Try.func15 (by kernel_rfl) rfl #[.slice A0 l0.length c0, .int .i64 20] rfl sg ?_; (with_reducible refine (cracknellaw04_cut.calls _ _ l0 20 t102 _ ?side1 ?side2 A3.out).mono ?_); (case side1 => exact cs (Kd.C_below HR0.out HB.out)); (case side2 => exact HC0.out); rintro e w8 ⟨v103, rfl, ho0, hb⟩; refine ⟨_, rfl, ?_⟩; have n0_ := Aside0.mk (Kd.R_lower (Kd.R_newB ho0 (g := gb101) (o := .cells #[.int .i64 a1_0, .int .i64 a1_1] 29 (0, 0)) (bk BK101)) (below_size bh)); have n1_ := kb BK101 hb; have n2_ := Aside0.mk (below_step bh hb); clear BK101; clear HB; have HO104 := n0_; have BK101 := n1_; have HB := n2_; clear n0_ n1_ n2_; (try clear hb); (try clear hb2); (try clear hk); (try clear hi); (try clear ho0); have hcz9_0 : w8.cell? ⟨gb101, 0, none⟩ = some (.int .i64 a1_0) := bc BK101 0; have hcz9_1 : w8.cell? ⟨gb101, 1, none⟩ = some (.int .i64 a1_1) := bc BK101 1; have hfz9_0 := blk_frozen BK101.out 0; have hfz9_1 := blk_frozen BK101.out 1; obtain ⟨Ao10, co10, eo10⟩ := Kd.R_slice HO104.out; subst eo10) | ((with_reducible refine gate_callee (f := 32) rfl ?_); refine goesL_ (some 14) rfl rfl Try.func32 (by kernel_rfl) rfl #[.slice Ao10 t102.length co10, .agg #[.int .i64 a1_0, .int .i64 a1_1]] rfl sg ?_; (with_reducible refine (shape_Where.calls k _ _ t102 a1_0 a1_1 t105 t106 _ ?side1 ?side2 A4.out).mono ?_); (case side1 => exact cs (Kd.R_reads' HO104.out).2.2); (case side2 => exact (Kd.R_reads' HO104.out).2.1); rintro e w11 ⟨rfl, hb⟩; refine ⟨_, rfl, ?_⟩; have n0_ := Aside0.mk (Kd.R_below (ro HO104) hb); have n1_ := kb BK101 hb; have n2_ := Aside0.mk (below_step bh hb); clear HO104; clear BK101; clear HB; have HO104 := n0_; have BK101 := n1_; have HB := n2_; clear n0_ n1_ n2_; (try clear hb); (try clear hb2); (try clear hk); (try clear hi)) | ((with_reducible refine gate_callee (f := 33) rfl ?_); refine goesL_ (some 18) rfl rfl Try.func33 (by kernel_rfl) rfl #[.slice Ao10 t102.length co10] rfl sg ?_; (with_reducible refine (cracknellaw04_simple.calls k _ _ t102 t107 _ ?side1 ?side2 A5.out).mono ?_); (case side1 => exact cs (Kd.R_reads' HO104.out).2.2); (case side2 => exact (Kd.R_reads' HO104.out).2.1); rintro e w12 ⟨rfl, hb⟩; refine ⟨_, rfl, ?_⟩; have n0_ := Aside0.mk (Kd.R_below (ro HO104) hb); have n1_ := kb BK101 hb; have n2_ := Aside0.mk (below_step bh hb); clear HO104; clear BK101; clear HB; have HO104 := n0_; have BK101 := n1_; have HB := n2_; clear n0_ n1_ n2_; (try clear hb); (try clear hb2); (try clear hk); (try clear hi)))
 (try simp only [Act.put, List.setIfInBounds_toArray, List.set_cons_zero, List.set_cons_succ])
 go_cut [25] (fun v25 wc => ∃ (kq : Nat) (x25_5 : Bool), v25 = .bool x25_5 ∧ Aside0 (cracknellaw04_ShapeWheres.j0 kq t102 t105 t106 t107 x25_5 a1_0 a1_1 = some r) ∧ Aside0 (kq ≤ k) ∧ Aside0 (Kd.R k29 29 wc w.heap.size (fun k_ => k_ ≠ gb101) (.slice Ao10 t102.length co10) t102) ∧ Aside0 (wc.heap[gb101]? = some (.cells #[.int .i64 a1_0, .int .i64 a1_1] 29 (0, 0))) ∧ Aside0 (Below w.heap.size w wc))
 case first =>
  have H := HC6.out
  clear HC6
  by_cases c13 : t107 = 0
  ·rw [if_pos c13] at H
   have c13b0 : (t107 == 0) = true := beq_iff_eq.mpr c13
   have c13b1 : (t107 != 0) = false := bne_eq_false_iff_eq.mpr c13
   clear c13
   (first | rw [c13b0] | (simp only [i64_w, i32_w]; rw [c13b0]) | skip)
   replace H := Option.bind_eq_some_iff.mp H
   obtain ⟨t108, A140, H⟩ := H
   replace H : (cracknellaw04_ShapeWheres.j0 k t102 t105 t106 t107 (!t108) a1_0 a1_1) = some r := H
   have A14 := Aside0.mk A140
   clear A140
   have H' := Aside0.mk H
   clear H
   obtain ⟨hcz15_0, hcz15_1, hfz15_0, hfz15_1⟩ := b2 BK101
   go_wp2_with (first | (go_at_call 17; (with_reducible refine (cracknelref04_Valid.calls a1_0 a1_1 10000 t108 _ A14.out).mono ?_); rintro e w16 ⟨rfl, hb⟩; have n0_ := Aside0.mk (Kd.R_below (ro HO104) hb); have n1_ := kb BK101 hb; have n2_ := Aside0.mk (below_step bh hb); clear HO104; clear BK101; clear HB; have HO104 := n0_; have BK101 := n1_; have HB := n2_; clear n0_ n1_ n2_; (try clear hb); (try clear hb2); (try clear hk); (try clear hi)))
   go_meet
   case rel => exact ⟨_, (!t108), sd, H', ⟨om⟩, ⟨by (with_reducible repeat (first | apply Kd.R_alloc | apply Kd.R_drewN | apply Kd.R_drew)); exact Kd.R_mono HO104.out (fun _ hk => hk.2)⟩, ⟨bk BK101⟩, ⟨bh⟩⟩
  ·rw [if_neg c13] at H
   have c13b0 : (t107 == 0) = false := beq_eq_false_iff_ne.mpr c13
   have c13b1 : (t107 != 0) = true := bne_iff_ne.mpr c13
   (first | rw [c13b0] | (simp only [i64_w, i32_w]; rw [c13b0]) | skip)
   have H' := Aside0.mk H
   clear H
   go_wp2
   go_meet
   case rel => exact ⟨_, (false), sd, H', ⟨om⟩, ⟨by (with_reducible repeat (first | apply Kd.R_alloc | apply Kd.R_drewN | apply Kd.R_drew)); exact Kd.R_mono HO104.out (fun _ hk => hk.2)⟩, ⟨bk BK101⟩, ⟨bh⟩⟩
 case rest =>
  clear HC6
  try clear c1
  try clear p2
  try clear c3
  try clear c6
  try clear c13
  try clear c13b0
  try clear c13b1
  try clear c15
  try clear hcz15_0
  try clear hcz15_1
  try clear hcz9_0
  try clear hcz9_1
  try clear hfz15_0
  try clear hfz15_1
  try clear hfz9_0
  try clear hfz9_1
  obtain ⟨kq, x25_5, rfl, HA, HJ5, HO_5, BK101, HB⟩ := hcut
  cases kq with
  | zero => exact absurd HA.out (by simp [cracknellaw04_ShapeWheres.j0])
  | succ kj5 =>
   have H := HA.out
   clear HA
   simp only [cracknellaw04_ShapeWheres.j0] at H
   have HC17 := Aside0.mk H
   clear H
   go_upto_if 25 with (fail)
   go_cut [8] (fun v8 wc => ∃ (kq : Nat) (x8_16 : Int), v8 = .int .i64 x8_16 ∧ Aside0 (cracknellaw04_ShapeWheres.j1 kq t102 t105 t106 x8_16 a1_0 a1_1 = some r) ∧ Aside0 (kq ≤ kj5) ∧ Aside0 (Kd.R k29 29 wc w.heap.size (fun k_ => k_ ≠ gb101) (.slice Ao10 t102.length co10) t102) ∧ Aside0 (wc.heap[gb101]? = some (.cells #[.int .i64 a1_0, .int .i64 a1_1] 29 (0, 0))) ∧ Aside0 (Below w.heap.size w wc))
   case first =>
    have H := HC17.out
    clear HC17
    by_cases c18 : x25_5 = true
    ·subst c18
     rw [if_pos rfl] at H
     have H' := Aside0.mk H
     clear H
     go_wp2
     go_meet
     case rel => exact ⟨_, (1), sd, H', ⟨by have := HJ5.out; first | omega | exact Nat.le_refl _⟩, ⟨by (with_reducible repeat (first | apply Kd.R_alloc | apply Kd.R_drewN | apply Kd.R_drew)); exact HO_5.out⟩, ⟨bk BK101⟩, ⟨bh⟩⟩
    ·replace c18 := Bool.eq_false_iff.mpr c18
     subst c18
     rw [if_neg (show ¬ (false = true) by decide)] at H
     have H' := Aside0.mk H
     clear H
     go_wp2
     go_meet
     case rel => exact ⟨_, (t107), sd, H', ⟨by have := HJ5.out; first | omega | exact Nat.le_refl _⟩, ⟨by (with_reducible repeat (first | apply Kd.R_alloc | apply Kd.R_drewN | apply Kd.R_drew)); exact HO_5.out⟩, ⟨bk BK101⟩, ⟨bh⟩⟩
   case rest =>
    clear HC17
    try clear c1
    try clear p2
    try clear c3
    try clear c6
    try clear c13
    try clear c13b0
    try clear c13b1
    try clear c15
    try clear c18
    try clear hcz15_0
    try clear hcz15_1
    try clear hcz9_0
    try clear hcz9_1
    try clear hfz15_0
    try clear hfz15_1
    try clear hfz9_0
    try clear hfz9_1
    try clear p2
    obtain ⟨kq, x8_16, rfl, HA, HJ16, HO_5, BK101, HB⟩ := hcut
    cases kq with
    | zero => exact absurd HA.out (by simp [cracknellaw04_ShapeWheres.j1])
    | succ kj16 =>
     have H := HA.out
     clear HA
     simp only [cracknellaw04_ShapeWheres.j1] at H
     by_cases c19 : x8_16 = 0
     ·rw [if_pos c19] at H
      have c19b0 : (x8_16 == 0) = true := beq_iff_eq.mpr c19
      have c19b1 : (x8_16 != 0) = false := bne_eq_false_iff_eq.mpr c19
      clear c19
      replace H := Option.bind_eq_some_iff.mp H
      obtain ⟨t110, A200, H⟩ := H
      replace H : (if t105 = t110 then (if t106 = 0 then ((cracknellaw04_lives.f kj16).bind fun t111 => (some t111)) else (some false)) else (some false)) = some r := H
      have A20 := Aside0.mk A200
      clear A200
      by_cases c21 : t105 = t110
      ·rw [if_pos c21] at H
       have c21b0 : (t105 == t110) = true := beq_iff_eq.mpr c21
       have c21b1 : (t105 != t110) = false := bne_eq_false_iff_eq.mpr c21
       clear c21
       by_cases c22 : t106 = 0
       ·rw [if_pos c22] at H
        have c22b0 : (t106 == 0) = true := beq_iff_eq.mpr c22
        have c22b1 : (t106 != 0) = false := bne_eq_false_iff_eq.mpr c22
        clear c22
        replace H := Option.bind_eq_some_iff.mp H
        obtain ⟨t111, A230, H⟩ := H
        replace H : (some t111) = some r := H
        have A23 := Aside0.mk A230
        clear A230
        obtain rfl := Option.some.inj H
        obtain ⟨hcz24_0, hcz24_1, hfz24_0, hfz24_1⟩ := b2 BK101
        go_wp2_with (first | ((with_reducible refine gate_callee (f := 34) rfl ?_); refine goesL_ (some 41) rfl rfl Try.func34 (by kernel_rfl) rfl #[.slice Ao10 t102.length co10, .agg #[.int .i64 a1_0, .int .i64 a1_1]] rfl sg ?_; (with_reducible refine (cracknelref04_Where.calls kj16 _ _ t102 a1_0 a1_1 t110 _ ?side1 ?side2 A20.out).mono ?_); (case side1 => exact cs (Kd.R_reads' HO_5.out).2.2); (case side2 => exact (Kd.R_reads' HO_5.out).2.1); rintro e w25 ⟨rfl, hb⟩; refine ⟨_, rfl, ?_⟩; have n0_ := Aside0.mk (Kd.R_below (ro HO_5) hb); have n1_ := kb BK101 hb; have n2_ := Aside0.mk (below_step bh hb); clear HO_5; clear BK101; clear HB; have HO_5 := n0_; have BK101 := n1_; have HB := n2_; clear n0_ n1_ n2_; (try clear hb); (try clear hb2); (try clear hk); (try clear hi)) | (go_at_call 18; (with_reducible refine (cracknellaw04_lives.calls kj16  t111 _ A23.out).mono ?_); rintro e w26 ⟨rfl, hb⟩; have n0_ := Aside0.mk (Kd.R_below (ro HO_5) hb); have n1_ := kb BK101 hb; have n2_ := Aside0.mk (below_step bh hb); clear HO_5; clear BK101; clear HB; have HO_5 := n0_; have BK101 := n1_; have HB := n2_; clear n0_ n1_ n2_; (try clear hb); (try clear hb2); (try clear hk); (try clear hi)))
        go_ret
        exact ⟨by exact er, bh⟩
       ·rw [if_neg c22] at H
        have c22b0 : (t106 == 0) = false := beq_eq_false_iff_ne.mpr c22
        have c22b1 : (t106 != 0) = true := bne_iff_ne.mpr c22
        obtain rfl := Option.some.inj H
        obtain ⟨hcz27_0, hcz27_1, hfz27_0, hfz27_1⟩ := b2 BK101
        go_wp2_with (first | ((with_reducible refine gate_callee (f := 34) rfl ?_); refine goesL_ (some 41) rfl rfl Try.func34 (by kernel_rfl) rfl #[.slice Ao10 t102.length co10, .agg #[.int .i64 a1_0, .int .i64 a1_1]] rfl sg ?_; (with_reducible refine (cracknelref04_Where.calls kj16 _ _ t102 a1_0 a1_1 t110 _ ?side1 ?side2 A20.out).mono ?_); (case side1 => exact cs (Kd.R_reads' HO_5.out).2.2); (case side2 => exact (Kd.R_reads' HO_5.out).2.1); rintro e w28 ⟨rfl, hb⟩; refine ⟨_, rfl, ?_⟩; have n0_ := Aside0.mk (Kd.R_below (ro HO_5) hb); have n1_ := kb BK101 hb; have n2_ := Aside0.mk (below_step bh hb); clear HO_5; clear BK101; clear HB; have HO_5 := n0_; have BK101 := n1_; have HB := n2_; clear n0_ n1_ n2_; (try clear hb); (try clear hb2); (try clear hk); (try clear hi)))
        go_ret
        exact ⟨by exact er, bh⟩
      ·rw [if_neg c21] at H
       have c21b0 : (t105 == t110) = false := beq_eq_false_iff_ne.mpr c21
       have c21b1 : (t105 != t110) = true := bne_iff_ne.mpr c21
       obtain rfl := Option.some.inj H
       obtain ⟨hcz29_0, hcz29_1, hfz29_0, hfz29_1⟩ := b2 BK101
       go_wp2_with (first | ((with_reducible refine gate_callee (f := 34) rfl ?_); refine goesL_ (some 41) rfl rfl Try.func34 (by kernel_rfl) rfl #[.slice Ao10 t102.length co10, .agg #[.int .i64 a1_0, .int .i64 a1_1]] rfl sg ?_; (with_reducible refine (cracknelref04_Where.calls kj16 _ _ t102 a1_0 a1_1 t110 _ ?side1 ?side2 A20.out).mono ?_); (case side1 => exact cs (Kd.R_reads' HO_5.out).2.2); (case side2 => exact (Kd.R_reads' HO_5.out).2.1); rintro e w30 ⟨rfl, hb⟩; refine ⟨_, rfl, ?_⟩; have n0_ := Aside0.mk (Kd.R_below (ro HO_5) hb); have n1_ := kb BK101 hb; have n2_ := Aside0.mk (below_step bh hb); clear HO_5; clear BK101; clear HB; have HO_5 := n0_; have BK101 := n1_; have HB := n2_; clear n0_ n1_ n2_; (try clear hb); (try clear hb2); (try clear hk); (try clear hi)))
       go_ret
       exact ⟨by exact er, bh⟩
     ·rw [if_neg c19] at H
      have c19b0 : (x8_16 == 0) = false := beq_eq_false_iff_ne.mpr c19
      have c19b1 : (x8_16 != 0) = true := bne_iff_ne.mpr c19
      by_cases c31 : t105 = 0
      ·rw [if_pos c31] at H
       have c31b0 : (t105 == 0) = true := beq_iff_eq.mpr c31
       have c31b1 : (t105 != 0) = false := bne_eq_false_iff_eq.mpr c31
       clear c31
       by_cases c32 : t106 = x8_16
       ·rw [if_pos c32] at H
        have c32b0 : (t106 == x8_16) = true := beq_iff_eq.mpr c32
        have c32b1 : (t106 != x8_16) = false := bne_eq_false_iff_eq.mpr c32
        clear c32
        replace H := Option.bind_eq_some_iff.mp H
        obtain ⟨t109, A330, H⟩ := H
        replace H : (some t109) = some r := H
        have A33 := Aside0.mk A330
        clear A330
        obtain rfl := Option.some.inj H
        go_wp2_with (first | (go_at_call 18; (with_reducible refine (cracknellaw04_lives.calls kj16  t109 _ A33.out).mono ?_); rintro e w34 ⟨rfl, hb⟩; have n0_ := Aside0.mk (Kd.R_below (ro HO_5) hb); have n1_ := kb BK101 hb; have n2_ := Aside0.mk (below_step bh hb); clear HO_5; clear BK101; clear HB; have HO_5 := n0_; have BK101 := n1_; have HB := n2_; clear n0_ n1_ n2_; (try clear hb); (try clear hb2); (try clear hk); (try clear hi)))
        go_ret
        exact ⟨by exact er, bh⟩
       ·rw [if_neg c32] at H
        have c32b0 : (t106 == x8_16) = false := beq_eq_false_iff_ne.mpr c32
        have c32b1 : (t106 != x8_16) = true := bne_iff_ne.mpr c32
        obtain rfl := Option.some.inj H
        go_wp2
        go_ret
        exact ⟨by exact er, bh⟩
      ·rw [if_neg c31] at H
       have c31b0 : (t105 == 0) = false := beq_eq_false_iff_ne.mpr c31
       have c31b1 : (t105 != 0) = true := bne_iff_ne.mpr c31
       obtain rfl := Option.some.inj H
       go_wp2
       go_ret
       exact ⟨by exact er, bh⟩
end Go.Proofs.Ytoffmpkgickfhaa.PG
end
section
namespace Go.Proofs.Ytoffmpkgickfhaa.M
open Go.RowKit Go.Proofs.Ytoffmpkgickfhaa.PG Go.Proofs.YtoffmpkgickfhaaW.PrintMore Go.Proofs.YtoffmpkgickfhaaW.PrintWords
/-- the ray to the right from p crosses the edge from a to b -/
def Hit (a b p : Pt) : Prop := (a.f1 ≤ p.f1 ∧ p.f1 < b.f1 ∧ 0 < cr a b p) ∨ (b.f1 ≤ p.f1 ∧ p.f1 < a.f1 ∧ 0 < cr b a p)
instance (a b p : Pt) : Decidable (Hit a b p) := by unfold Hit; infer_instance
/-- the edges from i on, d of them -/
def wh (l : List Pt) (p : Pt) : Nat → Nat → Bool → Int
 | 0, _, s => if s = true then 1 else -1
 | d + 1, i, s => if On (at_ l i) (at_ l ((i + 1) % l.length)) p then 0 else wh l p d (i + 1) (s != decide (Hit (at_ l i) (at_ l ((i + 1) % l.length)) p))
def whereOf (l : List Pt) (p : Pt) : Int := wh l p l.length 0 false
theorem where_j1 {l : List Pt} {p a b : Pt} (hp : Bd p) (ha : Bd a) (hb : Bd b) (hab : a.f1 ≤ b.f1) (s : Bool) (i : Nat) {v : Int} {c : Bool} (hc : c = decide (Hit a b p)) (hi : i < l.length) (hN : l.length ≤ 1000000) (K : Nat)
  (hK : ∀ k, K ≤ k → shape_where.l0 k l (if (s != c) = true then 1 else -1) (l.length : Int) ((i + 1 : Nat) : Int) p.f0 p.f1 = some v) (k : Nat) (hk : K + 2 ≤ k) :
  shape_where.j1 k l (if s = true then 1 else -1) (l.length : Int) (i : Int) p.f0 p.f1 a.f0 a.f1 b.f0 b.f1 = some v := by
 obtain ⟨k, rfl⟩ := fuel2 hk
 have fin : shape_where.j2 (k + 1) l (if s = true then 1 else -1) (l.length : Int) (i : Int) c p.f0 p.f1 = some v := by
  rw [shape_where.j2, wrap_succ i (by omega)]
  have := hK k (by omega)
  cases c <;> cases s <;> simp_all [wrap64]
 have h2 : Hit a b p ↔ (a.f1 ≤ p.f1 ∧ p.f1 < b.f1 ∧ 0 < cr a b p) := by
  unfold Hit
  constructor
  ·rintro (h | h)
   ·exact h
   ·omega
  ·exact Or.inl
 rw [shape_where.j1]
 by_cases h3 : a.f1 ≤ p.f1
 ·rw [if_pos h3]
  by_cases h4 : p.f1 < b.f1
  ·rw [if_pos h4, side_f ha hb hp, Option.bind_some]
   rw [show decide (cr a b p > 0) = c by rw [hc, decide_eq_decide, h2]; exact ⟨fun h => ⟨h3, h4, h⟩, fun h => h.2.2⟩]
   exact fin
  ·rw [if_neg h4]
   rw [show (false : Bool) = c by rw [hc]; symm; rw [decide_eq_false_iff_not, h2]; intro h; exact h4 h.2.1]
   exact fin
 ·rw [if_neg h3]
  rw [show (false : Bool) = c by rw [hc]; symm; rw [decide_eq_false_iff_not, h2]; intro h; exact h3 h.1]
  exact fin
theorem hit_comm (a b p : Pt) : Hit a b p ↔ Hit b a p := by unfold Hit; exact or_comm
theorem where_l0 {l : List Pt} {p : Pt} (hb : ∀ p ∈ l, Bd p) (hp : Bd p) (hN : l.length ≤ 1000000) : ∀ d i s, l.length = i + d → Rt (fun k => shape_where.l0 k l (if s = true then 1 else -1) (l.length : Int) (i : Int) p.f0 p.f1) (wh l p d i s) := by
 intro d
 induction d with
 | zero =>
  intro i s hi
  refine ⟨0 + 1, fun k hk => ?_⟩
  obtain ⟨k, rfl⟩ := fuel1 hk
  dsimp only; rw [shape_where.l0, if_neg (by omega)]; rfl
 | succ d ih =>
  intro i s hi
  have hlt : i < l.length := by omega
  have hBi := at_bd hb hlt
  have hBn := at_bd hb (show (i + 1) % l.length < l.length from Nat.mod_lt _ (by omega))
  have t1 := tmod_in (i + 1) l.length (by omega)
  obtain ⟨K, hK⟩ := ih (i + 1) (s != decide (Hit (at_ l i) (at_ l ((i + 1) % l.length)) p)) (by omega)
  refine ⟨K + 3, fun k hk => ?_⟩
  obtain ⟨k, rfl⟩ : ∃ m, k = m + 1 := ⟨k - 1, by omega⟩
  dsimp only
  rw [shape_where.l0, if_pos (by omega), if_pos (by omega), if_pos (by omega), if_neg (by omega), tmod_nat i _ (by omega), if_pos (by omega), if_pos (by omega), rd_at, rd_at, on_f hBi hBn hp, Option.bind_some]
  unfold wh
  by_cases h1 : On (at_ l i) (at_ l ((i + 1) % l.length)) p
  ·rw [if_pos (by simpa using h1), if_pos h1]
  ·rw [if_neg (by simpa using h1), if_neg h1]
   by_cases h2 : (at_ l i).f1 > (at_ l ((i + 1) % l.length)).f1
   ·rw [if_pos h2]
    exact where_j1 hp hBn hBi (by omega) s i (by rw [decide_eq_decide]; exact hit_comm _ _ _) hlt hN K hK k (by omega)
   ·rw [if_neg h2]
    exact where_j1 hp hBi hBn (by omega) s i rfl hlt hN K hK k (by omega)
theorem where_run {l : List Pt} {p : Pt} (hb : ∀ p ∈ l, Bd p) (hp : Bd p) (hN : l.length ≤ 1000000) : Rt (fun k => shape_where.f k l p.f0 p.f1) (whereOf l p) := by
 obtain ⟨K, hK⟩ := where_l0 hb hp hN l.length 0 false (by omega)
 exact ⟨K, fun k hk => hK k hk⟩
theorem refWhere_l0 {l : List Pt} {p : Pt} (hb : ∀ p ∈ l, Bd p) (hp : Bd p) (hN : l.length ≤ 1000000) : ∀ d i s, l.length = i + d → Rt (fun k => cracknelref04_Where.l0 k l s (i : Int) p.f0 p.f1) (wh l p d i s) := by
 intro d
 induction d with
 | zero =>
  intro i s hi
  refine ⟨0 + 1, fun k hk => ?_⟩
  obtain ⟨k, rfl⟩ := fuel1 hk
  dsimp only; rw [cracknelref04_Where.l0, if_neg (by omega)]; cases s <;> rfl
 | succ d ih =>
  intro i s hi
  have hlt : i < l.length := by omega
  have hBi := at_bd hb hlt
  have hBn := at_bd hb (show (i + 1) % l.length < l.length from Nat.mod_lt _ (by omega))
  obtain ⟨K, hK⟩ := ih (i + 1) (s != decide (Hit (at_ l i) (at_ l ((i + 1) % l.length)) p)) (by omega)
  have hcr := cr_bd hBi hBn hp
  have hneg : cr (at_ l ((i + 1) % l.length)) (at_ l i) p = - cr (at_ l i) (at_ l ((i + 1) % l.length)) p := by rw [cr_eq, cr_eq]; grind
  refine ⟨K + 3, fun k hk => ?_⟩
  obtain ⟨k, rfl⟩ : ∃ m, k = m + 1 := ⟨k - 1, by omega⟩
  dsimp only
  rw [cracknelref04_Where.l0, if_pos (by omega), if_pos (by omega), next_f (by omega) (by omega), Option.bind_some, rd_at, On_f hBi hBn hp, Option.bind_some]
  dsimp only
  unfold wh
  have fin : ∀ x : Int, (0 < x ↔ Hit (at_ l i) (at_ l ((i + 1) % l.length)) p) → cracknelref04_Where.j1 k l s (i : Int) x p.f0 p.f1 = some (wh l p d (i + 1) (s != decide (Hit (at_ l i) (at_ l ((i + 1) % l.length)) p))) := by
   intro x hx
   obtain ⟨k, rfl⟩ : ∃ m, k = m + 1 := ⟨k - 1, by omega⟩
   have := hK k (by omega)
   dsimp only at this
   rw [cracknelref04_Where.j1, wrap_succ i (by omega)]
   by_cases h : 0 < x
   ·rw [if_pos h, ← this, decide_eq_true (hx.mp h)]; simp
   ·rw [if_neg h, ← this, decide_eq_false (fun h2 => h (hx.mpr h2))]; simp
  by_cases h1 : On (at_ l i) (at_ l ((i + 1) % l.length)) p
  ·rw [if_pos (by simpa using h1), if_pos h1]
  ·rw [if_neg (by simpa using h1), if_neg h1]
   by_cases h2 : ((decide ((at_ l i).f1 > p.f1)) != (decide ((at_ l ((i + 1) % l.length)).f1 > p.f1))) = true
   ·rw [if_pos h2, Cross_f hBi hBn hp, Option.bind_some]
    have h2' : ¬ ((at_ l i).f1 > p.f1 ↔ (at_ l ((i + 1) % l.length)).f1 > p.f1) := by
     intro e; simp only [e, bne_self_eq_false, Bool.false_eq_true] at h2
    by_cases h3 : (at_ l ((i + 1) % l.length)).f1 < (at_ l i).f1
    ·rw [if_pos h3, wz _ (by omega) (by omega)]
     apply fin; unfold Hit; rw [hneg]; omega
    ·rw [if_neg h3]
     apply fin; unfold Hit; rw [hneg]; omega
   ·rw [if_neg h2, wrap_succ i (by omega)]
    have := hK k (by omega)
    dsimp only at this
    have h2' : ((at_ l i).f1 > p.f1 ↔ (at_ l ((i + 1) % l.length)).f1 > p.f1) := by
     simp only [bne_iff_ne, ne_eq, Decidable.not_not, decide_eq_decide] at h2; exact h2
    rw [← this, decide_eq_false (by unfold Hit; omega)]; simp
theorem refWhere_run {l : List Pt} {p : Pt} (hb : ∀ p ∈ l, Bd p) (hp : Bd p) (hN : l.length ≤ 1000000) : Rt (fun k => cracknelref04_Where.f k l p.f0 p.f1) (whereOf l p) := by
 obtain ⟨K, hK⟩ := refWhere_l0 hb hp hN l.length 0 false (by omega)
 exact ⟨K, fun k hk => hK k hk⟩
end Go.Proofs.Ytoffmpkgickfhaa.M
end
section
namespace Go.Proofs.Ytoffmpkgickfhaa.M
open Go.RowKit Go.Proofs.Ytoffmpkgickfhaa.PG Go.Proofs.YtoffmpkgickfhaaW.PrintMore Go.Proofs.YtoffmpkgickfhaaW.PrintWords
/-- what stands against a simple polygon, in both programs: one error -/
theorem bad_simple (r : List Pt) (hl : r.length ≤ 1000000) : ∃ c : Int, Rt (fun k => shape_refused_simple.f k r) c ∧ Rt (fun k => cracknellaw04_simple.f k r) c ∧ (c = 0 ↔ Poly r ∧ Simple r) ∧ (c = 0 ∨ c = 1 ∨ c = 2) := by
 obtain ⟨K1, h1⟩ := refPolygon_run r hl
 by_cases hp : Poly r
 ·have hb : ∀ p ∈ r, Bd p := fun p h => in_bd (hp.2.2 p h)
  obtain ⟨b4, ⟨K4, h4⟩, i4⟩ := simple_run hb hp.1 hl
  obtain ⟨b5, ⟨K5, h5⟩, i5⟩ := refSimple_run hb hp.1 hl
  have e1 : b4 = b5 := by rw [Bool.eq_iff_iff, i4, i5]
  subst e1
  refine ⟨if b4 = true then 0 else 2, ⟨K4, fun k hk => ?_⟩, ⟨K1 + K5, fun k hk => ?_⟩, ?_, ?_⟩
  ·have a4 := h4 k hk
   dsimp only at a4 ⊢
   unfold shape_refused_simple.f
   rw [polygon_f, Option.bind_some, if_pos (by simpa using hp), a4, Option.bind_some]
   cases b4 <;> rfl
  ·have a1 := h1 k (by omega)
   have a5 := h5 k (by omega)
   dsimp only at a1 a5 ⊢
   unfold cracknellaw04_simple.f
   rw [a1, Option.bind_some, if_pos (by simpa using hp), a5, Option.bind_some]
   cases b4 <;> rfl
  ·rw [← i4]; cases b4 <;> simp [hp]
  ·cases b4 <;> simp
 ·refine ⟨1, ⟨0, fun k hk => ?_⟩, ⟨K1, fun k hk => ?_⟩, ?_, ?_⟩
  ·dsimp only
   unfold shape_refused_simple.f
   rw [polygon_f, Option.bind_some, if_neg (by simpa using hp)]
  ·have a1 := h1 k (by omega)
   dsimp only at a1 ⊢
   unfold cracknellaw04_simple.f
   rw [a1, Option.bind_some, if_neg (by simpa using hp)]
  ·simp [hp]
  ·simp
theorem wheres_plain (l : List S29) (p : S29) (_ : (Lit.int .i64 p.f0).wf = true) (_ : (Lit.int .i64 p.f1).wf = true) : ∃ k, cracknellaw04_ShapeWheres.f k l p.f0 p.f1 = some true := by
 obtain ⟨r, hr, hl⟩ := cut_f l 20 (by omega)
 have hl' : r.length ≤ 1000000 := by omega
 obtain ⟨c, ⟨K1, h1⟩, ⟨K2, h2⟩, hc, hc3⟩ := bad_simple r hl'
 have hin : ∀ p : Pt, (∀ q ∈ [p], In 10000 q) ↔ In 10000 p := fun p => by simp
 have start : ∀ k, cracknellaw04_ShapeWheres.f k l p.f0 p.f1 = (shape_Where.f k r p.f0 p.f1).bind fun bt105 => ((cracknellaw04_simple.f k r).bind fun t107 => (if t107 = 0 then ((cracknelref04_Valid.f p.f0 p.f1 10000).bind fun t108 => (cracknellaw04_ShapeWheres.j0 k r bt105.1 bt105.2 t107 (!t108) p.f0 p.f1)) else (cracknellaw04_ShapeWheres.j0 k r bt105.1 bt105.2 t107 false p.f0 p.f1))) := by
  intro k
  unfold cracknellaw04_ShapeWheres.f
  rw [show (20 : Int) = ((20 : Nat) : Int) from rfl, hr, Option.bind_some]
 by_cases h0 : c = 0
 ·obtain ⟨hp, hs⟩ := hc.mp h0
  have hb : ∀ p ∈ r, Bd p := fun p h => in_bd (hp.2.2 p h)
  by_cases hv : In 10000 p
  ·obtain ⟨K3, h3⟩ := where_run hb (in_bd hv) hl'
   obtain ⟨K4, h4⟩ := refWhere_run hb (in_bd hv) hl'
   refine ⟨K1 + K2 + K3 + K4 + 62 + 1 + 1, ?_⟩
   generalize hk : K1 + K2 + K3 + K4 + 62 = k
   have a1 := h1 (k + 1 + 1) (by omega)
   have a2 := h2 (k + 1 + 1) (by omega)
   have a3 := h3 (k + 1 + 1) (by omega)
   have a4 := h4 k (by omega)
   have a8 := lives_ok k (by omega)
   dsimp only at a1 a2 a3 a4
   rw [start]; unfold shape_Where.f
   rw [a1, Option.bind_some, if_pos h0, within_f _ _ (by omega) (by omega), Option.bind_some, if_pos (by simpa using hv), a3, Option.bind_some, Option.bind_some, a2, Option.bind_some, if_pos h0, valid_f _ _ (by omega) (by omega), Option.bind_some, cracknellaw04_ShapeWheres.j0, if_neg (by simpa using hv), cracknellaw04_ShapeWheres.j1, if_pos h0, a4, Option.bind_some, if_pos rfl, if_pos rfl, a8, Option.bind_some]
  ·refine ⟨K1 + K2 + 62 + 1 + 1, ?_⟩
   generalize hk : K1 + K2 + 62 = k
   have a1 := h1 (k + 1 + 1) (by omega)
   have a2 := h2 (k + 1 + 1) (by omega)
   have a8 := lives_ok k (by omega)
   dsimp only at a1 a2
   rw [start]; unfold shape_Where.f
   rw [a1, Option.bind_some, if_pos h0, within_f _ _ (by omega) (by omega), Option.bind_some, if_neg (by simpa using hv), Option.bind_some, a2, Option.bind_some, if_pos h0, valid_f _ _ (by omega) (by omega), Option.bind_some, cracknellaw04_ShapeWheres.j0, if_pos (by simpa using hv), cracknellaw04_ShapeWheres.j1, if_neg (by omega), if_pos rfl, if_pos rfl, a8, Option.bind_some]
 ·refine ⟨K1 + K2 + 62 + 1 + 1, ?_⟩
  generalize hk : K1 + K2 + 62 = k
  have a1 := h1 (k + 1 + 1) (by omega)
  have a2 := h2 (k + 1 + 1) (by omega)
  have a8 := lives_ok k (by omega)
  dsimp only at a1 a2
  rw [start]; unfold shape_Where.f
  rw [a1, Option.bind_some, if_neg h0, Option.bind_some, a2, Option.bind_some, if_neg h0, cracknellaw04_ShapeWheres.j0, if_neg (by simp), cracknellaw04_ShapeWheres.j1, if_neg h0, if_pos rfl, if_pos rfl, a8, Option.bind_some]
end Go.Proofs.Ytoffmpkgickfhaa.M
end
