/- Parts of the proof of YtoffmpkgickfhaaLawShapeHulled: printed walks, their words, and plain laws. -/
import Derived.Test.YtoffmpkgickfhaaQU1
import Derived.Test.YtoffmpkgickfhaaQU4
import Derived.Test.YtoffmpkgickfhaaQU2
import Derived.Test.YtoffmpkgickfhaaQU3
import Derived.KernelRfl
section
namespace Go.Proofs.Ytoffmpkgickfhaa.PG
open Go.RowKit Go.Proofs.YtoffmpkgickfhaaW.PrintWords Go.Proofs.YtoffmpkgickfhaaW.PrintLast Go.Proofs.YtoffmpkgickfhaaW.PrintMore
attribute [local go_sem] max2_int min2_int max_two min_two max_three min_three max_four min_four
set_option linter.unusedVariables false
set_option linter.unusedSimpArgs false
attribute [local go_sem high] eqA29
/-! ### cracknelref04_Hull: function 19 -/
mutual
def cracknelref04_Hull.l0 : Nat → List (S29) → Bool → Int → Int → Int → Option ((List (S29)) × Bool)
 | 0, _, _, _, _, _ => none
 | k + 1, x0, x4, x6, x103000, x103001 => if x6 < (x0.length : Int) then (if 0 ≤ x6 then ((cracknelref04_first.f ((rd_T29 x0 x6).f0) ((rd_T29 x0 x6).f1) x103000 x103001).bind fun t104 => (if t104 = true then (cracknelref04_Hull.j1 k x0 x4 x6 ((rd_T29 x0 x6).f0) ((rd_T29 x0 x6).f1)) else (cracknelref04_Hull.j1 k x0 x4 x6 x103000 x103001))) else (none)) else (if x4 = true then (some (([] : List (S29)), false)) else (cracknelref04_Hull.l2 k x0 (([(⟨x103000, x103001⟩ : S29)] : List (S29))) x103000 x103001))
def cracknelref04_Hull.j1 : Nat → List (S29) → Bool → Int → Int → Int → Option ((List (S29)) × Bool)
 | 0, _, _, _, _, _ => none
 | k + 1, x0, x4, x6, x103000, x103001 => cracknelref04_Hull.l1 k x0 x4 x6 0 x103000 x103001
def cracknelref04_Hull.l1 : Nat → List (S29) → Bool → Int → Int → Int → Int → Option ((List (S29)) × Bool)
 | 0, _, _, _, _, _, _ => none
 | k + 1, x0, x4, x6, x7, x103000, x103001 => if x7 < (x0.length : Int) then (if x4 = true then (if 0 < (x0.length : Int) then (if 0 ≤ x6 then (if x6 < (x0.length : Int) then (if 0 ≤ x7 then ((cracknelref04_Cross.f ((rd_T29 x0 0).f0) ((rd_T29 x0 0).f1) ((rd_T29 x0 x6).f0) ((rd_T29 x0 x6).f1) ((rd_T29 x0 x7).f0) ((rd_T29 x0 x7).f1)).bind fun t109 => (cracknelref04_Hull.l1 k x0 (t109 == 0) x6 (wrap64 (x7 + 1)) x103000 x103001)) else (none)) else (none)) else (none)) else (none)) else (cracknelref04_Hull.l0 k x0 x4 (wrap64 (x6 + 1)) x103000 x103001)) else (cracknelref04_Hull.l0 k x0 x4 (wrap64 (x6 + 1)) x103000 x103001)
def cracknelref04_Hull.l2 : Nat → List (S29) → List (S29) → Int → Int → Option ((List (S29)) × Bool)
 | 0, _, _, _, _ => none
 | k + 1, x0, x8, x103000, x103001 => if 0 ≤ (wrap64 ((x8.length : Int) - 1)) then (if (wrap64 ((x8.length : Int) - 1)) < (x8.length : Int) then (cracknelref04_Hull.l3 k x0 x8 0 x103000 x103001 ((rd_T29 x8 (wrap64 ((x8.length : Int) - 1))).f0) ((rd_T29 x8 (wrap64 ((x8.length : Int) - 1))).f1) ((rd_T29 x8 (wrap64 ((x8.length : Int) - 1))).f0) ((rd_T29 x8 (wrap64 ((x8.length : Int) - 1))).f1)) else (none)) else (none)
def cracknelref04_Hull.l3 : Nat → List (S29) → List (S29) → Int → Int → Int → Int → Int → Int → Int → Option ((List (S29)) × Bool)
 | 0, _, _, _, _, _, _, _, _, _ => none
 | k + 1, x0, x8, x11, x103000, x103001, x115000, x115001, x116000, x116001 => if x11 < (x0.length : Int) then (if 0 ≤ x11 then (if (((rd_T29 x0 x11).f0) == x115000 && (((rd_T29 x0 x11).f1) == x115001)) = true then (cracknelref04_Hull.l3 k x0 x8 (wrap64 (x11 + 1)) x103000 x103001 x115000 x115001 x116000 x116001) else ((cracknelref04_Cross.f x115000 x115001 x116000 x116001 ((rd_T29 x0 x11).f0) ((rd_T29 x0 x11).f1)).bind fun t118 => (if (x116000 == x115000 && (x116001 == x115001)) = true then (cracknelref04_Hull.j5 k x0 x8 x11 true x103000 x103001 x115000 x115001 x116000 x116001 ((rd_T29 x0 x11).f0) ((rd_T29 x0 x11).f1)) else (if t118 < 0 then (cracknelref04_Hull.j5 k x0 x8 x11 true x103000 x103001 x115000 x115001 x116000 x116001 ((rd_T29 x0 x11).f0) ((rd_T29 x0 x11).f1)) else (if t118 = 0 then ((cracknelref04_On.f x115000 x115001 ((rd_T29 x0 x11).f0) ((rd_T29 x0 x11).f1) x116000 x116001).bind fun t119 => (cracknelref04_Hull.j5 k x0 x8 x11 t119 x103000 x103001 x115000 x115001 x116000 x116001 ((rd_T29 x0 x11).f0) ((rd_T29 x0 x11).f1))) else (cracknelref04_Hull.j5 k x0 x8 x11 false x103000 x103001 x115000 x115001 x116000 x116001 ((rd_T29 x0 x11).f0) ((rd_T29 x0 x11).f1))))))) else (none)) else (if (x116000 == x103000 && (x116001 == x103001)) = true then (some (x8, true)) else (if x8.length < 8796093022208 then (cracknelref04_Hull.l2 k x0 (x8 ++ [(⟨x116000, x116001⟩ : S29)]) x103000 x103001) else (none)))
def cracknelref04_Hull.j5 : Nat → List (S29) → List (S29) → Int → Bool → Int → Int → Int → Int → Int → Int → Int → Int → Option ((List (S29)) × Bool)
 | 0, _, _, _, _, _, _, _, _, _, _, _, _ => none
 | k + 1, x0, x8, x11, x98, x103000, x103001, x115000, x115001, x116000, x116001, x118000, x118001 => if x98 = true then (cracknelref04_Hull.l3 k x0 x8 (wrap64 (x11 + 1)) x103000 x103001 x115000 x115001 x118000 x118001) else (cracknelref04_Hull.l3 k x0 x8 (wrap64 (x11 + 1)) x103000 x103001 x115000 x115001 x116000 x116001)
end
def cracknelref04_Hull.f (k : Nat) (l0 : List (S29)) : Option ((List (S29)) × Bool) := if 0 < (l0.length : Int) then (cracknelref04_Hull.l0 k l0 true 0 ((rd_T29 l0 0).f0) ((rd_T29 l0 0).f1)) else (none)
def cracknelref04_Hull.T11 : Bool × List (List Nat × List Nat) := (true, [([], []), ([0], [0]), ([1], [1]), ([], []), ([], []), ([3, 4], [3, 4]), ([5], [5]), ([], []), ([], []), ([7, 8], [7, 8]), ([9], [9]), ([2, 6, 10], [2, 6, 10]), ([11], [11]), ([12, 11, 0, 1, 2, 3, 4, 5, 6, 7, 8, 9, 10, 11, 12], [12])])
def cracknelref04_Hull.B11 : List Nat := [0, 1, 3, 0, 0, 24, 56, 0, 0, 384, 896, 2047, 4095, 8191]
theorem cracknelref04_Hull.tab11 : rtab .any (opsOf Try.f19 11) = cracknelref04_Hull.T11 := by kernel_rfl
theorem cracknelref04_Hull.bits11 : waitsOk cracknelref04_Hull.T11.2 cracknelref04_Hull.B11 = true := by kernel_rfl
set_option maxHeartbeats 8000000 in
set_option maxRecDepth 100000 in
theorem cracknelref04_Hull.calls (k : Nat) (A0 : Option Addr) (c0 : Nat) (l0 : List (S29)) (r1 : List (S29)) (r2 : Bool) (w : World) (hr0 : Kd.C k29 w A0 l0.length l0) (hc0 : l0.length ≤ c0) (h : cracknelref04_Hull.f k l0 = some (r1, r2)) :
  Calls Try.prog 19 #[.slice A0 l0.length c0] w fun e w' => ∃ v0_ : Value, e = .returned (.tuple #[v0_, .bool r2]) ∧ Kd.R k29 29 w' w.heap.size (fun _ => True) v0_ r1 ∧ Below w.heap.size w w' := by
 have hu29 := Try.underlying29
 have HR0 := Aside0.mk hr0
 have HC0 := Aside0.mk hc0
 clear hr0 hc0
 have HB := Aside0.mk (Below.refl w.heap.size w)
 have H : (if 0 < (l0.length : Int) then (cracknelref04_Hull.l0 k l0 true 0 ((rd_T29 l0 0).f0) ((rd_T29 l0 0).f1)) else (none)) = some (r1, r2) := h
 clear h
 by_cases c2 : 0 < (l0.length : Int)
 ·rw [if_pos c2] at H
  have c2b0 := decide_eq_true c2
  have c2b1 : decide (0 < l0.length) = true := decide_eq_true (by omega)
  clear c2
  have H' := Aside0.mk H
  clear H
  have p101 : 0 ≤ (0 : Int) := (by omega)
  have q101 : 0 < (l0.length : Int) := dt
  obtain ⟨ad101, e101, hx101_0, hx101_1⟩ := at_T29 HR0.out 0 p101 q101
  cases e101
  have qi101 : (0 < l0.length) = True := eq_true (by omega)
  (try rw [show ((0 : Int)).toNat = 0 from rfl] at hx101_0)
  (try rw [show 0 * 2 = 0 from rfl] at hx101_0)
  (try rw [Addr.add_zero'] at hx101_0)
  (try rw [show ((0 : Int)).toNat = 0 from rfl] at hx101_1)
  (try rw [show 0 * 2 = 0 from rfl] at hx101_1)
  (try rw [Addr.add_zero'] at hx101_1)
  replace p101 := eq_true p101
  replace q101 := eq_true q101
  go_enter Try.func19, Try.ntmps19
  go_wp2_with (first | ((with_reducible refine gate_dst (N := 5) rfl ?_); refine bxe 5 #[.int .i64 0, .int .i64 0] 29 ?_; intro gb102 hg w3 hbox hb; have BK102 := Aside0.mk (hbox); have GW102 := Aside0.mk (gs hg : w.heap.size ≤ gb102); have GE102 := Aside0.mk (gs hg : w.heap.size ≤ gb102); replace HB := Aside0.mk (below_step bh hb); clear hb hbox hg; have hcz4_0 : w3.cell? ⟨gb102, 0, none⟩ = some (.int .i64 0) := bc BK102 0; have hcz4_1 : w3.cell? ⟨gb102, 1, none⟩ = some (.int .i64 0) := bc BK102 1; have hfz4_0 := blk_frozen BK102.out 0; have hfz4_1 := blk_frozen BK102.out 1))
  go_loopg [4, 6] k (fun kq v4 v6 w' => ∃ (x4_1 : Bool) (x6_1 : Int) (x103000_1 : Int) (x103001_1 : Int), v4 = .bool x4_1 ∧ v6 = .int .i64 x6_1 ∧ Aside0 (cracknelref04_Hull.l0 kq l0 x4_1 x6_1 x103000_1 x103001_1 = some (r1, r2)) ∧ Aside0 (kq ≤ k) ∧ Aside0 (w'.heap[gb102]? = some (.cells #[.int .i64 x103000_1, .int .i64 x103001_1] 29 (0, 0))) ∧ Aside0 (Below w.heap.size w w'))
  case atStart => exact ⟨(true), (0), ((rd_T29 l0 0).f0), ((rd_T29 l0 0).f1), sd, sd, H', ⟨Nat.le_refl _⟩, ⟨by (with_reducible repeat (first | refine blk_drewN ?_ _ | refine blk_drew ?_ | refine blk_alloc ?_ _)); refine blk_put (cs := #[.int .i64 ((rd_T29 l0 0).f0), .int .i64 0]) ?_ 1 _ rfl; (with_reducible repeat (first | refine blk_drewN ?_ _ | refine blk_drew ?_ | refine blk_alloc ?_ _)); refine blk_put (cs := #[.int .i64 0, .int .i64 0]) ?_ 0 _ rfl; (with_reducible repeat (first | refine blk_drewN ?_ _ | refine blk_drew ?_ | refine blk_alloc ?_ _)); exact BK102.out⟩, ⟨bh⟩⟩
  case round =>
   clear H'
   (try clear c1); (try clear p1); (try clear q1); (try clear hx1); (try clear qi1); (try clear c2); (try clear c2b0); (try clear c2b1); (try clear p2); (try clear hcz4_0); (try clear hcz4_1); (try clear hfz4_0); (try clear hfz4_1); (try clear hx101_0); (try clear hx101_1); (try clear p101); (try clear q101)
   obtain ⟨x4_1, x6_1, x103000_1, x103001_1, rfl, rfl, HA, HK1, BK102, HB⟩ := hrel
   cases gk with
   | zero => exact absurd HA.out (by simp [cracknelref04_Hull.l0])
   | succ k1 =>
    have H := HA.out
    clear HA
    simp only [cracknelref04_Hull.l0] at H
    by_cases c5 : x6_1 < (l0.length : Int)
    ·rw [if_pos c5] at H
     have c5b0 := decide_eq_true c5
     clear c5
     by_cases c6 : 0 ≤ x6_1
     ·rw [if_pos c6] at H
      have c6b0 := decide_eq_true c6
      clear c6
      replace H := Option.bind_eq_some_iff.mp H
      obtain ⟨t104, A70, H⟩ := H
      replace H : (if t104 = true then (cracknelref04_Hull.j1 k1 l0 x4_1 x6_1 ((rd_T29 l0 x6_1).f0) ((rd_T29 l0 x6_1).f1)) else (cracknelref04_Hull.j1 k1 l0 x4_1 x6_1 x103000_1 x103001_1)) = some (r1, r2) := H
      have A7 := Aside0.mk A70
      clear A70
      have HC8 := Aside0.mk H
      clear H
      try go_wp2
      replace BK102 := Aside0.mk (blk_drew BK102.out)
      replace HB := Aside0.mk (below_drew1 HB.out)
      have p103 : 0 ≤ (x6_1 : Int) := dt
      have q103 : x6_1 < (l0.length : Int) := dt
      obtain ⟨ad103, e103, hx103_0, hx103_1⟩ := at_T29 HR0.out x6_1 p103 q103
      have hw103_1 := hx103_1
      have hw103_0 := hx103_0
      obtain rfl : ad101 = ad103 := (by injection e103)
      replace hx103_0 := hc HB hx103_0
      replace hx103_1 := hc HB hx103_1
      replace p103 := eq_true p103
      replace q103 := eq_true q103
      refine start_ (n := 6) (S := fun w' => w'.cell? ⟨gb102, 0, none⟩ = some (.int .i64 x103000_1) ∧ w'.cell? ⟨gb102, 1, none⟩ = some (.int .i64 x103001_1) ∧ w'.cell? (ad101.add ((x6_1).toNat * 2)) = some (.int .i64 ((rd_T29 l0 x6_1).f0)) ∧ w'.cell? ⟨(ad101.add ((x6_1).toNat * 2)).block, (ad101.add ((x6_1).toNat * 2)).off + 1, none⟩ = some (.int .i64 ((rd_T29 l0 x6_1).f1))) (ds := []) #[false, false, false, false, false, false] (by kernel_rfl) rfl rfl ⟨bc BK102 0, bc BK102 1, (hc HB hw103_0), (hc HB hw103_1)⟩ (fun hHeld => ?_)
      generalize wr.drew = w9 at BK102 HB hx103_0 hx103_1 hHeld ⊢
      refine pure_ (i := 0) (N := some 23) (v := ?_) (a' := ?_) #[true, false, false, false, false, false] rfl rfl (by kernel_rfl) (fun _ _ _ h => h) (Or.inl ⟨by rfl, ?_⟩) ?_ ?_
      rotate_left
      ·intro w'
       go_simp
       with_reducible rfl
      rotate_left
      ·simp only [Act.put, List.setIfInBounds_toArray, List.set_cons_zero, List.set_cons_succ, i64_w, i32_w]
       rfl
      refine pure_ (i := 1) (N := some 24) (v := ?_) (a' := ?_) #[true, true, false, false, false, false] rfl rfl (by kernel_rfl) (fun _ _ _ h => h) (Or.inl ⟨by rfl, ?_⟩) ?_ ?_
      rotate_left
      ·intro w'
       go_simp
       with_reducible rfl
      rotate_left
      ·simp only [Act.put, List.setIfInBounds_toArray, List.set_cons_zero, List.set_cons_succ, i64_w, i32_w]
       rfl
      refine pure_ (i := 2) (N := some 25) (v := ?_) (a' := ?_) #[true, true, true, false, false, false] rfl rfl (by kernel_rfl) (fun _ _ _ h => h) (Or.inl ⟨by rfl, ?_⟩) ?_ ?_
      rotate_left
      ·intro w'
       go_simp
       with_reducible rfl
      rotate_left
      ·simp only [Act.put, List.setIfInBounds_toArray, List.set_cons_zero, List.set_cons_succ, i64_w, i32_w]
       rfl
      refine take_ (i := 3) (N := some 26) (v := ?_) (a' := ?_) #[true, true, true, true, false, false] rfl rfl (by kernel_rfl) (fun _ _ _ h => h) (Or.inl ⟨by rfl, ?_⟩) hHeld ?_ ?_
      rotate_left
      ·rintro w' ⟨s0, s1, s2, s3⟩
       go_simp
       with_reducible rfl
      rotate_left
      ·simp only [Act.put, List.setIfInBounds_toArray, List.set_cons_zero, List.set_cons_succ, i64_w, i32_w]
       rfl
      refine take_ (i := 4) (N := some 27) (v := ?_) (a' := ?_) #[true, true, true, true, true, false] rfl rfl (by kernel_rfl) (fun _ _ _ h => h) (Or.inl ⟨by rfl, ?_⟩) hHeld ?_ ?_
      rotate_left
      ·rintro w' ⟨s0, s1, s2, s3⟩
       go_simp
       with_reducible rfl
      rotate_left
      ·simp only [Act.put, List.setIfInBounds_toArray, List.set_cons_zero, List.set_cons_succ, i64_w, i32_w]
       rfl
      refine one_ (i := 5) (N := some 28) #[true, true, true, true, true, true] rfl rfl (by kernel_rfl) (by decide) (fun K hK => ?_)
      refine goes_ Try.func60 (by kernel_rfl) rfl #[.agg #[.int .i64 ((rd_T29 l0 x6_1).f0), .int .i64 ((rd_T29 l0 x6_1).f1)], .agg #[.int .i64 x103000_1, .int .i64 x103001_1]] (by rfl) rfl rfl sg ?_
      with_reducible refine (cracknelref04_first.calls ((rd_T29 l0 x6_1).f0) ((rd_T29 l0 x6_1).f1) x103000_1 x103001_1 t104 _ A7.out).mono ?_
      rintro e w10 ⟨rfl, hb⟩
      refine ⟨_, rfl, ?_⟩
      replace BK102 := kb BK102 hb
      replace HB := Aside0.mk (below_step bh hb)
      (try clear hb); (try clear hb2); (try clear hk); (try clear hi)
      refine hK.out _ _ ⟨bc BK102 0, bc BK102 1, (hc HB hw103_0), (hc HB hw103_1)⟩ (fun hHeld => ?_)
      clear hK K
      refine nm 28 ?_
      refine done_ (by kernel_rfl) ?_
      go_upto_if 28 with (fail)
      go_cut [] (fun wc => ∃ (kq : Nat) (x103000_7 : Int) (x103001_7 : Int), Aside0 (cracknelref04_Hull.j1 kq l0 x4_1 x6_1 x103000_7 x103001_7 = some (r1, r2)) ∧ Aside0 (kq ≤ k1) ∧ Aside0 (wc.heap[gb102]? = some (.cells #[.int .i64 x103000_7, .int .i64 x103001_7] 29 (0, 0))) ∧ Aside0 (Below w.heap.size w wc))
      case first =>
       have H := HC8.out
       clear HC8
       by_cases c11 : t104 = true
       ·subst c11
        rw [if_pos rfl] at H
        have H' := Aside0.mk H
        clear H
        have p105 : 0 ≤ (x6_1 : Int) := dt
        have q105 : x6_1 < (l0.length : Int) := dt
        obtain ⟨ad105, e105, hx105_0, hx105_1⟩ := at_T29 HR0.out x6_1 p105 q105
        obtain rfl : ad101 = ad105 := (by injection e105)
        replace hx105_0 := hc HB hx105_0
        replace hx105_1 := hc HB hx105_1
        replace p105 := eq_true p105
        replace q105 := eq_true q105
        obtain ⟨hcz12_0, hcz12_1, hfz12_0, hfz12_1⟩ := b2 BK102
        go_wp2
        go_meet
        case rel => exact ⟨_, ((rd_T29 l0 x6_1).f0), ((rd_T29 l0 x6_1).f1), H', ⟨by have := HK1.out; first | omega | exact Nat.le_refl _⟩, ⟨by (with_reducible repeat (first | refine blk_drewN ?_ _ | refine blk_drew ?_ | refine blk_alloc ?_ _)); refine blk_put (cs := #[.int .i64 ((rd_T29 l0 x6_1).f0), .int .i64 x103001_1]) ?_ 1 _ rfl; (with_reducible repeat (first | refine blk_drewN ?_ _ | refine blk_drew ?_ | refine blk_alloc ?_ _)); refine blk_put (cs := #[.int .i64 x103000_1, .int .i64 x103001_1]) ?_ 0 _ rfl; (with_reducible repeat (first | refine blk_drewN ?_ _ | refine blk_drew ?_ | refine blk_alloc ?_ _)); exact BK102.out⟩, ⟨bh⟩⟩
       ·replace c11 := Bool.eq_false_iff.mpr c11
        subst c11
        rw [if_neg (show ¬ (false = true) by decide)] at H
        have H' := Aside0.mk H
        clear H
        go_wp2
        go_meet
        case rel => exact ⟨_, (x103000_1), (x103001_1), H', ⟨by have := HK1.out; first | omega | exact Nat.le_refl _⟩, ⟨bk BK102⟩, ⟨bh⟩⟩
      case rest =>
       clear HC8
       (try clear c1); (try clear p1); (try clear q1); (try clear hx1); (try clear qi1); (try clear c2); (try clear c2b0); (try clear c2b1); (try clear p2); (try clear c5); (try clear c5b0); (try clear c6); (try clear c6b0); (try clear p10); (try clear q10); (try clear hx10); (try clear qi10); (try clear c11); (try clear hcz12_0); (try clear hcz12_1); (try clear hcz4_0); (try clear hcz4_1); (try clear hfz12_0); (try clear hfz12_1); (try clear hfz4_0); (try clear hfz4_1); (try clear hx101_0); (try clear hx101_1); (try clear hx103_0); (try clear hx103_1); (try clear hx105_0); (try clear hx105_1); (try clear p1); (try clear p101); (try clear p103); (try clear p105); (try clear p2); (try clear q1); (try clear q101); (try clear q103); (try clear q105)
       obtain ⟨kq, x103000_7, x103001_7, HA, HJ7, BK102, HB⟩ := hcut
       cases kq with
       | zero => exact absurd HA.out (by simp [cracknelref04_Hull.j1])
       | succ kj7 =>
        have H := HA.out
        clear HA
        simp only [cracknelref04_Hull.j1] at H
        have H' := Aside0.mk H
        clear H
        go_wp2
        go_loopg [4, 7] kj7 (fun kq v4 v7 w' => ∃ (x4_3 : Bool) (x7_3 : Int), v4 = .bool x4_3 ∧ v7 = .int .i64 x7_3 ∧ Aside0 (cracknelref04_Hull.l1 kq l0 x4_3 x6_1 x7_3 x103000_7 x103001_7 = some (r1, r2)) ∧ Aside0 (kq ≤ kj7) ∧ Aside0 (w'.heap[gb102]? = some (.cells #[.int .i64 x103000_7, .int .i64 x103001_7] 29 (0, 0))) ∧ Aside0 (Below w.heap.size w w'))
        case atStart => exact ⟨(x4_1), (0), sd, sd, H', ⟨Nat.le_refl _⟩, ⟨bk BK102⟩, ⟨bh⟩⟩
        case round =>
         clear H'
         (try clear c1); (try clear p1); (try clear q1); (try clear hx1); (try clear qi1); (try clear c2); (try clear c2b0); (try clear c2b1); (try clear p2); (try clear c5); (try clear c5b0); (try clear c6); (try clear c6b0); (try clear p10); (try clear q10); (try clear hx10); (try clear qi10); (try clear c11); (try clear hcz12_0); (try clear hcz12_1); (try clear hcz4_0); (try clear hcz4_1); (try clear hfz12_0); (try clear hfz12_1); (try clear hfz4_0); (try clear hfz4_1); (try clear hx101_0); (try clear hx101_1); (try clear hx103_0); (try clear hx103_1); (try clear hx105_0); (try clear hx105_1); (try clear p1); (try clear p10); (try clear p101); (try clear p103); (try clear p105); (try clear p2); (try clear q1); (try clear q10); (try clear q101); (try clear q103); (try clear q105)
         obtain ⟨x4_3, x7_3, rfl, rfl, HA, HK3, BK102, HB⟩ := hrel
         cases gk with
         | zero => exact absurd HA.out (by simp [cracknelref04_Hull.l1])
         | succ k3 =>
          have H := HA.out
          clear HA
          simp only [cracknelref04_Hull.l1] at H
          by_cases c13 : x7_3 < (l0.length : Int)
          ·rw [if_pos c13] at H
           have c13b0 := decide_eq_true c13
           clear c13
           by_cases c14 : x4_3 = true
           ·subst c14
            rw [if_pos rfl] at H
            by_cases c15 : 0 < (l0.length : Int)
            ·rw [if_pos c15] at H
             have c15b0 := decide_eq_true c15
             have c15b1 : decide (0 < l0.length) = true := decide_eq_true (by omega)
             clear c15
             by_cases c16 : 0 ≤ x6_1
             ·rw [if_pos c16] at H
              have c16b0 := decide_eq_true c16
              clear c16
              by_cases c17 : x6_1 < (l0.length : Int)
              ·rw [if_pos c17] at H
               have c17b0 := decide_eq_true c17
               clear c17
               by_cases c18 : 0 ≤ x7_3
               ·rw [if_pos c18] at H
                have c18b0 := decide_eq_true c18
                clear c18
                replace H := Option.bind_eq_some_iff.mp H
                obtain ⟨t109, A190, H⟩ := H
                replace H : (cracknelref04_Hull.l1 k3 l0 (t109 == 0) x6_1 (wrap64 (x7_3 + 1)) x103000_7 x103001_7) = some (r1, r2) := H
                have A19 := Aside0.mk A190
                clear A190
                have H' := Aside0.mk H
                clear H
                try go_wp2
                replace BK102 := Aside0.mk (blk_drew BK102.out)
                replace HB := Aside0.mk (below_drew1 HB.out)
                have p106 : 0 ≤ (0 : Int) := (by omega)
                have q106 : 0 < (l0.length : Int) := dt
                obtain ⟨ad106, e106, hx106_0, hx106_1⟩ := at_T29 HR0.out 0 p106 q106
                have hw106_1 := hx106_1
                (try rw [show ((0 : Int)).toNat = 0 from rfl] at hw106_1)
                (try rw [show 0 * 2 = 0 from rfl] at hw106_1)
                (try rw [Addr.add_zero'] at hw106_1)
                have hw106_0 := hx106_0
                (try rw [show ((0 : Int)).toNat = 0 from rfl] at hw106_0)
                (try rw [show 0 * 2 = 0 from rfl] at hw106_0)
                (try rw [Addr.add_zero'] at hw106_0)
                obtain rfl : ad101 = ad106 := (by injection e106)
                have qi106 : (0 < l0.length) = True := eq_true (by omega)
                (try rw [show ((0 : Int)).toNat = 0 from rfl] at hx106_0)
                (try rw [show 0 * 2 = 0 from rfl] at hx106_0)
                (try rw [Addr.add_zero'] at hx106_0)
                (try rw [show ((0 : Int)).toNat = 0 from rfl] at hx106_1)
                (try rw [show 0 * 2 = 0 from rfl] at hx106_1)
                (try rw [Addr.add_zero'] at hx106_1)
                replace hx106_0 := hc HB hx106_0
                replace hx106_1 := hc HB hx106_1
                replace p106 := eq_true p106
                replace q106 := eq_true q106
                have p107 : 0 ≤ (x6_1 : Int) := dt
                have q107 : x6_1 < (l0.length : Int) := dt
                obtain ⟨ad107, e107, hx107_0, hx107_1⟩ := at_T29 HR0.out x6_1 p107 q107
                have hw107_1 := hx107_1
                have hw107_0 := hx107_0
                obtain rfl : ad101 = ad107 := (by injection e107)
                replace hx107_0 := hc HB hx107_0
                replace hx107_1 := hc HB hx107_1
                replace p107 := eq_true p107
                replace q107 := eq_true q107
                have p108 : 0 ≤ (x7_3 : Int) := dt
                have q108 : x7_3 < (l0.length : Int) := dt
                obtain ⟨ad108, e108, hx108_0, hx108_1⟩ := at_T29 HR0.out x7_3 p108 q108
                have hw108_1 := hx108_1
                have hw108_0 := hx108_0
                obtain rfl : ad101 = ad108 := (by injection e108)
                replace hx108_0 := hc HB hx108_0
                replace hx108_1 := hc HB hx108_1
                replace p108 := eq_true p108
                replace q108 := eq_true q108
                refine start_ (n := 14) (S := fun w' => w'.cell? ad101 = some (.int .i64 ((rd_T29 l0 0).f0)) ∧ w'.cell? ⟨ad101.block, ad101.off + 1, none⟩ = some (.int .i64 ((rd_T29 l0 0).f1)) ∧ w'.cell? (ad101.add ((x6_1).toNat * 2)) = some (.int .i64 ((rd_T29 l0 x6_1).f0)) ∧ w'.cell? ⟨(ad101.add ((x6_1).toNat * 2)).block, (ad101.add ((x6_1).toNat * 2)).off + 1, none⟩ = some (.int .i64 ((rd_T29 l0 x6_1).f1)) ∧ w'.cell? (ad101.add ((x7_3).toNat * 2)) = some (.int .i64 ((rd_T29 l0 x7_3).f0)) ∧ w'.cell? ⟨(ad101.add ((x7_3).toNat * 2)).block, (ad101.add ((x7_3).toNat * 2)).off + 1, none⟩ = some (.int .i64 ((rd_T29 l0 x7_3).f1))) (ds := []) #[false, false, false, false, false, false, false, false, false, false, false, false, false, false] (by kernel_rfl) rfl rfl ⟨(hc HB hw106_0), (hc HB hw106_1), (hc HB hw107_0), (hc HB hw107_1), (hc HB hw108_0), (hc HB hw108_1)⟩ (fun hHeld => ?_); refine with_tabW cracknelref04_Hull.tab11 cracknelref04_Hull.bits11 (fun HT_ HW_ => ?_)
                generalize wr.drew = w20 at BK102 HB hx106_0 hx106_1 hx107_0 hx107_1 hx108_0 hx108_1 hHeld ⊢
                refine pu 0 42 HT_ ?_
                refine pu 1 43 HT_ ?_
                refine pu 3 45 HT_ ?_
                refine pu 4 46 HT_ ?_
                refine pu 5 47 HT_ ?_
                refine pu 7 49 HT_ ?_
                refine pu 8 50 HT_ ?_
                refine pu 9 51 HT_ ?_
                refine tk6 2 44 hHeld HT_ HW_ ?_
                refine tk6 6 48 hHeld HT_ HW_ ?_
                refine tk6 10 52 hHeld HT_ HW_ ?_
                refine one_ (i := 11) (N := some 53) #[true, true, true, true, true, true, true, true, true, true, true, true, false, false] rfl rfl (on1 HT_) (by decide) (fun K hK => ?_)
                refine goes_ Try.func61 (by kernel_rfl) rfl #[.agg #[.int .i64 ((rd_T29 l0 0).f0), .int .i64 ((rd_T29 l0 0).f1)], .agg #[.int .i64 ((rd_T29 l0 x6_1).f0), .int .i64 ((rd_T29 l0 x6_1).f1)], .agg #[.int .i64 ((rd_T29 l0 x7_3).f0), .int .i64 ((rd_T29 l0 x7_3).f1)]] (by rfl) rfl rfl sg ?_
                with_reducible refine (cracknelref04_Cross.calls ((rd_T29 l0 0).f0) ((rd_T29 l0 0).f1) ((rd_T29 l0 x6_1).f0) ((rd_T29 l0 x6_1).f1) ((rd_T29 l0 x7_3).f0) ((rd_T29 l0 x7_3).f1) t109 _ A19.out).mono ?_
                rintro e w21 ⟨rfl, hb⟩
                refine ⟨_, rfl, ?_⟩
                replace BK102 := kb BK102 hb
                replace HB := Aside0.mk (below_step bh hb)
                (try clear hb); (try clear hb2); (try clear hk); (try clear hi)
                refine hK.out _ _ ⟨(hc HB hw106_0), (hc HB hw106_1), (hc HB hw107_0), (hc HB hw107_1), (hc HB hw108_0), (hc HB hw108_1)⟩ (fun hHeld => ?_)
                clear hK K
                refine nm 53 ?_
                refine pu 12 54 HT_ ?_
                refine pu 13 4 HT_ ?_
                refine done_ (done_of HT_.out (by kernel_rfl)) ?_
                try go_wp2
                go_roundg k3
                case measure => have := HK1.out; have := HJ7.out; have := HK3.out; omega
                case rel => exact ⟨((t109 == 0)), (wrap64 (x7_3 + 1)), sd, sd, H', ⟨by have := HK1.out; have := HJ7.out; have := HK3.out; omega⟩, ⟨bk BK102⟩, ⟨bh⟩⟩
               ·rw [if_neg c18] at H
                exact absurd H (by simp)
              ·rw [if_neg c17] at H
               exact absurd H (by simp)
             ·rw [if_neg c16] at H
              exact absurd H (by simp)
            ·rw [if_neg c15] at H
             exact absurd H (by simp)
           ·replace c14 := Bool.eq_false_iff.mpr c14
            subst c14
            rw [if_neg (show ¬ (false = true) by decide)] at H
            have H' := Aside0.mk H
            clear H
            go_wp2
            go_roundg k3
            case measure => have := HK1.out; have := HJ7.out; have := HK3.out; omega
            case rel => exact ⟨(false), (wrap64 (x6_1 + 1)), (x103000_7), (x103001_7), sd, sd, H', ⟨by have := HK1.out; have := HJ7.out; have := HK3.out; omega⟩, ⟨bk BK102⟩, ⟨bh⟩⟩
          ·rw [if_neg c13] at H
           have c13b0 := decide_eq_false c13
           clear c13
           have H' := Aside0.mk H
           clear H
           go_wp2
           go_roundg k3
           case measure => have := HK1.out; have := HJ7.out; have := HK3.out; omega
           case rel => exact ⟨(x4_3), (wrap64 (x6_1 + 1)), (x103000_7), (x103001_7), sd, sd, H', ⟨by have := HK1.out; have := HJ7.out; have := HK3.out; omega⟩, ⟨bk BK102⟩, ⟨bh⟩⟩
     ·rw [if_neg c6] at H
      exact absurd H (by simp)
    ·rw [if_neg c5] at H
     have c5b0 := decide_eq_false c5
     clear c5
     by_cases c22 : x4_1 = true
     ·subst c22
      rw [if_pos rfl] at H
      simp only [Option.some.injEq, Prod.mk.injEq] at H
      obtain ⟨rfl, rfl⟩ := H
      go_wp2
      go_ret2
      exact ⟨_, by exact er, by first | exact Kd.R_nil _ _ _ _ _ | exact Kd.N_nil _ _ _ _ _ | exact Kd.V_nil _ _ _ _ _ | exact Kd.Q_nil _ _ _ _ _ | exact Kd.S_nil _ _ _ _ _, bh⟩
     ·replace c22 := Bool.eq_false_iff.mpr c22
      subst c22
      rw [if_neg (show ¬ (false = true) by decide)] at H
      obtain ⟨y110, hy110⟩ : ∃ y_ : List (S29), y_ = (([(⟨x103000_1, x103001_1⟩ : S29)] : List (S29))) := ⟨_, rfl⟩
      replace H : (cracknelref04_Hull.l2 k1 l0 y110 x103000_1 x103001_1) = some (r1, r2) := by first | (rw [hy110]; with_reducible exact H) | (have H2_ := (Option.bind_some _ _).symm.trans H; rw [hy110]; with_reducible exact H2_) | (have H2_ := (Option.bind_some _ _).symm.trans H; with_reducible exact H2_) | with_reducible exact H | (rw [hy110]; exact H) | exact H
      have Ny110 := Aside0.mk hy110
      clear hy110
      have H' := Aside0.mk H
      clear H
      obtain ⟨hcz23_0, hcz23_1, hfz23_0, hfz23_1⟩ := b2 BK102
      go_wp2_with (first | ((with_reducible refine gate_dst (N := 57) rfl ?_); refine Kd.R_lit k29 _ 29 ?hg (N := 57) ?hd (xs := ([(⟨x103000_1, x103001_1⟩ : S29)] : List (S29))) (inner := [.int .i64 x103000_1, .int .i64 x103001_1]) (ok := fun _ => True) (okp := fun _ => True) ?hr ?hp (fun _ hk => hk) trivial (Below.refl _ _) (Nat.le_refl _) (by simp) ?_; (case hd => rfl); (case hg => rfl); (case hr => first | (go_simp; done) | (go_simp; rfl)); (case hp => exact (Reps.c2 (show Kd.M k29 _ _ _ (⟨x103000_1, x103001_1⟩ : S29) [.int .i64 x103000_1, .int .i64 x103001_1] from (k29_mkM _ _ _ (⟨x103000_1, x103001_1⟩ : S29) )) (Reps.none _ _))); intro v111 w24 ho25 hb hg_ hnew_; clear hg_ hnew_; (first | rw [← Ny110.out] at ho25 | (simp only [Int.reduceToNat] at ho25; rw [← Ny110.out] at ho25)); have HO112 := Aside0.mk (Kd.R_lower (Kd.R_newB ho25 (g := gb102) (o := .cells #[.int .i64 x103000_1, .int .i64 x103001_1] 29 (0, 0)) (bk BK102)) (below_size bh)); replace BK102 := kb BK102 hb; replace HB := Aside0.mk (below_step bh hb); clear hb ho25))
      go_loopg [8] k1 (fun kq v8 w' => ∃ (x8_2 : List (S29)), Aside0 (cracknelref04_Hull.l2 kq l0 x8_2 x103000_1 x103001_1 = some (r1, r2)) ∧ Aside0 (kq ≤ k1) ∧ Aside0 (Kd.R k29 29 w' w.heap.size (fun k_ => k_ ≠ gb102) v8 x8_2) ∧ Aside0 (w'.heap[gb102]? = some (.cells #[.int .i64 x103000_1, .int .i64 x103001_1] 29 (0, 0))) ∧ Aside0 (Below w.heap.size w w'))
      case atStart => exact ⟨(y110), H', ⟨Nat.le_refl _⟩, ⟨by (with_reducible repeat (first | apply Kd.R_alloc | apply Kd.R_drewN | apply Kd.R_drew)); exact Kd.R_mono HO112.out (fun _ hk => hk.2)⟩, ⟨bk BK102⟩, ⟨bh⟩⟩
      case round =>
       clear H'
       (try clear c1); (try clear p1); (try clear q1); (try clear hx1); (try clear qi1); (try clear c2); (try clear c2b0); (try clear c2b1); (try clear p2); (try clear c5); (try clear c5b0); (try clear c6); (try clear c6b0); (try clear p6); (try clear p10); (try clear q10); (try clear hx10); (try clear qi10); (try clear c11); (try clear c13); (try clear c13b0); (try clear c14); (try clear c15); (try clear c15b0); (try clear c15b1); (try clear c16); (try clear c16b0); (try clear c17); (try clear c17b0); (try clear c18); (try clear c18b0); (try clear c19); (try clear c22); (try clear hcz12_0); (try clear hcz12_1); (try clear hcz23_0); (try clear hcz23_1); (try clear hcz4_0); (try clear hcz4_1); (try clear hfz12_0); (try clear hfz12_1); (try clear hfz23_0); (try clear hfz23_1); (try clear hfz4_0); (try clear hfz4_1); (try clear hx101_0); (try clear hx101_1); (try clear hx103_0); (try clear hx103_1); (try clear hx105_0); (try clear hx105_1); (try clear hx106_0); (try clear hx106_1); (try clear hx107_0); (try clear hx107_1); (try clear hx108_0); (try clear hx108_1); (try clear p1); (try clear p10); (try clear p101); (try clear p103); (try clear p105); (try clear p106); (try clear p107); (try clear p108); (try clear p2); (try clear q1); (try clear q10); (try clear q101); (try clear q103); (try clear q105); (try clear q106); (try clear q107); (try clear q108)
       obtain ⟨x8_2, HA, HK2, HO_8, BK102, HB⟩ := hrel
       cases gk with
       | zero => exact absurd HA.out (by simp [cracknelref04_Hull.l2])
       | succ k2 =>
        have H := HA.out
        clear HA
        simp only [cracknelref04_Hull.l2] at H
        obtain ⟨ji26, hji26⟩ : ∃ j_ : Int, (wrap64 ((x8_2.length : Int) - 1)) = j_ := ⟨_, rfl⟩
        replace H : (if 0 ≤ (ji26) then (if (ji26) < (x8_2.length : Int) then (cracknelref04_Hull.l3 k2 l0 x8_2 0 x103000_1 x103001_1 ((rd_T29 x8_2 (ji26)).f0) ((rd_T29 x8_2 (ji26)).f1) ((rd_T29 x8_2 (ji26)).f0) ((rd_T29 x8_2 (ji26)).f1)) else (none)) else (none)) = some (r1, r2) := by first | (rw [hji26] at H; exact H) | (simp only [hji26] at H ⊢; exact H)
        have hji26w : (IntKind.i64.wrap ((x8_2.length : Int) - 1)) = ji26 := (i64_w _).trans hji26
        by_cases c27 : 0 ≤ (ji26)
        ·rw [if_pos c27] at H
         have c27b0 := decide_eq_true c27
         clear c27
         by_cases c28 : (ji26) < (x8_2.length : Int)
         ·rw [if_pos c28] at H
          have c28b0 := decide_eq_true c28
          clear c28
          have H' := Aside0.mk H
          clear H
          obtain ⟨Ao29, co29, eo29⟩ := Kd.R_slice HO_8.out
          subst eo29
          have p113 : 0 ≤ ((ji26) : Int) := dt
          have q113 : (ji26) < (x8_2.length : Int) := dt
          obtain ⟨ad113, e113, hx113_0, hx113_1⟩ := at_T29 (Kd.R_reads' HO_8.out).2.2 (ji26) p113 q113
          cases e113
          replace p113 := eq_true p113
          replace q113 := eq_true q113
          go_wp2_with (first | ((with_reducible refine gate_dst (N := 9) rfl ?_); refine bxe 9 #[.int .i64 0, .int .i64 0] 29 ?_; intro gb114 hg w30 hbox hb; have BK114 := Aside0.mk (hbox); have GW114 := Aside0.mk (gs hg : w.heap.size ≤ gb114); have GE114 := Aside0.mk (gs hg : w.heap.size ≤ gb114); have NB102_114 := Aside0.mk ((by rw [hg]; exact Nat.ne_of_lt (kl BK102) : gb102 ≠ gb114)); have NB114_102 := Aside0.mk ((by rw [hg]; exact Nat.ne_of_gt (kl BK102) : gb114 ≠ gb102)); replace HO_8 := Aside0.mk (Kd.R_below (Kd.R_elderB (ro HO_8) gb114 (Nat.le_of_eq hg.symm)) hb); replace BK102 := kb BK102 hb; replace HB := Aside0.mk (below_step bh hb); clear hb hbox hg; have hnb31 := NB114_102.out; have hnc31 := NB102_114.out; have hcz32_0 : w30.cell? ⟨gb114, 0, none⟩ = some (.int .i64 0) := bc BK114 0; have hcz32_1 : w30.cell? ⟨gb114, 1, none⟩ = some (.int .i64 0) := bc BK114 1; have hfz32_0 := blk_frozen BK114.out 0; have hfz32_1 := blk_frozen BK114.out 1) | ((with_reducible refine gate_dst (N := 10) rfl ?_); refine bxe 10 #[.int .i64 0, .int .i64 0] 29 ?_; intro gb115 hg w33 hbox hb; have BK115 := Aside0.mk (hbox); have GW115 := Aside0.mk (gs hg : w.heap.size ≤ gb115); have GE115 := Aside0.mk (gs hg : w.heap.size ≤ gb115); have NB102_115 := Aside0.mk ((by rw [hg]; exact Nat.ne_of_lt (blk_lt (g := gb102) (o := .cells #[.int .i64 x103000_1, .int .i64 x103001_1] 29 (0, 0)) (by (with_reducible repeat (first | refine blk_drewN ?_ _ | refine blk_drew ?_ | refine blk_alloc ?_ _)); refine blk_far ?_ NB102_114.out _; (with_reducible repeat (first | refine blk_drewN ?_ _ | refine blk_drew ?_ | refine blk_alloc ?_ _)); refine blk_far ?_ NB102_114.out _; (with_reducible repeat (first | refine blk_drewN ?_ _ | refine blk_drew ?_ | refine blk_alloc ?_ _)); exact BK102.out)) : gb102 ≠ gb115)); have NB115_102 := Aside0.mk ((by rw [hg]; exact Nat.ne_of_gt (blk_lt (g := gb102) (o := .cells #[.int .i64 x103000_1, .int .i64 x103001_1] 29 (0, 0)) (by (with_reducible repeat (first | refine blk_drewN ?_ _ | refine blk_drew ?_ | refine blk_alloc ?_ _)); refine blk_far ?_ NB102_114.out _; (with_reducible repeat (first | refine blk_drewN ?_ _ | refine blk_drew ?_ | refine blk_alloc ?_ _)); refine blk_far ?_ NB102_114.out _; (with_reducible repeat (first | refine blk_drewN ?_ _ | refine blk_drew ?_ | refine blk_alloc ?_ _)); exact BK102.out)) : gb115 ≠ gb102)); have NB114_115 := Aside0.mk ((by rw [hg]; exact Nat.ne_of_lt (blk_lt (g := gb114) (o := .cells #[.int .i64 ((rd_T29 x8_2 (ji26)).f0), .int .i64 ((rd_T29 x8_2 (ji26)).f1)] 29 (0, 0)) (by (with_reducible repeat (first | refine blk_drewN ?_ _ | refine blk_drew ?_ | refine blk_alloc ?_ _)); refine blk_put (cs := #[.int .i64 ((rd_T29 x8_2 (ji26)).f0), .int .i64 0]) ?_ 1 _ rfl; (with_reducible repeat (first | refine blk_drewN ?_ _ | refine blk_drew ?_ | refine blk_alloc ?_ _)); refine blk_put (cs := #[.int .i64 0, .int .i64 0]) ?_ 0 _ rfl; (with_reducible repeat (first | refine blk_drewN ?_ _ | refine blk_drew ?_ | refine blk_alloc ?_ _)); exact BK114.out)) : gb114 ≠ gb115)); have NB115_114 := Aside0.mk ((by rw [hg]; exact Nat.ne_of_gt (blk_lt (g := gb114) (o := .cells #[.int .i64 ((rd_T29 x8_2 (ji26)).f0), .int .i64 ((rd_T29 x8_2 (ji26)).f1)] 29 (0, 0)) (by (with_reducible repeat (first | refine blk_drewN ?_ _ | refine blk_drew ?_ | refine blk_alloc ?_ _)); refine blk_put (cs := #[.int .i64 ((rd_T29 x8_2 (ji26)).f0), .int .i64 0]) ?_ 1 _ rfl; (with_reducible repeat (first | refine blk_drewN ?_ _ | refine blk_drew ?_ | refine blk_alloc ?_ _)); refine blk_put (cs := #[.int .i64 0, .int .i64 0]) ?_ 0 _ rfl; (with_reducible repeat (first | refine blk_drewN ?_ _ | refine blk_drew ?_ | refine blk_alloc ?_ _)); exact BK114.out)) : gb115 ≠ gb114)); replace HO_8 := Aside0.mk (Kd.R_below (Kd.R_elderB (by (with_reducible repeat (first | apply Kd.R_alloc | apply Kd.R_drewN | apply Kd.R_drew)); exact (Kd.R_mono (Kd.R_far (p := ⟨gb114, 1, none⟩) (Kd.R_far (p := ⟨gb114, 0, none⟩) (Kd.R_mono HO_8.out (fun k_ hk => (⟨hk, hk.2⟩ : _ ∧ k_ ≠ gb114))) (fun _ hk => hk.2) (.int .i64 ((rd_T29 x8_2 (ji26)).f0))) (fun _ hk => hk.2) (.int .i64 ((rd_T29 x8_2 (ji26)).f1))) (fun _ h_ => h_.1))) gb115 (Nat.le_of_eq hg.symm)) hb); replace BK102 := Aside0.mk (blk_below (g := gb102) (o := .cells #[.int .i64 x103000_1, .int .i64 x103001_1] 29 (0, 0)) (by (with_reducible repeat (first | refine blk_drewN ?_ _ | refine blk_drew ?_ | refine blk_alloc ?_ _)); refine blk_far ?_ NB102_114.out _; (with_reducible repeat (first | refine blk_drewN ?_ _ | refine blk_drew ?_ | refine blk_alloc ?_ _)); refine blk_far ?_ NB102_114.out _; (with_reducible repeat (first | refine blk_drewN ?_ _ | refine blk_drew ?_ | refine blk_alloc ?_ _)); exact BK102.out) hb); replace BK114 := Aside0.mk (blk_below (g := gb114) (o := .cells #[.int .i64 ((rd_T29 x8_2 (ji26)).f0), .int .i64 ((rd_T29 x8_2 (ji26)).f1)] 29 (0, 0)) (by (with_reducible repeat (first | refine blk_drewN ?_ _ | refine blk_drew ?_ | refine blk_alloc ?_ _)); refine blk_put (cs := #[.int .i64 ((rd_T29 x8_2 (ji26)).f0), .int .i64 0]) ?_ 1 _ rfl; (with_reducible repeat (first | refine blk_drewN ?_ _ | refine blk_drew ?_ | refine blk_alloc ?_ _)); refine blk_put (cs := #[.int .i64 0, .int .i64 0]) ?_ 0 _ rfl; (with_reducible repeat (first | refine blk_drewN ?_ _ | refine blk_drew ?_ | refine blk_alloc ?_ _)); exact BK114.out) hb); replace HB := Aside0.mk (below_step bh hb); clear hb hbox hg; have hnb34 := NB115_102.out; have hnc34 := NB102_115.out; have hnb35 := NB115_114.out; have hnc35 := NB114_115.out; have hcz36_0 : w33.cell? ⟨gb115, 0, none⟩ = some (.int .i64 0) := bc BK115 0; have hcz36_1 : w33.cell? ⟨gb115, 1, none⟩ = some (.int .i64 0) := bc BK115 1; have hfz36_0 := blk_frozen BK115.out 0; have hfz36_1 := blk_frozen BK115.out 1))
          go_loopg [11] k2 (fun kq v11 w' => ∃ (x11_3 : Int) (x116000_3 : Int) (x116001_3 : Int), v11 = .int .i64 x11_3 ∧ Aside0 (cracknelref04_Hull.l3 kq l0 x8_2 x11_3 x103000_1 x103001_1 ((rd_T29 x8_2 (ji26)).f0) ((rd_T29 x8_2 (ji26)).f1) x116000_3 x116001_3 = some (r1, r2)) ∧ Aside0 (kq ≤ k2) ∧ Aside0 (Kd.R k29 29 w' w.heap.size (fun k_ => k_ ≠ gb102 ∧ k_ ≠ gb114 ∧ k_ ≠ gb115) (.slice (some ad113) x8_2.length co29) x8_2) ∧ Aside0 (w'.heap[gb102]? = some (.cells #[.int .i64 x103000_1, .int .i64 x103001_1] 29 (0, 0))) ∧ Aside0 (w'.heap[gb114]? = some (.cells #[.int .i64 ((rd_T29 x8_2 (ji26)).f0), .int .i64 ((rd_T29 x8_2 (ji26)).f1)] 29 (0, 0))) ∧ Aside0 (w'.heap[gb115]? = some (.cells #[.int .i64 x116000_3, .int .i64 x116001_3] 29 (0, 0))) ∧ Aside0 (Below w.heap.size w w'))
          case atStart => exact ⟨(0), ((rd_T29 x8_2 (ji26)).f0), ((rd_T29 x8_2 (ji26)).f1), sd, H', ⟨Nat.le_refl _⟩, ⟨by (with_reducible repeat (first | apply Kd.R_alloc | apply Kd.R_drewN | apply Kd.R_drew)); exact Kd.R_mono (Kd.R_far (p := ⟨gb115, 1, none⟩) (Kd.R_far (p := ⟨gb115, 0, none⟩) (Kd.R_mono HO_8.out (fun k_ hk => (⟨hk, hk.2⟩ : _ ∧ k_ ≠ gb115))) (fun _ hk => hk.2) (.int .i64 ((rd_T29 x8_2 (ji26)).f0))) (fun _ hk => hk.2) (.int .i64 ((rd_T29 x8_2 (ji26)).f1))) (fun _ hk => ⟨hk.1.1.1, ⟨hk.1.1.2, hk.1.2⟩⟩)⟩, ⟨by (with_reducible repeat (first | refine blk_drewN ?_ _ | refine blk_drew ?_ | refine blk_alloc ?_ _)); refine blk_far ?_ NB102_115.out _; (with_reducible repeat (first | refine blk_drewN ?_ _ | refine blk_drew ?_ | refine blk_alloc ?_ _)); refine blk_far ?_ NB102_115.out _; (with_reducible repeat (first | refine blk_drewN ?_ _ | refine blk_drew ?_ | refine blk_alloc ?_ _)); exact BK102.out⟩, ⟨by (with_reducible repeat (first | refine blk_drewN ?_ _ | refine blk_drew ?_ | refine blk_alloc ?_ _)); refine blk_far ?_ NB114_115.out _; (with_reducible repeat (first | refine blk_drewN ?_ _ | refine blk_drew ?_ | refine blk_alloc ?_ _)); refine blk_far ?_ NB114_115.out _; (with_reducible repeat (first | refine blk_drewN ?_ _ | refine blk_drew ?_ | refine blk_alloc ?_ _)); exact BK114.out⟩, ⟨by (with_reducible repeat (first | refine blk_drewN ?_ _ | refine blk_drew ?_ | refine blk_alloc ?_ _)); refine blk_put (cs := #[.int .i64 ((rd_T29 x8_2 (ji26)).f0), .int .i64 0]) ?_ 1 _ rfl; (with_reducible repeat (first | refine blk_drewN ?_ _ | refine blk_drew ?_ | refine blk_alloc ?_ _)); refine blk_put (cs := #[.int .i64 0, .int .i64 0]) ?_ 0 _ rfl; (with_reducible repeat (first | refine blk_drewN ?_ _ | refine blk_drew ?_ | refine blk_alloc ?_ _)); exact BK115.out⟩, ⟨bh⟩⟩
          case round =>
           clear H'
           (try clear c1); (try clear p1); (try clear q1); (try clear hx1); (try clear qi1); (try clear c2); (try clear c2b0); (try clear c2b1); (try clear p2); (try clear c3); (try clear c5); (try clear c5b0); (try clear c6); (try clear c6b0); (try clear p6); (try clear p10); (try clear q10); (try clear hx10); (try clear qi10); (try clear c11); (try clear p11); (try clear q11); (try clear hx11); (try clear c13); (try clear c13b0); (try clear c14); (try clear c15); (try clear c15b0); (try clear c15b1); (try clear c16); (try clear c16b0); (try clear c17); (try clear c17b0); (try clear c18); (try clear c18b0); (try clear c19); (try clear c22); (try clear c27); (try clear c27b0); (try clear c28); (try clear c28b0); (try clear c31); (try clear c34); (try clear c35); (try clear hcz12_0); (try clear hcz12_1); (try clear hcz23_0); (try clear hcz23_1); (try clear hcz32_0); (try clear hcz32_1); (try clear hcz36_0); (try clear hcz36_1); (try clear hcz4_0); (try clear hcz4_1); (try clear hfz12_0); (try clear hfz12_1); (try clear hfz23_0); (try clear hfz23_1); (try clear hfz32_0); (try clear hfz32_1); (try clear hfz36_0); (try clear hfz36_1); (try clear hfz4_0); (try clear hfz4_1); (try clear hx101_0); (try clear hx101_1); (try clear hx103_0); (try clear hx103_1); (try clear hx105_0); (try clear hx105_1); (try clear hx106_0); (try clear hx106_1); (try clear hx107_0); (try clear hx107_1); (try clear hx108_0); (try clear hx108_1); (try clear hx113_0); (try clear hx113_1); (try clear p1); (try clear p10); (try clear p101); (try clear p103); (try clear p105); (try clear p106); (try clear p107); (try clear p108); (try clear p113); (try clear p2); (try clear p6); (try clear q1); (try clear q10); (try clear q101); (try clear q103); (try clear q105); (try clear q106); (try clear q107); (try clear q108); (try clear q113)
           obtain ⟨x11_3, x116000_3, x116001_3, rfl, HA, HK3, HO_8, BK102, BK114, BK115, HB⟩ := hrel
           cases gk with
           | zero => exact absurd HA.out (by simp [cracknelref04_Hull.l3])
           | succ k3 =>
            have H := HA.out
            clear HA
            simp only [cracknelref04_Hull.l3] at H
            by_cases c37 : x11_3 < (l0.length : Int)
            ·rw [if_pos c37] at H
             have c37b0 := decide_eq_true c37
             clear c37
             by_cases c38 : 0 ≤ x11_3
             ·rw [if_pos c38] at H
              have c38b0 := decide_eq_true c38
              clear c38
              by_cases c39 : (((rd_T29 l0 x11_3).f0) == ((rd_T29 x8_2 (ji26)).f0) && (((rd_T29 l0 x11_3).f1) == ((rd_T29 x8_2 (ji26)).f1))) = true
              ·rw [if_pos c39] at H
               have c39b0 : (((rd_T29 l0 x11_3).f0) == ((rd_T29 x8_2 (ji26)).f0) && (((rd_T29 l0 x11_3).f1) == ((rd_T29 x8_2 (ji26)).f1))) = true := c39
               (try (have c39b1 : decide (((rd_T29 l0 x11_3).f0) = ((rd_T29 x8_2 (ji26)).f0) && (((rd_T29 l0 x11_3).f1) == ((rd_T29 x8_2 (ji26)).f1))) = true := by simpa using c39))
               (try (have c39b2 : (((rd_T29 l0 x11_3).f0) == ((rd_T29 x8_2 (ji26)).f0) && (((rd_T29 l0 x11_3).f1) == ((rd_T29 x8_2 (ji26)).f1))) = true := by simpa using c39))
               clear c39
               have H' := Aside0.mk H
               clear H
               have p116 : 0 ≤ (x11_3 : Int) := dt
               have q116 : x11_3 < (l0.length : Int) := dt
               obtain ⟨ad116, e116, hx116_0, hx116_1⟩ := at_T29 HR0.out x11_3 p116 q116
               obtain rfl : ad101 = ad116 := (by injection e116)
               replace hx116_0 := hc HB hx116_0
               replace hx116_1 := hc HB hx116_1
               replace p116 := eq_true p116
               replace q116 := eq_true q116
               go_wp2_with (first | ((with_reducible refine gate_dst (N := 12) rfl ?_); refine bxe 12 #[.int .i64 0, .int .i64 0] 29 ?_; intro gb117 hg w40 hbox hb; have BK117 := Aside0.mk (hbox); have GW117 := Aside0.mk (gs hg : w.heap.size ≤ gb117); have GE117 := Aside0.mk (gs hg : w.heap.size ≤ gb117); have NB102_117 := Aside0.mk ((by rw [hg]; exact Nat.ne_of_lt (kl BK102) : gb102 ≠ gb117)); have NB117_102 := Aside0.mk ((by rw [hg]; exact Nat.ne_of_gt (kl BK102) : gb117 ≠ gb102)); have NB114_117 := Aside0.mk ((by rw [hg]; exact Nat.ne_of_lt (kl BK114) : gb114 ≠ gb117)); have NB117_114 := Aside0.mk ((by rw [hg]; exact Nat.ne_of_gt (kl BK114) : gb117 ≠ gb114)); have NB115_117 := Aside0.mk ((by rw [hg]; exact Nat.ne_of_lt (kl BK115) : gb115 ≠ gb117)); have NB117_115 := Aside0.mk ((by rw [hg]; exact Nat.ne_of_gt (kl BK115) : gb117 ≠ gb115)); replace HO_8 := Aside0.mk (Kd.R_below (Kd.R_elderB (ro HO_8) gb117 (Nat.le_of_eq hg.symm)) hb); replace BK102 := kb BK102 hb; replace BK114 := kb BK114 hb; replace BK115 := kb BK115 hb; replace HB := Aside0.mk (below_step bh hb); clear hb hbox hg; have hnb41 := NB117_102.out; have hnc41 := NB102_117.out; have hnb42 := NB117_114.out; have hnc42 := NB114_117.out; have hnb43 := NB117_115.out; have hnc43 := NB115_117.out; have hcz44_0 : w40.cell? ⟨gb117, 0, none⟩ = some (.int .i64 0) := bc BK117 0; have hcz44_1 : w40.cell? ⟨gb117, 1, none⟩ = some (.int .i64 0) := bc BK117 1; have hfz44_0 := blk_frozen BK117.out 0; have hfz44_1 := blk_frozen BK117.out 1; have hnb45 := NB114_102.out; have hnc45 := NB102_114.out; have hnb46 := NB114_115.out; have hnc46 := NB115_114.out; have hcz47_0 : w40.cell? ⟨gb114, 0, none⟩ = some (.int .i64 ((rd_T29 x8_2 (ji26)).f0)) := bc BK114 0; have hcz47_1 : w40.cell? ⟨gb114, 1, none⟩ = some (.int .i64 ((rd_T29 x8_2 (ji26)).f1)) := bc BK114 1; have hfz47_0 := blk_frozen BK114.out 0; have hfz47_1 := blk_frozen BK114.out 1))
               go_roundg k3
               case measure => have := HK1.out; have := HK2.out; have := HK3.out; omega
               case rel => exact ⟨(wrap64 (x11_3 + 1)), (x116000_3), (x116001_3), sd, H', ⟨by have := HK1.out; have := HK2.out; have := HK3.out; omega⟩, ⟨by (with_reducible repeat (first | apply Kd.R_alloc | apply Kd.R_drewN | apply Kd.R_drew)); exact Kd.R_mono (Kd.R_far (p := ⟨gb117, 1, none⟩) (Kd.R_far (p := ⟨gb117, 0, none⟩) (Kd.R_mono HO_8.out (fun k_ hk => (⟨hk, hk.2⟩ : _ ∧ k_ ≠ gb117))) (fun _ hk => hk.2) (.int .i64 ((rd_T29 l0 x11_3).f0))) (fun _ hk => hk.2) (.int .i64 ((rd_T29 l0 x11_3).f1))) (fun _ hk => ⟨hk.1.1.1, ⟨hk.1.1.2.1, hk.1.1.2.2⟩⟩)⟩, ⟨by (with_reducible repeat (first | refine blk_drewN ?_ _ | refine blk_drew ?_ | refine blk_alloc ?_ _)); refine blk_far ?_ NB102_117.out _; (with_reducible repeat (first | refine blk_drewN ?_ _ | refine blk_drew ?_ | refine blk_alloc ?_ _)); refine blk_far ?_ NB102_117.out _; (with_reducible repeat (first | refine blk_drewN ?_ _ | refine blk_drew ?_ | refine blk_alloc ?_ _)); exact BK102.out⟩, ⟨by (with_reducible repeat (first | refine blk_drewN ?_ _ | refine blk_drew ?_ | refine blk_alloc ?_ _)); refine blk_far ?_ NB114_117.out _; (with_reducible repeat (first | refine blk_drewN ?_ _ | refine blk_drew ?_ | refine blk_alloc ?_ _)); refine blk_far ?_ NB114_117.out _; (with_reducible repeat (first | refine blk_drewN ?_ _ | refine blk_drew ?_ | refine blk_alloc ?_ _)); exact BK114.out⟩, ⟨by (with_reducible repeat (first | refine blk_drewN ?_ _ | refine blk_drew ?_ | refine blk_alloc ?_ _)); refine blk_far ?_ NB115_117.out _; (with_reducible repeat (first | refine blk_drewN ?_ _ | refine blk_drew ?_ | refine blk_alloc ?_ _)); refine blk_far ?_ NB115_117.out _; (with_reducible repeat (first | refine blk_drewN ?_ _ | refine blk_drew ?_ | refine blk_alloc ?_ _)); exact BK115.out⟩, ⟨bh⟩⟩
              ·rw [if_neg c39] at H
               have c39b0 : (((rd_T29 l0 x11_3).f0) == ((rd_T29 x8_2 (ji26)).f0) && (((rd_T29 l0 x11_3).f1) == ((rd_T29 x8_2 (ji26)).f1))) = false := by simpa using c39
               (try (have c39b1 : decide (((rd_T29 l0 x11_3).f0) = ((rd_T29 x8_2 (ji26)).f0) && (((rd_T29 l0 x11_3).f1) == ((rd_T29 x8_2 (ji26)).f1))) = false := by simpa using c39))
               (try (have c39b2 : (((rd_T29 l0 x11_3).f0) == ((rd_T29 x8_2 (ji26)).f0) && (((rd_T29 l0 x11_3).f1) == ((rd_T29 x8_2 (ji26)).f1))) = false := by simpa using c39))
               (try (have c39b3 : ¬ (((rd_T29 l0 x11_3).f0) = ((rd_T29 x8_2 (ji26)).f0) && (((rd_T29 l0 x11_3).f1) == ((rd_T29 x8_2 (ji26)).f1))) := by simpa using c39))
               clear c39
               replace H := Option.bind_eq_some_iff.mp H
               obtain ⟨t118, A480, H⟩ := H
               replace H : (if (x116000_3 == ((rd_T29 x8_2 (ji26)).f0) && (x116001_3 == ((rd_T29 x8_2 (ji26)).f1))) = true then (cracknelref04_Hull.j5 k3 l0 x8_2 x11_3 true x103000_1 x103001_1 ((rd_T29 x8_2 (ji26)).f0) ((rd_T29 x8_2 (ji26)).f1) x116000_3 x116001_3 ((rd_T29 l0 x11_3).f0) ((rd_T29 l0 x11_3).f1)) else (if t118 < 0 then (cracknelref04_Hull.j5 k3 l0 x8_2 x11_3 true x103000_1 x103001_1 ((rd_T29 x8_2 (ji26)).f0) ((rd_T29 x8_2 (ji26)).f1) x116000_3 x116001_3 ((rd_T29 l0 x11_3).f0) ((rd_T29 l0 x11_3).f1)) else (if t118 = 0 then ((cracknelref04_On.f ((rd_T29 x8_2 (ji26)).f0) ((rd_T29 x8_2 (ji26)).f1) ((rd_T29 l0 x11_3).f0) ((rd_T29 l0 x11_3).f1) x116000_3 x116001_3).bind fun t119 => (cracknelref04_Hull.j5 k3 l0 x8_2 x11_3 t119 x103000_1 x103001_1 ((rd_T29 x8_2 (ji26)).f0) ((rd_T29 x8_2 (ji26)).f1) x116000_3 x116001_3 ((rd_T29 l0 x11_3).f0) ((rd_T29 l0 x11_3).f1))) else (cracknelref04_Hull.j5 k3 l0 x8_2 x11_3 false x103000_1 x103001_1 ((rd_T29 x8_2 (ji26)).f0) ((rd_T29 x8_2 (ji26)).f1) x116000_3 x116001_3 ((rd_T29 l0 x11_3).f0) ((rd_T29 l0 x11_3).f1))))) = some (r1, r2) := H
               have A48 := Aside0.mk A480
               clear A480
               have HC49 := Aside0.mk H
               clear H
               have p116 : 0 ≤ (x11_3 : Int) := dt
               have q116 : x11_3 < (l0.length : Int) := dt
               obtain ⟨ad116, e116, hx116_0, hx116_1⟩ := at_T29 HR0.out x11_3 p116 q116
               obtain rfl : ad101 = ad116 := (by injection e116)
               replace hx116_0 := hc HB hx116_0
               replace hx116_1 := hc HB hx116_1
               replace p116 := eq_true p116
               replace q116 := eq_true q116
               go_upto_region 23 with (first | ((with_reducible refine gate_dst (N := 12) rfl ?_); refine bxe 12 #[.int .i64 0, .int .i64 0] 29 ?_; intro gb117 hg w50 hbox hb; have BK117 := Aside0.mk (hbox); have GW117 := Aside0.mk (gs hg : w.heap.size ≤ gb117); have GE117 := Aside0.mk (gs hg : w.heap.size ≤ gb117); have NB102_117 := Aside0.mk ((by rw [hg]; exact Nat.ne_of_lt (kl BK102) : gb102 ≠ gb117)); have NB117_102 := Aside0.mk ((by rw [hg]; exact Nat.ne_of_gt (kl BK102) : gb117 ≠ gb102)); have NB114_117 := Aside0.mk ((by rw [hg]; exact Nat.ne_of_lt (kl BK114) : gb114 ≠ gb117)); have NB117_114 := Aside0.mk ((by rw [hg]; exact Nat.ne_of_gt (kl BK114) : gb117 ≠ gb114)); have NB115_117 := Aside0.mk ((by rw [hg]; exact Nat.ne_of_lt (kl BK115) : gb115 ≠ gb117)); have NB117_115 := Aside0.mk ((by rw [hg]; exact Nat.ne_of_gt (kl BK115) : gb117 ≠ gb115)); replace HO_8 := Aside0.mk (Kd.R_below (Kd.R_elderB (ro HO_8) gb117 (Nat.le_of_eq hg.symm)) hb); replace BK102 := kb BK102 hb; replace BK114 := kb BK114 hb; replace BK115 := kb BK115 hb; replace HB := Aside0.mk (below_step bh hb); clear hb hbox hg; have hnb51 := NB117_102.out; have hnc51 := NB102_117.out; have hnb52 := NB117_114.out; have hnc52 := NB114_117.out; have hnb53 := NB117_115.out; have hnc53 := NB115_117.out; have hcz54_0 : w50.cell? ⟨gb117, 0, none⟩ = some (.int .i64 0) := bc BK117 0; have hcz54_1 : w50.cell? ⟨gb117, 1, none⟩ = some (.int .i64 0) := bc BK117 1; have hfz54_0 := blk_frozen BK117.out 0; have hfz54_1 := blk_frozen BK117.out 1; have hnb55 := NB114_102.out; have hnc55 := NB102_114.out; have hnb56 := NB114_115.out; have hnc56 := NB115_114.out; have hcz57_0 : w50.cell? ⟨gb114, 0, none⟩ = some (.int .i64 ((rd_T29 x8_2 (ji26)).f0)) := bc BK114 0; have hcz57_1 : w50.cell? ⟨gb114, 1, none⟩ = some (.int .i64 ((rd_T29 x8_2 (ji26)).f1)) := bc BK114 1; have hfz57_0 := blk_frozen BK114.out 0; have hfz57_1 := blk_frozen BK114.out 1; have hnb58 := NB115_102.out; have hnc58 := NB102_115.out; have hcz59_0 : w50.cell? ⟨gb115, 0, none⟩ = some (.int .i64 x116000_3) := bc BK115 0; have hcz59_1 : w50.cell? ⟨gb115, 1, none⟩ = some (.int .i64 x116001_3) := bc BK115 1; have hfz59_0 := blk_frozen BK115.out 0; have hfz59_1 := blk_frozen BK115.out 1) | ((with_reducible refine gc 61 rfl ?_); refine goesL_ (some 81) rfl rfl Try.func61 (by kernel_rfl) rfl #[.agg #[.int .i64 ((rd_T29 x8_2 (ji26)).f0), .int .i64 ((rd_T29 x8_2 (ji26)).f1)], .agg #[.int .i64 x116000_3, .int .i64 x116001_3], .agg #[.int .i64 ((rd_T29 l0 x11_3).f0), .int .i64 ((rd_T29 l0 x11_3).f1)]] rfl (by (try simp only [List.map_toArray, List.map_cons, List.map_nil]); first | done | (simp only [hji26]; rfl) | rfl | (simp only [List.length_drop, List.length_take]; rfl)) ?_; (with_reducible refine (cracknelref04_Cross.calls ((rd_T29 x8_2 (ji26)).f0) ((rd_T29 x8_2 (ji26)).f1) x116000_3 x116001_3 ((rd_T29 l0 x11_3).f0) ((rd_T29 l0 x11_3).f1) t118 _ A48.out).mono ?_); rintro e w60 ⟨rfl, hb⟩; refine ⟨_, rfl, ?_⟩; replace HO_8 := Aside0.mk (Kd.R_below (by (with_reducible repeat (first | apply Kd.R_alloc | apply Kd.R_drewN | apply Kd.R_drew)); exact (Kd.R_mono (Kd.R_far (p := ⟨gb117, 1, none⟩) (Kd.R_far (p := ⟨gb117, 0, none⟩) (Kd.R_mono HO_8.out (fun k_ hk => (⟨hk, hk.2⟩ : _ ∧ k_ ≠ gb117))) (fun _ hk => hk.2) (.int .i64 ((rd_T29 l0 x11_3).f0))) (fun _ hk => hk.2) (.int .i64 ((rd_T29 l0 x11_3).f1))) (fun _ h_ => h_.1))) hb); replace BK102 := Aside0.mk (blk_below (g := gb102) (o := .cells #[.int .i64 x103000_1, .int .i64 x103001_1] 29 (0, 0)) (by (with_reducible repeat (first | refine blk_drewN ?_ _ | refine blk_drew ?_ | refine blk_alloc ?_ _)); refine blk_far ?_ NB102_117.out _; (with_reducible repeat (first | refine blk_drewN ?_ _ | refine blk_drew ?_ | refine blk_alloc ?_ _)); refine blk_far ?_ NB102_117.out _; (with_reducible repeat (first | refine blk_drewN ?_ _ | refine blk_drew ?_ | refine blk_alloc ?_ _)); exact BK102.out) hb); replace BK114 := Aside0.mk (blk_below (g := gb114) (o := .cells #[.int .i64 ((rd_T29 x8_2 (ji26)).f0), .int .i64 ((rd_T29 x8_2 (ji26)).f1)] 29 (0, 0)) (by (with_reducible repeat (first | refine blk_drewN ?_ _ | refine blk_drew ?_ | refine blk_alloc ?_ _)); refine blk_far ?_ NB114_117.out _; (with_reducible repeat (first | refine blk_drewN ?_ _ | refine blk_drew ?_ | refine blk_alloc ?_ _)); refine blk_far ?_ NB114_117.out _; (with_reducible repeat (first | refine blk_drewN ?_ _ | refine blk_drew ?_ | refine blk_alloc ?_ _)); exact BK114.out) hb); replace BK115 := Aside0.mk (blk_below (g := gb115) (o := .cells #[.int .i64 x116000_3, .int .i64 x116001_3] 29 (0, 0)) (by (with_reducible repeat (first | refine blk_drewN ?_ _ | refine blk_drew ?_ | refine blk_alloc ?_ _)); refine blk_far ?_ NB115_117.out _; (with_reducible repeat (first | refine blk_drewN ?_ _ | refine blk_drew ?_ | refine blk_alloc ?_ _)); refine blk_far ?_ NB115_117.out _; (with_reducible repeat (first | refine blk_drewN ?_ _ | refine blk_drew ?_ | refine blk_alloc ?_ _)); exact BK115.out) hb); replace BK117 := Aside0.mk (blk_below (g := gb117) (o := .cells #[.int .i64 ((rd_T29 l0 x11_3).f0), .int .i64 ((rd_T29 l0 x11_3).f1)] 29 (0, 0)) (by (with_reducible repeat (first | refine blk_drewN ?_ _ | refine blk_drew ?_ | refine blk_alloc ?_ _)); refine blk_put (cs := #[.int .i64 ((rd_T29 l0 x11_3).f0), .int .i64 0]) ?_ 1 _ rfl; (with_reducible repeat (first | refine blk_drewN ?_ _ | refine blk_drew ?_ | refine blk_alloc ?_ _)); refine blk_put (cs := #[.int .i64 0, .int .i64 0]) ?_ 0 _ rfl; (with_reducible repeat (first | refine blk_drewN ?_ _ | refine blk_drew ?_ | refine blk_alloc ?_ _)); exact BK117.out) hb); replace HB := Aside0.mk (below_step bh hb); (try clear hb); (try clear hb2); (try clear hk); (try clear hi)))
               (try simp only [Act.put, List.setIfInBounds_toArray, List.set_cons_zero, List.set_cons_succ])
               go_cut [98] (fun v98 wc => ∃ (kq : Nat) (x98_48 : Bool), v98 = .bool x98_48 ∧ Aside0 (cracknelref04_Hull.j5 kq l0 x8_2 x11_3 x98_48 x103000_1 x103001_1 ((rd_T29 x8_2 (ji26)).f0) ((rd_T29 x8_2 (ji26)).f1) x116000_3 x116001_3 ((rd_T29 l0 x11_3).f0) ((rd_T29 l0 x11_3).f1) = some (r1, r2)) ∧ Aside0 (kq ≤ k3) ∧ Aside0 (Kd.R k29 29 wc w.heap.size (fun k_ => k_ ≠ gb102 ∧ k_ ≠ gb114 ∧ k_ ≠ gb115 ∧ k_ ≠ gb117) (.slice (some ad113) x8_2.length co29) x8_2) ∧ Aside0 (wc.heap[gb102]? = some (.cells #[.int .i64 x103000_1, .int .i64 x103001_1] 29 (0, 0))) ∧ Aside0 (wc.heap[gb114]? = some (.cells #[.int .i64 ((rd_T29 x8_2 (ji26)).f0), .int .i64 ((rd_T29 x8_2 (ji26)).f1)] 29 (0, 0))) ∧ Aside0 (wc.heap[gb115]? = some (.cells #[.int .i64 x116000_3, .int .i64 x116001_3] 29 (0, 0))) ∧ Aside0 (wc.heap[gb117]? = some (.cells #[.int .i64 ((rd_T29 l0 x11_3).f0), .int .i64 ((rd_T29 l0 x11_3).f1)] 29 (0, 0))) ∧ Aside0 (Below w.heap.size w wc))
               case first =>
                have H := HC49.out
                clear HC49
                by_cases c61 : (x116000_3 == ((rd_T29 x8_2 (ji26)).f0) && (x116001_3 == ((rd_T29 x8_2 (ji26)).f1))) = true
                ·rw [if_pos c61] at H
                 have c61b0 : (x116000_3 == ((rd_T29 x8_2 (ji26)).f0) && (x116001_3 == ((rd_T29 x8_2 (ji26)).f1))) = true := c61
                 (try (have c61b1 : decide (x116000_3 = ((rd_T29 x8_2 (ji26)).f0) && (x116001_3 == ((rd_T29 x8_2 (ji26)).f1))) = true := by simpa using c61))
                 (try (have c61b2 : (x116000_3 == ((rd_T29 x8_2 (ji26)).f0) && (x116001_3 == ((rd_T29 x8_2 (ji26)).f1))) = true := by simpa using c61))
                 clear c61
                 (first | rw [c61b0] | (simp only [i64_w, i32_w]; rw [c61b0]) | skip)
                 have H' := Aside0.mk H
                 clear H
                 have hnb62 := NB115_102.out
                 have hnc62 := NB102_115.out
                 have hnb63 := NB115_114.out
                 have hnc63 := NB114_115.out
                 have hnb64 := NB115_117.out
                 have hnc64 := NB117_115.out
                 obtain ⟨hcz65_0, hcz65_1, hfz65_0, hfz65_1⟩ := b2 BK115
                 have hnb66 := NB114_102.out
                 have hnc66 := NB102_114.out
                 have hnb67 := NB114_117.out
                 have hnc67 := NB117_114.out
                 obtain ⟨hcz68_0, hcz68_1, hfz68_0, hfz68_1⟩ := b2 BK114
                 go_wp2
                 go_meet
                 case rel => exact ⟨_, (true), sd, H', ⟨by have := HK1.out; have := HK2.out; have := HK3.out; first | omega | exact Nat.le_refl _⟩, ⟨by (with_reducible repeat (first | apply Kd.R_alloc | apply Kd.R_drewN | apply Kd.R_drew)); exact Kd.R_mono HO_8.out (fun _ hk => ⟨hk.1.1, ⟨hk.1.2.1, ⟨hk.1.2.2, hk.2⟩⟩⟩)⟩, ⟨bk BK102⟩, ⟨bk BK114⟩, ⟨bk BK115⟩, ⟨bk BK117⟩, ⟨bh⟩⟩
                ·rw [if_neg c61] at H
                 have c61b0 : (x116000_3 == ((rd_T29 x8_2 (ji26)).f0) && (x116001_3 == ((rd_T29 x8_2 (ji26)).f1))) = false := by simpa using c61
                 (try (have c61b1 : decide (x116000_3 = ((rd_T29 x8_2 (ji26)).f0) && (x116001_3 == ((rd_T29 x8_2 (ji26)).f1))) = false := by simpa using c61))
                 (try (have c61b2 : (x116000_3 == ((rd_T29 x8_2 (ji26)).f0) && (x116001_3 == ((rd_T29 x8_2 (ji26)).f1))) = false := by simpa using c61))
                 (try (have c61b3 : ¬ (x116000_3 = ((rd_T29 x8_2 (ji26)).f0) && (x116001_3 == ((rd_T29 x8_2 (ji26)).f1))) := by simpa using c61))
                 clear c61
                 (first | rw [c61b0] | (simp only [i64_w, i32_w]; rw [c61b0]) | skip)
                 by_cases c69 : t118 < 0
                 ·rw [if_pos c69] at H
                  have c69b0 := decide_eq_true c69
                  clear c69
                  have H' := Aside0.mk H
                  clear H
                  have hnb70 := NB115_102.out
                  have hnc70 := NB102_115.out
                  have hnb71 := NB115_114.out
                  have hnc71 := NB114_115.out
                  have hnb72 := NB115_117.out
                  have hnc72 := NB117_115.out
                  obtain ⟨hcz73_0, hcz73_1, hfz73_0, hfz73_1⟩ := b2 BK115
                  have hnb74 := NB114_102.out
                  have hnc74 := NB102_114.out
                  have hnb75 := NB114_117.out
                  have hnc75 := NB117_114.out
                  obtain ⟨hcz76_0, hcz76_1, hfz76_0, hfz76_1⟩ := b2 BK114
                  go_wp2
                  go_meet
                  case rel => exact ⟨_, (true), sd, H', ⟨by have := HK1.out; have := HK2.out; have := HK3.out; first | omega | exact Nat.le_refl _⟩, ⟨by (with_reducible repeat (first | apply Kd.R_alloc | apply Kd.R_drewN | apply Kd.R_drew)); exact Kd.R_mono HO_8.out (fun _ hk => ⟨hk.1.1, ⟨hk.1.2.1, ⟨hk.1.2.2, hk.2⟩⟩⟩)⟩, ⟨bk BK102⟩, ⟨bk BK114⟩, ⟨bk BK115⟩, ⟨bk BK117⟩, ⟨bh⟩⟩
                 ·rw [if_neg c69] at H
                  have c69b0 := decide_eq_false c69
                  clear c69
                  by_cases c77 : t118 = 0
                  ·rw [if_pos c77] at H
                   have c77b0 : (t118 == 0) = true := beq_iff_eq.mpr c77
                   have c77b1 : (t118 != 0) = false := bne_eq_false_iff_eq.mpr c77
                   clear c77
                   replace H := Option.bind_eq_some_iff.mp H
                   obtain ⟨t119, A780, H⟩ := H
                   replace H : (cracknelref04_Hull.j5 k3 l0 x8_2 x11_3 t119 x103000_1 x103001_1 ((rd_T29 x8_2 (ji26)).f0) ((rd_T29 x8_2 (ji26)).f1) x116000_3 x116001_3 ((rd_T29 l0 x11_3).f0) ((rd_T29 l0 x11_3).f1)) = some (r1, r2) := H
                   have A78 := Aside0.mk A780
                   clear A780
                   have H' := Aside0.mk H
                   clear H
                   have hnb79 := NB115_102.out
                   have hnc79 := NB102_115.out
                   have hnb80 := NB115_114.out
                   have hnc80 := NB114_115.out
                   have hnb81 := NB115_117.out
                   have hnc81 := NB117_115.out
                   obtain ⟨hcz82_0, hcz82_1, hfz82_0, hfz82_1⟩ := b2 BK115
                   have hnb83 := NB114_102.out
                   have hnc83 := NB102_114.out
                   have hnb84 := NB114_117.out
                   have hnc84 := NB117_114.out
                   obtain ⟨hcz85_0, hcz85_1, hfz85_0, hfz85_1⟩ := b2 BK114
                   have hnb86 := NB117_102.out
                   have hnc86 := NB102_117.out
                   obtain ⟨hcz87_0, hcz87_1, hfz87_0, hfz87_1⟩ := b2 BK117
                   go_wp2_with (first | (go_at_call 62; (with_reducible refine (cracknelref04_On.calls ((rd_T29 x8_2 (ji26)).f0) ((rd_T29 x8_2 (ji26)).f1) ((rd_T29 l0 x11_3).f0) ((rd_T29 l0 x11_3).f1) x116000_3 x116001_3 t119 _ A78.out).mono ?_); rintro e w88 ⟨rfl, hb⟩; replace HO_8 := Aside0.mk (Kd.R_below (ro HO_8) hb); replace BK102 := kb BK102 hb; replace BK114 := kb BK114 hb; replace BK115 := kb BK115 hb; replace BK117 := kb BK117 hb; replace HB := Aside0.mk (below_step bh hb); (try clear hb); (try clear hb2); (try clear hk); (try clear hi)))
                   go_meet
                   case rel => exact ⟨_, (t119), sd, H', ⟨by have := HK1.out; have := HK2.out; have := HK3.out; first | omega | exact Nat.le_refl _⟩, ⟨by (with_reducible repeat (first | apply Kd.R_alloc | apply Kd.R_drewN | apply Kd.R_drew)); exact Kd.R_mono HO_8.out (fun _ hk => ⟨hk.1.1, ⟨hk.1.2.1, ⟨hk.1.2.2, hk.2⟩⟩⟩)⟩, ⟨bk BK102⟩, ⟨bk BK114⟩, ⟨bk BK115⟩, ⟨bk BK117⟩, ⟨bh⟩⟩
                  ·rw [if_neg c77] at H
                   have c77b0 : (t118 == 0) = false := beq_eq_false_iff_ne.mpr c77
                   have c77b1 : (t118 != 0) = true := bne_iff_ne.mpr c77
                   have H' := Aside0.mk H
                   clear H
                   have hnb89 := NB115_102.out
                   have hnc89 := NB102_115.out
                   have hnb90 := NB115_114.out
                   have hnc90 := NB114_115.out
                   have hnb91 := NB115_117.out
                   have hnc91 := NB117_115.out
                   obtain ⟨hcz92_0, hcz92_1, hfz92_0, hfz92_1⟩ := b2 BK115
                   have hnb93 := NB114_102.out
                   have hnc93 := NB102_114.out
                   have hnb94 := NB114_117.out
                   have hnc94 := NB117_114.out
                   obtain ⟨hcz95_0, hcz95_1, hfz95_0, hfz95_1⟩ := b2 BK114
                   go_wp2
                   go_meet
                   case rel => exact ⟨_, (false), sd, H', ⟨by have := HK1.out; have := HK2.out; have := HK3.out; first | omega | exact Nat.le_refl _⟩, ⟨by (with_reducible repeat (first | apply Kd.R_alloc | apply Kd.R_drewN | apply Kd.R_drew)); exact Kd.R_mono HO_8.out (fun _ hk => ⟨hk.1.1, ⟨hk.1.2.1, ⟨hk.1.2.2, hk.2⟩⟩⟩)⟩, ⟨bk BK102⟩, ⟨bk BK114⟩, ⟨bk BK115⟩, ⟨bk BK117⟩, ⟨bh⟩⟩
               case rest =>
                clear HC49
                (try clear c1); (try clear p1); (try clear q1); (try clear hx1); (try clear qi1); (try clear c2); (try clear c2b0); (try clear c2b1); (try clear p2); (try clear c3); (try clear c4); (try clear c5); (try clear c5b0); (try clear c6); (try clear c6b0); (try clear p6); (try clear c7); (try clear c8); (try clear c9); (try clear p10); (try clear q10); (try clear hx10); (try clear qi10); (try clear c11); (try clear p11); (try clear q11); (try clear hx11); (try clear c13); (try clear c13b0); (try clear c14); (try clear c15); (try clear c15b0); (try clear c15b1); (try clear c16); (try clear c16b0); (try clear c17); (try clear c17b0); (try clear c18); (try clear c18b0); (try clear c19); (try clear c22); (try clear c27); (try clear c27b0); (try clear c28); (try clear c28b0); (try clear c31); (try clear c34); (try clear c35); (try clear c37); (try clear c37b0); (try clear c38); (try clear c38b0); (try clear c39); (try clear c39b0); (try clear c39b1); (try clear c39b2); (try clear c41); (try clear c42); (try clear c43); (try clear c45); (try clear c46); (try clear c51); (try clear c52); (try clear c53); (try clear c55); (try clear c56); (try clear c58); (try clear c61); (try clear c61b0); (try clear c61b1); (try clear c61b2); (try clear c62); (try clear c63); (try clear c64); (try clear p64); (try clear c66); (try clear c67); (try clear c69); (try clear c69b0); (try clear c70); (try clear c71); (try clear c72); (try clear c74); (try clear c75); (try clear c77); (try clear c77b0); (try clear c77b1); (try clear c79); (try clear c80); (try clear c81); (try clear c83); (try clear c84); (try clear c86); (try clear c89); (try clear c90); (try clear c91); (try clear c93); (try clear c94); (try clear hcz12_0); (try clear hcz12_1); (try clear hcz23_0); (try clear hcz23_1); (try clear hcz32_0); (try clear hcz32_1); (try clear hcz36_0); (try clear hcz36_1); (try clear hcz44_0); (try clear hcz44_1); (try clear hcz47_0); (try clear hcz47_1); (try clear hcz4_0); (try clear hcz4_1); (try clear hcz54_0); (try clear hcz54_1); (try clear hcz57_0); (try clear hcz57_1); (try clear hcz59_0); (try clear hcz59_1); (try clear hcz65_0); (try clear hcz65_1); (try clear hcz68_0); (try clear hcz68_1); (try clear hcz73_0); (try clear hcz73_1); (try clear hcz76_0); (try clear hcz76_1); (try clear hcz82_0); (try clear hcz82_1); (try clear hcz85_0); (try clear hcz85_1); (try clear hcz87_0); (try clear hcz87_1); (try clear hcz92_0); (try clear hcz92_1); (try clear hcz95_0); (try clear hcz95_1); (try clear hfz12_0); (try clear hfz12_1); (try clear hfz23_0); (try clear hfz23_1); (try clear hfz32_0); (try clear hfz32_1); (try clear hfz36_0); (try clear hfz36_1); (try clear hfz44_0); (try clear hfz44_1); (try clear hfz47_0); (try clear hfz47_1); (try clear hfz4_0); (try clear hfz4_1); (try clear hfz54_0); (try clear hfz54_1); (try clear hfz57_0); (try clear hfz57_1); (try clear hfz59_0); (try clear hfz59_1); (try clear hfz65_0); (try clear hfz65_1); (try clear hfz68_0); (try clear hfz68_1); (try clear hfz73_0); (try clear hfz73_1); (try clear hfz76_0); (try clear hfz76_1); (try clear hfz82_0); (try clear hfz82_1); (try clear hfz85_0); (try clear hfz85_1); (try clear hfz87_0); (try clear hfz87_1); (try clear hfz92_0); (try clear hfz92_1); (try clear hfz95_0); (try clear hfz95_1); (try clear hx101_0); (try clear hx101_1); (try clear hx103_0); (try clear hx103_1); (try clear hx105_0); (try clear hx105_1); (try clear hx106_0); (try clear hx106_1); (try clear hx107_0); (try clear hx107_1); (try clear hx108_0); (try clear hx108_1); (try clear hx113_0); (try clear hx113_1); (try clear hx116_0); (try clear hx116_1); (try clear p1); (try clear p10); (try clear p101); (try clear p103); (try clear p105); (try clear p106); (try clear p107); (try clear p108); (try clear p11); (try clear p113); (try clear p116); (try clear p2); (try clear p6); (try clear q1); (try clear q10); (try clear q101); (try clear q103); (try clear q105); (try clear q106); (try clear q107); (try clear q108); (try clear q11); (try clear q113); (try clear q116)
                obtain ⟨kq, x98_48, rfl, HA, HJ48, HO_8, BK102, BK114, BK115, BK117, HB⟩ := hcut
                cases kq with
                | zero => exact absurd HA.out (by simp [cracknelref04_Hull.j5])
                | succ kj48 =>
                 have H := HA.out
                 clear HA
                 simp only [cracknelref04_Hull.j5] at H
                 by_cases c96 : x98_48 = true
                 ·subst c96
                  rw [if_pos rfl] at H
                  have H' := Aside0.mk H
                  clear H
                  have hnb97 := NB117_102.out
                  have hnc97 := NB102_117.out
                  have hnb98 := NB117_114.out
                  have hnc98 := NB114_117.out
                  have hnb99 := NB117_115.out
                  have hnc99 := NB115_117.out
                  obtain ⟨hcz100_0, hcz100_1, hfz100_0, hfz100_1⟩ := b2 BK117
                  have hnb101 := NB115_102.out
                  have hnc101 := NB102_115.out
                  have hnb102 := NB115_114.out
                  have hnc102 := NB114_115.out
                  obtain ⟨hcz103_0, hcz103_1, hfz103_0, hfz103_1⟩ := b2 BK115
                  go_wp2
                  go_roundg kj48
                  case measure => have := HK1.out; have := HK2.out; have := HK3.out; have := HJ48.out; omega
                  case rel => exact ⟨(wrap64 (x11_3 + 1)), (((rd_T29 l0 x11_3).f0)), (((rd_T29 l0 x11_3).f1)), sd, H', ⟨by have := HK1.out; have := HK2.out; have := HK3.out; have := HJ48.out; omega⟩, ⟨by (with_reducible repeat (first | apply Kd.R_alloc | apply Kd.R_drewN | apply Kd.R_drew)); exact Kd.R_mono (Kd.R_far (p := ⟨gb115, 1, none⟩) (Kd.R_far (p := ⟨gb115, 0, none⟩) (Kd.R_mono HO_8.out (fun k_ hk => (⟨hk, hk.2.2.1⟩ : _ ∧ k_ ≠ gb115))) (fun _ hk => hk.2) (.int .i64 ((rd_T29 l0 x11_3).f0))) (fun _ hk => hk.2) (.int .i64 ((rd_T29 l0 x11_3).f1))) (fun _ hk => ⟨hk.1.1, ⟨hk.1.2.1, hk.1.2.2.1⟩⟩)⟩, ⟨by (with_reducible repeat (first | refine blk_drewN ?_ _ | refine blk_drew ?_ | refine blk_alloc ?_ _)); refine blk_far ?_ NB102_115.out _; (with_reducible repeat (first | refine blk_drewN ?_ _ | refine blk_drew ?_ | refine blk_alloc ?_ _)); refine blk_far ?_ NB102_115.out _; (with_reducible repeat (first | refine blk_drewN ?_ _ | refine blk_drew ?_ | refine blk_alloc ?_ _)); exact BK102.out⟩, ⟨by (with_reducible repeat (first | refine blk_drewN ?_ _ | refine blk_drew ?_ | refine blk_alloc ?_ _)); refine blk_far ?_ NB114_115.out _; (with_reducible repeat (first | refine blk_drewN ?_ _ | refine blk_drew ?_ | refine blk_alloc ?_ _)); refine blk_far ?_ NB114_115.out _; (with_reducible repeat (first | refine blk_drewN ?_ _ | refine blk_drew ?_ | refine blk_alloc ?_ _)); exact BK114.out⟩, ⟨by (with_reducible repeat (first | refine blk_drewN ?_ _ | refine blk_drew ?_ | refine blk_alloc ?_ _)); refine blk_put (cs := #[.int .i64 ((rd_T29 l0 x11_3).f0), .int .i64 x116001_3]) ?_ 1 _ rfl; (with_reducible repeat (first | refine blk_drewN ?_ _ | refine blk_drew ?_ | refine blk_alloc ?_ _)); refine blk_put (cs := #[.int .i64 x116000_3, .int .i64 x116001_3]) ?_ 0 _ rfl; (with_reducible repeat (first | refine blk_drewN ?_ _ | refine blk_drew ?_ | refine blk_alloc ?_ _)); exact BK115.out⟩, ⟨bh⟩⟩
                 ·replace c96 := Bool.eq_false_iff.mpr c96
                  subst c96
                  rw [if_neg (show ¬ (false = true) by decide)] at H
                  have H' := Aside0.mk H
                  clear H
                  go_wp2
                  go_roundg kj48
                  case measure => have := HK1.out; have := HK2.out; have := HK3.out; have := HJ48.out; omega
                  case rel => exact ⟨(wrap64 (x11_3 + 1)), (x116000_3), (x116001_3), sd, H', ⟨by have := HK1.out; have := HK2.out; have := HK3.out; have := HJ48.out; omega⟩, ⟨by (with_reducible repeat (first | apply Kd.R_alloc | apply Kd.R_drewN | apply Kd.R_drew)); exact Kd.R_mono HO_8.out (fun _ hk => ⟨hk.1, ⟨hk.2.1, hk.2.2.1⟩⟩)⟩, ⟨bk BK102⟩, ⟨bk BK114⟩, ⟨bk BK115⟩, ⟨bh⟩⟩
             ·rw [if_neg c38] at H
              exact absurd H (by simp)
            ·rw [if_neg c37] at H
             have c37b0 := decide_eq_false c37
             clear c37
             by_cases c104 : (x116000_3 == x103000_1 && (x116001_3 == x103001_1)) = true
             ·rw [if_pos c104] at H
              have c104b0 : (x116000_3 == x103000_1 && (x116001_3 == x103001_1)) = true := c104
              (try (have c104b1 : decide (x116000_3 = x103000_1 && (x116001_3 == x103001_1)) = true := by simpa using c104))
              (try (have c104b2 : (x116000_3 == x103000_1 && (x116001_3 == x103001_1)) = true := by simpa using c104))
              clear c104
              simp only [Option.some.injEq, Prod.mk.injEq] at H
              obtain ⟨rfl, rfl⟩ := H
              have hnb105 := NB115_102.out
              have hnc105 := NB102_115.out
              have hnb106 := NB115_114.out
              have hnc106 := NB114_115.out
              obtain ⟨hcz107_0, hcz107_1, hfz107_0, hfz107_1⟩ := b2 BK115
              have hnb108 := NB102_114.out
              have hnc108 := NB114_102.out
              obtain ⟨hcz109_0, hcz109_1, hfz109_0, hfz109_1⟩ := b2 BK102
              go_wp2
              go_ret2
              exact ⟨_, by first | rfl | (simp [errW_none, errW_some] <;> rfl) | (simp only [← hji26]; first | rfl | (simp [errW_none, errW_some] <;> rfl)) | (simp [*, errW_none, errW_some] <;> rfl), by (with_reducible repeat (first | apply Kd.R_alloc | apply Kd.R_drewN | apply Kd.R_drew)); exact Kd.R_mono HO_8.out (fun _ hk => trivial), bh⟩
             ·rw [if_neg c104] at H
              have c104b0 : (x116000_3 == x103000_1 && (x116001_3 == x103001_1)) = false := by simpa using c104
              (try (have c104b1 : decide (x116000_3 = x103000_1 && (x116001_3 == x103001_1)) = false := by simpa using c104))
              (try (have c104b2 : (x116000_3 == x103000_1 && (x116001_3 == x103001_1)) = false := by simpa using c104))
              (try (have c104b3 : ¬ (x116000_3 = x103000_1 && (x116001_3 == x103001_1)) := by simpa using c104))
              clear c104
              by_cases c110 : x8_2.length < 8796093022208
              ·rw [if_pos c110] at H
               have LMc110 := Aside0.mk c110
               clear c110
               obtain ⟨y120, hy120⟩ : ∃ y_ : List (S29), y_ = (x8_2 ++ [(⟨x116000_3, x116001_3⟩ : S29)]) := ⟨_, rfl⟩
               replace H : (cracknelref04_Hull.l2 k3 l0 y120 x103000_1 x103001_1) = some (r1, r2) := by first | (rw [hy120]; with_reducible exact H) | (have H2_ := (Option.bind_some _ _).symm.trans H; rw [hy120]; with_reducible exact H2_) | (have H2_ := (Option.bind_some _ _).symm.trans H; with_reducible exact H2_) | with_reducible exact H | (rw [hy120]; exact H) | exact H
               have Ny120 := Aside0.mk hy120
               clear hy120
               have H' := Aside0.mk H
               clear H
               have hnb111 := NB115_102.out
               have hnc111 := NB102_115.out
               have hnb112 := NB115_114.out
               have hnc112 := NB114_115.out
               obtain ⟨hcz113_0, hcz113_1, hfz113_0, hfz113_1⟩ := b2 BK115
               have hnb114 := NB102_114.out
               have hnc114 := NB114_102.out
               obtain ⟨hcz115_0, hcz115_1, hfz115_0, hfz115_1⟩ := b2 BK102
               go_wp2_with (first | ((with_reducible refine gate_builtin (b := .append) (xs := #[.tmp 104, .tmp 106]) rfl ?_); at_builtin; refine Kd.R_append k29 (w0 := w) w.heap.size rfl (.tmp 104) (.tmp 106) 22 29 (.agg #[(.int .i64 0), (.int .i64 0)]) 16 rfl Try.underlying22 info29 rfl (by decide) (by omega) (.slice (some ad113) x8_2.length co29) x8_2 (⟨x116000_3, x116001_3⟩ : S29) [.int .i64 x116000_3, .int .i64 x116001_3] (fun k_ => k_ ≠ gb102 ∧ k_ ≠ gb114 ∧ k_ ≠ gb115) (fun _ => False) rfl rfl ?aP (fun _ hk => hk.elim) ?aF ?aO ?aB ?aS ?aL ?_; (case aP => exact k29_mkM _ _ _ (⟨x116000_3, x116001_3⟩ : S29)); (case aB => exact bh); (case aF => exact (fun k_ hk => ⟨Kd.freshB (g := gb102) (o := .cells #[.int .i64 x103000_1, .int .i64 x103001_1] 29 (0, 0)) (bk BK102) k_ hk, Kd.freshB (g := gb114) (o := .cells #[.int .i64 ((rd_T29 x8_2 (ji26)).f0), .int .i64 ((rd_T29 x8_2 (ji26)).f1)] 29 (0, 0)) (bk BK114) k_ hk, Kd.freshB (g := gb115) (o := .cells #[.int .i64 x116000_3, .int .i64 x116001_3] 29 (0, 0)) (bk BK115) k_ hk⟩)); (case aO => exact (ro HO_8)); (case aS => exact (below_size bh)); (case aL => have := LMc110.out; omega); intro v121 w116 ho hb hg hat; rw [← Ny120.out] at ho; have HO122 := Aside0.mk (ho); replace BK102 := Aside0.mk (blk_grown (g := gb102) (o := .cells #[.int .i64 x103000_1, .int .i64 x103001_1] 29 (0, 0)) (bk BK102) hg (Kd.R_away HO_8.out (fun _ hk => hk.1))); replace BK114 := Aside0.mk (blk_grown (g := gb114) (o := .cells #[.int .i64 ((rd_T29 x8_2 (ji26)).f0), .int .i64 ((rd_T29 x8_2 (ji26)).f1)] 29 (0, 0)) (bk BK114) hg (Kd.R_away HO_8.out (fun _ hk => hk.2.1))); replace BK115 := Aside0.mk (blk_grown (g := gb115) (o := .cells #[.int .i64 x116000_3, .int .i64 x116001_3] 29 (0, 0)) (bk BK115) hg (Kd.R_away HO_8.out (fun _ hk => hk.2.2))); replace HB := Aside0.mk (hb); clear HO_8; clear ho hb hg hat))
               go_roundg k3
               case measure => have := HK1.out; have := HK2.out; have := HK3.out; omega
               case rel => exact ⟨(y120), H', ⟨by have := HK1.out; have := HK2.out; have := HK3.out; omega⟩, ⟨by (with_reducible repeat (first | apply Kd.R_alloc | apply Kd.R_drewN | apply Kd.R_drew)); exact Kd.R_mono HO122.out (fun _ hk => hk.1)⟩, ⟨bk BK102⟩, ⟨bh⟩⟩
              ·rw [if_neg c110] at H
               exact absurd H (by simp)
         ·rw [if_neg c28] at H
          exact absurd H (by simp)
        ·rw [if_neg c27] at H
         exact absurd H (by simp)
 ·rw [if_neg c2] at H
  exact absurd H (by simp)
end Go.Proofs.Ytoffmpkgickfhaa.PG
end
section
namespace Go.Proofs.Ytoffmpkgickfhaa.M
open Go.RowKit Go.Proofs.Ytoffmpkgickfhaa.PG Go.Proofs.YtoffmpkgickfhaaW.PrintMore Go.Proofs.YtoffmpkgickfhaaW.PrintWords
theorem href_l1 {l : List Pt} (hb : ∀ p ∈ l, Bd p) (hN : l.length ≤ 1000000) {i : Nat} (hi : i < l.length) (m : Pt) :
  ∀ d j b, l.length = j + d → ∃ c, (c = true ↔ b = true ∧ ∀ j', j ≤ j' → j' < l.length → cr (at_ l 0) (at_ l i) (at_ l j') = 0) ∧ ∀ v, Rt (fun k => cracknelref04_Hull.l0 k l c ((i + 1 : Nat) : Int) m.f0 m.f1) v → Rt (fun k => cracknelref04_Hull.l1 k l b (i : Int) (j : Int) m.f0 m.f1) v := by
 intro d
 induction d with
 | zero =>
  intro j b hj
  refine ⟨b, ⟨fun h => ⟨h, fun j' h1 h2 => by omega⟩, fun h => h.1⟩, fun v hv => rt_step (fun k => ?_) hv⟩
  rw [cracknelref04_Hull.l1, if_neg (by omega), wrap_succ i (by omega)]
 | succ d ih =>
  intro j b hj
  have hlt : j < l.length := by omega
  cases b with
  | false =>
   refine ⟨false, by simp, fun v hv => rt_step (fun k => ?_) hv⟩
   rw [cracknelref04_Hull.l1, if_pos (by omega), if_neg (by simp), wrap_succ i (by omega)]
  | true =>
   obtain ⟨c, hc, hr⟩ := ih (j + 1) (decide (cr (at_ l 0) (at_ l i) (at_ l j) = 0)) (by omega)
   refine ⟨c, ?_, fun v hv => rt_step (fun k => ?_) (hr v hv)⟩
   ·rw [hc, from_split hlt, decide_eq_true_eq]; exact ⟨fun h => ⟨rfl, h⟩, fun h => h.2⟩
   ·rw [cracknelref04_Hull.l1, if_pos (by omega), if_pos rfl, if_pos (by omega), if_pos (by omega), if_pos (by omega), if_pos (by omega), show rd_T29 l 0 = at_ l 0 from rfl, rd_at, rd_at, Cross_f (at_bd hb (by omega)) (at_bd hb hi) (at_bd hb hlt), Option.bind_some, wrap_succ j (by omega)]
    rfl
theorem href_l0 {l : List Pt} (hb : ∀ p ∈ l, Bd p) (hN : l.length ≤ 1000000) :
  ∀ d i (m : Pt) b, l.length = i + d → ∃ r c, (c = true ↔ b = true ∧ ∀ i', i ≤ i' → i' < l.length → ∀ j, j < l.length → cr (at_ l 0) (at_ l i') (at_ l j) = 0) ∧ (r = m ∨ ∃ j, i ≤ j ∧ j < l.length ∧ r = at_ l j) ∧ ¬ first m r ∧ (∀ j, i ≤ j → j < l.length → ¬ first (at_ l j) r) ∧
   ∀ v, Rt (fun k => cracknelref04_Hull.l0 k l c (l.length : Int) r.f0 r.f1) v → Rt (fun k => cracknelref04_Hull.l0 k l b (i : Int) m.f0 m.f1) v := by
 intro d
 induction d with
 | zero =>
  intro i m b hi
  refine ⟨m, b, ⟨fun h => ⟨h, fun i' h1 h2 => by omega⟩, fun h => h.1⟩, Or.inl rfl, first_irrefl m, fun j h1 h2 => by omega, fun v hv => ?_⟩
  rw [show i = l.length by omega]; exact hv
 | succ d ih =>
  intro i m b hi
  have hlt : i < l.length := by omega
  by_cases h : first (at_ l i) m
  ·obtain ⟨c1, hc1, hr1⟩ := href_l1 hb hN hlt (at_ l i) l.length 0 b (by omega)
   obtain ⟨r, c, hc, h1, h2, h3, hr⟩ := ih (i + 1) (at_ l i) c1 (by omega)
   refine ⟨r, c, ?_, ?_, ?_, ?_, fun v hv => rt_step (h := fun k => cracknelref04_Hull.j1 k l b (i : Int) (at_ l i).f0 (at_ l i).f1) (fun k => ?_) (rt_step (fun k => ?_) (hr1 v (hr v hv)))⟩
   rotate_left 4
   ·rw [cracknelref04_Hull.l0, if_pos (by omega), if_pos (by omega), rd_at, first_f, Option.bind_some, if_pos (by simpa using h)]
   ·rw [cracknelref04_Hull.j1]; rfl
   ·rw [hc, hc1, from_split hlt, and_assoc]
    exact ⟨fun h => ⟨h.1, fun j hj => h.2.1 j (Nat.zero_le _) hj, h.2.2⟩, fun h => ⟨h.1, fun j _ hj => h.2.1 j hj, h.2.2⟩⟩
   ·right
    rcases h1 with h1 | ⟨j, h4, h5, h6⟩
    ·exact ⟨i, Nat.le_refl _, hlt, h1⟩
    ·exact ⟨j, by omega, h5, h6⟩
   ·exact fun h4 => h2 (first_trans h h4)
   ·intro j h4 h5
    rcases Nat.eq_or_lt_of_le h4 with rfl | h6
    ·exact h2
    ·exact h3 j h6 h5
  ·obtain ⟨c1, hc1, hr1⟩ := href_l1 hb hN hlt m l.length 0 b (by omega)
   obtain ⟨r, c, hc, h1, h2, h3, hr⟩ := ih (i + 1) m c1 (by omega)
   refine ⟨r, c, ?_, ?_, h2, ?_, fun v hv => rt_step (h := fun k => cracknelref04_Hull.j1 k l b (i : Int) m.f0 m.f1) (fun k => ?_) (rt_step (fun k => ?_) (hr1 v (hr v hv)))⟩
   rotate_left 3
   ·rw [cracknelref04_Hull.l0, if_pos (by omega), if_pos (by omega), rd_at, first_f, Option.bind_some, if_neg (by simpa using h)]
   ·rw [cracknelref04_Hull.j1]; rfl
   ·rw [hc, hc1, from_split hlt, and_assoc]
    exact ⟨fun h => ⟨h.1, fun j hj => h.2.1 j (Nat.zero_le _) hj, h.2.2⟩, fun h => ⟨h.1, fun j _ hj => h.2.1 j hj, h.2.2⟩⟩
   ·rcases h1 with h1 | ⟨j, h4, h5, h6⟩
    ·exact Or.inl h1
    ·exact Or.inr ⟨j, by omega, h5, h6⟩
   ·intro j h4 h5
    rcases Nat.eq_or_lt_of_le h4 with rfl | h6
    ·intro h7
     rcases first_tri m r with e | e | e
     ·rw [e] at h; exact h h7
     ·exact h2 e
     ·exact h (first_trans h7 e)
    ·exact h3 j h6 h5
theorem drop_at {l : List Pt} {i : Nat} (h : i < l.length) : l.drop i = at_ l i :: l.drop (i + 1) := by
 rw [at_eq h]; exact List.drop_eq_getElem_cons h
theorem wrapStep_bd {o t p : Pt} (ht : Bd t) (hp : Bd p) : Bd (wrapStep o t p) := by
 unfold wrapStep; split
 ·exact ht
 ·split
  ·exact hp
  ·exact ht
theorem href_l3 {l : List Pt} (hb : ∀ p ∈ l, Bd p) (hN : l.length ≤ 1000000) (x : List Pt) (low o : Pt) (ho : Bd o) :
  ∀ d i t, l.length = i + d → Bd t → ∀ v, Rt (fun k => cracknelref04_Hull.l3 k l x (l.length : Int) low.f0 low.f1 o.f0 o.f1 ((l.drop i).foldl (wrapStep o) t).f0 ((l.drop i).foldl (wrapStep o) t).f1) v →
   Rt (fun k => cracknelref04_Hull.l3 k l x (i : Int) low.f0 low.f1 o.f0 o.f1 t.f0 t.f1) v := by
 intro d
 induction d with
 | zero =>
  intro i t hi _ v hv
  rw [List.drop_of_length_le (by omega), List.foldl_nil] at hv
  rw [show i = l.length by omega]; exact hv
 | succ d ih =>
  intro i t hi ht v hv
  have hlt : i < l.length := by omega
  have hp := at_bd hb hlt
  rw [drop_at hlt, List.foldl_cons] at hv
  have h := ih (i + 1) (wrapStep o t (at_ l i)) (by omega) (wrapStep_bd ht hp) v hv
  have e : wrapStep o t (at_ l i) = if at_ l i = o then t else if t = o ∨ cr o t (at_ l i) < 0 ∨ (cr o t (at_ l i) = 0 ∧ cr o (at_ l i) t = 0 ∧ btw o (at_ l i) t) then at_ l i else t := rfl
  by_cases h1 : at_ l i = o
  ·rw [if_pos h1] at e; rw [e] at h
   refine rt_step (fun k => ?_) h
   rw [cracknelref04_Hull.l3, if_pos (by omega), if_pos (by omega), rd_at, pt_beq, if_pos (by simpa using h1), wrap_succ i (by omega)]
  ·rw [if_neg h1] at e
   have s0 : ∀ k, cracknelref04_Hull.l3 (k + 1) l x (i : Int) low.f0 low.f1 o.f0 o.f1 t.f0 t.f1 = cracknelref04_Hull.j5 k l x (i : Int) (decide (t = o ∨ cr o t (at_ l i) < 0 ∨ (cr o t (at_ l i) = 0 ∧ cr o (at_ l i) t = 0 ∧ btw o (at_ l i) t))) low.f0 low.f1 o.f0 o.f1 t.f0 t.f1 (at_ l i).f0 (at_ l i).f1 := by
    intro k
    rw [cracknelref04_Hull.l3, if_pos (by omega), if_pos (by omega), rd_at, pt_beq, if_neg (by simpa using h1), Cross_f ho ht hp, Option.bind_some, pt_beq]
    by_cases h2 : t = o
    ·rw [if_pos (by simpa using h2)]; simp only [h2, true_or, decide_true]
    ·rw [if_neg (by simpa using h2)]
     by_cases h3 : cr o t (at_ l i) < 0
     ·rw [if_pos h3]; simp only [h3, true_or, or_true, decide_true]
     ·rw [if_neg h3]
      by_cases h4 : cr o t (at_ l i) = 0
      ·rw [if_pos h4, On_f ho hp ht, Option.bind_some]
       rw [show decide (On o (at_ l i) t) = decide (t = o ∨ cr o t (at_ l i) < 0 ∨ (cr o t (at_ l i) = 0 ∧ cr o (at_ l i) t = 0 ∧ btw o (at_ l i) t)) from by
        rw [decide_eq_decide]; unfold On
        exact ⟨fun h => Or.inr (Or.inr ⟨h4, h⟩), fun h => by
         rcases h with h | h | h
         ·exact absurd h h2
         ·exact absurd h h3
         ·exact h.2⟩]
      ·rw [if_neg h4]
       rw [show decide (t = o ∨ cr o t (at_ l i) < 0 ∨ (cr o t (at_ l i) = 0 ∧ cr o (at_ l i) t = 0 ∧ btw o (at_ l i) t)) = false from by
        rw [decide_eq_false_iff_not]
        rintro (h | h | h)
        ·exact h2 h
        ·exact h3 h
        ·exact h4 h.1]
   by_cases h5 : (t = o ∨ cr o t (at_ l i) < 0 ∨ (cr o t (at_ l i) = 0 ∧ cr o (at_ l i) t = 0 ∧ btw o (at_ l i) t))
   ·rw [if_pos h5] at e; rw [e] at h
    refine rt_step s0 (rt_step (fun k => ?_) h)
    rw [cracknelref04_Hull.j5, if_pos (by simpa using h5), wrap_succ i (by omega)]
   ·rw [if_neg h5] at e; rw [e] at h
    refine rt_step s0 (rt_step (fun k => ?_) h)
    rw [cracknelref04_Hull.j5, if_neg (by simpa using h5), wrap_succ i (by omega)]
theorem around_last (S : List Pt) : ∀ n o x, (around S n o).getLast? = some x → around S (n + 1) o = around S n o ++ [wrap S x] := by
 intro n
 induction n with
 | zero => intro o x h; simp [around] at h ⊢; rw [h]
 | succ n ih =>
  intro o x h
  have e : around S (n + 1) o = o :: around S n (wrap S o) := rfl
  have ne : around S n (wrap S o) ≠ [] := by cases n <;> simp [around]
  rw [e, List.getLast?_cons_of_ne_nil ne] at h
  have := ih (wrap S o) x h
  show o :: around S (n + 1) (wrap S o) = _
  rw [this]; rfl
theorem around_len (S : List Pt) : ∀ n o, (around S n o).length = n + 1 := by
 intro n
 induction n with
 | zero => intro o; rfl
 | succ n ih => intro o; show (around S n (wrap S o)).length + 1 = _; rw [ih]
theorem foldl_bd {S : List Pt} {o : Pt} : ∀ (l : List Pt) (t : Pt), (∀ p ∈ l, p ∈ S) → t ∈ S → l.foldl (wrapStep o) t ∈ S := by
 intro l
 induction l with
 | nil => intro t _ h; exact h
 | cons a l ih =>
  intro t h ht
  rw [List.foldl_cons]
  refine ih _ (fun p hp => h p (List.mem_cons_of_mem _ hp)) ?_
  unfold wrapStep; split
  ·exact ht
  ·split
   ·exact h a (List.mem_cons_self)
   ·exact ht
theorem wrap_mem {S : List Pt} {o : Pt} (h : o ∈ S) : wrap S o ∈ S := foldl_bd S o (fun _ h => h) h
theorem around_mem {S : List Pt} : ∀ n o, o ∈ S → ∀ p ∈ around S n o, p ∈ S := by
 intro n
 induction n with
 | zero => intro o h p hp; simp [around] at hp; rw [hp]; exact h
 | succ n ih =>
  intro o h p hp
  have hp : p = o ∨ p ∈ around S n (wrap S o) := by simpa [around] using hp
  rcases hp with rfl | hp
  ·exact h
  ·exact ih _ (wrap_mem h) p hp
theorem last_at {x : List Pt} {y : Pt} (h : x.getLast? = some y) : 0 < x.length ∧ at_ x (x.length - 1) = y := by
 cases x with
 | nil => simp at h
 | cons a t =>
  refine ⟨by simp, ?_⟩
  rw [List.getLast?_eq_getElem?] at h
  rw [at_eq (by simp)]
  have := List.getElem?_eq_some_iff.mp h
  exact this.2
theorem href_l2 {l : List Pt} (hb : ∀ p ∈ l, Bd p) (hN : l.length ≤ 1000000) {low : Pt} (hlow : low ∈ l) {n : Nat} (hn : n < l.length) (hend : ∃ x, (around l n low).getLast? = some x ∧ wrap l x = low) (hmid : ∀ m, m < n → ∃ x, (around l m low).getLast? = some x ∧ wrap l x ≠ low) :
  ∀ d m, n = m + d → Rt (fun k => cracknelref04_Hull.l2 k l (around l m low) low.f0 low.f1) (around l n low, true) := by
 intro d
 have step : ∀ m, m ≤ n → ∀ x, (around l m low).getLast? = some x → ∀ v, Rt (fun k => cracknelref04_Hull.l3 k l (around l m low) (l.length : Int) low.f0 low.f1 x.f0 x.f1 (wrap l x).f0 (wrap l x).f1) v → Rt (fun k => cracknelref04_Hull.l2 k l (around l m low) low.f0 low.f1) v := by
  intro m hm x hx v hv
  obtain ⟨h0, h1⟩ := last_at hx
  have hlen := around_len l m low
  have hxl : x ∈ l := around_mem m low hlow x (List.mem_of_getLast? hx)
  have := href_l3 hb hN (around l m low) low x (hb x hxl) l.length 0 x (by omega) (hb x hxl) v hv
  refine rt_step (fun k => ?_) this
  rw [cracknelref04_Hull.l2, wz _ (by omega) (by omega), show (((around l m low).length : Int) - 1) = (((around l m low).length - 1 : Nat) : Int) by omega, if_pos (by omega), if_pos (by omega), rd_at, h1]
  rfl
 induction d with
 | zero =>
  intro m hm
  obtain ⟨x, hx, hw⟩ := hend
  obtain rfl : n = m := by omega
  refine step n (Nat.le_refl _) x hx _ (rt_ret fun k => ?_)
  rw [cracknelref04_Hull.l3, if_neg (by omega), hw, pt_beq, if_pos (by simp)]
 | succ d ih =>
  intro m hm
  obtain ⟨x, hx, hw⟩ := hmid m (by omega)
  have hlen := around_len l m low
  refine step m (by omega) x hx _ (rt_step (fun k => ?_) (ih (m + 1) (by omega)))
  rw [cracknelref04_Hull.l3, if_neg (by omega), pt_beq, if_neg (by simpa using hw), if_pos (by omega), around_last l m low x hx]
theorem refHull_run {l : List Pt} (hb : ∀ p ∈ l, Bd p) (hN : l.length ≤ 1000000) (h0 : 0 < l.length) :
  (Flat l → Rt (fun k => cracknelref04_Hull.f k l) ([], false)) ∧ (¬ Flat l → ∃ h, Rt (fun k => cracknelref04_Hull.f k l) (h, true) ∧ Ring l h ∧ ∀ p ∈ l, p = at_ h 0 ∨ first (at_ h 0) p) := by
 obtain ⟨r, c, hc, h1, h2, h3, hr⟩ := href_l0 hb hN l.length 0 (at_ l 0) true (by omega)
 have hfl : c = true ↔ Flat l := by
  rw [hc]
  constructor
  ·rintro ⟨_, h⟩
   refine flat_of_first (o := at_ l 0) fun a ha b hb' => ?_
   obtain ⟨i, hi, rfl⟩ := List.mem_iff_getElem.mp ha
   obtain ⟨j, hj, rfl⟩ := List.mem_iff_getElem.mp hb'
   rw [← at_eq hi, ← at_eq hj]
   exact h i (Nat.zero_le _) hi j hj
  ·intro h
   exact ⟨rfl, fun i _ hi j hj => h _ (at_mem h0) _ (at_mem hi) _ (at_mem hj)⟩
 have hrm : r ∈ l := by
  rcases h1 with rfl | ⟨j, _, hj, rfl⟩
  ·exact at_mem h0
  ·exact at_mem hj
 have hmin : ∀ p ∈ l, p = r ∨ first r p := by
  intro p hp
  obtain ⟨j, hj, rfl⟩ := List.mem_iff_getElem.mp hp
  have := h3 j (Nat.zero_le _) hj
  rw [at_eq hj] at this
  rcases first_tri l[j] r with e | e | e
  ·exact Or.inl e
  ·exact absurd e this
  ·exact Or.inr e
 have start : ∀ v, Rt (fun k => cracknelref04_Hull.l0 k l true 0 (at_ l 0).f0 (at_ l 0).f1) v → Rt (fun k => cracknelref04_Hull.f k l) v := by
  rintro v ⟨K, hK⟩
  refine ⟨K, fun k hk => ?_⟩
  have := hK k hk
  unfold cracknelref04_Hull.f
  dsimp only at this ⊢
  rw [if_pos (by omega)]; exact this
 refine ⟨fun hf => start _ (hr _ (rt_ret fun k => ?_)), fun hf => ?_⟩
 ·rw [cracknelref04_Hull.l0, if_neg (by omega), if_pos (hfl.mpr hf)]
 ·obtain ⟨n, hn, ring, hend, hmid⟩ := ring_around hrm hmin (two_of_not_flat hf)
  refine ⟨around l n r, start _ (hr _ (rt_step (fun k => ?_) (href_l2 hb hN hrm hn hend hmid n 0 (by omega)))), ring, ?_⟩
  ·rw [cracknelref04_Hull.l0, if_neg (by omega), if_neg (fun h => hf (hfl.mp h))]; rfl
  ·have : at_ (around l n r) 0 = r := by cases n <;> rfl
   rw [this]; exact hmin
theorem ring_sub {S h : List Pt} (r : Ring S h) : ∀ p ∈ h, p ∈ S := by
 intro p hp
 obtain ⟨j, hj, rfl⟩ := List.mem_iff_getElem.mp hp
 rw [← at_eq hj]; exact (ring_corner r j hj).2
theorem ring_nodup {S h : List Pt} (r : Ring S h) : h.Nodup := by
 unfold List.Nodup
 rw [List.pairwise_iff_getElem]
 intro i j hi hj hij e
 rw [← at_eq hi, ← at_eq hj] at e
 have := ring_inj r i j hi hj e
 omega
end Go.Proofs.Ytoffmpkgickfhaa.M
end
section
namespace Go.Proofs.Ytoffmpkgickfhaa.M
open Go.RowKit Go.Proofs.Ytoffmpkgickfhaa.PG Go.Proofs.YtoffmpkgickfhaaW.PrintMore Go.Proofs.YtoffmpkgickfhaaW.PrintWords
def In (m : Int) (p : Pt) : Prop := -m ≤ p.f0 ∧ p.f0 ≤ m ∧ -m ≤ p.f1 ∧ p.f1 ≤ m
instance (m : Int) (p : Pt) : Decidable (In m p) := by unfold In; infer_instance
def Poly (l : List Pt) : Prop := 3 ≤ l.length ∧ l.length ≤ 32 ∧ ∀ p ∈ l, In 10000 p
instance (l : List Pt) : Decidable (Poly l) := by unfold Poly; infer_instance
theorem beyond_f (m : Int) (h0 : 0 ≤ m) (h1 : m ≤ 1000000) (p : Pt) : beyond m p = !decide (In m p) := by
 unfold beyond
 rw [wz _ (by omega) (by omega), Bool.eq_iff_iff]
 simp only [Bool.or_eq_true, decide_eq_true_eq, Bool.not_eq_true']
 rw [decide_eq_false_iff_not]
 unfold In
 omega
theorem within_f (l : List Pt) (m : Int) (h0 : 0 ≤ m) (h1 : m ≤ 1000000) : shape_within.f l m = some (decide (∀ p ∈ l, In m p)) := by
 unfold shape_within.f
 congr 1
 rw [Bool.eq_iff_iff]
 simp only [Bool.not_eq_true', List.any_eq_false, beyond_f m h0 h1, decide_eq_true_eq, Bool.not_eq_true', decide_eq_false_iff_not, Decidable.not_not]
theorem polygon_f (l : List Pt) : shape_polygon.f l = some (decide (Poly l)) := by
 unfold shape_polygon.f
 by_cases h : (l.length : Int) ≥ 3
 ·rw [if_pos h]
  by_cases h2 : (l.length : Int) ≤ 32
  ·rw [if_pos h2, within_f _ _ (by omega) (by omega), Option.bind_some]
   congr 1; rw [decide_eq_decide]
   exact ⟨fun h3 => ⟨by omega, by omega, h3⟩, fun h3 => h3.2.2⟩
  ·rw [if_neg h2]
   congr 1; symm; rw [decide_eq_false_iff_not]
   intro h3; have := h3.2.1; omega
 ·rw [if_neg h]
  congr 1; symm; rw [decide_eq_false_iff_not]
  intro h3; have := h3.1; omega
theorem in_bd {p : Pt} (h : In 10000 p) : Bd p := by unfold In at h; unfold Bd; omega
def term (l : List Pt) (i : Nat) : Int := (at_ l i).f0 * (at_ l ((i + 1) % l.length)).f1 - (at_ l i).f1 * (at_ l ((i + 1) % l.length)).f0
def areaTo (l : List Pt) : Nat → Int
 | 0 => 0
 | i + 1 => areaTo l i + term l i
def area (l : List Pt) : Int := areaTo l l.length
end Go.Proofs.Ytoffmpkgickfhaa.M
end
section
namespace Go.Proofs.Ytoffmpkgickfhaa.PG
open Go.RowKit Go.Proofs.YtoffmpkgickfhaaW.PrintWords Go.Proofs.YtoffmpkgickfhaaW.PrintLast Go.Proofs.YtoffmpkgickfhaaW.PrintMore
attribute [local go_sem] max2_int min2_int max_two min_two max_three min_three max_four min_four
set_option linter.unusedVariables false
set_option linter.unusedSimpArgs false
/-! ### shape_refused_normal: function 2068 -/
def shape_refused_normal.f (k : Nat) (l0 : List (S29))  : Option (Int) := (shape_polygon.f l0).bind fun t101 => (if t101 = true then ((shape_normal.f k l0).bind fun t102 => (if t102 = true then (some 0) else (some 2))) else (some 1))
set_option maxHeartbeats 8000000 in
set_option maxRecDepth 100000 in
theorem shape_refused_normal.calls (k : Nat) (A0 : Option Addr) (c0 : Nat) (l0 : List (S29))  (r : Int) (w : World) (hr0 : Kd.C k29 w A0 l0.length l0) (hc0 : l0.length ≤ c0) (h : shape_refused_normal.f k l0 = some r) :
  Calls Try.prog 68 #[.slice A0 l0.length c0, .func (.func 72) #[] #[]] w fun e w' => e = .returned (.int .i64 r) ∧ Below w.heap.size w w' := by
 have HR0 := Aside0.mk hr0
 have HC0 := Aside0.mk hc0
 clear hr0 hc0
 have HB := Aside0.mk (Below.refl w.heap.size w)
 have H : ((shape_polygon.f l0).bind fun t101 => (if t101 = true then ((shape_normal.f k l0).bind fun t102 => (if t102 = true then (some 0) else (some 2))) else (some 1))) = some r := h
 clear h
 replace H := Option.bind_eq_some_iff.mp H
 obtain ⟨t101, A30, H⟩ := H
 try dsimp only at H
 have A3 := Aside0.mk A30
 clear A30
 by_cases c4 : t101 = true
 ·subst c4
  rw [if_pos rfl] at H
  replace H := Option.bind_eq_some_iff.mp H
  obtain ⟨t102, A50, H⟩ := H
  try dsimp only at H
  have A5 := Aside0.mk A50
  clear A50
  by_cases c6 : t102 = true
  ·subst c6
   rw [if_pos rfl] at H
   obtain rfl := Option.some.inj H
   go_enter Try.func68, Try.ntmps68
   go_wp2_with (first | ((first | ((with_reducible refine gc 66 rfl ?_); refine goesL_ (some 7) rfl rfl Try.func66 (by kernel_rfl) rfl #[.slice A0 l0.length c0] rfl sg ?_) | ((with_reducible refine gate_value 66 rfl rfl ?_); refine goesLV_ (some 7) rfl rfl Try.func66 (by kernel_rfl) rfl #[.slice A0 l0.length c0] rfl sg rfl ?_)); (with_reducible refine (shape_polygon.calls _ _ l0 true _ ?side1 ?side2 A3.out).mono ?_); (case side1 => repeat (first | exact HR0.out | (with_reducible refine Kd.C_alloc ?_ _) | (with_reducible refine Kd.C_drewN ?_ _) | (with_reducible refine Kd.C_drew ?_))); (case side2 => exact HC0.out); rintro e w7 ⟨rfl, hb⟩; refine ⟨_, rfl, ?_⟩; replace HB := Aside0.mk (below_step bh hb); (try clear hb); (try clear hb2); (try clear hk); (try clear hi)) | ((first | ((with_reducible refine gc 72 rfl ?_); refine goesL_ (some 12) rfl rfl Try.func72 (by kernel_rfl) rfl #[.slice A0 l0.length c0] rfl sg ?_) | ((with_reducible refine gate_value 72 rfl rfl ?_); refine goesLV_ (some 12) rfl rfl Try.func72 (by kernel_rfl) rfl #[.slice A0 l0.length c0] rfl sg rfl ?_)); (with_reducible refine (shape_normal.calls k _ _ l0 true _ ?side1 ?side2 A5.out).mono ?_); (case side1 => exact cs (Kd.C_below HR0.out HB.out)); (case side2 => exact HC0.out); rintro e w8 ⟨rfl, hb⟩; refine ⟨_, rfl, ?_⟩; replace HB := Aside0.mk (below_step bh hb); (try clear hb); (try clear hb2); (try clear hk); (try clear hi)))
   go_ret
   exact ⟨by exact er, bh⟩
  ·replace c6 := Bool.eq_false_iff.mpr c6
   subst c6
   rw [if_neg (show ¬ (false = true) by decide)] at H
   obtain rfl := Option.some.inj H
   go_enter Try.func68, Try.ntmps68
   go_wp2_with (first | ((first | ((with_reducible refine gc 66 rfl ?_); refine goesL_ (some 7) rfl rfl Try.func66 (by kernel_rfl) rfl #[.slice A0 l0.length c0] rfl sg ?_) | ((with_reducible refine gate_value 66 rfl rfl ?_); refine goesLV_ (some 7) rfl rfl Try.func66 (by kernel_rfl) rfl #[.slice A0 l0.length c0] rfl sg rfl ?_)); (with_reducible refine (shape_polygon.calls _ _ l0 true _ ?side1 ?side2 A3.out).mono ?_); (case side1 => repeat (first | exact HR0.out | (with_reducible refine Kd.C_alloc ?_ _) | (with_reducible refine Kd.C_drewN ?_ _) | (with_reducible refine Kd.C_drew ?_))); (case side2 => exact HC0.out); rintro e w9 ⟨rfl, hb⟩; refine ⟨_, rfl, ?_⟩; replace HB := Aside0.mk (below_step bh hb); (try clear hb); (try clear hb2); (try clear hk); (try clear hi)) | ((first | ((with_reducible refine gc 72 rfl ?_); refine goesL_ (some 12) rfl rfl Try.func72 (by kernel_rfl) rfl #[.slice A0 l0.length c0] rfl sg ?_) | ((with_reducible refine gate_value 72 rfl rfl ?_); refine goesLV_ (some 12) rfl rfl Try.func72 (by kernel_rfl) rfl #[.slice A0 l0.length c0] rfl sg rfl ?_)); (with_reducible refine (shape_normal.calls k _ _ l0 false _ ?side1 ?side2 A5.out).mono ?_); (case side1 => exact cs (Kd.C_below HR0.out HB.out)); (case side2 => exact HC0.out); rintro e w10 ⟨rfl, hb⟩; refine ⟨_, rfl, ?_⟩; replace HB := Aside0.mk (below_step bh hb); (try clear hb); (try clear hb2); (try clear hk); (try clear hi)))
   go_ret
   exact ⟨by exact er, bh⟩
 ·replace c4 := Bool.eq_false_iff.mpr c4
  subst c4
  rw [if_neg (show ¬ (false = true) by decide)] at H
  obtain rfl := Option.some.inj H
  go_enter Try.func68, Try.ntmps68
  go_wp2_with (first | ((first | ((with_reducible refine gc 66 rfl ?_); refine goesL_ (some 7) rfl rfl Try.func66 (by kernel_rfl) rfl #[.slice A0 l0.length c0] rfl sg ?_) | ((with_reducible refine gate_value 66 rfl rfl ?_); refine goesLV_ (some 7) rfl rfl Try.func66 (by kernel_rfl) rfl #[.slice A0 l0.length c0] rfl sg rfl ?_)); (with_reducible refine (shape_polygon.calls _ _ l0 false _ ?side1 ?side2 A3.out).mono ?_); (case side1 => repeat (first | exact HR0.out | (with_reducible refine Kd.C_alloc ?_ _) | (with_reducible refine Kd.C_drewN ?_ _) | (with_reducible refine Kd.C_drew ?_))); (case side2 => exact HC0.out); rintro e w11 ⟨rfl, hb⟩; refine ⟨_, rfl, ?_⟩; replace HB := Aside0.mk (below_step bh hb); (try clear hb); (try clear hb2); (try clear hk); (try clear hi)))
  go_ret
  exact ⟨by exact er, bh⟩
end Go.Proofs.Ytoffmpkgickfhaa.PG
end
section
namespace Go.Proofs.Ytoffmpkgickfhaa.M
open Go.RowKit Go.Proofs.Ytoffmpkgickfhaa.PG Go.Proofs.YtoffmpkgickfhaaW.PrintMore Go.Proofs.YtoffmpkgickfhaaW.PrintWords
theorem pairs_sub {S h : List Pt} (hS : ∀ p ∈ h, p ∈ S) : ∀ l : List Pt, (∀ p ∈ l, p ∈ h) → Pairs (HE S) l → Pairs (HE h) l
 | [], _, _ => trivial
 | [_], _, _ => trivial
 | a :: b :: l, hm, hp => by
  refine ⟨?_, pairs_sub hS (b :: l) (fun p h => hm p (List.mem_cons_of_mem _ h)) hp.2⟩
  obtain ⟨n, _, _, L⟩ := hp.1
  exact ⟨n, hm a (by simp), hm b (by simp), fun p h => L p (hS p h)⟩
theorem ring_self {S h : List Pt} (r : Ring S h) : Ring h h := by
 have hs := ring_sub r
 obtain ⟨a, t, e, n, p⟩ := r
 refine ⟨a, t, e, n, pairs_sub hs _ (fun x hx => ?_) p⟩
 rw [e]
 have : x = a ∨ x ∈ t ∨ x = a := by simpa using hx
 rcases this with h1 | h1 | h1
 ·rw [h1]; simp
 ·exact List.mem_cons_of_mem _ h1
 ·rw [h1]; simp
theorem first_at {S h : List Pt} (r : Ring S h) (h0 : 0 < h.length) (hf : ∀ p ∈ S, p = at_ h 0 ∨ first (at_ h 0) p) : ∀ k, k < h.length → k = 0 ∨ first (at_ h 0) (at_ h k) := by
 intro k hk
 rcases hf _ (ring_sub r _ (at_mem hk)) with e | e
 ·exact Or.inl (ring_inj r k 0 hk h0 e)
 ·exact Or.inr e
theorem ring_len {S h : List Pt} (r : Ring S h) : h.length ≤ S.length := length_le_of_nodup (ring_nodup r) (ring_sub r)
theorem ring_not_flat {S h : List Pt} (r : Ring S h) (hf : ¬ Flat S) : ¬ Flat h := by
 intro h1
 have := flat_ring (ring_self r) h1
 have := ring_three r hf
 omega
theorem ring_convex {S h : List Pt} (r : Ring S h) (hf : ¬ Flat S) (hm : ∀ p ∈ S, p = at_ h 0 ∨ first (at_ h 0) p) : Convex h := by
 have h3 := ring_three r hf
 exact strong_convex h3 (ring_strong r) (fun i hi h0 => (first_at r (by omega) hm i hi).resolve_left (by omega))
theorem refused_simple {r : List Pt} (hl : r.length ≤ 1000000) (hp : Poly r) (hs : Simple r) : Rt (fun k => shape_refused_simple.f k r) 0 := by
 obtain ⟨b, ⟨K, h⟩, i⟩ := simple_run (fun p h => in_bd (hp.2.2 p h)) hp.1 hl
 refine ⟨K, fun k hk => ?_⟩
 have a := h k hk
 dsimp only at a ⊢
 unfold shape_refused_simple.f
 rw [polygon_f, Option.bind_some, if_pos (by simpa using hp), a, Option.bind_some, if_pos (i.mpr hs)]
theorem not_flat3 (r : List Pt) : ¬ Flat (r ++ [(⟨0, 0⟩ : S29), (⟨1, 0⟩ : S29), (⟨0, 1⟩ : S29)]) := by
 intro h
 have := h ⟨0, 0⟩ (by simp) ⟨1, 0⟩ (by simp) ⟨0, 1⟩ (by simp)
 rw [cr_eq] at this
 simp at this
end Go.Proofs.Ytoffmpkgickfhaa.M
end
section
namespace Go.Proofs.Ytoffmpkgickfhaa.M
open Go.RowKit Go.Proofs.Ytoffmpkgickfhaa.PG Go.Proofs.YtoffmpkgickfhaaW.PrintMore Go.Proofs.YtoffmpkgickfhaaW.PrintWords
theorem tmod_bd (a b : Int) (hb : 0 < b) : -b < Int.tmod a b ∧ Int.tmod a b < b := by
 have h : (Int.tmod a b).natAbs = a.natAbs % b.natAbs := Int.natAbs_tmod a b
 have h2 : a.natAbs % b.natAbs < b.natAbs := Nat.mod_lt _ (by omega)
 omega
theorem points_run (l : List Pt) (m : Int) (q : Nat) (h0 : 0 ≤ m) (h1 : m ≤ 1000000) (hq : q ≤ 1000000) : ∃ r, Rt (fun k => cracknellaw04_points.f k l m (q : Int)) r ∧ r.length ≤ q ∧ ∀ p ∈ r, In m p := by
 have H : ∀ d i (x : List Pt), i + d = min l.length q → x.length = i → (∀ p ∈ x, In m p) → ∃ r, Rt (fun k => cracknellaw04_points.l0 k l m (q : Int) x (i : Int)) r ∧ r.length ≤ q ∧ ∀ p ∈ r, In m p := by
  intro d
  induction d with
  | zero =>
   intro i x hi hx hin
   refine ⟨x, rt_ret fun k => ?_, by omega, hin⟩
   rw [cracknellaw04_points.l0]
   by_cases h : (i : Int) < (l.length : Int)
   ·rw [if_pos h, if_neg (by omega)]
   ·rw [if_neg h]
  | succ d ih =>
   intro i x hi hx hin
   have b0 := tmod_bd (at_ l i).f0 (m + 1) (by omega)
   have b1 := tmod_bd (at_ l i).f1 (m + 1) (by omega)
   obtain ⟨r, hr, hr1, hr2⟩ := ih (i + 1) (x ++ [⟨Int.tmod (at_ l i).f0 (m + 1), Int.tmod (at_ l i).f1 (m + 1)⟩]) (by omega) (by simp [hx]) (fun p hp => by
    rcases List.mem_append.mp hp with h | h
    ·exact hin p h
    ·rw [List.mem_singleton] at h; subst h; unfold In; dsimp only; omega)
   refine ⟨r, rt_step (fun k => ?_) hr, hr1, hr2⟩
   rw [cracknellaw04_points.l0, if_pos (by omega), if_pos (by omega), if_pos (by omega), wz (m + 1) (by omega) (by omega), if_neg (by omega), if_pos (by omega), rd_at, wrap_succ i (by omega)]
 obtain ⟨r, ⟨K, hK⟩, h⟩ := H (min l.length q) 0 [] (by omega) rfl (by simp)
 exact ⟨r, ⟨K, fun k hk => hK k hk⟩, h⟩
theorem fold_f (a : Int) (n : Nat) (h0 : 0 < n) (h1 : n ≤ 1000000) : ∃ t : Nat, t < n ∧ cracknellaw04_fold.f a (n : Int) = some (t : Int) := by
 have b := tmod_bd a (n : Int) (by omega)
 refine ⟨((Int.tmod a n + n).toNat) % n, Nat.mod_lt _ h0, ?_⟩
 unfold cracknellaw04_fold.f
 rw [if_neg (by omega), wz _ (by omega) (by omega)]
 congr 1
 have e : Int.tmod a n + n = ((Int.tmod a n + n).toNat : Int) := by omega
 rw [e, ← Int.ofNat_tmod]; simp
end Go.Proofs.Ytoffmpkgickfhaa.M
end
section
namespace Go.Proofs.Ytoffmpkgickfhaa.M
open Go.RowKit Go.Proofs.Ytoffmpkgickfhaa.PG Go.Proofs.YtoffmpkgickfhaaW.PrintMore Go.Proofs.YtoffmpkgickfhaaW.PrintWords
def Hit (a b p : Pt) : Prop := (a.f1 ≤ p.f1 ∧ p.f1 < b.f1 ∧ 0 < cr a b p) ∨ (b.f1 ≤ p.f1 ∧ p.f1 < a.f1 ∧ 0 < cr b a p)
instance (a b p : Pt) : Decidable (Hit a b p) := by unfold Hit; infer_instance
def wh (l : List Pt) (p : Pt) : Nat → Nat → Bool → Int
 | 0, _, s => if s = true then 1 else -1
 | d + 1, i, s => if On (at_ l i) (at_ l ((i + 1) % l.length)) p then 0 else wh l p d (i + 1) (s != decide (Hit (at_ l i) (at_ l ((i + 1) % l.length)) p))
def whereOf (l : List Pt) (p : Pt) : Int := wh l p l.length 0 false
theorem where_j1 {l : List Pt} {p a b : Pt} (hp : Bd p) (ha : Bd a) (hb : Bd b) (hab : a.f1 ≤ b.f1) (s : Bool) (i : Nat) {v : Int} {c : Bool} (hc : c = decide (Hit a b p)) (hi : i < l.length) (hN : l.length ≤ 1000000) (K : Nat)
  (hK : ∀ k, K ≤ k → shape_where.l0 k l (if (s != c) = true then 1 else -1) (l.length : Int) ((i + 1 : Nat) : Int) p.f0 p.f1 = some v) (k : Nat) (hk : K + 2 ≤ k) :
  shape_where.j1 k l (if s = true then 1 else -1) (l.length : Int) (i : Int) p.f0 p.f1 a.f0 a.f1 b.f0 b.f1 = some v := by
 obtain ⟨k, rfl⟩ := fuel2 hk
 have fin : shape_where.j2 (k + 1) l (if s = true then 1 else -1) (l.length : Int) (i : Int) c p.f0 p.f1 = some v := by
  rw [shape_where.j2, wrap_succ i (by omega)]
  have := hK k (by omega)
  cases c <;> cases s <;> simp_all [wrap64]
 have h2 : Hit a b p ↔ (a.f1 ≤ p.f1 ∧ p.f1 < b.f1 ∧ 0 < cr a b p) := by
  unfold Hit
  constructor
  ·rintro (h | h)
   ·exact h
   ·omega
  ·exact Or.inl
 rw [shape_where.j1]
 by_cases h3 : a.f1 ≤ p.f1
 ·rw [if_pos h3]
  by_cases h4 : p.f1 < b.f1
  ·rw [if_pos h4, side_f ha hb hp, Option.bind_some]
   rw [show decide (cr a b p > 0) = c by rw [hc, decide_eq_decide, h2]; exact ⟨fun h => ⟨h3, h4, h⟩, fun h => h.2.2⟩]
   exact fin
  ·rw [if_neg h4]
   rw [show (false : Bool) = c by rw [hc]; symm; rw [decide_eq_false_iff_not, h2]; intro h; exact h4 h.2.1]
   exact fin
 ·rw [if_neg h3]
  rw [show (false : Bool) = c by rw [hc]; symm; rw [decide_eq_false_iff_not, h2]; intro h; exact h3 h.1]
  exact fin
theorem hit_comm (a b p : Pt) : Hit a b p ↔ Hit b a p := by unfold Hit; exact or_comm
theorem where_l0 {l : List Pt} {p : Pt} (hb : ∀ p ∈ l, Bd p) (hp : Bd p) (hN : l.length ≤ 1000000) : ∀ d i s, l.length = i + d → Rt (fun k => shape_where.l0 k l (if s = true then 1 else -1) (l.length : Int) (i : Int) p.f0 p.f1) (wh l p d i s) := by
 intro d
 induction d with
 | zero =>
  intro i s hi
  refine ⟨0 + 1, fun k hk => ?_⟩
  obtain ⟨k, rfl⟩ := fuel1 hk
  dsimp only; rw [shape_where.l0, if_neg (by omega)]; rfl
 | succ d ih =>
  intro i s hi
  have hlt : i < l.length := by omega
  have hBi := at_bd hb hlt
  have hBn := at_bd hb (show (i + 1) % l.length < l.length from Nat.mod_lt _ (by omega))
  have t1 := tmod_in (i + 1) l.length (by omega)
  obtain ⟨K, hK⟩ := ih (i + 1) (s != decide (Hit (at_ l i) (at_ l ((i + 1) % l.length)) p)) (by omega)
  refine ⟨K + 3, fun k hk => ?_⟩
  obtain ⟨k, rfl⟩ : ∃ m, k = m + 1 := ⟨k - 1, by omega⟩
  dsimp only
  rw [shape_where.l0, if_pos (by omega), if_pos (by omega), if_pos (by omega), if_neg (by omega), tmod_nat i _ (by omega), if_pos (by omega), if_pos (by omega), rd_at, rd_at, on_f hBi hBn hp, Option.bind_some]
  unfold wh
  by_cases h1 : On (at_ l i) (at_ l ((i + 1) % l.length)) p
  ·rw [if_pos (by simpa using h1), if_pos h1]
  ·rw [if_neg (by simpa using h1), if_neg h1]
   by_cases h2 : (at_ l i).f1 > (at_ l ((i + 1) % l.length)).f1
   ·rw [if_pos h2]
    exact where_j1 hp hBn hBi (by omega) s i (by rw [decide_eq_decide]; exact hit_comm _ _ _) hlt hN K hK k (by omega)
   ·rw [if_neg h2]
    exact where_j1 hp hBi hBn (by omega) s i rfl hlt hN K hK k (by omega)
theorem where_run {l : List Pt} {p : Pt} (hb : ∀ p ∈ l, Bd p) (hp : Bd p) (hN : l.length ≤ 1000000) : Rt (fun k => shape_where.f k l p.f0 p.f1) (whereOf l p) := by
 obtain ⟨K, hK⟩ := where_l0 hb hp hN l.length 0 false (by omega)
 exact ⟨K, fun k hk => hK k hk⟩
end Go.Proofs.Ytoffmpkgickfhaa.M
end
section
namespace Go.Proofs.Ytoffmpkgickfhaa.M
open Go.RowKit Go.Proofs.Ytoffmpkgickfhaa.PG Go.Proofs.YtoffmpkgickfhaaW.PrintMore Go.Proofs.YtoffmpkgickfhaaW.PrintWords
def nx (h : List Pt) (i : Nat) : Nat := (i + 1) % h.length
theorem nx_lt {h : List Pt} {i : Nat} (hi : i < h.length) : nx h i < h.length := Nat.mod_lt _ (by omega)
theorem prev_of {h : List Pt} {i : Nat} (hi : i < h.length) : ∃ j, j < h.length ∧ nx h j = i := by
 unfold nx
 by_cases h0 : i = 0
 ·exact ⟨h.length - 1, by omega, by rw [show h.length - 1 + 1 = h.length by omega, Nat.mod_self, h0]⟩
 ·exact ⟨i - 1, by omega, by rw [show i - 1 + 1 = i by omega, Nat.mod_eq_of_lt hi]⟩
theorem one_up {S h : List Pt} (r : Ring S h) {i j : Nat} (hi : i < h.length) (hj : j < h.length) {y : Int}
  (ai : (at_ h i).f1 ≤ y) (bi : y < (at_ h (nx h i)).f1) (aj : (at_ h j).f1 ≤ y) (bj : y < (at_ h (nx h j)).f1) : i = j := by
 have ei : HE S (at_ h i) (at_ h (nx h i)) := ring_at r i hi
 have ej : HE S (at_ h j) (at_ h (nx h j)) := ring_at r j hj
 have ci := ring_corner r i hi
 have cj := ring_corner r j hj
 have cj' := ring_corner r _ (nx_lt hj)
 apply ring_inj r i j hi hj
 generalize ha : at_ h i = a at *
 generalize hb : at_ h (nx h i) = b at *
 generalize hc : at_ h j = c at *
 generalize hd : at_ h (nx h j) = d at *
 obtain ⟨nab, Sa, Sb, Lab⟩ := ei
 obtain ⟨ncd, Sc, Sd, Lcd⟩ := ej
 have p1 := (Lab c Sc).1
 have p2 := (Lab d Sd).1
 have p3 := (Lcd a Sa).1
 have p4 := (Lcd b Sb).1
 have id : (d.f1 - y) * cr a b c + (y - c.f1) * cr a b d = -((b.f1 - y) * cr c d a + (y - a.f1) * cr c d b) := by
  rw [cr_eq, cr_eq, cr_eq, cr_eq]; grind
 have m1 : 0 ≤ (d.f1 - y) * cr a b c := Int.mul_nonneg (by omega) p1
 have m2 : 0 ≤ (y - c.f1) * cr a b d := Int.mul_nonneg (by omega) p2
 have m3 : 0 ≤ (b.f1 - y) * cr c d a := Int.mul_nonneg (by omega) p3
 have m4 : 0 ≤ (y - a.f1) * cr c d b := Int.mul_nonneg (by omega) p4
 have z1 : (d.f1 - y) * cr a b c = 0 := by omega
 have z2 : (y - c.f1) * cr a b d = 0 := by omega
 have cz : cr a b c = 0 := by
  rcases Int.mul_eq_zero.mp z1 with h | h
  ·omega
  ·exact h
 have bc := (Lab c Sc).2 cz
 rcases corner_not_between cj.1 Sa Sb nab cz bc with e | e
 ·exact e.symm
 ·exfalso
  rw [e] at aj; omega
theorem some_higher {S h : List Pt} (r : Ring S h) (h3 : 3 ≤ h.length) {p : Pt} (hp : ∀ i, i < h.length → 0 < cr (at_ h i) (at_ h (nx h i)) p) : ∃ j, j < h.length ∧ p.f1 < (at_ h j).f1 := by
 apply Classical.byContradiction
 intro hn
 have hle : ∀ j, j < h.length → (at_ h j).f1 ≤ p.f1 := fun j hj => by
  apply Classical.byContradiction
  intro h1; exact hn ⟨j, hj, by omega⟩
 have hmax : ∀ n, 0 < n → n ≤ h.length → ∃ i, i < n ∧ ∀ j, j < n → (at_ h j).f1 ≤ (at_ h i).f1 := by
  intro n
  induction n with
  | zero => intro h; omega
  | succ n ih =>
   intro _ hn
   by_cases h0 : n = 0
   ·subst h0; exact ⟨0, by omega, fun j hj => by rw [show j = 0 by omega]; exact Int.le_refl _⟩
   ·obtain ⟨i, hi, hm⟩ := ih (by omega) (by omega)
    by_cases hc : (at_ h i).f1 ≤ (at_ h n).f1
    ·exact ⟨n, by omega, fun j hj => by
      rcases Nat.lt_or_ge j n with h1 | h1
      ·exact Int.le_trans (hm j h1) hc
      ·rw [show j = n by omega]; exact Int.le_refl _⟩
    ·exact ⟨i, by omega, fun j hj => by
      rcases Nat.lt_or_ge j n with h1 | h1
      ·exact hm j h1
      ·rw [show j = n by omega]; omega⟩
 obtain ⟨i, hi, hm⟩ := hmax h.length (by omega) (Nat.le_refl _)
 obtain ⟨j, hj, hji⟩ := prev_of hi
 have t := strong_turn h3 (ring_strong r) j hj
 have e1 : (j + 1) % h.length = i := hji
 have e2 : (j + 1 + 1) % h.length = nx h i := by unfold nx; rw [← e1, Nat.mod_add_mod]
 rw [e1, e2] at t
 have q1 := hp j hj
 rw [hji] at q1
 have q2 := hp i hi
 have u1 := hm j hj
 have u2 := hm _ (nx_lt hi)
 have u3 := hle i hi
 generalize at_ h i = v at *
 generalize at_ h j = u at *
 generalize at_ h (nx h i) = w at *
 have id : cr u v w * (p.f1 - v.f1) = cr v w p * (u.f1 - v.f1) + cr u v p * (w.f1 - v.f1) := by
  rw [cr_eq, cr_eq, cr_eq]; grind
 have m0 : 0 ≤ cr u v w * (p.f1 - v.f1) := Int.mul_nonneg (by omega) (by omega)
 have m1 : cr v w p * (u.f1 - v.f1) ≤ 0 := Int.mul_nonpos_of_nonneg_of_nonpos (by omega) (by omega)
 have m2 : cr u v p * (w.f1 - v.f1) ≤ 0 := Int.mul_nonpos_of_nonneg_of_nonpos (by omega) (by omega)
 have z1 : cr v w p * (u.f1 - v.f1) = 0 := by omega
 have z2 : cr u v p * (w.f1 - v.f1) = 0 := by omega
 have y1 : u.f1 = v.f1 := by
  rcases Int.mul_eq_zero.mp z1 with h | h <;> omega
 have y2 : w.f1 = v.f1 := by
  rcases Int.mul_eq_zero.mp z2 with h | h <;> omega
 rw [cr_eq, y1, y2] at t
 simp at t
theorem just_one {S h : List Pt} (r : Ring S h) (h3 : 3 ≤ h.length) {p : Pt} (hp : ∀ i, i < h.length → 0 < cr (at_ h i) (at_ h (nx h i)) p) (h0 : (at_ h 0).f1 ≤ p.f1) :
  ∃ i, i < h.length ∧ ∀ j, j < h.length → (Hit (at_ h j) (at_ h (nx h j)) p ↔ j = i) := by
 obtain ⟨j, hj, hy⟩ := some_higher r h3 hp
 have step : ∀ n, n < h.length → p.f1 < (at_ h n).f1 → ∃ i, i + 1 < h.length ∧ (at_ h i).f1 ≤ p.f1 ∧ p.f1 < (at_ h (i + 1)).f1 := by
  intro n
  induction n with
  | zero => intro _ h1; omega
  | succ n ih =>
   intro h1 h2
   rcases Int.lt_or_le p.f1 (at_ h n).f1 with h4 | h4
   ·exact ih (by omega) h4
   ·exact ⟨n, h1, h4, h2⟩
 obtain ⟨i, hi, a1, a2⟩ := step j hj hy
 have e : nx h i = i + 1 := by unfold nx; exact Nat.mod_eq_of_lt hi
 refine ⟨i, by omega, fun k hk => ⟨fun hh => ?_, fun hh => ?_⟩⟩
 ·rcases hh with ⟨b1, b2, _⟩ | ⟨b1, b2, b3⟩
  ·exact one_up r hk (by omega) b1 b2 a1 (by rw [e]; exact a2)
  ·exfalso
   have := hp k hk
   have : cr (at_ h (nx h k)) (at_ h k) p = - cr (at_ h k) (at_ h (nx h k)) p := by rw [cr_eq, cr_eq]; grind
   omega
 ·subst hh
  exact Or.inl ⟨a1, by rw [e]; exact a2, hp k hk⟩
theorem wh_on {l : List Pt} {p : Pt} : ∀ d i s, (∃ j, i ≤ j ∧ j < i + d ∧ On (at_ l j) (at_ l ((j + 1) % l.length)) p) → wh l p d i s = 0 := by
 intro d
 induction d with
 | zero => intro i s ⟨j, h1, h2, _⟩; omega
 | succ d ih =>
  intro i s ⟨j, h1, h2, h3⟩
  unfold wh
  by_cases h : On (at_ l i) (at_ l ((i + 1) % l.length)) p
  ·rw [if_pos h]
  ·rw [if_neg h]
   refine ih (i + 1) _ ⟨j, ?_, by omega, h3⟩
   rcases Nat.eq_or_lt_of_le h1 with rfl | h4
   ·exact absurd h3 h
   ·exact h4
theorem wh_one {l : List Pt} {p : Pt} {i0 : Nat} : ∀ d i s, (∀ j, i ≤ j → j < i + d → ¬ On (at_ l j) (at_ l ((j + 1) % l.length)) p) → (∀ j, i ≤ j → j < i + d → (Hit (at_ l j) (at_ l ((j + 1) % l.length)) p ↔ j = i0)) →
  wh l p d i s = if (s != decide (i ≤ i0 ∧ i0 < i + d)) = true then 1 else -1 := by
 intro d
 induction d with
 | zero =>
  intro i s _ _
  unfold wh
  rw [decide_eq_false (by omega)]; simp
 | succ d ih =>
  intro i s hon hhit
  unfold wh
  rw [if_neg (hon i (Nat.le_refl _) (by omega)), ih (i + 1) _ (fun j h1 h2 => hon j (by omega) (by omega)) (fun j h1 h2 => hhit j (by omega) (by omega))]
  have := hhit i (Nat.le_refl _) (by omega)
  by_cases h : i = i0
  ·rw [decide_eq_true (this.mpr h), decide_eq_false (p := i + 1 ≤ i0 ∧ i0 < i + 1 + d) (by omega), decide_eq_true (p := i ≤ i0 ∧ i0 < i + (d + 1)) (by omega)]; simp
  ·rw [decide_eq_false (fun h2 => h (this.mp h2))]
   rw [show decide (i + 1 ≤ i0 ∧ i0 < i + 1 + d) = decide (i ≤ i0 ∧ i0 < i + (d + 1)) by rw [decide_eq_decide]; omega]; simp
theorem ring_where {S h : List Pt} (r : Ring S h) (h3 : 3 ≤ h.length) (hfirst : ∀ p ∈ S, p = at_ h 0 ∨ first (at_ h 0) p) {p : Pt} (hp : p ∈ S) : 0 ≤ whereOf h p := by
 unfold whereOf
 by_cases hon : ∃ j, j < h.length ∧ On (at_ h j) (at_ h ((j + 1) % h.length)) p
 ·obtain ⟨j, h1, h2⟩ := hon
  rw [wh_on h.length 0 false ⟨j, Nat.zero_le _, by omega, h2⟩]; omega
 ·have hoff : ∀ j, j < h.length → ¬ On (at_ h j) (at_ h ((j + 1) % h.length)) p := fun j hj h => hon ⟨j, hj, h⟩
  have hpos : ∀ i, i < h.length → 0 < cr (at_ h i) (at_ h (nx h i)) p := by
   intro i hi
   have e : HE S (at_ h i) (at_ h (nx h i)) := ring_at r i hi
   obtain ⟨e1, e2⟩ := e.2.2.2 p hp
   rcases Int.lt_or_le 0 (cr (at_ h i) (at_ h (nx h i)) p) with h1 | h1
   ·exact h1
   ·have h2 : cr (at_ h i) (at_ h (nx h i)) p = 0 := by omega
    exact absurd ⟨h2, e2 h2⟩ (hoff i hi)
  have h0 : (at_ h 0).f1 ≤ p.f1 := by
   rcases hfirst p hp with e | e
   ·rw [e]; exact Int.le_refl _
   ·unfold first at e; omega
  obtain ⟨i0, hi0, hh⟩ := just_one r h3 hpos h0
  rw [wh_one (i0 := i0) h.length 0 false (fun j _ hj => hoff j (by omega)) (fun j _ hj => hh j (by omega)), decide_eq_true (by omega)]
  simp
end Go.Proofs.Ytoffmpkgickfhaa.M
end
section
namespace Go.Proofs.Ytoffmpkgickfhaa.M
open Go.Proofs.Ytoffmpkgickfhaa.PG
def pop (p : Pt) : List Pt → List Pt
 | t :: s :: r => if cr s t p ≤ 0 then pop p (s :: r) else t :: s :: r
 | l => l
def push (st : List Pt) (p : Pt) : List Pt := p :: pop p st
def chain (l : List Pt) : List Pt := (l.foldl push []).reverse
section
variable (p q : Int)
def Stk (S : List Pt) (o : Pt) : List Pt → Prop
 | [] => False
 | [a] => a = o
 | t :: s :: r => 0 < fn p q s t ∧ HE S s t ∧ Stk S o (s :: r)
def Rises (S : List Pt) (o : Pt) : Prop := o ∈ S ∧ (∀ a ∈ S, a = o ∨ 0 < fn p q o a) ∧ ∀ a ∈ S, ∀ b ∈ S, fn p q a b = 0 → a = b
theorem stk_mem {S : List Pt} {o : Pt} (ho : o ∈ S) : ∀ {st : List Pt}, Stk p q S o st → ∀ a ∈ st, a ∈ S
 | [a], h, b, hb => by simp at hb; subst hb; rw [show b = o from h]; exact ho
 | t :: s :: r, h, b, hb => by
  rcases List.mem_cons.mp hb with rfl | hb
  ·exact h.2.1.2.2.1
  ·exact stk_mem ho h.2.2 b hb
def Top (S : List Pt) (x : Pt) : List Pt → Prop
 | [] => False
 | t :: _ => ∀ b ∈ S, 0 < fn p q t b → 0 ≤ cr t x b ∧ (cr t x b = 0 → btw t x b)
theorem pop_ok {S : List Pt} {o x : Pt} (hS : Rises p q S o) (hx : ∀ a ∈ S, 0 < fn p q a x) :
  ∀ (st : List Pt), Stk p q S o st → Top p q S x st → Stk p q S o (pop x st) ∧ Top p q S x (pop x st) ∧ (∀ t s r, pop x st = t :: s :: r → 0 < cr s t x)
 | [], h, _ => h.elim
 | [a], h, ht => ⟨h, ht, by intro t s r e; simp [pop] at e⟩
 | t :: s :: r, h, ht => by
  unfold pop
  split
  ·rename_i hle
   apply pop_ok hS hx (s :: r) h.2.2
   intro b hb hsb
   obtain ⟨hst, hne, _⟩ := h
   have he := hne.2.2.2 b hb
   have hsm : s ∈ S := hne.2.1
   have h1 : 0 ≤ cr s x t := by rw [cr_swap]; omega
   have := tr (hx s hsm) hst hsb h1 he.1
   refine ⟨this.1, fun h0 => ?_⟩
   have a1 : cr s x t = 0 := by
    rcases Int.lt_trichotomy 0 (cr s x t) with h2 | h2 | h2
    ·have := this.2 (.inl h2); omega
    ·exact h2.symm
    ·omega
   refine btw_of_fn (hx s hsm) (Int.le_of_lt hsb) ?_ h0
   rw [fn_add p q s b x]; have := hx b hb; omega
  ·rename_i hgt
   refine ⟨h, ht, ?_⟩
   intro t' s' r' e
   simp only [List.cons.injEq] at e
   obtain ⟨rfl, rfl, _⟩ := e
   omega
theorem left_all {S : List Pt} {o x : Pt} (hx : ∀ a ∈ S, 0 < fn p q a x) :
  ∀ (st : List Pt), Stk p q S o st → (∀ t s r, st = t :: s :: r → 0 < cr s t x) → Stk p q (S ++ [x]) o st
 | [], h, _ => h.elim
 | [a], h, _ => h
 | t :: s :: r, h, hc => by
  obtain ⟨hst, hne, hr⟩ := h
  have c1 := hc t s r rfl
  refine ⟨hst, ⟨hne.1, by simp [hne.2.1], by simp [hne.2.2.1], ?_⟩, left_all hx (s :: r) hr ?_⟩
  ·intro b hb
   rcases List.mem_append.mp hb with hb | hb
   ·exact hne.2.2.2 b hb
   ·simp at hb; subst hb
    exact ⟨by omega, fun h => by omega⟩
  ·intro s' u r' e
   simp only [List.cons.injEq] at e
   obtain ⟨rfl, rfl⟩ := e
   obtain ⟨hus, hue, _⟩ := hr
   have d0 := hue.2.2.2 t hne.2.2.1
   have d1 : 0 < cr u s t := by
    rcases Int.lt_trichotomy 0 (cr u s t) with h2 | h2 | h2
    ·exact h2
    ·have := (fn_btw_le (d0.2 h2.symm) h2.symm hus).2
     rw [fn_add p q u s t] at this; omega
    ·omega
   have e1 : cr u s x = cr u s ⟨s.f0 + (x.f0 - s.f0), s.f1 + (x.f1 - s.f1)⟩ := by unfold cr; grind
   let o' : Pt := ⟨0, 0⟩
   let du : Pt := ⟨s.f0 - u.f0, s.f1 - u.f1⟩
   let dv : Pt := ⟨t.f0 - s.f0, t.f1 - s.f1⟩
   let dw : Pt := ⟨x.f0 - s.f0, x.f1 - s.f1⟩
   have g1 : fn p q o' du = fn p q u s := by simp only [fn, o', du]; grind
   have g2 : fn p q o' dv = fn p q s t := by simp only [fn, o', dv]; grind
   have g3 : fn p q o' dw = fn p q s x := by simp only [fn, o', dw]; grind
   have c2 : cr o' du dv = cr u s t := by simp only [cr, o', du, dv]; grind
   have c3 : cr o' dv dw = cr s t x := by simp only [cr, o', dv, dw]; grind
   have c4 : cr o' du dw = cr u s x := by simp only [cr, o', du, dw]; grind
   have := tr (p := p) (q := q) (o := o') (u := du) (v := dv) (w := dw) (by omega) (by omega) (by rw [g3]; exact hx s hne.2.1) (by omega) (by omega)
   have := this.2 (.inl (by omega))
   omega
theorem push_ok {S : List Pt} {o x : Pt} (hS : Rises p q S o) (hx : ∀ a ∈ S, 0 < fn p q a x) (st : List Pt) (h : Stk p q S o st)
  (ht : ∀ t r, st = t :: r → ∀ b ∈ S, fn p q t b ≤ 0) : Stk p q (S ++ [x]) o (push st x) := by
 have hT : Top p q S x st := by
  match st, h, ht with
  | t :: r, _, ht => intro b hb hp; have := ht t r rfl b hb; omega
 obtain ⟨h1, h2, h3⟩ := pop_ok p q hS hx st h hT
 have h4 := left_all p q hx _ h1 h3
 unfold push
 generalize pop x st = st' at *
 match st', h1, h2, h3, h4 with
 | t :: r, h1, h2, h3, h4 =>
  have htm : t ∈ S := stk_mem p q hS.1 h1 t (by simp)
  refine ⟨hx t htm, ⟨?_, by simp [htm], by simp, ?_⟩, h4⟩
  ·intro e; have := hx t htm; rw [e] at this; simp [fn] at this
  ·intro b hb
   rcases List.mem_append.mp hb with hb | hb
   ·rcases Int.lt_trichotomy 0 (fn p q t b) with h5 | h5 | h5
    ·exact h2 b hb h5
    ·obtain rfl := hS.2.2 t htm b hb h5.symm
     rw [cr_self1]; refine ⟨by omega, fun _ => ?_⟩; unfold btw; omega
    ·-- b lies before t
     match r, h1, h3 with
     | [], h1, _ =>
      rw [show t = o from h1] at h5
      rcases hS.2.1 b hb with rfl | h6
      ·simp [fn] at h5
      ·omega
     | s :: r', h1, h3 =>
      obtain ⟨hst, hne, _⟩ := h1
      have c1 := h3 t s r' rfl
      have c2 := (hne.2.2.2 b hb).1
      let o' : Pt := ⟨0, 0⟩
      let du : Pt := ⟨t.f0 - b.f0, t.f1 - b.f1⟩
      let dv : Pt := ⟨t.f0 - s.f0, t.f1 - s.f1⟩
      let dw : Pt := ⟨x.f0 - t.f0, x.f1 - t.f1⟩
      have g1 : fn p q o' du = - fn p q t b := by simp only [fn, o', du]; grind
      have g2 : fn p q o' dv = fn p q s t := by simp only [fn, o', dv]; grind
      have g3 : fn p q o' dw = fn p q t x := by simp only [fn, o', dw]; grind
      have k2 : cr o' du dv = cr s t b := by simp only [cr, o', du, dv]; grind
      have k3 : cr o' dv dw = cr s t x := by simp only [cr, o', dv, dw]; grind
      have k4 : cr o' du dw = cr t x b := by simp only [cr, o', du, dw]; grind
      have := tr (p := p) (q := q) (o := o') (u := du) (v := dv) (w := dw) (by omega) (by omega) (by rw [g3]; exact hx t htm) (by omega) (by omega)
      have := this.2 (.inr (by omega))
      exact ⟨by omega, fun h => by omega⟩
   ·simp at hb; subst hb
    rw [cr_self2]; refine ⟨by omega, fun _ => ?_⟩; unfold btw; omega
def Up : List Pt → Prop
 | [] => True
 | a :: l => (∀ b ∈ l, 0 < fn p q a b) ∧ Up l
theorem up_append {l : List Pt} {x : Pt} : Up p q (l ++ [x]) → Up p q l ∧ ∀ a ∈ l, 0 < fn p q a x := by
 induction l with
 | nil => intro _; exact ⟨trivial, by simp⟩
 | cons a l ih =>
  intro h
  obtain ⟨h1, h2⟩ := ih h.2
  refine ⟨⟨fun b hb => h.1 b (by simp [hb]), h1⟩, ?_⟩
  intro b hb
  rcases List.mem_cons.mp hb with rfl | hb
  ·exact h.1 x (by simp)
  ·exact h2 b hb
theorem up_rises {o : Pt} {l : List Pt} (h : Up p q (o :: l)) : Rises p q (o :: l) o := by
 refine ⟨by simp, ?_, ?_⟩
 ·intro a ha
  rcases List.mem_cons.mp ha with rfl | ha
  ·exact .inl rfl
  ·exact .inr (h.1 a ha)
 ·intro a ha b hb e
  have : ∀ l : List Pt, Up p q l → ∀ a ∈ l, ∀ b ∈ l, fn p q a b = 0 → a = b := by
   intro l
   induction l with
   | nil => intro _ a ha; simp at ha
   | cons c l ih =>
    intro h a ha b hb e
    rcases List.mem_cons.mp ha with h1 | h1 <;> rcases List.mem_cons.mp hb with h2 | h2
    ·rw [h1, h2]
    ·subst h1; have := h.1 b h2; omega
    ·subst h2; have := h.1 a h1; rw [fn_neg] at this; omega
    ·exact ih h.2 a h1 b h2 e
  exact this _ h a ha b hb e
theorem chain_stk (o : Pt) (l : List Pt) (h : Up p q (o :: l)) : Stk p q (o :: l) o ((o :: l).foldl push []) ∧ ((o :: l).foldl push []).head? = (o :: l).getLast? := by
 suffices H : ∀ n (l : List Pt), l.length = n → Up p q (o :: l) → Stk p q (o :: l) o ((o :: l).foldl push []) ∧ ((o :: l).foldl push []).head? = (o :: l).getLast? from H _ l rfl h
 intro n
 induction n with
 | zero =>
  intro l hl _
  obtain rfl := List.eq_nil_of_length_eq_zero hl
  exact ⟨rfl, rfl⟩
 | succ n ih =>
  intro l hl hu
  have hne : l ≠ [] := by intro e; subst e; simp at hl
  obtain ⟨l', x, rfl⟩ : ∃ l' x, l = l' ++ [x] := ⟨l.dropLast, l.getLast hne, (List.dropLast_concat_getLast hne).symm⟩
  have hu' := up_append p q (l := o :: l') (x := x) (by simpa using hu)
  obtain ⟨h1, h2⟩ := ih l' (by simp at hl; omega) hu'.1
  rw [← List.cons_append, List.foldl_append]
  simp only [List.foldl_cons, List.foldl_nil]
  refine ⟨?_, by rw [List.getLast?_concat]; rfl⟩
  apply push_ok p q (up_rises p q hu'.1) hu'.2 _ h1
  intro t r e b hb
  have e2 : (o :: l').getLast? = some t := by rw [← h2]; simp only [List.foldl_cons] at e ⊢; rw [e]; rfl
  have : ∀ (l : List Pt), Up p q l → l.getLast? = some t → ∀ b ∈ l, fn p q t b ≤ 0 := by
   intro l
   induction l with
   | nil => intro _ _ b hb; simp at hb
   | cons c l ih =>
    intro hu e b hb
    cases l with
    | nil => simp at e hb; subst e; subst hb; simp [fn]
    | cons d l =>
     have e' : (d :: l).getLast? = some t := by simpa using e
     rcases List.mem_cons.mp hb with h1 | h1
     ·have := hu.1 t (List.mem_of_getLast? e'); subst h1; rw [fn_neg]; omega
     ·exact ih hu.2 e' b h1
  exact this _ hu'.1 e2 b hb
end
section
variable (p q : Int)
theorem stk_pairs {S : List Pt} {o : Pt} : ∀ {st : List Pt}, Stk p q S o st → Pairs (fun a b => HE S a b ∧ 0 < fn p q a b) st.reverse ∧ st.reverse.head? = some o
 | [a], h => by have e : a = o := h; subst e; exact ⟨trivial, rfl⟩
 | t :: s :: r, h => by
  obtain ⟨h1, h2⟩ := stk_pairs (st := s :: r) h.2.2
  rw [List.reverse_cons] at h1 h2
  rw [List.reverse_cons, List.reverse_cons]
  refine ⟨?_, ?_⟩
  ·rw [List.append_assoc]
   exact Pairs.append r.reverse [t] h1 ⟨⟨h.2.1, h.1⟩, trivial⟩
  ·rw [List.head?_append, h2]; rfl
theorem chain_ok (o : Pt) (l : List Pt) (h : Up p q (o :: l)) :
  Pairs (fun a b => HE (o :: l) a b ∧ 0 < fn p q a b) (chain (o :: l)) ∧ (chain (o :: l)).head? = some o ∧ (chain (o :: l)).getLast? = (o :: l).getLast? := by
 obtain ⟨h1, h2⟩ := chain_stk p q o l h
 obtain ⟨h3, h4⟩ := stk_pairs p q h1
 exact ⟨h3, h4, by unfold chain; rw [List.getLast?_reverse, h2]⟩
end
theorem pairs_up {p q : Int} : ∀ (l : List Pt), Pairs (fun a b => 0 < fn p q a b) l → Up p q l
 | [], _ => trivial
 | [a], _ => ⟨by simp, trivial⟩
 | a :: b :: l, h => by
  have h2 := pairs_up (b :: l) h.2
  refine ⟨?_, h2⟩
  intro c hc
  rcases List.mem_cons.mp hc with rfl | hc
  ·exact h.1
  ·have := h2.1 c hc; have := h.1; rw [fn_add p q a b c]; omega
def andrew (l : List Pt) : List Pt := (chain l).dropLast ++ (chain l.reverse).dropLast
theorem up_neg {p q : Int} : ∀ (l : List Pt), Up p q l → Up (-p) (-q) l.reverse := by
 intro l
 suffices H : ∀ l m : List Pt, Up p q l → Up (-p) (-q) m → (∀ a ∈ l, ∀ b ∈ m, 0 < fn p q b a) → Up (-p) (-q) (l.reverse ++ m) by
  intro h; have := H l [] h trivial (by simp); simpa using this
 intro l
 induction l with
 | nil => intro m _ h _; exact h
 | cons a l ih =>
  intro m h hm hb
  rw [List.reverse_cons, List.append_assoc]
  apply ih _ h.2
  ·refine ⟨?_, hm⟩
   intro b hb'
   have := hb a (by simp) b (by simpa using hb')
   rw [fn_neg] at this
   unfold fn at this ⊢; grind
  ·intro c hc b hb'
   rcases List.mem_cons.mp hb' with rfl | hb'
   ·exact h.1 c hc
   ·exact hb c (by simp [hc]) b (by simpa using hb')
theorem andrew_ring (p q : Int) (l : List Pt) (h : Up p q l) (h2 : ∃ a b, a ∈ l ∧ b ∈ l ∧ a ≠ b) : Ring l (andrew l) := by
 match l, h, h2 with
 | o :: l, h, h2 =>
  obtain ⟨c1, c2, c3⟩ := chain_ok p q o l h
  have hr := up_neg _ h
  obtain ⟨z, m, e⟩ : ∃ z m, (o :: l).reverse = z :: m := by
   match hh : (o :: l).reverse with
   | [] => simp at hh
   | z :: m => exact ⟨z, m, rfl⟩
  rw [e] at hr
  obtain ⟨d1, d2, d3⟩ := chain_ok (-p) (-q) z m hr
  have hz : (o :: l).getLast? = some z := by rw [← List.head?_reverse, e]; rfl
  have ho : (z :: m).getLast? = some o := by rw [← e, List.getLast?_reverse]; rfl
  rw [hz] at c3
  rw [ho] at d3
  have hmem : ∀ a, a ∈ z :: m ↔ a ∈ o :: l := by intro a; rw [← e, List.mem_reverse]
  have d1' : Pairs (fun a b => HE (o :: l) a b ∧ 0 < fn (-p) (-q) a b) (chain (z :: m)) := Pairs.mono (fun a b h => ⟨he_congr hmem h.1, h.2⟩) _ d1
  have hne : o ≠ z := by
   rintro rfl
   have hall : ∀ a ∈ o :: l, a = o := by
    intro a ha
    rcases (up_rises p q h).2.1 a ha with h3 | h3
    ·exact h3
    ·rcases (up_rises _ _ hr).2.1 a ((hmem a).2 ha) with h4 | h4
     ·exact h4
     ·unfold fn at h3 h4; grind
   obtain ⟨a, b, ha, hb, hab⟩ := h2
   exact hab ((hall a ha).trans (hall b hb).symm)
  unfold andrew
  rw [e]
  obtain ⟨lo, hlo⟩ : ∃ lo, chain (o :: l) = o :: lo ++ [z] := by
   match hc : chain (o :: l), c2, c3 with
   | [a], c2, c3 => simp at c2 c3; exact absurd (c2.symm.trans c3) hne
   | a :: b :: r, c2, c3 =>
    simp only [List.head?_cons, Option.some.injEq] at c2
    subst c2
    refine ⟨(b :: r).dropLast, ?_⟩
    rw [hc] at c3
    have e3 : (b :: r).getLast (by simp) = z := by
     rw [List.getLast?_cons_cons, List.getLast?_eq_some_getLast (by simp)] at c3; simpa using c3
    rw [List.cons_append, ← e3, List.dropLast_concat_getLast]
  obtain ⟨up, hup⟩ : ∃ up, chain (z :: m) = z :: up ++ [o] := by
   match hc : chain (z :: m), d2, d3 with
   | [a], c2, c3 => simp at c2 c3; exact absurd (c3.symm.trans c2) hne
   | a :: b :: r, c2, c3 =>
    simp only [List.head?_cons, Option.some.injEq] at c2
    subst c2
    refine ⟨(b :: r).dropLast, ?_⟩
    rw [hc] at d3
    have e3 : (b :: r).getLast (by simp) = o := by
     rw [List.getLast?_cons_cons, List.getLast?_eq_some_getLast (by simp)] at d3; simpa using d3
    rw [List.cons_append, ← e3, List.dropLast_concat_getLast]
  rw [hlo] at c1 ⊢
  rw [hup] at d1' ⊢
  rw [List.dropLast_concat, List.dropLast_concat]
  have uplo := pairs_up _ (Pairs.mono (fun a b h => h.2) _ c1)
  have upup := pairs_up _ (Pairs.mono (fun a b h => h.2) _ d1')
  refine ⟨o, lo ++ z :: up, rfl, ?_, ?_⟩
  ·intro hm
   rcases List.mem_append.mp hm with hm | hm
   ·have := uplo.1 o (by simp [hm]); simp [fn] at this
   ·-- o in the upper chain, ahead of its end
    have : ∀ (r : List Pt), Up (-p) (-q) (r ++ [o]) → o ∉ r := fun r hu hm => by
     have := (up_append _ _ hu).2 o hm; simp [fn] at this
    exact this (z :: up) upup hm
  ·have g1 := Pairs.mono (R' := HE (o :: l)) (fun a b h => h.1) _ c1
   have g2 := Pairs.mono (R' := HE (o :: l)) (fun a b h => h.1) _ d1'
   have := Pairs.append (o :: lo) (up ++ [o]) (by simpa using g1) (by simpa using g2)
   simpa using this
theorem andrew_flat {p q : Int} {l : List Pt} (h : Up p q l) (hf : Flat l) : (andrew l).length < 3 := by
 by_cases h2 : ∃ a b, a ∈ l ∧ b ∈ l ∧ a ≠ b
 ·exact flat_ring (andrew_ring p q l h h2) hf
 ·match l, h with
  | [], _ => simp [andrew, chain]
  | [a], _ => simp [andrew, chain, push, pop]
  | a :: b :: l, h =>
   exfalso
   apply h2
   refine ⟨a, b, by simp, by simp, ?_⟩
   rintro rfl
   have := h.1 a (by simp)
   simp [fn] at this
end Go.Proofs.Ytoffmpkgickfhaa.M
end
section
namespace Go.Proofs.Ytoffmpkgickfhaa.M
open Go.RowKit Go.Proofs.Ytoffmpkgickfhaa.PG Go.Proofs.YtoffmpkgickfhaaW.PrintMore Go.Proofs.YtoffmpkgickfhaaW.PrintWords
theorem concat_run (a b : List Pt) (hN : a.length + b.length ≤ 1000000) : Rt (fun k => api_Point_57.f k [a, b]) (a ++ b) := by
 refine ⟨6, fun k hk => ?_⟩
 obtain ⟨k, rfl⟩ : ∃ m, k = m + 6 := ⟨k - 6, by omega⟩
 unfold api_Point_57.f
 have r0 : rd_L2 [a, b] 0 = a := rfl
 have r1 : rd_L2 [a, b] 1 = b := rfl
 have w1 : wrap64 (0 + 1) = 1 := by unfold wrap64; omega
 have w2 : wrap64 (1 + 1) = 2 := by unfold wrap64; omega
 have ln : (([a, b] : List (List S29)).length : Int) = 2 := rfl
 dsimp only
 rw [api_Point_57.l0, ln, if_pos (by omega), if_pos (by omega), if_pos (by omega), r0, wz (0 + (a.length : Int)) (by omega) (by omega), if_neg (by omega), w1, api_Point_57.l0, ln, if_pos (by omega), if_pos (by omega), if_pos (by omega), r1, wz _ (by omega) (by omega), if_neg (by omega), w2, api_Point_57.l0, if_neg (by omega)]
 rw [show slices_Grow_nil.f (0 + (a.length : Int) + (b.length : Int)) = some [] by unfold slices_Grow_nil.f; rw [if_pos (by omega)], Option.bind_some]
 rw [api_Point_57.l1, ln, if_pos (by omega), if_pos (by omega), if_pos (by omega), r0, if_pos (by simp; omega), w1, api_Point_57.l1, ln, if_pos (by omega), if_pos (by omega), if_pos (by omega), r1, if_pos (by simp; omega), w2, api_Point_57.l1, if_neg (by omega)]
 rfl
theorem index_run {l : List Pt} {p : Pt} (hp : p ∈ l) (hN : l.length ≤ 1000000) : ∃ i, i < l.length ∧ at_ l i = p ∧ Rt (fun k => api_Point_93.f k l p.f0 p.f1) (i : Int) := by
 have H : ∀ d i, l.length = i + d → (∃ j, i ≤ j ∧ j < l.length ∧ at_ l j = p) → ∃ j, j < l.length ∧ at_ l j = p ∧ Rt (fun k => api_Point_93.l0 k l (l.length : Int) (i : Int) p.f0 p.f1) (j : Int) := by
  intro d
  induction d with
  | zero => intro i hi ⟨j, h1, h2, _⟩; omega
  | succ d ih =>
   intro i hi ⟨j, h1, h2, h3⟩
   have hlt : i < l.length := by omega
   by_cases h : p = at_ l i
   ·refine ⟨i, hlt, h.symm, rt_ret fun k => ?_⟩
    rw [api_Point_93.l0, if_pos (by omega), if_pos (by omega), if_pos (by omega), rd_at, pt_beq, if_pos (by simpa using h)]
   ·obtain ⟨j', h4, h5, h6⟩ := ih (i + 1) (by omega) ⟨j, by
     rcases Nat.eq_or_lt_of_le h1 with rfl | h7
     ·exact absurd h3.symm h
     ·exact h7, h2, h3⟩
    refine ⟨j', h4, h5, rt_step (fun k => ?_) h6⟩
    rw [api_Point_93.l0, if_pos (by omega), if_pos (by omega), if_pos (by omega), rd_at, pt_beq, if_neg (by simpa using h), wrap_succ i (by omega)]
 obtain ⟨j, hj, rfl⟩ := List.mem_iff_getElem.mp hp
 obtain ⟨i, h1, h2, h3⟩ := H l.length 0 (by omega) ⟨j, Nat.zero_le _, hj, at_eq hj⟩
 exact ⟨i, h1, h2, h3⟩
theorem begun_run {l : List Pt} (h0 : 0 < l.length) (hN : l.length ≤ 1000000) : ∃ i, i < l.length ∧ (∀ p ∈ l, ¬ first p (at_ l i)) ∧ Rt (fun k => shape_begun.f k l) (l.drop i ++ l.take i) := by
 obtain ⟨r, ⟨K1, h1⟩, hr, hmin⟩ := min_run h0 hN
 obtain ⟨i, hi, hir, ⟨K2, h2⟩⟩ := index_run hr hN
 obtain ⟨K3, h3⟩ := concat_run (l.drop i) (l.take i) (by simp only [List.length_drop, List.length_take]; omega)
 refine ⟨i, hi, hir ▸ hmin, ⟨K1 + K2 + K3, fun k hk => ?_⟩⟩
 have a1 := h1 k (by omega)
 have a2 := h2 k (by omega)
 have a3 := h3 k (by omega)
 dsimp only at a1 a2 a3 ⊢
 unfold shape_begun.f
 rw [a1, Option.bind_some]
 dsimp only
 rw [a2, Option.bind_some, if_pos (by omega), if_pos (by omega), Int.toNat_natCast, a3, Option.bind_some]
theorem same_run (a b : List Pt) (hN : a.length ≤ 1000000) : ∃ c, Rt (fun k => cracknelref04_Same.f k a b) c ∧ (c = true ↔ a = b) := by
 by_cases hl : a.length = b.length
 ·have H : ∀ d i, a.length = i + d → ∃ c, Rt (fun k => cracknelref04_Same.l0 k a b (i : Int)) c ∧ (c = true ↔ ∀ j, i ≤ j → j < a.length → at_ a j = at_ b j) := by
   intro d
   induction d with
   | zero =>
    intro i hi
    refine ⟨true, rt_ret fun k => ?_, ⟨fun _ j h1 h2 => by omega, fun _ => rfl⟩⟩
    rw [cracknelref04_Same.l0, if_neg (by omega)]
   | succ d ih =>
    intro i hi
    have hlt : i < a.length := by omega
    obtain ⟨c, hc, hb⟩ := ih (i + 1) (by omega)
    rw [from_split hlt]
    by_cases h : at_ a i = at_ b i
    ·refine ⟨c, rt_step (fun k => ?_) hc, ?_⟩
     ·rw [cracknelref04_Same.l0, if_pos (by omega), if_pos (by omega), if_pos (by omega), rd_at, rd_at, if_neg (by simp [h]), wrap_succ i (by omega)]
     ·rw [hb]; exact ⟨fun h1 => ⟨h, h1⟩, fun h1 => h1.2⟩
    ·refine ⟨false, rt_ret fun k => ?_, ⟨fun h1 => by simp at h1, fun h1 => absurd h1.1 h⟩⟩
     have h5 : (!((at_ a i).f0 == (at_ b i).f0) || !((at_ a i).f1 == (at_ b i).f1)) = true := by
      have := pt_beq (at_ a i) (at_ b i)
      rw [decide_eq_false h] at this
      rw [← Bool.not_and, this]; rfl
     rw [cracknelref04_Same.l0, if_pos (by omega), if_pos (by omega), if_pos (by omega), rd_at, rd_at, if_pos h5]
  obtain ⟨c, ⟨K, hK⟩, hb⟩ := H a.length 0 (by omega)
  refine ⟨c, ⟨K, fun k hk => ?_⟩, ?_⟩
  ·unfold cracknelref04_Same.f; dsimp only; rw [if_pos (by omega)]; exact hK k hk
  ·rw [hb]
   constructor
   ·intro h
    apply List.ext_getElem hl
    intro j h1 h2
    rw [← at_eq h1, ← at_eq h2]; exact h j (Nat.zero_le _) h1
   ·rintro rfl j _ _; rfl
 ·refine ⟨false, ⟨0, fun k _ => ?_⟩, ⟨fun h => by simp at h, fun h => absurd (by rw [h]) hl⟩⟩
  unfold cracknelref04_Same.f; dsimp only; rw [if_neg (by omega)]
end Go.Proofs.Ytoffmpkgickfhaa.M
end
section
namespace Go.Proofs.Ytoffmpkgickfhaa.M
open Go.RowKit Go.Proofs.Ytoffmpkgickfhaa.PG Go.Proofs.YtoffmpkgickfhaaW.PrintMore Go.Proofs.YtoffmpkgickfhaaW.PrintWords
theorem pop_mem (p : Pt) : ∀ (st : List Pt), (∀ x ∈ pop p st, x ∈ st) ∧ (pop p st).length ≤ st.length := by
 intro st
 induction st with
 | nil => simp [pop]
 | cons t r ih =>
  cases r with
  | nil => simp [pop]
  | cons s r =>
   unfold pop
   split
   ·exact ⟨fun x hx => List.mem_cons_of_mem _ (ih.1 x hx), by have := ih.2; simp only [List.length_cons] at *; omega⟩
   ·exact ⟨fun x hx => hx, Nat.le_refl _⟩
theorem chain_l1 {l : List Pt} {i : Nat} {p : Pt} (hp : Bd p) (hN : l.length ≤ 1000000) (hi : i < l.length) : ∀ (st : List Pt), (∀ x ∈ st, Bd x) → st.length ≤ 1000000 → ∀ v, Rt (fun k => shape_chain.l0 k (push st p).reverse l (l.length : Int) ((i + 1 : Nat) : Int)) v →
  Rt (fun k => shape_chain.l1 k st.reverse (st.length : Int) l (l.length : Int) (i : Int) p.f0 p.f1) v := by
 intro st
 induction st with
 | nil =>
  intro hb hl v hv
  refine rt_step (fun k => ?_) hv
  rw [shape_chain.l1, if_neg (by simp), if_pos (by simp), wrap_succ i (by omega)]; rfl
 | cons t r ih =>
  intro hb hl v hv
  cases r with
  | nil =>
   refine rt_step (fun k => ?_) hv
   rw [shape_chain.l1, if_neg (by simp), if_pos (by simp), wrap_succ i (by omega)]; rfl
  | cons s r =>
   have hl' : r.length + 2 ≤ 1000000 := by simpa using hl
   have e0 : at_ (t :: s :: r).reverse r.length = s := by
    rw [at_eq (by simp)]; simp
   have e1 : at_ (t :: s :: r).reverse (r.length + 1) = t := by
    rw [at_eq (by simp)]; simp
   have hs : Bd s := hb s (by simp)
   have ht : Bd t := hb t (by simp)
   have l1 : ((t :: s :: r).length : Int) = (r.length : Int) + 2 := by simp; omega
   have l2 : ((t :: s :: r).reverse.length : Int) = (r.length : Int) + 2 := by simp
   by_cases hc : cr s t p ≤ 0
   ·have e : push (t :: s :: r) p = push (s :: r) p := by unfold push; rw [pop, if_pos hc]
    rw [e] at hv
    refine rt_step (fun k => ?_) (ih (fun x hx => hb x (List.mem_cons_of_mem _ hx)) (by simp only [List.length_cons]; omega) v hv)
    rw [shape_chain.l1, l1, l2, if_pos (by omega), wz _ (by omega) (by omega), wz _ (by omega) (by omega), if_pos (by omega), if_pos (by omega), if_pos (by omega), if_pos (by omega), show (r.length : Int) + 2 - 2 = (r.length : Int) by omega, show (r.length : Int) + 2 - 1 = ((r.length + 1 : Nat) : Int) by omega, rd_at, rd_at, e0, e1, side_f hs ht hp, Option.bind_some, if_pos hc, if_pos (by omega), Option.bind_some]
    have et : (t :: s :: r).reverse.take (((r.length + 1 : Nat) : Int)).toNat = (s :: r).reverse := by
     rw [Int.toNat_natCast, List.reverse_cons, List.take_append_of_le_length (by simp), List.take_of_length_le (by simp)]
    rw [et]; simp
   ·have e : push (t :: s :: r) p = p :: t :: s :: r := by unfold push; rw [pop, if_neg hc]
    rw [e] at hv
    refine rt_step (fun k => ?_) hv
    rw [shape_chain.l1, l1, l2, if_pos (by omega), wz _ (by omega) (by omega), wz _ (by omega) (by omega), if_pos (by omega), if_pos (by omega), if_pos (by omega), if_pos (by omega), show (r.length : Int) + 2 - 2 = (r.length : Int) by omega, show (r.length : Int) + 2 - 1 = ((r.length + 1 : Nat) : Int) by omega, rd_at, rd_at, e0, e1, side_f hs ht hp, Option.bind_some, if_neg hc, if_pos (by simp; omega), wrap_succ i (by omega), List.reverse_cons (a := p)]
theorem chain_run {l : List Pt} (hb : ∀ p ∈ l, Bd p) (hN : l.length ≤ 1000000) : Rt (fun k => shape_chain.f k l) (chain l) := by
 have H : ∀ d i (st : List Pt), l.length = i + d → (∀ x ∈ st, x ∈ l) → st.length ≤ i → Rt (fun k => shape_chain.l0 k st.reverse l (l.length : Int) (i : Int)) ((l.drop i).foldl push st).reverse := by
  intro d
  induction d with
  | zero =>
   intro i st hi _ _
   refine rt_ret fun k => ?_
   rw [shape_chain.l0, if_neg (by omega), List.drop_of_length_le (by omega), List.foldl_nil]
  | succ d ih =>
   intro i st hi hst hls
   have hlt : i < l.length := by omega
   rw [drop_at hlt, List.foldl_cons]
   have pm := pop_mem (at_ l i) st
   have := ih (i + 1) (push st (at_ l i)) (by omega) (fun x hx => by
    have hx : x = at_ l i ∨ x ∈ pop (at_ l i) st := by simpa [push] using hx
    rcases hx with rfl | hx
    ·exact at_mem hlt
    ·exact hst x (pm.1 x hx)) (by have := pm.2; simp only [push, List.length_cons]; omega)
   refine rt_step (fun k => ?_) (chain_l1 (at_bd hb hlt) hN hlt st (fun x hx => hb x (hst x hx)) (by omega) _ this)
   rw [shape_chain.l0, if_pos (by omega), if_pos (by omega), if_pos (by omega), rd_at]; simp
 exact H l.length 0 [] (by omega) (by simp) (by simp)
def lex (a b : Pt) : Prop := a.f0 < b.f0 ∨ (a.f0 = b.f0 ∧ a.f1 < b.f1)
theorem xyLt_lex (a b : Pt) : xyLt a b = true ↔ lex a b := by
 unfold xyLt lex; simp only [Bool.or_eq_true, Bool.and_eq_true, decide_eq_true_eq]
theorem cg_head (a : Pt) : ∀ (l : List Pt), ∃ t, slices_Compact.g (a :: l) = a :: t := by
 intro l
 induction l generalizing a with
 | nil => exact ⟨[], rfl⟩
 | cons b l ih =>
  unfold slices_Compact.g
  by_cases h : a.f0 = b.f0 ∧ a.f1 = b.f1
  ·rw [if_pos h]
   obtain ⟨t, e⟩ := ih b
   exact ⟨t, by rw [e, pt_ext h.1 h.2]⟩
  ·rw [if_neg h]; exact ⟨_, rfl⟩
theorem cg_mem (x : Pt) : ∀ (l : List Pt), x ∈ slices_Compact.g l ↔ x ∈ l := by
 intro l
 induction l with
 | nil => simp [slices_Compact.g]
 | cons a l ih =>
  cases l with
  | nil => simp [slices_Compact.g]
  | cons b l =>
   unfold slices_Compact.g
   by_cases h : a.f0 = b.f0 ∧ a.f1 = b.f1
   ·rw [if_pos h, ih, pt_ext h.1 h.2]; simp
   ·rw [if_neg h]; simp only [List.mem_cons] at ih ⊢; rw [ih]
theorem cg_length : ∀ (l : List Pt), (slices_Compact.g l).length ≤ l.length := by
 intro l
 induction l with
 | nil => simp [slices_Compact.g]
 | cons a l ih =>
  cases l with
  | nil => simp [slices_Compact.g]
  | cons b l =>
   unfold slices_Compact.g
   split
   ·exact Nat.le_trans ih (by simp)
   ·simp only [List.length_cons] at ih ⊢; omega
theorem cg_up {K : Int} (hK : K = 100000) : ∀ (l : List Pt), (∀ p ∈ l, In 10000 p) → l.Pairwise (fun a b => ¬ lex b a) → Pairs (fun a b => 0 < fn K 1 a b) (slices_Compact.g l) := by
 intro l
 induction l with
 | nil => intro _ _; trivial
 | cons a l ih =>
  cases l with
  | nil => intro _ _; trivial
  | cons b l =>
   intro hin hs
   have h2 := ih (fun p hp => hin p (List.mem_cons_of_mem _ hp)) (List.Pairwise.of_cons hs)
   unfold slices_Compact.g
   by_cases h : a.f0 = b.f0 ∧ a.f1 = b.f1
   ·rw [if_pos h]; exact h2
   ·rw [if_neg h]
    obtain ⟨t, e⟩ := cg_head b l
    rw [e] at h2 ⊢
    refine ⟨?_, h2⟩
    have hab := (List.pairwise_cons.mp hs).1 b (by simp)
    have ia := hin a (by simp)
    have ib := hin b (by simp)
    unfold lex at hab; unfold In at ia ib; unfold fn; subst hK
    omega
theorem sorted_xy (l : List Pt) : (l.mergeSort fun x y => !xyLt y x).Pairwise (fun a b => ¬ lex b a) := by
 have h := List.pairwise_mergeSort (le := fun x y : Pt => !xyLt y x) (by
  intro a b c h1 h2
  simp only [Bool.not_eq_true', Bool.eq_false_iff, ne_eq, xyLt_lex] at h1 h2 ⊢
  unfold lex at *; omega) (by
  intro a b
  simp only [Bool.or_eq_true, Bool.not_eq_true', Bool.eq_false_iff, ne_eq, xyLt_lex]
  unfold lex; omega) l
 refine List.Pairwise.imp (fun {a b} h1 => ?_) h
 simp only [Bool.not_eq_true', Bool.eq_false_iff, ne_eq, xyLt_lex] at h1
 exact h1
theorem hull_run {l : List Pt} (h1 : 1 ≤ l.length) (h32 : l.length ≤ 32) (hin : ∀ p ∈ l, In 10000 p) :
  (Flat l → Rt (fun k => shape_Hull.f k l) ([], 6)) ∧ (¬ Flat l → ∃ h, Rt (fun k => shape_Hull.f k l) (h, 0) ∧ Ring l h ∧ (∀ k, k < h.length → k = 0 ∨ first (at_ h 0) (at_ h k))) := by
 generalize hS : slices_Compact.g (l.mergeSort fun x y => !xyLt y x) = S
 have mem : ∀ x, x ∈ S ↔ x ∈ l := by intro x; rw [← hS, cg_mem]; exact List.mem_mergeSort
 have hlen : S.length ≤ 32 := by
  rw [← hS]; refine Nat.le_trans (cg_length _) ?_
  rw [List.length_mergeSort]; exact h32
 have hup : Up 100000 1 S := by
  rw [← hS]
  exact pairs_up _ (cg_up rfl _ (fun p hp => hin p (List.mem_mergeSort.mp hp)) (sorted_xy l))
 have hb : ∀ p ∈ S, Bd p := fun p hp => in_bd (hin p ((mem p).mp hp))
 have flat_iff : Flat S ↔ Flat l := by
  unfold Flat
  exact ⟨fun h a ha b hb c hc => h a ((mem a).mpr ha) b ((mem b).mpr hb) c ((mem c).mpr hc), fun h a ha b hb c hc => h a ((mem a).mp ha) b ((mem b).mp hb) c ((mem c).mp hc)⟩
 obtain ⟨K1, c1⟩ := chain_run hb (by omega)
 obtain ⟨K2, c2⟩ := chain_run (l := S.reverse) (fun p hp => hb p (List.mem_reverse.mp hp)) (by rw [List.length_reverse]; omega)
 have chl : ∀ L : List Pt, (chain L).length ≤ L.length := by
  intro L
  have H : ∀ (L st : List Pt), (L.foldl push st).length ≤ st.length + L.length := by
   intro L
   induction L with
   | nil => intro st; simp
   | cons a L ih =>
    intro st
    rw [List.foldl_cons]
    have := ih (push st a)
    have pm := (pop_mem a st).2
    have : (push st a).length = (pop a st).length + 1 := by simp [push]
    simp only [List.length_cons]; omega
  unfold chain; rw [List.length_reverse]; have := H L []; simpa using this
 have chn : ∀ L : List Pt, 0 < L.length → 0 < (chain L).length := by
  intro L hL
  unfold chain; rw [List.length_reverse]
  have H : ∀ (L st : List Pt), 0 < st.length → 0 < (L.foldl push st).length := by
   intro L
   induction L with
   | nil => intro st h; exact h
   | cons a L ih => intro st _; rw [List.foldl_cons]; exact ih _ (by simp [push])
  cases L with
  | nil => simp at hL
  | cons a L => rw [List.foldl_cons]; exact H _ _ (by simp [push])
 have hS0 : 0 < S.length := by
  cases hl : l with
  | nil => rw [hl] at h1; simp at h1
  | cons a t => exact List.length_pos_of_mem ((mem a).mpr (by rw [hl]; simp))
 have q1 := chl S
 have q2 := chl S.reverse
 have q3 := chn S hS0
 have q4 := chn S.reverse (by rw [List.length_reverse]; exact hS0)
 rw [List.length_reverse] at q2
 have and_eq : (chain S).take ((chain S).length - 1) ++ (chain S.reverse).take ((chain S.reverse).length - 1) = andrew S := by
  unfold andrew; rw [List.dropLast_eq_take, List.dropLast_eq_take]
 obtain ⟨K3, c3⟩ := concat_run ((chain S).take ((chain S).length - 1)) ((chain S.reverse).take ((chain S.reverse).length - 1)) (by simp only [List.length_take]; omega)
 rw [and_eq] at c3
 have alen : (andrew S).length ≤ 64 := by rw [← and_eq]; simp only [List.length_append, List.length_take]; omega
 have start : ∀ v, Rt (fun k => if ((andrew S).length : Int) < 3 then (some (([] : List (S29)), (6 : Int))) else ((shape_begun.f k (andrew S)).bind fun t132 => (some (t132, 0)))) v → Rt (fun k => shape_Hull.f k l) v := by
  rintro v ⟨K4, c4⟩
  refine ⟨K1 + K2 + K3 + K4 + 1, fun k hk => ?_⟩
  obtain ⟨k, rfl⟩ := fuel1 hk
  have a1 := c1 k (by omega)
  have a2 := c2 k (by omega)
  have a3 := c3 k (by omega)
  have a4 := c4 k (by omega)
  dsimp only at a1 a2 a3 a4 ⊢
  unfold shape_Hull.f
  rw [if_neg (by omega), if_neg (by omega), within_f _ _ (by omega) (by omega), Option.bind_some, decide_eq_true (p := ∀ p ∈ l, In 10000 p) hin]
  rw [shape_Hull.j0, if_neg (by simp), show slices_Clone.f l = some l by unfold slices_Clone.f; rw [if_pos (by omega)], Option.bind_some, show slices_SortFunc_xy.f l = some (l.mergeSort fun x y => !xyLt y x) by unfold slices_SortFunc_xy.f; rw [if_pos (by omega)], Option.bind_some]
  unfold slices_Compact.f slices_Reverse.f
  rw [Option.bind_some, hS, a1, Option.bind_some, Option.bind_some, a2, Option.bind_some, wz _ (by omega) (by omega), wz _ (by omega) (by omega), if_pos (by omega), if_pos (by omega), if_pos (by omega), if_pos (by omega), show ((chain S).length : Int) - 1 = (((chain S).length - 1 : Nat) : Int) by omega, show ((chain S.reverse).length : Int) - 1 = (((chain S.reverse).length - 1 : Nat) : Int) by omega, Int.toNat_natCast, Int.toNat_natCast, a3, Option.bind_some]
  exact a4
 constructor
 ·intro hf
  have := andrew_flat hup (flat_iff.mpr hf)
  refine start _ ⟨0, fun k _ => ?_⟩
  dsimp only; rw [if_pos (by omega)]
 ·intro hf
  have hfS : ¬ Flat S := fun h => hf (flat_iff.mp h)
  have ring := andrew_ring 100000 1 S hup (two_of_not_flat hfS)
  have h3 := ring_three ring hfS
  obtain ⟨i, hi, hmin, ⟨K5, c5⟩⟩ := begun_run (l := andrew S) (by omega) (by omega)
  refine ⟨(andrew S).drop i ++ (andrew S).take i, start _ ⟨K5, fun k hk => ?_⟩, ?_, ?_⟩
  ·have a5 := c5 k hk
   dsimp only at a5 ⊢
   rw [if_neg (by omega), a5, Option.bind_some]
  ·have r2 : Ring S ((andrew S).take i ++ (andrew S).drop i) := by rw [List.take_append_drop]; exact ring
   exact ring_congr mem (ring_rot r2 (by intro h; have := congrArg List.length h; simp only [List.length_drop, List.length_nil] at this; omega))
  ·have e0 : at_ ((andrew S).drop i ++ (andrew S).take i) 0 = at_ (andrew S) i := by
    rw [drop_at hi]; rfl
   have r2 : Ring S ((andrew S).drop i ++ (andrew S).take i) := ring_rot (by rw [List.take_append_drop]; exact ring) (by intro h; have := congrArg List.length h; simp only [List.length_drop, List.length_nil] at this; omega)
   intro k hk
   by_cases hk0 : k = 0
   ·exact Or.inl hk0
   ·right
    have hm : at_ ((andrew S).drop i ++ (andrew S).take i) k ∈ andrew S := by
     have := at_mem hk
     rcases List.mem_append.mp this with h | h
     ·exact List.mem_of_mem_drop h
     ·exact List.mem_of_mem_take h
    rw [e0]
    rcases first_tri (at_ (andrew S) i) (at_ ((andrew S).drop i ++ (andrew S).take i) k) with e | e | e
    ·exfalso
     rw [← e0] at e
     exact hk0 (ring_inj r2 0 k (by omega) hk e).symm
    ·exact e
    ·exact absurd e (hmin _ hm)
theorem hulls_one {l : List Pt} (h1 : 1 ≤ l.length) (h32 : l.length ≤ 32) (hin : ∀ p ∈ l, In 10000 p) :
  (Flat l → Rt (fun k => shape_Hull.f k l) ([], 6) ∧ Rt (fun k => cracknelref04_Hull.f k l) ([], false)) ∧
  (¬ Flat l → ∃ h, Rt (fun k => shape_Hull.f k l) (h, 0) ∧ Rt (fun k => cracknelref04_Hull.f k l) (h, true) ∧ Ring l h ∧ (∀ p ∈ l, p = at_ h 0 ∨ first (at_ h 0) p)) := by
 obtain ⟨a1, a2⟩ := hull_run h1 h32 hin
 obtain ⟨b1, b2⟩ := refHull_run (l := l) (fun p hp => in_bd (hin p hp)) (by omega) (by omega)
 refine ⟨fun hf => ⟨a1 hf, b1 hf⟩, fun hf => ?_⟩
 obtain ⟨h, c1, c2, c3⟩ := a2 hf
 obtain ⟨h', d1, d2, d3⟩ := b2 hf
 have e : h = h' := rings_one hf c2 d2 c3 d3
 subst e
 exact ⟨h, c1, d1, c2, d3⟩
end Go.Proofs.Ytoffmpkgickfhaa.M
end
section
namespace Go.Proofs.Ytoffmpkgickfhaa.M
open Go.RowKit Go.Proofs.Ytoffmpkgickfhaa.PG Go.Proofs.YtoffmpkgickfhaaW.PrintMore Go.Proofs.YtoffmpkgickfhaaW.PrintWords
theorem hull_again {S h : List Pt} (r : Ring S h) (hf : ¬ Flat S) (hm : ∀ p ∈ S, p = at_ h 0 ∨ first (at_ h 0) p) (hin : ∀ p ∈ S, In 10000 p) (h32 : S.length ≤ 32) : Rt (fun k => shape_Hull.f k h) (h, 0) := by
 have h3 := ring_three r hf
 have hl := ring_len r
 obtain ⟨h', c1, _, c3, c4⟩ := (hulls_one (l := h) (by omega) (by omega) (fun p hp => hin p (ring_sub r p hp))).2 (ring_not_flat r hf)
 have e : h = h' := rings_one (ring_not_flat r hf) (ring_self r) c3 (first_at r (by omega) hm) c4
 rw [← e] at c1; exact c1
theorem where_hull {S h : List Pt} (r : Ring S h) (hf : ¬ Flat S) (hm : ∀ p ∈ S, p = at_ h 0 ∨ first (at_ h 0) p) (hin : ∀ p ∈ S, In 10000 p) (h32 : S.length ≤ 32) {p : Pt} (hp : p ∈ S) :
  ∃ w : Int, 0 ≤ w ∧ Rt (fun k => shape_Where.f k h p.f0 p.f1) (w, 0) := by
 have h3 := ring_three r hf
 have hl := ring_len r
 have hP : Poly h := ⟨h3, by omega, fun p hp => hin p (ring_sub r p hp)⟩
 have hb : ∀ p ∈ h, Bd p := fun p h => in_bd (hP.2.2 p h)
 obtain ⟨K1, h1⟩ := refused_simple (show h.length ≤ 1000000 by omega) hP (ring_convex r hf hm).1
 obtain ⟨K2, h2⟩ := where_run hb (in_bd (hin p hp)) (show h.length ≤ 1000000 by omega)
 refine ⟨whereOf h p, ring_where r h3 hm hp, ⟨K1 + K2, fun k hk => ?_⟩⟩
 have a1 := h1 k (by omega)
 have a2 := h2 k (by omega)
 have hin1 : ∀ q ∈ [p], In 10000 q := by intro q hq; rw [List.mem_singleton] at hq; subst hq; exact hin q hp
 dsimp only at a1 a2 ⊢
 unfold shape_Where.f
 rw [a1, Option.bind_some, if_pos rfl, within_f _ _ (by omega) (by omega), Option.bind_some, if_pos (by simpa using hin1), a2, Option.bind_some]
end Go.Proofs.Ytoffmpkgickfhaa.M
end
section
namespace Go.Proofs.Ytoffmpkgickfhaa.M
open Go.RowKit Go.Proofs.Ytoffmpkgickfhaa.PG Go.Proofs.YtoffmpkgickfhaaW.PrintMore Go.Proofs.YtoffmpkgickfhaaW.PrintWords
theorem sort5 : slices_SortFunc_xy.f [(⟨0, 0⟩ : S29), (⟨1, 0⟩ : S29), (⟨2, 0⟩ : S29), (⟨0, 2⟩ : S29), (⟨1, 1⟩ : S29)] = some [(⟨0, 0⟩ : S29), (⟨0, 2⟩ : S29), (⟨1, 0⟩ : S29), (⟨1, 1⟩ : S29), (⟨2, 0⟩ : S29)] := by
 simp [slices_SortFunc_xy.f, List.mergeSort, List.MergeSort.Internal.splitInTwo, xyLt]
theorem area_ok (k : Nat) : shape_Area2.f (k + 60) [(⟨0, 0⟩ : S29), (⟨2, 0⟩ : S29), (⟨2, 2⟩ : S29), (⟨0, 2⟩ : S29)] = some (8, 0) := by kernel_rfl
theorem simple_ok (k : Nat) : shape_simple.f (k + 60) [(⟨0, 0⟩ : S29), (⟨2, 0⟩ : S29), (⟨2, 2⟩ : S29), (⟨0, 2⟩ : S29)] = some true := by kernel_rfl
theorem lattice_l0 (k : Nat) : shape_Lattice.l0 (k + 60) [(⟨0, 0⟩ : S29), (⟨2, 0⟩ : S29), (⟨2, 2⟩ : S29), (⟨0, 2⟩ : S29)] 0 4 0 = some (1, 8, 0) := by kernel_rfl
theorem lattice_ok (k : Nat) : shape_Lattice.f (k + 60) [(⟨0, 0⟩ : S29), (⟨2, 0⟩ : S29), (⟨2, 2⟩ : S29), (⟨0, 2⟩ : S29)] = some (1, 8, 0) := by
 unfold shape_Lattice.f shape_refused_simple.f
 rw [simple_ok, show shape_polygon.f [(⟨0, 0⟩ : S29), (⟨2, 0⟩ : S29), (⟨2, 2⟩ : S29), (⟨0, 2⟩ : S29)] = some true by decide +kernel, Option.bind_some, if_pos rfl, Option.bind_some, if_pos rfl, Option.bind_some, if_pos rfl]
 exact lattice_l0 k
theorem same_ok (k : Nat) : cracknelref04_Same.f (k + 60) [(⟨0, 0⟩ : S29), (⟨2, 0⟩ : S29), (⟨0, 2⟩ : S29)] [(⟨0, 0⟩ : S29), (⟨2, 0⟩ : S29), (⟨0, 2⟩ : S29)] = some true := by kernel_rfl
theorem hull_rest (k : Nat) : shape_Hull.j0 (k + 60) [(⟨0, 0⟩ : S29), (⟨1, 0⟩ : S29), (⟨2, 0⟩ : S29), (⟨0, 2⟩ : S29), (⟨1, 1⟩ : S29)] false = some ([(⟨0, 0⟩ : S29), (⟨2, 0⟩ : S29), (⟨0, 2⟩ : S29)], 0) := by
 rw [show k + 60 = (k + 59) + 1 from rfl, shape_Hull.j0, if_neg (by simp), show slices_Clone.f [(⟨0, 0⟩ : S29), (⟨1, 0⟩ : S29), (⟨2, 0⟩ : S29), (⟨0, 2⟩ : S29), (⟨1, 1⟩ : S29)] = some [(⟨0, 0⟩ : S29), (⟨1, 0⟩ : S29), (⟨2, 0⟩ : S29), (⟨0, 2⟩ : S29), (⟨1, 1⟩ : S29)] by decide +kernel, Option.bind_some, sort5, Option.bind_some]
 kernel_rfl
theorem hull_pre (k : Nat) : shape_Hull.f k [(⟨0, 0⟩ : S29), (⟨1, 0⟩ : S29), (⟨2, 0⟩ : S29), (⟨0, 2⟩ : S29), (⟨1, 1⟩ : S29)] = shape_Hull.j0 k [(⟨0, 0⟩ : S29), (⟨1, 0⟩ : S29), (⟨2, 0⟩ : S29), (⟨0, 2⟩ : S29), (⟨1, 1⟩ : S29)] false := by
 unfold shape_Hull.f
 rw [show shape_within.f [(⟨0, 0⟩ : S29), (⟨1, 0⟩ : S29), (⟨2, 0⟩ : S29), (⟨0, 2⟩ : S29), (⟨1, 1⟩ : S29)] 10000 = some true by decide +kernel, Option.bind_some]
 simp only [List.length_cons, List.length_nil]
 rw [if_neg (by omega), if_neg (by omega)]
 rfl
theorem lives_ok (k : Nat) (hk : 60 ≤ k) : cracknellaw04_lives.f k = some true := by
 obtain ⟨d, rfl⟩ : ∃ d, k = d + 60 := ⟨k - 60, by omega⟩
 unfold cracknellaw04_lives.f
 rw [hull_pre, hull_rest, Option.bind_some, area_ok, lattice_ok]
 simp only [Option.bind_some, if_true, same_ok]
end Go.Proofs.Ytoffmpkgickfhaa.M
end
section
namespace Go.Proofs.Ytoffmpkgickfhaa.M
open Go.RowKit Go.Proofs.Ytoffmpkgickfhaa.PG Go.Proofs.YtoffmpkgickfhaaW.PrintMore Go.Proofs.YtoffmpkgickfhaaW.PrintWords
theorem same_self' (a : List Pt) (hN : a.length ≤ 1000000) : Rt (fun k => cracknelref04_Same.f k a a) true := by
 obtain ⟨c, h, e⟩ := same_run a a hN
 rw [e.mpr rfl] at h; exact h
theorem Convex_run {h : List Pt} (hp : Poly h) (hc : Convex h) : Rt (fun k => shape_Convex.f k h) (true, 0) := by
 obtain ⟨b, ⟨K, h1⟩, i⟩ := normal_run (fun p h => in_bd (hp.2.2 p h)) hp.1 (by have := hp.2.1; omega)
 refine ⟨K, fun k hk => ?_⟩
 have a := h1 k hk
 dsimp only at a ⊢
 unfold shape_Convex.f
 rw [polygon_f, Option.bind_some, if_pos (by simpa using hp), a, Option.bind_some, i.mpr hc]
theorem hulled_l2 {l h : List Pt} {n : Nat} (hn : n < h.length) (hN : l.length ≤ 1000000) {v : Bool} (hv : Rt (fun k => cracknellaw04_ShapeHulled.l1 k l h ((n + 1 : Nat) : Int)) v) (hM : h.length ≤ 1000000) :
  ∀ d i b, l.length = i + d → (b = true ∨ ∃ j, i ≤ j ∧ j < l.length ∧ at_ l j = at_ h n) → Rt (fun k => cracknellaw04_ShapeHulled.l2 k l h (n : Int) b (i : Int)) v := by
 intro d
 induction d with
 | zero =>
  intro i b hi hb
  have hb1 : b = true := hb.resolve_right (fun ⟨j, h1, h2, _⟩ => by omega)
  refine rt_step (fun k => ?_) hv
  rw [cracknellaw04_ShapeHulled.l2, if_neg (by omega), if_pos hb1, wrap_succ n (by omega)]
 | succ d ih =>
  intro i b hi hb
  cases b with
  | true =>
   refine rt_step (fun k => ?_) (ih (i + 1) true (by omega) (Or.inl rfl))
   rw [cracknellaw04_ShapeHulled.l2, if_pos (by omega), if_pos rfl, wrap_succ i (by omega)]
  | false =>
   have hb2 : ∃ j, i ≤ j ∧ j < l.length ∧ at_ l j = at_ h n := hb.resolve_left (by simp)
   have key : decide (at_ l i = at_ h n) = true ∨ ∃ j, i + 1 ≤ j ∧ j < l.length ∧ at_ l j = at_ h n := by
    obtain ⟨j, h1, h2, h3⟩ := hb2
    by_cases e : j = i
    ·subst e; exact Or.inl (decide_eq_true h3)
    ·exact Or.inr ⟨j, by omega, h2, h3⟩
   refine rt_step (fun k => ?_) (ih (i + 1) _ (by omega) key)
   rw [cracknellaw04_ShapeHulled.l2, if_pos (by omega), if_neg (by simp), if_pos (by omega), if_pos (by omega), if_pos (by omega), rd_at, rd_at, pt_beq, wrap_succ i (by omega)]
theorem hulled_l1 {l h : List Pt} (hs : ∀ p ∈ h, p ∈ l) (hN : l.length ≤ 1000000) (hM : h.length ≤ 1000000) :
  ∀ d n, h.length = n + d → Rt (fun k => cracknellaw04_ShapeHulled.l1 k l h (n : Int)) true := by
 intro d
 induction d with
 | zero =>
  intro n hn
  refine rt_ret (fun k => ?_)
  rw [cracknellaw04_ShapeHulled.l1, if_neg (by omega)]
 | succ d ih =>
  intro n hn
  have hm := hs _ (at_mem (show n < h.length by omega))
  obtain ⟨j, hj, e⟩ := List.mem_iff_getElem.mp hm
  refine rt_step (fun k => ?_) (hulled_l2 (show n < h.length by omega) hN (ih (n + 1) (by omega)) hM l.length 0 false (by omega) (Or.inr ⟨j, by omega, hj, by rw [at_eq hj]; exact e⟩))
  rw [cracknellaw04_ShapeHulled.l1, if_pos (by omega)]; rfl
theorem hulled_l0 {l h : List Pt} (hw : ∀ p ∈ l, ∃ w : Int, 0 ≤ w ∧ Rt (fun k => shape_Where.f k h p.f0 p.f1) (w, 0)) (hN : l.length ≤ 1000000) {v : Bool} (hv : Rt (fun k => cracknellaw04_ShapeHulled.l1 k l h 0) v) :
  ∀ d i, l.length = i + d → Rt (fun k => cracknellaw04_ShapeHulled.l0 k l h (i : Int)) v := by
 intro d
 induction d with
 | zero =>
  intro i hi
  refine rt_step (fun k => ?_) hv
  rw [cracknellaw04_ShapeHulled.l0, if_neg (by omega)]
 | succ d ih =>
  intro i hi
  obtain ⟨w, w0, K1, h1⟩ := hw _ (at_mem (show i < l.length by omega))
  obtain ⟨K2, h2⟩ := ih (i + 1) (by omega)
  refine ⟨K1 + K2 + 1, fun k hk => ?_⟩
  obtain ⟨k, rfl⟩ := fuel1 (show (K1 + K2) + 1 ≤ k by omega)
  have a1 := h1 k (by omega)
  have a2 := h2 k (by omega)
  dsimp only at a1 a2 ⊢
  rw [cracknellaw04_ShapeHulled.l0, if_pos (by omega), if_pos (by omega), rd_at, a1, Option.bind_some, if_neg (by dsimp only; omega), if_pos rfl, wrap_succ i (by omega), a2]
theorem hulled_plain (x : List S29) (turn : Int) (_ : (Lit.int .i64 turn).wf = true) : ∃ k, cracknellaw04_ShapeHulled.f k x turn = some true := by
 obtain ⟨r, ⟨K1, h1⟩, hl, hin⟩ := points_run x 10000 20 (by omega) (by omega) (by omega)
 obtain ⟨l, hle⟩ : ∃ l, l = r ++ [(⟨0, 0⟩ : S29), (⟨1, 0⟩ : S29), (⟨0, 1⟩ : S29)] := ⟨_, rfl⟩
 have hlen : l.length = r.length + 3 := by rw [hle]; simp
 have hinb : ∀ p ∈ l, In 10000 p := by
  intro p hp
  rw [hle] at hp
  rcases List.mem_append.mp hp with h | h
  ·exact hin p h
  ·have : p = ⟨0, 0⟩ ∨ p = ⟨1, 0⟩ ∨ p = ⟨0, 1⟩ := by simpa using h
   rcases this with rfl | rfl | rfl <;> (unfold In; dsimp only; omega)
 have hf : ¬ Flat l := by rw [hle]; exact not_flat3 r
 obtain ⟨h, ⟨K2, c1⟩, _, c3, c4⟩ := (hulls_one (l := l) (by omega) (by omega) hinb).2 hf
 obtain ⟨t, ht, hfo⟩ := fold_f turn l.length (by omega) (by omega)
 have mem : ∀ p, p ∈ ([] ++ l.drop t) ++ l.take t ↔ p ∈ l := by
  intro p
  have e : p ∈ l.take t ++ l.drop t ↔ p ∈ l := by rw [List.take_append_drop]
  rw [← e, List.nil_append, List.mem_append, List.mem_append, or_comm]
 have hlen2 : (([] ++ l.drop t) ++ l.take t).length = l.length := by
  rw [List.nil_append, List.length_append, List.length_drop, List.length_take]; omega
 have hf2 : ¬ Flat (([] ++ l.drop t) ++ l.take t) := fun hh => hf (fun a ha b hb c hc => hh a ((mem a).mpr ha) b ((mem b).mpr hb) c ((mem c).mpr hc))
 obtain ⟨h', ⟨K3, d1⟩, _, d3, d4⟩ := (hulls_one (l := ([] ++ l.drop t) ++ l.take t) (by omega) (by omega) (fun p hp => hinb p ((mem p).mp hp))).2 hf2
 have h3 := ring_three c3 hf
 have hlh := ring_len c3
 have e : h = h' := rings_one hf c3 (ring_congr mem d3) (first_at c3 (by omega) c4) (fun p hp => d4 p ((mem p).mpr hp))
 subst e
 obtain ⟨K4, s4⟩ := same_self' h (by omega)
 have hP : Poly h := ⟨h3, by omega, fun p hp => hinb p (ring_sub c3 p hp)⟩
 obtain ⟨K5, s5⟩ := Convex_run hP (ring_convex c3 hf c4)
 obtain ⟨K6, s6⟩ := hull_again c3 hf c4 hinb (by omega)
 obtain ⟨K7, s7⟩ := hulled_l0 (fun p hp => where_hull c3 hf c4 hinb (by omega) hp) (by omega) (hulled_l1 (ring_sub c3) (by omega) (by omega) h.length 0 (by omega)) l.length 0 (by omega)
 refine ⟨K1 + K2 + K3 + K4 + K5 + K6 + K7 + 62, ?_⟩
 generalize hk : K1 + K2 + K3 + K4 + K5 + K6 + K7 + 60 = k
 rw [show K1 + K2 + K3 + K4 + K5 + K6 + K7 + 62 = k + 2 by omega]
 have a1 := h1 (k + 2) (by omega)
 have a2 := c1 (k + 2) (by omega)
 have a3 := d1 (k + 2) (by omega)
 have a4 := s4 (k + 2) (by omega)
 have a4' := s4 (k + 1) (by omega)
 have a5 := s5 (k + 1) (by omega)
 have a6 := s6 (k + 1) (by omega)
 have a7 := s7 k (by omega)
 have a8 := lives_ok (k + 2) (by omega)
 dsimp only at a1 a2 a3 a4 a4' a5 a6 a7
 unfold cracknellaw04_ShapeHulled.f
 rw [show (20 : Int) = ((20 : Nat) : Int) from rfl, a1, Option.bind_some, Option.bind_some, if_pos (by simp only [List.length_cons, List.length_nil]; omega), Option.bind_some, ← hle, a2, Option.bind_some, hfo, Option.bind_some, Option.bind_some, if_pos (by omega), if_pos (by omega), Option.bind_some, Int.toNat_natCast,
  if_pos (by rw [List.length_drop, List.length_nil]; omega), Option.bind_some, Option.bind_some, if_pos (by rw [List.nil_append, List.length_drop, List.length_take]; omega), a3, Option.bind_some, if_pos rfl, if_pos rfl, a4, Option.bind_some, if_pos rfl, if_neg (by dsimp only; omega), if_neg (by dsimp only; omega), a8, Option.bind_some]
 rw [cracknellaw04_ShapeHulled.j0, if_neg (by simp), a5, Option.bind_some, a6, Option.bind_some, if_pos rfl, if_pos rfl, if_pos rfl, a4', Option.bind_some, cracknellaw04_ShapeHulled.j1, if_neg (by simp)]
 exact a7
end Go.Proofs.Ytoffmpkgickfhaa.M
end
