/- Parts of the proof of YthehmkpcddafnaaLawShapeLattices: printed walks, their words, and plain laws. -/
import Derived.Test.YthehmkpcddafnaaQL1
import Derived.Shelf.Abstract
section
namespace Go.Proofs.Ythehmkpcddafnaa.PG
open Go.RowKit Go.Proofs.YthehmkpcddafnaaW.PrintWords Go.Proofs.YthehmkpcddafnaaW.PrintLast Go.Proofs.YthehmkpcddafnaaW.PrintMore
attribute [local go_sem] max2_int min2_int max_two min_two max_three min_three max_four min_four
set_option linter.unusedVariables false
set_option linter.unusedSimpArgs false
attribute [local go_sem high] eqA41
/-! ### cracknelref04_Simple: function 27 -/
mutual
def cracknelref04_Simple.l0 : Nat → List (S41) → Int → Int → Option (Bool)
 | 0, _, _, _ => none
 | k + 1, x0, x3, x4 => if x4 < x3 then (if 0 ≤ x4 then (if x4 < (x0.length : Int) then ((cracknelref04_next.f x0 x4).bind fun bt102 => (if (((rd_T41 x0 x4).f0) == bt102.1 && (((rd_T41 x0 x4).f1) == bt102.2)) = true then (some false) else (cracknelref04_Simple.l0 k x0 x3 (wrap64 (x4 + 1))))) else (none)) else (none)) else (cracknelref04_Simple.l1 k x0 x3 0)
def cracknelref04_Simple.l1 : Nat → List (S41) → Int → Int → Option (Bool)
 | 0, _, _, _ => none
 | k + 1, x0, x3, x5 => if x5 < x3 then (if 0 ≤ x5 then (if x5 < (x0.length : Int) then ((cracknelref04_next.f x0 x5).bind fun bt105 => ((cracknelref04_next.f x0 (wrap64 (x5 + 1))).bind fun bt109 => ((cracknelref04_On.f ((rd_T41 x0 x5).f0) ((rd_T41 x0 x5).f1) bt105.1 bt105.2 bt109.1 bt109.2).bind fun t112 => (if t112 = true then (cracknelref04_Simple.j2 k x0 x3 x5 true ((rd_T41 x0 x5).f0) ((rd_T41 x0 x5).f1) bt105.1 bt105.2) else ((cracknelref04_On.f bt105.1 bt105.2 bt109.1 bt109.2 ((rd_T41 x0 x5).f0) ((rd_T41 x0 x5).f1)).bind fun t113 => (cracknelref04_Simple.j2 k x0 x3 x5 t113 ((rd_T41 x0 x5).f0) ((rd_T41 x0 x5).f1) bt105.1 bt105.2)))))) else (none)) else (none)) else (some true)
def cracknelref04_Simple.j2 : Nat → List (S41) → Int → Int → Bool → Int → Int → Int → Int → Option (Bool)
 | 0, _, _, _, _, _, _, _, _ => none
 | k + 1, x0, x3, x5, x50, x108000, x108001, x109000, x109001 => if x50 = true then (some false) else (cracknelref04_Simple.l2 k x0 x3 x5 (wrap64 (x5 + 2)) x108000 x108001 x109000 x109001)
def cracknelref04_Simple.l2 : Nat → List (S41) → Int → Int → Int → Int → Int → Int → Int → Option (Bool)
 | 0, _, _, _, _, _, _, _, _ => none
 | k + 1, x0, x3, x5, x9, x108000, x108001, x109000, x109001 => if x9 < x3 then (if x3 = 0 then (none) else (if (Int.tmod (wrap64 (x9 + 1)) x3) = x5 then (cracknelref04_Simple.l2 k x0 x3 x5 (wrap64 (x9 + 1)) x108000 x108001 x109000 x109001) else (if 0 ≤ x9 then (if x9 < (x0.length : Int) then ((cracknelref04_next.f x0 x9).bind fun bt115 => ((cracknelref04_Meet.f k x108000 x108001 x109000 x109001 ((rd_T41 x0 x9).f0) ((rd_T41 x0 x9).f1) bt115.1 bt115.2).bind fun t117 => (if t117 = true then (some false) else (cracknelref04_Simple.l2 k x0 x3 x5 (wrap64 (x9 + 1)) x108000 x108001 x109000 x109001)))) else (none)) else (none)))) else (cracknelref04_Simple.l1 k x0 x3 (wrap64 (x5 + 1)))
end
def cracknelref04_Simple.f (k : Nat) (l0 : List (S41)) : Option (Bool) := cracknelref04_Simple.l0 k l0 (l0.length : Int) 0
def cracknelref04_Simple.T5 : Bool × List (List Nat × List Nat) := (true, [([], []), ([], []), ([0, 1], [0, 1]), ([2], [2]), ([], []), ([], []), ([4, 5], [4, 5]), ([3, 6], [3, 6])])
def cracknelref04_Simple.B5 : List Nat := [0, 0, 3, 7, 0, 0, 48, 127]
theorem cracknelref04_Simple.tab5 : rtab .any (opsOf Try.f27 5) = cracknelref04_Simple.T5 := by kernel_rfl
theorem cracknelref04_Simple.bits5 : waitsOk cracknelref04_Simple.T5.2 cracknelref04_Simple.B5 = true := by kernel_rfl
def cracknelref04_Simple.T10 : Bool × List (List Nat × List Nat) := (true, [([], []), ([], []), ([0, 1], [0, 1]), ([2], [2]), ([], []), ([], []), ([4, 5], [4, 5]), ([], []), ([], []), ([7, 3, 6, 0, 1, 2, 3, 7, 8], [3, 7]), ([8, 6, 9, 0, 1, 2, 3, 4, 5, 6, 7, 8, 9], [6, 8])])
def cracknelref04_Simple.B10 : List Nat := [0, 0, 3, 7, 0, 0, 48, 0, 0, 511, 1023]
theorem cracknelref04_Simple.tab10 : rtab .any (opsOf Try.f27 10) = cracknelref04_Simple.T10 := by kernel_rfl
theorem cracknelref04_Simple.bits10 : waitsOk cracknelref04_Simple.T10.2 cracknelref04_Simple.B10 = true := by kernel_rfl
def cracknelref04_Simple.T17 : Bool × List (List Nat × List Nat) := (true, [([], []), ([0], [0]), ([], []), ([1, 2], [1, 2]), ([], []), ([3, 4], [3, 4]), ([5], [5]), ([6], [6]), ([6], [6]), ([6], [6]), ([6], [6]), ([9, 10, 6], [6, 9, 10]), ([11, 6], [6, 11]), ([6], [6]), ([6], [6]), ([13, 14, 6, 6], [6, 13, 14]), ([7, 8, 12, 15, 15, 6], [6, 7, 8, 12, 15]), ([6, 16], [6, 16])])
def cracknelref04_Simple.B17 : List Nat := [0, 1, 0, 7, 0, 31, 63, 127, 127, 127, 127, 1663, 3711, 127, 127, 24703, 65535, 131071]
theorem cracknelref04_Simple.tab17 : rtab .any (opsOf Try.f27 17) = cracknelref04_Simple.T17 := by kernel_rfl
theorem cracknelref04_Simple.bits17 : waitsOk cracknelref04_Simple.T17.2 cracknelref04_Simple.B17 = true := by kernel_rfl
set_option maxHeartbeats 8000000 in
set_option maxRecDepth 100000 in
theorem cracknelref04_Simple.calls (k : Nat) (A0 : Option Addr) (c0 : Nat) (l0 : List (S41)) (r : Bool) (w : World) (hr0 : Kd.C k41 w A0 l0.length l0) (hc0 : l0.length ≤ c0) (h : cracknelref04_Simple.f k l0 = some r) :
  Calls Try.prog 27 #[.slice A0 l0.length c0] w fun e w' => e = .returned (.bool r) ∧ Below w.heap.size w w' := by
 have hu41 := Try.underlying41
 have HR0 := Aside0.mk hr0
 have HC0 := Aside0.mk hc0
 clear hr0 hc0
 have HB := Aside0.mk (Below.refl w.heap.size w)
 have H : (cracknelref04_Simple.l0 k l0 (l0.length : Int) 0) = some r := h
 clear h
 have H' := Aside0.mk H
 clear H
 go_enter Try.func27, Try.ntmps27
 go_wp2
 go_loopg [4] k (fun kq v4 w' => ∃ (x4_1 : Int), v4 = .int .i64 x4_1 ∧ Aside0 (cracknelref04_Simple.l0 kq l0 (l0.length : Int) x4_1 = some r) ∧ Aside0 (kq ≤ k) ∧ Aside0 (Below w.heap.size w w'))
 case atStart => exact ⟨(0), sd, H', ⟨Nat.le_refl _⟩, ⟨bh⟩⟩
 case round =>
  clear H'
  obtain ⟨x4_1, rfl, HA, HK1, HB⟩ := hrel
  cases gk with
  | zero => exact absurd HA.out (by simp [cracknelref04_Simple.l0])
  | succ k1 =>
   have H := HA.out
   clear HA
   simp only [cracknelref04_Simple.l0] at H
   by_cases c2 : x4_1 < (l0.length : Int)
   ·rw [if_pos c2] at H
    have c2b0 := decide_eq_true c2
    clear c2
    obtain ⟨c3, H⟩ := oi H
    have c3b0 := decide_eq_true c3
    clear c3
    obtain ⟨c4, H⟩ := oi H
    have c4b0 := decide_eq_true c4
    clear c4
    replace H := Option.bind_eq_some_iff.mp H
    obtain ⟨⟨t102, t103⟩, A50, H⟩ := H
    try dsimp only at H
    have A5 := Aside0.mk A50
    clear A50
    by_cases c6 : (((rd_T41 l0 x4_1).f0) == t102 && (((rd_T41 l0 x4_1).f1) == t103)) = true
    ·rw [if_pos c6] at H
     have c6b0 : (((rd_T41 l0 x4_1).f0) == t102 && (((rd_T41 l0 x4_1).f1) == t103)) = true := c6
     (try (have c6b1 : decide (((rd_T41 l0 x4_1).f0) = t102 && (((rd_T41 l0 x4_1).f1) == t103)) = true := by simpa using c6))
     (try (have c6b2 : (((rd_T41 l0 x4_1).f0) == t102 && (((rd_T41 l0 x4_1).f1) == t103)) = true := by simpa using c6))
     clear c6
     obtain rfl := Option.some.inj H
     try go_wp2
     replace HB := Aside0.mk (below_drew1 HB.out)
     have p101 : 0 ≤ (x4_1 : Int) := dt
     have q101 : x4_1 < (l0.length : Int) := dt
     obtain ⟨ad101, e101, hx101_0, hx101_1⟩ := at_T41 HR0.out x4_1 p101 q101
     have hw101_1 := hx101_1
     have hw101_0 := hx101_0
     cases e101
     replace hx101_0 := hc HB hx101_0
     replace hx101_1 := hc HB hx101_1
     replace p101 := eq_true p101
     replace q101 := eq_true q101
     refine start_ (n := 8) (S := fun w' => w'.cell? (ad101.add ((x4_1).toNat * 2)) = some (.int .i64 ((rd_T41 l0 x4_1).f0)) ∧ w'.cell? ⟨(ad101.add ((x4_1).toNat * 2)).block, (ad101.add ((x4_1).toNat * 2)).off + 1, none⟩ = some (.int .i64 ((rd_T41 l0 x4_1).f1))) (ds := []) #[N,N,N,N,N,N,N,N] (by kernel_rfl) rfl rfl ⟨(hc HB hw101_0), (hc HB hw101_1)⟩ (fun hHeld => ?_); refine with_tabW cracknelref04_Simple.tab5 cracknelref04_Simple.bits5 (fun HT_ HW_ => ?_)
     generalize wr.drew = w7 at HB hx101_0 hx101_1 hHeld ⊢
     refine pu 0 17 HT_ ?_
     refine pu 1 18 HT_ ?_
     refine pu 2 19 HT_ ?_
     refine pu 4 21 HT_ ?_
     refine pu 5 22 HT_ ?_
     refine tk2 3 20 hHeld HT_ HW_ ?_
     refine one_ (i := 6) (N := some 23) #[T,T,T,T,T,T,T,N] rfl rfl (on1 HT_) (by decide) (fun K hK => ?_)
     refine goes_ Try.func58 (by kernel_rfl) rfl #[.slice (some ad101) l0.length c0, .int .i64 x4_1] (by rfl) rfl rfl sg ?_
     with_reducible refine (cracknelref04_next.calls _ _ l0 x4_1 t102 t103 _ ?side1 ?side2 A5.out).mono ?_
     (case side1 => exact cs (Kd.C_below HR0.out HB.out))
     (case side2 => exact HC0.out)
     rintro e w8 ⟨rfl, hb⟩
     refine ⟨_, rfl, ?_⟩
     replace HB := bz hb
     (try clear hb)
     refine hK.out _ _ ⟨(hc HB hw101_0), (hc HB hw101_1)⟩ (fun hHeld => ?_)
     clear hK K
     refine nm 23 ?_
     refine pu 7 24 HT_ ?_
     refine done_ (done_of HT_.out (by kernel_rfl)) ?_
     try go_wp2
     go_ret
     exact ⟨by exact er, bh⟩
    ·rw [if_neg c6] at H
     have c6b0 : (((rd_T41 l0 x4_1).f0) == t102 && (((rd_T41 l0 x4_1).f1) == t103)) = false := by simpa using c6
     (try (have c6b1 : decide (((rd_T41 l0 x4_1).f0) = t102 && (((rd_T41 l0 x4_1).f1) == t103)) = false := by simpa using c6))
     (try (have c6b2 : (((rd_T41 l0 x4_1).f0) == t102 && (((rd_T41 l0 x4_1).f1) == t103)) = false := by simpa using c6))
     (try (have c6b3 : ¬ (((rd_T41 l0 x4_1).f0) = t102 && (((rd_T41 l0 x4_1).f1) == t103)) := by simpa using c6))
     clear c6
     have H' := Aside0.mk H
     clear H
     try go_wp2
     replace HB := Aside0.mk (below_drew1 HB.out)
     have p101 : 0 ≤ (x4_1 : Int) := dt
     have q101 : x4_1 < (l0.length : Int) := dt
     obtain ⟨ad101, e101, hx101_0, hx101_1⟩ := at_T41 HR0.out x4_1 p101 q101
     have hw101_1 := hx101_1
     have hw101_0 := hx101_0
     cases e101
     replace hx101_0 := hc HB hx101_0
     replace hx101_1 := hc HB hx101_1
     replace p101 := eq_true p101
     replace q101 := eq_true q101
     refine start_ (n := 8) (S := fun w' => w'.cell? (ad101.add ((x4_1).toNat * 2)) = some (.int .i64 ((rd_T41 l0 x4_1).f0)) ∧ w'.cell? ⟨(ad101.add ((x4_1).toNat * 2)).block, (ad101.add ((x4_1).toNat * 2)).off + 1, none⟩ = some (.int .i64 ((rd_T41 l0 x4_1).f1))) (ds := []) #[N,N,N,N,N,N,N,N] (by kernel_rfl) rfl rfl ⟨(hc HB hw101_0), (hc HB hw101_1)⟩ (fun hHeld => ?_); refine with_tabW cracknelref04_Simple.tab5 cracknelref04_Simple.bits5 (fun HT_ HW_ => ?_)
     generalize wr.drew = w9 at HB hx101_0 hx101_1 hHeld ⊢
     refine pu 0 17 HT_ ?_
     refine pu 1 18 HT_ ?_
     refine pu 2 19 HT_ ?_
     refine pu 4 21 HT_ ?_
     refine pu 5 22 HT_ ?_
     refine tk2 3 20 hHeld HT_ HW_ ?_
     refine one_ (i := 6) (N := some 23) #[T,T,T,T,T,T,T,N] rfl rfl (on1 HT_) (by decide) (fun K hK => ?_)
     refine goes_ Try.func58 (by kernel_rfl) rfl #[.slice (some ad101) l0.length c0, .int .i64 x4_1] (by rfl) rfl rfl sg ?_
     with_reducible refine (cracknelref04_next.calls _ _ l0 x4_1 t102 t103 _ ?side1 ?side2 A5.out).mono ?_
     (case side1 => exact cs (Kd.C_below HR0.out HB.out))
     (case side2 => exact HC0.out)
     rintro e w10 ⟨rfl, hb⟩
     refine ⟨_, rfl, ?_⟩
     replace HB := bz hb
     (try clear hb)
     refine hK.out _ _ ⟨(hc HB hw101_0), (hc HB hw101_1)⟩ (fun hHeld => ?_)
     clear hK K
     refine nm 23 ?_
     refine pu 7 24 HT_ ?_
     refine done_ (done_of HT_.out (by kernel_rfl)) ?_
     try go_wp2
     go_roundg k1
     case measure => have := HK1.out; omega
     case rel => exact ⟨(wrap64 (x4_1 + 1)), sd, H', ⟨by have := HK1.out; omega⟩, ⟨bh⟩⟩
   ·rw [if_neg c2] at H
    have c2b0 := decide_eq_false c2
    clear c2
    have H' := Aside0.mk H
    clear H
    go_wp2
    go_loopg [5] k1 (fun kq v5 w' => ∃ (x5_2 : Int), v5 = .int .i64 x5_2 ∧ Aside0 (cracknelref04_Simple.l1 kq l0 (l0.length : Int) x5_2 = some r) ∧ Aside0 (kq ≤ k1) ∧ Aside0 (Below w.heap.size w w'))
    case atStart => exact ⟨(0), sd, H', ⟨Nat.le_refl _⟩, ⟨bh⟩⟩
    case round =>
     clear H'
     (try clear c2b0)
     obtain ⟨x5_2, rfl, HA, HK2, HB⟩ := hrel
     cases gk with
     | zero => exact absurd HA.out (by simp [cracknelref04_Simple.l1])
     | succ k2 =>
      have H := HA.out
      clear HA
      simp only [cracknelref04_Simple.l1] at H
      by_cases c11 : x5_2 < (l0.length : Int)
      ·rw [if_pos c11] at H
       have c11b0 := decide_eq_true c11
       clear c11
       obtain ⟨c12, H⟩ := oi H
       have c12b0 := decide_eq_true c12
       clear c12
       obtain ⟨c13, H⟩ := oi H
       have c13b0 := decide_eq_true c13
       clear c13
       replace H := Option.bind_eq_some_iff.mp H
       obtain ⟨⟨t105, t106⟩, A140, H⟩ := H
       try dsimp only at H
       have A14 := Aside0.mk A140
       clear A140
       replace H := Option.bind_eq_some_iff.mp H
       obtain ⟨⟨t109, t110⟩, A150, H⟩ := H
       try dsimp only at H
       have A15 := Aside0.mk A150
       clear A150
       have HC16 := Aside0.mk H
       clear H
       try go_wp2
       replace HB := Aside0.mk (below_drew1 HB.out)
       have p104 : 0 ≤ (x5_2 : Int) := dt
       have q104 : x5_2 < (l0.length : Int) := dt
       obtain ⟨ad104, e104, hx104_0, hx104_1⟩ := at_T41 HR0.out x5_2 p104 q104
       have hw104_1 := hx104_1
       have hw104_0 := hx104_0
       cases e104
       replace hx104_0 := hc HB hx104_0
       replace hx104_1 := hc HB hx104_1
       replace p104 := eq_true p104
       replace q104 := eq_true q104
       refine start_ (n := 11) (S := fun w' => w'.cell? (ad104.add ((x5_2).toNat * 2)) = some (.int .i64 ((rd_T41 l0 x5_2).f0)) ∧ w'.cell? ⟨(ad104.add ((x5_2).toNat * 2)).block, (ad104.add ((x5_2).toNat * 2)).off + 1, none⟩ = some (.int .i64 ((rd_T41 l0 x5_2).f1))) (ds := []) #[N,N,N,N,N,N,N,N,N,N,N] (by kernel_rfl) rfl rfl ⟨(hc HB hw104_0), (hc HB hw104_1)⟩ (fun hHeld => ?_); refine with_tabW cracknelref04_Simple.tab10 cracknelref04_Simple.bits10 (fun HT_ HW_ => ?_)
       generalize wr.drew = w17 at HB hx104_0 hx104_1 hHeld ⊢
       refine pu 0 30 HT_ ?_
       refine pu 1 31 HT_ ?_
       refine pu 2 32 HT_ ?_
       refine pu 4 34 HT_ ?_
       refine pu 5 35 HT_ ?_
       refine tk2 3 33 hHeld HT_ HW_ ?_
       refine join_ (σ := Nat × Nat) 2 #[T,T,T,T,T,T,T,T,T,N,N] (fun s_ => [(36, .agg #[.int .i64 t105, .int .i64 t106]), (6, .pointer (some ⟨s_.1, 0, none⟩)), (7, .pointer (some ⟨s_.2, 0, none⟩))]) (fun s_ w' => (w'.cell? (ad104.add ((x5_2).toNat * 2)) = some (.int .i64 ((rd_T41 l0 x5_2).f0)) ∧ w'.cell? ⟨(ad104.add ((x5_2).toNat * 2)).block, (ad104.add ((x5_2).toNat * 2)).off + 1, none⟩ = some (.int .i64 ((rd_T41 l0 x5_2).f1))) ∧ (w'.heap[s_.1]? = some (.cells #[.int .i64 0, .int .i64 0] 41 (0, 0))) ∧ (w'.heap[s_.2]? = some (.cells #[.int .i64 0, .int .i64 0] 41 (0, 0))) ∧ (w.heap.size ≤ s_.1) ∧ (w.heap.size ≤ s_.1) ∧ (s_.2 ≠ s_.1) ∧ (s_.1 ≠ s_.2) ∧ (w.heap.size ≤ s_.2) ∧ (w.heap.size ≤ s_.2) ∧ (Below w.heap.size w w')) ?_ ?_
       rotate_left
       ·intro hJ6_7_8
        refine join_ (σ := Nat) 3 #[T,T,T,T,T,T,T,T,N,N,N] (fun s_ => [(36, .agg #[.int .i64 t105, .int .i64 t106]), (6, .pointer (some ⟨s_, 0, none⟩))]) (fun s_ w' => (w'.cell? (ad104.add ((x5_2).toNat * 2)) = some (.int .i64 ((rd_T41 l0 x5_2).f0)) ∧ w'.cell? ⟨(ad104.add ((x5_2).toNat * 2)).block, (ad104.add ((x5_2).toNat * 2)).off + 1, none⟩ = some (.int .i64 ((rd_T41 l0 x5_2).f1))) ∧ (w'.heap[s_]? = some (.cells #[.int .i64 0, .int .i64 0] 41 (0, 0))) ∧ (w.heap.size ≤ s_) ∧ (w.heap.size ≤ s_) ∧ (Below w.heap.size w w')) ?_ ?_
        rotate_left
        ·intro hJ6_7
         refine join_ (σ := Nat) 3 #[T,T,T,T,T,T,T,N,T,N,N] (fun s_ => [(36, .agg #[.int .i64 t105, .int .i64 t106]), (7, .pointer (some ⟨s_, 0, none⟩))]) (fun s_ w' => (w'.cell? (ad104.add ((x5_2).toNat * 2)) = some (.int .i64 ((rd_T41 l0 x5_2).f0)) ∧ w'.cell? ⟨(ad104.add ((x5_2).toNat * 2)).block, (ad104.add ((x5_2).toNat * 2)).off + 1, none⟩ = some (.int .i64 ((rd_T41 l0 x5_2).f1))) ∧ (w'.heap[s_]? = some (.cells #[.int .i64 0, .int .i64 0] 41 (0, 0))) ∧ (w.heap.size ≤ s_) ∧ (w.heap.size ≤ s_) ∧ (Below w.heap.size w w')) ?_ ?_
         rotate_left
         ·intro hJ6_8
          refine join_ (σ := Nat × Nat) 3 #[T,T,T,T,T,T,N,T,T,N,N] (fun s_ => [(6, .pointer (some ⟨s_.1, 0, none⟩)), (7, .pointer (some ⟨s_.2, 0, none⟩))]) (fun s_ w' => (w'.cell? (ad104.add ((x5_2).toNat * 2)) = some (.int .i64 ((rd_T41 l0 x5_2).f0)) ∧ w'.cell? ⟨(ad104.add ((x5_2).toNat * 2)).block, (ad104.add ((x5_2).toNat * 2)).off + 1, none⟩ = some (.int .i64 ((rd_T41 l0 x5_2).f1))) ∧ (w'.heap[s_.1]? = some (.cells #[.int .i64 0, .int .i64 0] 41 (0, 0))) ∧ (w'.heap[s_.2]? = some (.cells #[.int .i64 0, .int .i64 0] 41 (0, 0))) ∧ (w.heap.size ≤ s_.1) ∧ (w.heap.size ≤ s_.1) ∧ (s_.2 ≠ s_.1) ∧ (s_.1 ≠ s_.2) ∧ (w.heap.size ≤ s_.2) ∧ (w.heap.size ≤ s_.2) ∧ (Below w.heap.size w w')) ?_ ?_
          rotate_left
          ·intro hJ7_8
           refine join_ (σ := Unit) 4 #[T,T,T,T,T,T,T,N,N,N,N] (fun s_ => [(36, .agg #[.int .i64 t105, .int .i64 t106])]) (fun s_ w' => (w'.cell? (ad104.add ((x5_2).toNat * 2)) = some (.int .i64 ((rd_T41 l0 x5_2).f0)) ∧ w'.cell? ⟨(ad104.add ((x5_2).toNat * 2)).block, (ad104.add ((x5_2).toNat * 2)).off + 1, none⟩ = some (.int .i64 ((rd_T41 l0 x5_2).f1))) ∧ (Below w.heap.size w w')) ?_ ?_
           rotate_left
           ·intro hJ6
            refine join_ (σ := Nat) 4 #[T,T,T,T,T,T,N,T,N,N,N] (fun s_ => [(6, .pointer (some ⟨s_, 0, none⟩))]) (fun s_ w' => (w'.cell? (ad104.add ((x5_2).toNat * 2)) = some (.int .i64 ((rd_T41 l0 x5_2).f0)) ∧ w'.cell? ⟨(ad104.add ((x5_2).toNat * 2)).block, (ad104.add ((x5_2).toNat * 2)).off + 1, none⟩ = some (.int .i64 ((rd_T41 l0 x5_2).f1))) ∧ (w'.heap[s_]? = some (.cells #[.int .i64 0, .int .i64 0] 41 (0, 0))) ∧ (w.heap.size ≤ s_) ∧ (w.heap.size ≤ s_) ∧ (Below w.heap.size w w')) ?_ ?_
            rotate_left
            ·intro hJ7
             refine join_ (σ := Nat) 4 #[T,T,T,T,T,T,N,N,T,N,N] (fun s_ => [(7, .pointer (some ⟨s_, 0, none⟩))]) (fun s_ w' => (w'.cell? (ad104.add ((x5_2).toNat * 2)) = some (.int .i64 ((rd_T41 l0 x5_2).f0)) ∧ w'.cell? ⟨(ad104.add ((x5_2).toNat * 2)).block, (ad104.add ((x5_2).toNat * 2)).off + 1, none⟩ = some (.int .i64 ((rd_T41 l0 x5_2).f1))) ∧ (w'.heap[s_]? = some (.cells #[.int .i64 0, .int .i64 0] 41 (0, 0))) ∧ (w.heap.size ≤ s_) ∧ (w.heap.size ≤ s_) ∧ (Below w.heap.size w w')) ?_ ?_
             rotate_left
             ·intro hJ8
              refine three_ (i := 6) (j := 7) (k := 8) (Ni := some 36) (Nj := some 6) (Nk := some 7) #[T,T,T,T,T,T,T,N,N,N,N] #[T,T,T,T,T,T,N,T,N,N,N] #[T,T,T,T,T,T,N,N,T,N,N] rfl rfl rfl rfl rfl rfl (on3 HT_) (by decide) (by decide) (by decide) (fun K hK => ?_) (fun K hK => ?_) (fun K hK => ?_)
              ·skip
               refine goes_ Try.func58 (by kernel_rfl) rfl #[.slice (some ad104) l0.length c0, .int .i64 x5_2] (by rfl) rfl rfl sg ?_
               with_reducible refine (cracknelref04_next.calls _ _ l0 x5_2 t105 t106 _ ?side1 ?side2 A14.out).mono ?_
               (case side1 => exact cs (Kd.C_below HR0.out HB.out))
               (case side2 => exact HC0.out)
               rintro e w18 ⟨rfl, hb⟩
               refine ⟨_, rfl, ?_⟩
               replace HB := bz hb
               (try clear hb)
               refine hK.out _ _ ⟨(hc HB hw104_0), (hc HB hw104_1)⟩ (fun hHeld => ?_)
               clear hK K
               refine nm 36 ?_
               exact norm_ pa (hJ6 () _ ⟨hHeld, bh⟩)
              ·skip
               refine bxs 6 #[.int .i64 0, .int .i64 0] 41 ?_
               intro gb107 hg w18 hbox hb
               have BK107 := Aside0.mk (hbox)
               have GW107 := ga w hg
               have GE107 := GW107
               replace HB := bz hb
               clear hb hbox hg
               refine hK.out _ _ ⟨(hc HB hw104_0), (hc HB hw104_1)⟩ (fun hHeld => ?_)
               clear hK K
               refine nm 6 ?_
               exact norm_ pa (hJ7 (gb107) _ ⟨hHeld, bk BK107, GW107.out, GE107.out, bh⟩)
              ·skip
               refine bxs 7 #[.int .i64 0, .int .i64 0] 41 ?_
               intro gb108 hg w18 hbox hb
               have BK108 := Aside0.mk (hbox)
               have GW108 := ga w hg
               have GE108 := GW108
               replace HB := bz hb
               clear hb hbox hg
               refine hK.out _ _ ⟨(hc HB hw104_0), (hc HB hw104_1)⟩ (fun hHeld => ?_)
               clear hK K
               refine nm 7 ?_
               exact norm_ pa (hJ8 (gb108) _ ⟨hHeld, bk BK108, GW108.out, GE108.out, bh⟩)
             ·skip
              rintro gb108 w19 ⟨hS_, h0_, h1_, h2_, h3_⟩
              have BK108 := Aside0.mk h0_
              have GW108 := Aside0.mk h1_
              have GE108 := Aside0.mk h2_
              replace HB := Aside0.mk h3_
              clear h0_ h1_ h2_ h3_
              have hHeld := hS_
              refine nn ?_
              refine two_ (i := 6) (j := 7) (Ni := some 36) (Nj := some 6) #[T,T,T,T,T,T,T,N,T,N,N] #[T,T,T,T,T,T,N,T,T,N,N] rfl rfl rfl rfl (on2 HT_) (by decide) (by decide) (fun K hK => ?_) (fun K hK => ?_)
              ·skip
               refine goes_ Try.func58 (by kernel_rfl) rfl #[.slice (some ad104) l0.length c0, .int .i64 x5_2] (by rfl) rfl rfl sg ?_
               with_reducible refine (cracknelref04_next.calls _ _ l0 x5_2 t105 t106 _ ?side1 ?side2 A14.out).mono ?_
               (case side1 => exact cs (Kd.C_below HR0.out HB.out))
               (case side2 => exact HC0.out)
               rintro e w20 ⟨rfl, hb⟩
               refine ⟨_, rfl, ?_⟩
               replace BK108 := kb BK108 hb
               replace HB := bz hb
               (try clear hb)
               refine hK.out _ _ ⟨(hc HB hw104_0), (hc HB hw104_1)⟩ (fun hHeld => ?_)
               clear hK K
               refine nm 36 ?_
               exact norm_ pa (hJ6_8 (gb108) _ ⟨hHeld, bk BK108, GW108.out, GE108.out, bh⟩)
              ·skip
               refine bxs 6 #[.int .i64 0, .int .i64 0] 41 ?_
               intro gb107 hg w20 hbox hb
               have BK107 := Aside0.mk (hbox)
               have GW107 := ga w hg
               have GE107 := GW107
               have NB108_107 := nb hg (kl BK108)
               have NB107_108 := bn NB108_107
               replace BK108 := kb BK108 hb
               replace HB := bz hb
               clear hb hbox hg
               refine hK.out _ _ ⟨(hc HB hw104_0), (hc HB hw104_1)⟩ (fun hHeld => ?_)
               clear hK K
               refine nm 6 ?_
               exact norm_ pa (hJ7_8 (gb107, gb108) _ ⟨hHeld, bk BK107, bk BK108, GW107.out, GE107.out, NB108_107.out, NB107_108.out, GW108.out, GE108.out, bh⟩)
            ·skip
             rintro gb107 w19 ⟨hS_, h0_, h1_, h2_, h3_⟩
             have BK107 := Aside0.mk h0_
             have GW107 := Aside0.mk h1_
             have GE107 := Aside0.mk h2_
             replace HB := Aside0.mk h3_
             clear h0_ h1_ h2_ h3_
             have hHeld := hS_
             refine nn ?_
             refine two_ (i := 6) (j := 8) (Ni := some 36) (Nj := some 7) #[T,T,T,T,T,T,T,T,N,N,N] #[T,T,T,T,T,T,N,T,T,N,N] rfl rfl rfl rfl (on2 HT_) (by decide) (by decide) (fun K hK => ?_) (fun K hK => ?_)
             ·skip
              refine goes_ Try.func58 (by kernel_rfl) rfl #[.slice (some ad104) l0.length c0, .int .i64 x5_2] (by rfl) rfl rfl sg ?_
              with_reducible refine (cracknelref04_next.calls _ _ l0 x5_2 t105 t106 _ ?side1 ?side2 A14.out).mono ?_
              (case side1 => exact cs (Kd.C_below HR0.out HB.out))
              (case side2 => exact HC0.out)
              rintro e w20 ⟨rfl, hb⟩
              refine ⟨_, rfl, ?_⟩
              replace BK107 := kb BK107 hb
              replace HB := bz hb
              (try clear hb)
              refine hK.out _ _ ⟨(hc HB hw104_0), (hc HB hw104_1)⟩ (fun hHeld => ?_)
              clear hK K
              refine nm 36 ?_
              exact norm_ pa (hJ6_7 (gb107) _ ⟨hHeld, bk BK107, GW107.out, GE107.out, bh⟩)
             ·skip
              refine bxs 7 #[.int .i64 0, .int .i64 0] 41 ?_
              intro gb108 hg w20 hbox hb
              have BK108 := Aside0.mk (hbox)
              have GW108 := ga w hg
              have GE108 := GW108
              have NB107_108 := nb hg (kl BK107)
              have NB108_107 := bn NB107_108
              replace BK107 := kb BK107 hb
              replace HB := bz hb
              clear hb hbox hg
              refine hK.out _ _ ⟨(hc HB hw104_0), (hc HB hw104_1)⟩ (fun hHeld => ?_)
              clear hK K
              refine nm 7 ?_
              exact norm_ pa (hJ7_8 (gb107, gb108) _ ⟨hHeld, bk BK107, bk BK108, GW107.out, GE107.out, NB108_107.out, NB107_108.out, GW108.out, GE108.out, bh⟩)
           ·skip
            rintro _ w19 ⟨hS_, h0_⟩
            replace HB := Aside0.mk h0_
            clear h0_
            have hHeld := hS_
            refine nn ?_
            refine two_ (i := 7) (j := 8) (Ni := some 6) (Nj := some 7) #[T,T,T,T,T,T,T,T,N,N,N] #[T,T,T,T,T,T,T,N,T,N,N] rfl rfl rfl rfl (on2 HT_) (by decide) (by decide) (fun K hK => ?_) (fun K hK => ?_)
            ·skip
             refine bxs 6 #[.int .i64 0, .int .i64 0] 41 ?_
             intro gb107 hg w20 hbox hb
             have BK107 := Aside0.mk (hbox)
             have GW107 := ga w hg
             have GE107 := GW107
             replace HB := bz hb
             clear hb hbox hg
             refine hK.out _ _ ⟨(hc HB hw104_0), (hc HB hw104_1)⟩ (fun hHeld => ?_)
             clear hK K
             refine nm 6 ?_
             exact norm_ pa (hJ6_7 (gb107) _ ⟨hHeld, bk BK107, GW107.out, GE107.out, bh⟩)
            ·skip
             refine bxs 7 #[.int .i64 0, .int .i64 0] 41 ?_
             intro gb108 hg w20 hbox hb
             have BK108 := Aside0.mk (hbox)
             have GW108 := ga w hg
             have GE108 := GW108
             replace HB := bz hb
             clear hb hbox hg
             refine hK.out _ _ ⟨(hc HB hw104_0), (hc HB hw104_1)⟩ (fun hHeld => ?_)
             clear hK K
             refine nm 7 ?_
             exact norm_ pa (hJ6_8 (gb108) _ ⟨hHeld, bk BK108, GW108.out, GE108.out, bh⟩)
          ·skip
           rintro ⟨gb107, gb108⟩ w20 ⟨hS_, h0_, h1_, h2_, h3_, h4_, h5_, h6_, h7_, h8_⟩
           have BK107 := Aside0.mk h0_
           have BK108 := Aside0.mk h1_
           have GW107 := Aside0.mk h2_
           have GE107 := Aside0.mk h3_
           have NB108_107 := Aside0.mk h4_
           have NB107_108 := Aside0.mk h5_
           have GW108 := Aside0.mk h6_
           have GE108 := Aside0.mk h7_
           replace HB := Aside0.mk h8_
           clear h0_ h1_ h2_ h3_ h4_ h5_ h6_ h7_ h8_
           have hHeld := hS_
           refine nn ?_
           refine one_ (i := 6) (N := some 36) #[T,T,T,T,T,T,T,T,T,N,N] rfl rfl (on1 HT_) (by decide) (fun K hK => ?_)
           refine goes_ Try.func58 (by kernel_rfl) rfl #[.slice (some ad104) l0.length c0, .int .i64 x5_2] (by rfl) rfl rfl sg ?_
           with_reducible refine (cracknelref04_next.calls _ _ l0 x5_2 t105 t106 _ ?side1 ?side2 A14.out).mono ?_
           (case side1 => exact cs (Kd.C_below HR0.out HB.out))
           (case side2 => exact HC0.out)
           rintro e w21 ⟨rfl, hb⟩
           refine ⟨_, rfl, ?_⟩
           replace BK107 := kb BK107 hb
           replace BK108 := kb BK108 hb
           replace HB := bz hb
           (try clear hb)
           refine hK.out _ _ ⟨(hc HB hw104_0), (hc HB hw104_1)⟩ (fun hHeld => ?_)
           clear hK K
           refine nm 36 ?_
           exact norm_ pa (hJ6_7_8 (gb107, gb108) _ ⟨hHeld, bk BK107, bk BK108, GW107.out, GE107.out, NB108_107.out, NB107_108.out, GW108.out, GE108.out, bh⟩)
         ·skip
          rintro gb108 w20 ⟨hS_, h0_, h1_, h2_, h3_⟩
          have BK108 := Aside0.mk h0_
          have GW108 := Aside0.mk h1_
          have GE108 := Aside0.mk h2_
          replace HB := Aside0.mk h3_
          clear h0_ h1_ h2_ h3_
          have hHeld := hS_
          refine nn ?_
          refine one_ (i := 7) (N := some 6) #[T,T,T,T,T,T,T,T,T,N,N] rfl rfl (on1 HT_) (by decide) (fun K hK => ?_)
          refine bxs 6 #[.int .i64 0, .int .i64 0] 41 ?_
          intro gb107 hg w21 hbox hb
          have BK107 := Aside0.mk (hbox)
          have GW107 := ga w hg
          have GE107 := GW107
          have NB108_107 := nb hg (kl BK108)
          have NB107_108 := bn NB108_107
          replace BK108 := kb BK108 hb
          replace HB := bz hb
          clear hb hbox hg
          refine hK.out _ _ ⟨(hc HB hw104_0), (hc HB hw104_1)⟩ (fun hHeld => ?_)
          clear hK K
          refine nm 6 ?_
          exact norm_ pa (hJ6_7_8 (gb107, gb108) _ ⟨hHeld, bk BK107, bk BK108, GW107.out, GE107.out, NB108_107.out, NB107_108.out, GW108.out, GE108.out, bh⟩)
        ·skip
         rintro gb107 w20 ⟨hS_, h0_, h1_, h2_, h3_⟩
         have BK107 := Aside0.mk h0_
         have GW107 := Aside0.mk h1_
         have GE107 := Aside0.mk h2_
         replace HB := Aside0.mk h3_
         clear h0_ h1_ h2_ h3_
         have hHeld := hS_
         refine nn ?_
         refine one_ (i := 8) (N := some 7) #[T,T,T,T,T,T,T,T,T,N,N] rfl rfl (on1 HT_) (by decide) (fun K hK => ?_)
         refine bxs 7 #[.int .i64 0, .int .i64 0] 41 ?_
         intro gb108 hg w21 hbox hb
         have BK108 := Aside0.mk (hbox)
         have GW108 := ga w hg
         have GE108 := GW108
         have NB107_108 := nb hg (kl BK107)
         have NB108_107 := bn NB107_108
         replace BK107 := kb BK107 hb
         replace HB := bz hb
         clear hb hbox hg
         refine hK.out _ _ ⟨(hc HB hw104_0), (hc HB hw104_1)⟩ (fun hHeld => ?_)
         clear hK K
         refine nm 7 ?_
         exact norm_ pa (hJ6_7_8 (gb107, gb108) _ ⟨hHeld, bk BK107, bk BK108, GW107.out, GE107.out, NB108_107.out, NB107_108.out, GW108.out, GE108.out, bh⟩)
       rintro ⟨gb107, gb108⟩ w21 ⟨hS_, h0_, h1_, h2_, h3_, h4_, h5_, h6_, h7_, h8_⟩
       have BK107 := Aside0.mk h0_
       have BK108 := Aside0.mk h1_
       have GW107 := Aside0.mk h2_
       have GE107 := Aside0.mk h3_
       have NB108_107 := Aside0.mk h4_
       have NB107_108 := Aside0.mk h5_
       have GW108 := Aside0.mk h6_
       have GE108 := Aside0.mk h7_
       replace HB := Aside0.mk h8_
       clear h0_ h1_ h2_ h3_ h4_ h5_ h6_ h7_ h8_
       have hHeld := hS_
       refine nn ?_
       refine one_ (i := 9) (N := none) #[T,T,T,T,T,T,T,T,T,T,N] rfl rfl (on1 HT_) (by decide) (fun K hK => ?_)
       have hs22 : w21.cell? ⟨gb107, 0, none⟩ = some (.int .i64 0) := bc BK107 0
       have hfs22 := blk_frozen BK107.out 0
       have hns22_1 := NB108_107.out
       have hms22_1 := NB107_108.out
       have hs23 : w21.cell? ⟨gb107, 1, none⟩ = some (.int .i64 0) := bc BK107 1
       have hfs23 := blk_frozen BK107.out 1
       have hns23_1 := NB108_107.out
       have hms23_1 := NB107_108.out
       refine skip_ (w1 := ?_) (by rfl) rfl ?_ ?_
       rotate_left
       ·go_simp
        rfl
       refine hK.out _ _ ⟨((cell_far (p := ⟨gb107, _, none⟩) (fr hw104_0 GW107) _).trans (((cell_far (p := ⟨gb107, _, none⟩) (fr hw104_0 GW107) _).trans (hHeld.1)))), ((cell_far (p := ⟨gb107, _, none⟩) (fr hw104_1 GW107) _).trans (((cell_far (p := ⟨gb107, _, none⟩) (fr hw104_1 GW107) _).trans (hHeld.2))))⟩ (fun hHeld => ?_)
       clear hK K
       refine one_ (i := 10) (N := none) #[T,T,T,T,T,T,T,T,T,T,T] rfl rfl (on1 HT_) (by decide) (fun K hK => ?_)
       have hs24 : w21.cell? ⟨gb108, 0, none⟩ = some (.int .i64 0) := bc BK108 0
       have hfs24 := blk_frozen BK108.out 0
       have hns24_0 := NB107_108.out
       have hms24_0 := NB108_107.out
       have hs25 : w21.cell? ⟨gb108, 1, none⟩ = some (.int .i64 0) := bc BK108 1
       have hfs25 := blk_frozen BK108.out 1
       have hns25_0 := NB107_108.out
       have hms25_0 := NB108_107.out
       refine skip_ (w1 := ?_) (by rfl) rfl ?_ ?_
       rotate_left
       ·go_simp
        rfl
       refine hK.out _ _ ⟨((cell_far (p := ⟨gb108, _, none⟩) (fr hw104_0 GW108) _).trans (((cell_far (p := ⟨gb108, _, none⟩) (fr hw104_0 GW108) _).trans (hHeld.1)))), ((cell_far (p := ⟨gb108, _, none⟩) (fr hw104_1 GW108) _).trans (((cell_far (p := ⟨gb108, _, none⟩) (fr hw104_1 GW108) _).trans (hHeld.2))))⟩ (fun hHeld => ?_)
       clear hK K
       refine done_ (done_of HT_.out (by kernel_rfl)) ?_
       go_upto_region 12 with (first | ((with_reducible refine gc 58 rfl ?_); refine goesL_ (some 40) rfl rfl Try.func58 (by kernel_rfl) rfl #[.slice (some ad104) l0.length c0, .int .i64 (wrap64 (x5_2 + 1))] rfl sg ?_; (with_reducible refine (cracknelref04_next.calls _ _ l0 (wrap64 (x5_2 + 1)) t109 t110 _ ?side1 ?side2 A15.out).mono ?_); (case side1 => exact Kd.C_below HR0.out bh); (case side2 => exact HC0.out); rintro e w26 ⟨rfl, hb⟩; refine ⟨_, rfl, ?_⟩; replace BK107 := Aside0.mk (blk_below (g := gb107) (o := .cells #[.int .i64 ((rd_T41 l0 x5_2).f0), .int .i64 ((rd_T41 l0 x5_2).f1)] 41 (0, 0)) (by refine bf NB107_108 ?_; refine bf NB107_108 ?_; refine bd ?_; refine blk_put (cs := #[.int .i64 ((rd_T41 l0 x5_2).f0), .int .i64 0]) ?_ 1 _ rfl; refine bd ?_; refine blk_put (cs := #[.int .i64 0, .int .i64 0]) ?_ 0 _ rfl; refine bd ?_; exact BK107.out) hb); replace BK108 := Aside0.mk (blk_below (g := gb108) (o := .cells #[.int .i64 t105, .int .i64 t106] 41 (0, 0)) (by refine bd ?_; refine blk_put (cs := #[.int .i64 t105, .int .i64 0]) ?_ 1 _ rfl; refine bd ?_; refine blk_put (cs := #[.int .i64 0, .int .i64 0]) ?_ 0 _ rfl; refine bf NB108_107 ?_; refine bf NB108_107 ?_; refine bd ?_; exact BK108.out) hb); replace HB := bz hb; (try clear hb)) | ((with_reducible refine gate_dst (N := 8) rfl ?_); refine bxe 8 #[.int .i64 0, .int .i64 0] 41 ?_; intro gb111 hg w27 hbox hb; have BK111 := Aside0.mk (hbox); have GW111 := ga w hg; have GE111 := GW111; have NB107_111 := nb hg (kl BK107); have NB111_107 := bn NB107_111; have NB108_111 := nb hg (kl BK108); have NB111_108 := bn NB108_111; replace BK107 := kb BK107 hb; replace BK108 := kb BK108 hb; replace HB := bz hb; clear hb hbox hg; have hnb28 := NB111_107.out; have hnc28 := NB107_111.out; have hnb29 := NB111_108.out; have hnc29 := NB108_111.out; obtain ⟨hcz30_0, hcz30_1, hfz30_0, hfz30_1⟩ := b2 BK111))
       (try simp only [Act.put, List.setIfInBounds_toArray, List.set_cons_zero, List.set_cons_succ])
       go_cut [50] (fun v50 wc => ∃ (kq : Nat) (x50_15 : Bool), v50 = .bool x50_15 ∧ Aside0 (cracknelref04_Simple.j2 kq l0 (l0.length : Int) x5_2 x50_15 ((rd_T41 l0 x5_2).f0) ((rd_T41 l0 x5_2).f1) t105 t106 = some r) ∧ Aside0 (kq ≤ k2) ∧ Aside0 (wc.heap[gb107]? = some (.cells #[.int .i64 ((rd_T41 l0 x5_2).f0), .int .i64 ((rd_T41 l0 x5_2).f1)] 41 (0, 0))) ∧ Aside0 (wc.heap[gb108]? = some (.cells #[.int .i64 t105, .int .i64 t106] 41 (0, 0))) ∧ Aside0 (wc.heap[gb111]? = some (.cells #[.int .i64 t109, .int .i64 t110] 41 (0, 0))) ∧ Aside0 (Below w.heap.size w wc))
       case first =>
        have H := HC16.out
        clear HC16
        replace H := Option.bind_eq_some_iff.mp H
        obtain ⟨t112, A310, H⟩ := H
        try dsimp only at H
        have A31 := Aside0.mk A310
        clear A310
        by_cases c32 : t112 = true
        ·subst c32
         rw [if_pos rfl] at H
         have H' := Aside0.mk H
         clear H
         have hnb33 := NB107_108.out
         have hnc33 := NB108_107.out
         have hnb34 := NB107_111.out
         have hnc34 := NB111_107.out
         obtain ⟨hcz35_0, hcz35_1, hfz35_0, hfz35_1⟩ := b2 BK107
         have hnb36 := NB108_111.out
         have hnc36 := NB111_108.out
         obtain ⟨hcz37_0, hcz37_1, hfz37_0, hfz37_1⟩ := b2 BK108
         obtain ⟨hcz38_0, hcz38_1, hfz38_0, hfz38_1⟩ := b2 BK111
         go_wp2_with (first | ((with_reducible refine gc 59 rfl ?_); refine goesL_ (some 44) rfl rfl Try.func59 (by kernel_rfl) rfl #[.agg #[.int .i64 ((rd_T41 l0 x5_2).f0), .int .i64 ((rd_T41 l0 x5_2).f1)], .agg #[.int .i64 t105, .int .i64 t106], .agg #[.int .i64 t109, .int .i64 t110]] rfl sg ?_; (with_reducible refine (cracknelref04_On.calls ((rd_T41 l0 x5_2).f0) ((rd_T41 l0 x5_2).f1) t105 t106 t109 t110 true _ A31.out).mono ?_); rintro e w39 ⟨rfl, hb⟩; refine ⟨_, rfl, ?_⟩; replace BK107 := Aside0.mk (blk_below (g := gb107) (o := .cells #[.int .i64 ((rd_T41 l0 x5_2).f0), .int .i64 ((rd_T41 l0 x5_2).f1)] 41 (0, 0)) (by refine bf NB107_111 ?_; refine bf NB107_111 ?_; refine bd ?_; exact BK107.out) hb); replace BK108 := Aside0.mk (blk_below (g := gb108) (o := .cells #[.int .i64 t105, .int .i64 t106] 41 (0, 0)) (by refine bf NB108_111 ?_; refine bf NB108_111 ?_; refine bd ?_; exact BK108.out) hb); replace BK111 := Aside0.mk (blk_below (g := gb111) (o := .cells #[.int .i64 t109, .int .i64 t110] 41 (0, 0)) (by refine bd ?_; refine blk_put (cs := #[.int .i64 t109, .int .i64 0]) ?_ 1 _ rfl; refine bd ?_; refine blk_put (cs := #[.int .i64 0, .int .i64 0]) ?_ 0 _ rfl; refine bd ?_; exact BK111.out) hb); replace HB := bz hb; (try clear hb)))
         go_meet
         case rel => exact ⟨_, (true), sd, H', ⟨by have := HK1.out; have := HK2.out; first | omega | exact Nat.le_refl _⟩, ⟨bk BK107⟩, ⟨bk BK108⟩, ⟨bk BK111⟩, ⟨bh⟩⟩
        ·replace c32 := Bool.eq_false_iff.mpr c32
         subst c32
         rw [if_neg (show ¬ (false = true) by decide)] at H
         replace H := Option.bind_eq_some_iff.mp H
         obtain ⟨t113, A400, H⟩ := H
         try dsimp only at H
         have A40 := Aside0.mk A400
         clear A400
         have H' := Aside0.mk H
         clear H
         have hnb41 := NB107_108.out
         have hnc41 := NB108_107.out
         have hnb42 := NB107_111.out
         have hnc42 := NB111_107.out
         obtain ⟨hcz43_0, hcz43_1, hfz43_0, hfz43_1⟩ := b2 BK107
         have hnb44 := NB108_111.out
         have hnc44 := NB111_108.out
         obtain ⟨hcz45_0, hcz45_1, hfz45_0, hfz45_1⟩ := b2 BK108
         obtain ⟨hcz46_0, hcz46_1, hfz46_0, hfz46_1⟩ := b2 BK111
         go_wp2_with (first | ((with_reducible refine gc 59 rfl ?_); refine goesL_ (some 44) rfl rfl Try.func59 (by kernel_rfl) rfl #[.agg #[.int .i64 ((rd_T41 l0 x5_2).f0), .int .i64 ((rd_T41 l0 x5_2).f1)], .agg #[.int .i64 t105, .int .i64 t106], .agg #[.int .i64 t109, .int .i64 t110]] rfl sg ?_; (with_reducible refine (cracknelref04_On.calls ((rd_T41 l0 x5_2).f0) ((rd_T41 l0 x5_2).f1) t105 t106 t109 t110 false _ A31.out).mono ?_); rintro e w47 ⟨rfl, hb⟩; refine ⟨_, rfl, ?_⟩; replace BK107 := Aside0.mk (blk_below (g := gb107) (o := .cells #[.int .i64 ((rd_T41 l0 x5_2).f0), .int .i64 ((rd_T41 l0 x5_2).f1)] 41 (0, 0)) (by refine bf NB107_111 ?_; refine bf NB107_111 ?_; refine bd ?_; exact BK107.out) hb); replace BK108 := Aside0.mk (blk_below (g := gb108) (o := .cells #[.int .i64 t105, .int .i64 t106] 41 (0, 0)) (by refine bf NB108_111 ?_; refine bf NB108_111 ?_; refine bd ?_; exact BK108.out) hb); replace BK111 := Aside0.mk (blk_below (g := gb111) (o := .cells #[.int .i64 t109, .int .i64 t110] 41 (0, 0)) (by refine bd ?_; refine blk_put (cs := #[.int .i64 t109, .int .i64 0]) ?_ 1 _ rfl; refine bd ?_; refine blk_put (cs := #[.int .i64 0, .int .i64 0]) ?_ 0 _ rfl; refine bd ?_; exact BK111.out) hb); replace HB := bz hb; (try clear hb); obtain ⟨hcz48_0, hcz48_1, hfz48_0, hfz48_1⟩ := b2 BK108; obtain ⟨hcz49_0, hcz49_1, hfz49_0, hfz49_1⟩ := b2 BK111; obtain ⟨hcz50_0, hcz50_1, hfz50_0, hfz50_1⟩ := b2 BK107) | (go_at_call 59; (with_reducible refine (cracknelref04_On.calls t105 t106 t109 t110 ((rd_T41 l0 x5_2).f0) ((rd_T41 l0 x5_2).f1) t113 _ A40.out).mono ?_); rintro e w51 ⟨rfl, hb⟩; replace BK107 := kb BK107 hb; replace BK108 := kb BK108 hb; replace BK111 := kb BK111 hb; replace HB := bz hb; (try clear hb)))
         go_meet
         case rel => exact ⟨_, (t113), sd, H', ⟨by have := HK1.out; have := HK2.out; first | omega | exact Nat.le_refl _⟩, ⟨bk BK107⟩, ⟨bk BK108⟩, ⟨bk BK111⟩, ⟨bh⟩⟩
       case rest =>
        clear HC16
        (try clear hcz30_0); (try clear hcz30_1); (try clear hfz30_0); (try clear hfz30_1)
        obtain ⟨kq, x50_15, rfl, HA, HJ15, BK107, BK108, BK111, HB⟩ := hcut
        cases kq with
        | zero => exact absurd HA.out (by simp [cracknelref04_Simple.j2])
        | succ kj15 =>
         have H := HA.out
         clear HA
         simp only [cracknelref04_Simple.j2] at H
         by_cases c52 : x50_15 = true
         ·subst c52
          rw [if_pos rfl] at H
          obtain rfl := Option.some.inj H
          go_wp2
          go_ret
          exact ⟨by exact er, bh⟩
         ·replace c52 := Bool.eq_false_iff.mpr c52
          subst c52
          rw [if_neg (show ¬ (false = true) by decide)] at H
          have H' := Aside0.mk H
          clear H
          go_wp2
          go_loopg [9] kj15 (fun kq v9 w' => ∃ (x9_4 : Int), v9 = .int .i64 x9_4 ∧ Aside0 (cracknelref04_Simple.l2 kq l0 (l0.length : Int) x5_2 x9_4 ((rd_T41 l0 x5_2).f0) ((rd_T41 l0 x5_2).f1) t105 t106 = some r) ∧ Aside0 (kq ≤ kj15) ∧ Aside0 (w'.heap[gb107]? = some (.cells #[.int .i64 ((rd_T41 l0 x5_2).f0), .int .i64 ((rd_T41 l0 x5_2).f1)] 41 (0, 0))) ∧ Aside0 (w'.heap[gb108]? = some (.cells #[.int .i64 t105, .int .i64 t106] 41 (0, 0))) ∧ Aside0 (w'.heap[gb111]? = some (.cells #[.int .i64 t109, .int .i64 t110] 41 (0, 0))) ∧ Aside0 (Below w.heap.size w w'))
          case atStart => exact ⟨(wrap64 (x5_2 + 2)), sd, H', ⟨Nat.le_refl _⟩, ⟨bk BK107⟩, ⟨bk BK108⟩, ⟨bk BK111⟩, ⟨bh⟩⟩
          case round =>
           clear H'
           (try clear c52)
           obtain ⟨x9_4, rfl, HA, HK4, BK107, BK108, BK111, HB⟩ := hrel
           cases gk with
           | zero => exact absurd HA.out (by simp [cracknelref04_Simple.l2])
           | succ k4 =>
            have H := HA.out
            clear HA
            simp only [cracknelref04_Simple.l2] at H
            by_cases c53 : x9_4 < (l0.length : Int)
            ·rw [if_pos c53] at H
             have c53b0 := decide_eq_true c53
             clear c53
             obtain ⟨c54, H⟩ := oj H
             have c54b0 : ((l0.length : Int) == 0) = false := beq_eq_false_iff_ne.mpr c54
             have c54b1 : ((l0.length : Int) != 0) = true := bne_iff_ne.mpr c54
             have c54b2 : ¬ (l0 = []) := fun h_ => c54 (by rw [h_]; rfl)
             by_cases c55 : (Int.tmod (wrap64 (x9_4 + 1)) (l0.length : Int)) = x5_2
             ·rw [if_pos c55] at H
              have c55b0 : ((Int.tmod (wrap64 (x9_4 + 1)) (l0.length : Int)) == x5_2) = true := beq_iff_eq.mpr c55
              have c55b1 : ((Int.tmod (wrap64 (x9_4 + 1)) (l0.length : Int)) != x5_2) = false := bne_eq_false_iff_eq.mpr c55
              clear c55
              have H' := Aside0.mk H
              clear H
              try go_wp2
              replace BK107 := Aside0.mk (blk_drew BK107.out)
              replace BK108 := Aside0.mk (blk_drew BK108.out)
              replace BK111 := Aside0.mk (blk_drew BK111.out)
              replace HB := Aside0.mk (below_drew1 HB.out)
              refine start_ (n := 18) (S := fun w' => True) (ds := []) #[N,N,N,N,N,N,N,N,N,N,N,N,N,N,N,N,N,N] (by kernel_rfl) rfl rfl trivial (fun hHeld => ?_); refine with_tabW cracknelref04_Simple.tab17 cracknelref04_Simple.bits17 (fun HT_ HW_ => ?_)
              generalize wr.drew = w56 at BK107 BK108 BK111 HB hHeld ⊢
              refine pu 0 58 HT_ ?_
              refine pu 1 59 HT_ ?_
              refine pu 2 60 HT_ ?_
              refine pu 3 61 HT_ ?_
              refine pu 4 62 HT_ ?_
              refine pu 5 63 HT_ ?_
              refine pu 6 64 HT_ ?_
              refine pz 7 65 HT_ ?_
              refine pz 8 66 HT_ ?_
              refine pz 9 67 HT_ ?_
              refine pz 10 68 HT_ ?_
              refine pz 11 69 HT_ ?_
              refine pz 12 70 HT_ ?_
              refine pz 13 71 HT_ ?_
              refine pz 14 72 HT_ ?_
              refine pz 15 73 HT_ ?_
              refine pz 16 74 HT_ ?_
              refine pu 17 75 HT_ ?_
              refine done_ (done_of HT_.out (by kernel_rfl)) ?_
              try go_wp2
              go_roundg k4
              case measure => have := HK1.out; have := HK2.out; have := HJ15.out; have := HK4.out; omega
              case rel => exact ⟨(wrap64 (x9_4 + 1)), sd, H', ⟨by have := HK1.out; have := HK2.out; have := HJ15.out; have := HK4.out; omega⟩, ⟨bk BK107⟩, ⟨bk BK108⟩, ⟨bk BK111⟩, ⟨bh⟩⟩
             ·rw [if_neg c55] at H
              have c55b0 : ((Int.tmod (wrap64 (x9_4 + 1)) (l0.length : Int)) == x5_2) = false := beq_eq_false_iff_ne.mpr c55
              have c55b1 : ((Int.tmod (wrap64 (x9_4 + 1)) (l0.length : Int)) != x5_2) = true := bne_iff_ne.mpr c55
              obtain ⟨c57, H⟩ := oi H
              have c57b0 := decide_eq_true c57
              clear c57
              obtain ⟨c58, H⟩ := oi H
              have c58b0 := decide_eq_true c58
              clear c58
              replace H := Option.bind_eq_some_iff.mp H
              obtain ⟨⟨t115, t116⟩, A590, H⟩ := H
              try dsimp only at H
              have A59 := Aside0.mk A590
              clear A590
              replace H := Option.bind_eq_some_iff.mp H
              obtain ⟨t117, A600, H⟩ := H
              try dsimp only at H
              have A60 := Aside0.mk A600
              clear A600
              by_cases c61 : t117 = true
              ·subst c61
               rw [if_pos rfl] at H
               obtain rfl := Option.some.inj H
               try go_wp2
               replace BK107 := Aside0.mk (blk_drew BK107.out)
               replace BK108 := Aside0.mk (blk_drew BK108.out)
               replace BK111 := Aside0.mk (blk_drew BK111.out)
               replace HB := Aside0.mk (below_drew1 HB.out)
               have p114 : 0 ≤ (x9_4 : Int) := dt
               have q114 : x9_4 < (l0.length : Int) := dt
               obtain ⟨ad114, e114, hx114_0, hx114_1⟩ := at_T41 HR0.out x9_4 p114 q114
               have hw114_1 := hx114_1
               have hw114_0 := hx114_0
               obtain rfl : ad104 = ad114 := (by injection e114)
               replace hx114_0 := hc HB hx114_0
               replace hx114_1 := hc HB hx114_1
               replace p114 := eq_true p114
               replace q114 := eq_true q114
               refine start_ (n := 18) (S := fun w' => w'.cell? ⟨gb107, 0, none⟩ = some (.int .i64 ((rd_T41 l0 x5_2).f0)) ∧ w'.cell? ⟨gb107, 1, none⟩ = some (.int .i64 ((rd_T41 l0 x5_2).f1)) ∧ w'.cell? ⟨gb108, 0, none⟩ = some (.int .i64 t105) ∧ w'.cell? ⟨gb108, 1, none⟩ = some (.int .i64 t106) ∧ w'.cell? (ad104.add ((x9_4).toNat * 2)) = some (.int .i64 ((rd_T41 l0 x9_4).f0)) ∧ w'.cell? ⟨(ad104.add ((x9_4).toNat * 2)).block, (ad104.add ((x9_4).toNat * 2)).off + 1, none⟩ = some (.int .i64 ((rd_T41 l0 x9_4).f1))) (ds := []) #[N,N,N,N,N,N,N,N,N,N,N,N,N,N,N,N,N,N] (by kernel_rfl) rfl rfl ⟨bc BK107 0, bc BK107 1, bc BK108 0, bc BK108 1, (hc HB hw114_0), (hc HB hw114_1)⟩ (fun hHeld => ?_); refine with_tabW cracknelref04_Simple.tab17 cracknelref04_Simple.bits17 (fun HT_ HW_ => ?_)
               generalize wr.drew = w62 at BK107 BK108 BK111 HB hx114_0 hx114_1 hHeld ⊢
               refine pu 0 58 HT_ ?_
               refine pu 1 59 HT_ ?_
               refine pu 2 60 HT_ ?_
               refine pu 3 61 HT_ ?_
               refine pu 4 62 HT_ ?_
               refine pu 5 63 HT_ ?_
               refine pu 6 64 HT_ ?_
               refine pu 9 67 HT_ ?_
               refine pu 10 68 HT_ ?_
               refine pu 11 69 HT_ ?_
               refine pu 13 71 HT_ ?_
               refine pu 14 72 HT_ ?_
               refine tk6 7 65 hHeld HT_ HW_ ?_
               refine tk6 8 66 hHeld HT_ HW_ ?_
               refine tk6 12 70 hHeld HT_ HW_ ?_
               refine one_ (i := 15) (N := some 73) #[T,T,T,T,T,T,T,T,T,T,T,T,T,T,T,T,N,N] rfl rfl (on1 HT_) (by decide) (fun K hK => ?_)
               refine goes_ Try.func58 (by kernel_rfl) rfl #[.slice (some ad104) l0.length c0, .int .i64 x9_4] (by rfl) rfl rfl sg ?_
               with_reducible refine (cracknelref04_next.calls _ _ l0 x9_4 t115 t116 _ ?side1 ?side2 A59.out).mono ?_
               (case side1 => exact cs (Kd.C_below HR0.out HB.out))
               (case side2 => exact HC0.out)
               rintro e w63 ⟨rfl, hb⟩
               refine ⟨_, rfl, ?_⟩
               replace BK107 := kb BK107 hb
               replace BK108 := kb BK108 hb
               replace BK111 := kb BK111 hb
               replace HB := bz hb
               (try clear hb)
               refine hK.out _ _ ⟨bc BK107 0, bc BK107 1, bc BK108 0, bc BK108 1, (hc HB hw114_0), (hc HB hw114_1)⟩ (fun hHeld => ?_)
               clear hK K
               refine nm 73 ?_
               refine one_ (i := 16) (N := some 74) #[T,T,T,T,T,T,T,T,T,T,T,T,T,T,T,T,T,N] rfl rfl (on1 HT_) (by decide) (fun K hK => ?_)
               refine goes_ Try.func60 (by kernel_rfl) rfl #[.agg #[.int .i64 ((rd_T41 l0 x5_2).f0), .int .i64 ((rd_T41 l0 x5_2).f1)], .agg #[.int .i64 t105, .int .i64 t106], .agg #[.int .i64 ((rd_T41 l0 x9_4).f0), .int .i64 ((rd_T41 l0 x9_4).f1)], .agg #[.int .i64 t115, .int .i64 t116]] (by rfl) rfl rfl sg ?_
               with_reducible refine (cracknelref04_Meet.calls k4 ((rd_T41 l0 x5_2).f0) ((rd_T41 l0 x5_2).f1) t105 t106 ((rd_T41 l0 x9_4).f0) ((rd_T41 l0 x9_4).f1) t115 t116 true _ A60.out).mono ?_
               rintro e w64 ⟨rfl, hb⟩
               refine ⟨_, rfl, ?_⟩
               replace BK107 := kb BK107 hb
               replace BK108 := kb BK108 hb
               replace BK111 := kb BK111 hb
               replace HB := bz hb
               (try clear hb)
               refine hK.out _ _ ⟨bc BK107 0, bc BK107 1, bc BK108 0, bc BK108 1, (hc HB hw114_0), (hc HB hw114_1)⟩ (fun hHeld => ?_)
               clear hK K
               refine nm 74 ?_
               refine pu 17 75 HT_ ?_
               refine done_ (done_of HT_.out (by kernel_rfl)) ?_
               try go_wp2
               go_ret
               exact ⟨by exact er, bh⟩
              ·replace c61 := Bool.eq_false_iff.mpr c61
               subst c61
               rw [if_neg (show ¬ (false = true) by decide)] at H
               have H' := Aside0.mk H
               clear H
               try go_wp2
               replace BK107 := Aside0.mk (blk_drew BK107.out)
               replace BK108 := Aside0.mk (blk_drew BK108.out)
               replace BK111 := Aside0.mk (blk_drew BK111.out)
               replace HB := Aside0.mk (below_drew1 HB.out)
               have p114 : 0 ≤ (x9_4 : Int) := dt
               have q114 : x9_4 < (l0.length : Int) := dt
               obtain ⟨ad114, e114, hx114_0, hx114_1⟩ := at_T41 HR0.out x9_4 p114 q114
               have hw114_1 := hx114_1
               have hw114_0 := hx114_0
               obtain rfl : ad104 = ad114 := (by injection e114)
               replace hx114_0 := hc HB hx114_0
               replace hx114_1 := hc HB hx114_1
               replace p114 := eq_true p114
               replace q114 := eq_true q114
               refine start_ (n := 18) (S := fun w' => w'.cell? ⟨gb107, 0, none⟩ = some (.int .i64 ((rd_T41 l0 x5_2).f0)) ∧ w'.cell? ⟨gb107, 1, none⟩ = some (.int .i64 ((rd_T41 l0 x5_2).f1)) ∧ w'.cell? ⟨gb108, 0, none⟩ = some (.int .i64 t105) ∧ w'.cell? ⟨gb108, 1, none⟩ = some (.int .i64 t106) ∧ w'.cell? (ad104.add ((x9_4).toNat * 2)) = some (.int .i64 ((rd_T41 l0 x9_4).f0)) ∧ w'.cell? ⟨(ad104.add ((x9_4).toNat * 2)).block, (ad104.add ((x9_4).toNat * 2)).off + 1, none⟩ = some (.int .i64 ((rd_T41 l0 x9_4).f1))) (ds := []) #[N,N,N,N,N,N,N,N,N,N,N,N,N,N,N,N,N,N] (by kernel_rfl) rfl rfl ⟨bc BK107 0, bc BK107 1, bc BK108 0, bc BK108 1, (hc HB hw114_0), (hc HB hw114_1)⟩ (fun hHeld => ?_); refine with_tabW cracknelref04_Simple.tab17 cracknelref04_Simple.bits17 (fun HT_ HW_ => ?_)
               generalize wr.drew = w65 at BK107 BK108 BK111 HB hx114_0 hx114_1 hHeld ⊢
               refine pu 0 58 HT_ ?_
               refine pu 1 59 HT_ ?_
               refine pu 2 60 HT_ ?_
               refine pu 3 61 HT_ ?_
               refine pu 4 62 HT_ ?_
               refine pu 5 63 HT_ ?_
               refine pu 6 64 HT_ ?_
               refine pu 9 67 HT_ ?_
               refine pu 10 68 HT_ ?_
               refine pu 11 69 HT_ ?_
               refine pu 13 71 HT_ ?_
               refine pu 14 72 HT_ ?_
               refine tk6 7 65 hHeld HT_ HW_ ?_
               refine tk6 8 66 hHeld HT_ HW_ ?_
               refine tk6 12 70 hHeld HT_ HW_ ?_
               refine one_ (i := 15) (N := some 73) #[T,T,T,T,T,T,T,T,T,T,T,T,T,T,T,T,N,N] rfl rfl (on1 HT_) (by decide) (fun K hK => ?_)
               refine goes_ Try.func58 (by kernel_rfl) rfl #[.slice (some ad104) l0.length c0, .int .i64 x9_4] (by rfl) rfl rfl sg ?_
               with_reducible refine (cracknelref04_next.calls _ _ l0 x9_4 t115 t116 _ ?side1 ?side2 A59.out).mono ?_
               (case side1 => exact cs (Kd.C_below HR0.out HB.out))
               (case side2 => exact HC0.out)
               rintro e w66 ⟨rfl, hb⟩
               refine ⟨_, rfl, ?_⟩
               replace BK107 := kb BK107 hb
               replace BK108 := kb BK108 hb
               replace BK111 := kb BK111 hb
               replace HB := bz hb
               (try clear hb)
               refine hK.out _ _ ⟨bc BK107 0, bc BK107 1, bc BK108 0, bc BK108 1, (hc HB hw114_0), (hc HB hw114_1)⟩ (fun hHeld => ?_)
               clear hK K
               refine nm 73 ?_
               refine one_ (i := 16) (N := some 74) #[T,T,T,T,T,T,T,T,T,T,T,T,T,T,T,T,T,N] rfl rfl (on1 HT_) (by decide) (fun K hK => ?_)
               refine goes_ Try.func60 (by kernel_rfl) rfl #[.agg #[.int .i64 ((rd_T41 l0 x5_2).f0), .int .i64 ((rd_T41 l0 x5_2).f1)], .agg #[.int .i64 t105, .int .i64 t106], .agg #[.int .i64 ((rd_T41 l0 x9_4).f0), .int .i64 ((rd_T41 l0 x9_4).f1)], .agg #[.int .i64 t115, .int .i64 t116]] (by rfl) rfl rfl sg ?_
               with_reducible refine (cracknelref04_Meet.calls k4 ((rd_T41 l0 x5_2).f0) ((rd_T41 l0 x5_2).f1) t105 t106 ((rd_T41 l0 x9_4).f0) ((rd_T41 l0 x9_4).f1) t115 t116 false _ A60.out).mono ?_
               rintro e w67 ⟨rfl, hb⟩
               refine ⟨_, rfl, ?_⟩
               replace BK107 := kb BK107 hb
               replace BK108 := kb BK108 hb
               replace BK111 := kb BK111 hb
               replace HB := bz hb
               (try clear hb)
               refine hK.out _ _ ⟨bc BK107 0, bc BK107 1, bc BK108 0, bc BK108 1, (hc HB hw114_0), (hc HB hw114_1)⟩ (fun hHeld => ?_)
               clear hK K
               refine nm 74 ?_
               refine pu 17 75 HT_ ?_
               refine done_ (done_of HT_.out (by kernel_rfl)) ?_
               try go_wp2
               go_roundg k4
               case measure => have := HK1.out; have := HK2.out; have := HJ15.out; have := HK4.out; omega
               case rel => exact ⟨(wrap64 (x9_4 + 1)), sd, H', ⟨by have := HK1.out; have := HK2.out; have := HJ15.out; have := HK4.out; omega⟩, ⟨bk BK107⟩, ⟨bk BK108⟩, ⟨bk BK111⟩, ⟨bh⟩⟩
            ·rw [if_neg c53] at H
             have c53b0 := decide_eq_false c53
             clear c53
             have H' := Aside0.mk H
             clear H
             go_wp2
             go_roundg k4
             case measure => have := HK1.out; have := HK2.out; have := HJ15.out; have := HK4.out; omega
             case rel => exact ⟨(wrap64 (x5_2 + 1)), sd, H', ⟨by have := HK1.out; have := HK2.out; have := HJ15.out; have := HK4.out; omega⟩, ⟨bh⟩⟩
      ·rw [if_neg c11] at H
       have c11b0 := decide_eq_false c11
       clear c11
       obtain rfl := Option.some.inj H
       go_wp2
       go_ret
       exact ⟨by exact er, bh⟩
/-! ### cracknelref04_Valid: function 86 -/
def cracknelref04_Valid.f (a0_0 : Int) (a0_1 : Int) (a1 : Int) : Option (Bool) := (cracknelref04_in.f a0_0 (wrap64 (-a1)) a1).bind fun t102 => (if t102 = true then ((cracknelref04_in.f a0_1 (wrap64 (-a1)) a1).bind fun t103 => (some t103)) else (some false))
set_option maxHeartbeats 8000000 in
set_option maxRecDepth 100000 in
theorem cracknelref04_Valid.calls (a0_0 : Int) (a0_1 : Int) (a1 : Int) (r : Bool) (w : World) (h : cracknelref04_Valid.f a0_0 a0_1 a1 = some r) :
  Calls Try.prog 86 #[.agg #[.int .i64 a0_0, .int .i64 a0_1], .int .i64 a1] w fun e w' => e = .returned (.bool r) ∧ Below w.heap.size w w' := by
 have hu41 := Try.underlying41
 have HB := Aside0.mk (Below.refl w.heap.size w)
 have H : ((cracknelref04_in.f a0_0 (wrap64 (-a1)) a1).bind fun t102 => (if t102 = true then ((cracknelref04_in.f a0_1 (wrap64 (-a1)) a1).bind fun t103 => (some t103)) else (some false))) = some r := h
 clear h
 replace H := Option.bind_eq_some_iff.mp H
 obtain ⟨t102, A30, H⟩ := H
 try dsimp only at H
 have A3 := Aside0.mk A30
 clear A30
 by_cases c4 : t102 = true
 ·subst c4
  rw [if_pos rfl] at H
  replace H := Option.bind_eq_some_iff.mp H
  obtain ⟨t103, A50, H⟩ := H
  try dsimp only at H
  have A5 := Aside0.mk A50
  clear A50
  obtain rfl := Option.some.inj H
  go_enter Try.func86, Try.ntmps86
  go_wp2_with (first | ((with_reducible refine gate_dst (N := 2) rfl ?_); refine bxe 2 #[.int .i64 a0_0, .int .i64 a0_1] 41 ?_; intro gb101 hg w6 hbox hb; have BK101 := Aside0.mk (hbox); have GW101 := ga w hg; have GE101 := GW101; replace HB := bz hb; clear hb hbox hg; obtain ⟨hcz7_0, hcz7_1, hfz7_0, hfz7_1⟩ := b2 BK101) | ((with_reducible refine gc 42 rfl ?_); refine goesL_ (some 10) rfl rfl Try.func42 (by kernel_rfl) rfl #[.int .i64 a0_0, .int .i64 (wrap64 (-a1)), .int .i64 a1] rfl sg ?_; (with_reducible refine (cracknelref04_in.calls a0_0 (wrap64 (-a1)) a1 true _ A3.out).mono ?_); rintro e w' ⟨rfl, ⟨nd, rfl⟩⟩; refine ⟨_, rfl, ?_⟩) | (go_at_call 42; (with_reducible refine (cracknelref04_in.calls a0_1 (wrap64 (-a1)) a1 t103 _ A5.out).mono ?_); rintro e w' ⟨rfl, ⟨nd, rfl⟩⟩))
  go_ret
  exact ⟨by exact er, bh⟩
 ·replace c4 := Bool.eq_false_iff.mpr c4
  subst c4
  rw [if_neg (show ¬ (false = true) by decide)] at H
  obtain rfl := Option.some.inj H
  go_enter Try.func86, Try.ntmps86
  go_wp2_with (first | ((with_reducible refine gate_dst (N := 2) rfl ?_); refine bxe 2 #[.int .i64 a0_0, .int .i64 a0_1] 41 ?_; intro gb101 hg w8 hbox hb; have BK101 := Aside0.mk (hbox); have GW101 := ga w hg; have GE101 := GW101; replace HB := bz hb; clear hb hbox hg; obtain ⟨hcz9_0, hcz9_1, hfz9_0, hfz9_1⟩ := b2 BK101) | ((with_reducible refine gc 42 rfl ?_); refine goesL_ (some 10) rfl rfl Try.func42 (by kernel_rfl) rfl #[.int .i64 a0_0, .int .i64 (wrap64 (-a1)), .int .i64 a1] rfl sg ?_; (with_reducible refine (cracknelref04_in.calls a0_0 (wrap64 (-a1)) a1 false _ A3.out).mono ?_); rintro e w' ⟨rfl, ⟨nd, rfl⟩⟩; refine ⟨_, rfl, ?_⟩))
  go_ret
  exact ⟨by exact er, bh⟩
/-! ### cracknelref04_Polygon: function 39 -/
def cracknelref04_Polygon.l0 : Nat → List (S41) → Int → Option (Bool)
 | 0, _, _ => none
 | k + 1, x0, x3 => if x3 < (x0.length : Int) then (if 0 ≤ x3 then ((cracknelref04_Valid.f ((rd_T41 x0 x3).f0) ((rd_T41 x0 x3).f1) 10000).bind fun t103 => (if t103 = true then (cracknelref04_Polygon.l0 k x0 (wrap64 (x3 + 1))) else (some false))) else (none)) else ((cracknelref04_in.f (x0.length : Int) 3 32).bind fun t101 => (some t101))
def cracknelref04_Polygon.f (k : Nat) (l0 : List (S41)) : Option (Bool) := cracknelref04_Polygon.l0 k l0 0
set_option maxHeartbeats 8000000 in
set_option maxRecDepth 100000 in
theorem cracknelref04_Polygon.calls (k : Nat) (A0 : Option Addr) (c0 : Nat) (l0 : List (S41)) (r : Bool) (w : World) (hr0 : Kd.C k41 w A0 l0.length l0) (hc0 : l0.length ≤ c0) (h : cracknelref04_Polygon.f k l0 = some r) :
  Calls Try.prog 39 #[.slice A0 l0.length c0] w fun e w' => e = .returned (.bool r) ∧ Below w.heap.size w w' := by
 have hu41 := Try.underlying41
 have HR0 := Aside0.mk hr0
 have HC0 := Aside0.mk hc0
 clear hr0 hc0
 have HB := Aside0.mk (Below.refl w.heap.size w)
 have H : (cracknelref04_Polygon.l0 k l0 0) = some r := h
 clear h
 have H' := Aside0.mk H
 clear H
 go_enter Try.func39, Try.ntmps39
 go_wp2
 go_loopg [3] k (fun kq v3 w' => ∃ (x3_1 : Int), v3 = .int .i64 x3_1 ∧ Aside0 (cracknelref04_Polygon.l0 kq l0 x3_1 = some r) ∧ Aside0 (kq ≤ k) ∧ Aside0 (Below w.heap.size w w'))
 case atStart => exact ⟨(0), sd, H', ⟨Nat.le_refl _⟩, ⟨bh⟩⟩
 case round =>
  clear H'
  obtain ⟨x3_1, rfl, HA, HK1, HB⟩ := hrel
  cases gk with
  | zero => exact absurd HA.out (by simp [cracknelref04_Polygon.l0])
  | succ k1 =>
   have H := HA.out
   clear HA
   simp only [cracknelref04_Polygon.l0] at H
   by_cases c2 : x3_1 < (l0.length : Int)
   ·rw [if_pos c2] at H
    have c2b0 := decide_eq_true c2
    clear c2
    obtain ⟨c3, H⟩ := oi H
    have c3b0 := decide_eq_true c3
    clear c3
    replace H := Option.bind_eq_some_iff.mp H
    obtain ⟨t103, A40, H⟩ := H
    try dsimp only at H
    have A4 := Aside0.mk A40
    clear A40
    by_cases c5 : t103 = true
    ·subst c5
     rw [if_pos rfl] at H
     have H' := Aside0.mk H
     clear H
     have p102 : 0 ≤ (x3_1 : Int) := dt
     have q102 : x3_1 < (l0.length : Int) := dt
     obtain ⟨ad102, e102, hx102_0, hx102_1⟩ := at_T41 HR0.out x3_1 p102 q102
     cases e102
     replace hx102_0 := hc HB hx102_0
     replace hx102_1 := hc HB hx102_1
     replace p102 := eq_true p102
     replace q102 := eq_true q102
     go_wp2_with (first | ((with_reducible refine gc 86 rfl ?_); refine goesL_ (some 14) rfl rfl Try.func86 (by kernel_rfl) rfl #[.agg #[.int .i64 ((rd_T41 l0 x3_1).f0), .int .i64 ((rd_T41 l0 x3_1).f1)], .int .i64 10000] rfl sg ?_; (with_reducible refine (cracknelref04_Valid.calls ((rd_T41 l0 x3_1).f0) ((rd_T41 l0 x3_1).f1) 10000 true _ A4.out).mono ?_); rintro e w6 ⟨rfl, hb⟩; refine ⟨_, rfl, ?_⟩; replace HB := bz hb; (try clear hb)))
     go_roundg k1
     case measure => have := HK1.out; omega
     case rel => exact ⟨(wrap64 (x3_1 + 1)), sd, H', ⟨by have := HK1.out; omega⟩, ⟨bh⟩⟩
    ·replace c5 := Bool.eq_false_iff.mpr c5
     subst c5
     rw [if_neg (show ¬ (false = true) by decide)] at H
     obtain rfl := Option.some.inj H
     have p102 : 0 ≤ (x3_1 : Int) := dt
     have q102 : x3_1 < (l0.length : Int) := dt
     obtain ⟨ad102, e102, hx102_0, hx102_1⟩ := at_T41 HR0.out x3_1 p102 q102
     cases e102
     replace hx102_0 := hc HB hx102_0
     replace hx102_1 := hc HB hx102_1
     replace p102 := eq_true p102
     replace q102 := eq_true q102
     go_wp2_with (first | ((with_reducible refine gc 86 rfl ?_); refine goesL_ (some 14) rfl rfl Try.func86 (by kernel_rfl) rfl #[.agg #[.int .i64 ((rd_T41 l0 x3_1).f0), .int .i64 ((rd_T41 l0 x3_1).f1)], .int .i64 10000] rfl sg ?_; (with_reducible refine (cracknelref04_Valid.calls ((rd_T41 l0 x3_1).f0) ((rd_T41 l0 x3_1).f1) 10000 false _ A4.out).mono ?_); rintro e w7 ⟨rfl, hb⟩; refine ⟨_, rfl, ?_⟩; replace HB := bz hb; (try clear hb)))
     go_ret
     exact ⟨by exact er, bh⟩
   ·rw [if_neg c2] at H
    have c2b0 := decide_eq_false c2
    clear c2
    replace H := Option.bind_eq_some_iff.mp H
    obtain ⟨t101, A80, H⟩ := H
    try dsimp only at H
    have A8 := Aside0.mk A80
    clear A80
    obtain rfl := Option.some.inj H
    go_wp2_with (first | ((with_reducible refine gc 42 rfl ?_); refine goesL_ (some 18) rfl rfl Try.func42 (by kernel_rfl) rfl #[.int .i64 (l0.length : Int), .int .i64 3, .int .i64 32] rfl sg ?_; (with_reducible refine (cracknelref04_in.calls (l0.length : Int) 3 32 t101 _ A8.out).mono ?_); rintro e w' ⟨rfl, ⟨nd, rfl⟩⟩; refine ⟨_, rfl, ?_⟩))
    go_ret
    exact ⟨by exact er, bh⟩
/-! ### cracknellaw04_simple: function 11 -/
def cracknellaw04_simple.f (k : Nat) (l0 : List (S41)) : Option (Int) := (cracknelref04_Polygon.f k l0).bind fun t101 => (if t101 = true then ((cracknelref04_Simple.f k l0).bind fun t102 => (if t102 = true then (some 0) else (some 2))) else (some 1))
set_option maxHeartbeats 8000000 in
set_option maxRecDepth 100000 in
theorem cracknellaw04_simple.calls (k : Nat) (A0 : Option Addr) (c0 : Nat) (l0 : List (S41)) (r : Int) (w : World) (hr0 : Kd.C k41 w A0 l0.length l0) (hc0 : l0.length ≤ c0) (h : cracknellaw04_simple.f k l0 = some r) :
  Calls Try.prog 11 #[.slice A0 l0.length c0] w fun e w' => e = .returned (.int .i64 r) ∧ Below w.heap.size w w' := by
 have HR0 := Aside0.mk hr0
 have HC0 := Aside0.mk hc0
 clear hr0 hc0
 have HB := Aside0.mk (Below.refl w.heap.size w)
 have H : ((cracknelref04_Polygon.f k l0).bind fun t101 => (if t101 = true then ((cracknelref04_Simple.f k l0).bind fun t102 => (if t102 = true then (some 0) else (some 2))) else (some 1))) = some r := h
 clear h
 replace H := Option.bind_eq_some_iff.mp H
 obtain ⟨t101, A20, H⟩ := H
 try dsimp only at H
 have A2 := Aside0.mk A20
 clear A20
 by_cases c3 : t101 = true
 ·subst c3
  rw [if_pos rfl] at H
  replace H := Option.bind_eq_some_iff.mp H
  obtain ⟨t102, A40, H⟩ := H
  try dsimp only at H
  have A4 := Aside0.mk A40
  clear A40
  by_cases c5 : t102 = true
  ·subst c5
   rw [if_pos rfl] at H
   obtain rfl := Option.some.inj H
   go_enter Try.func11, Try.ntmps11
   go_wp2_with (first | ((with_reducible refine gc 39 rfl ?_); refine goesL_ (some 4) rfl rfl Try.func39 (by kernel_rfl) rfl #[.slice A0 l0.length c0] rfl sg ?_; (with_reducible refine (cracknelref04_Polygon.calls k _ _ l0 true _ ?side1 ?side2 A2.out).mono ?_); (case side1 => exact cs HR0.out); (case side2 => exact HC0.out); rintro e w6 ⟨rfl, hb⟩; refine ⟨_, rfl, ?_⟩; replace HB := bz hb; (try clear hb)) | ((with_reducible refine gc 27 rfl ?_); refine goesL_ (some 7) rfl rfl Try.func27 (by kernel_rfl) rfl #[.slice A0 l0.length c0] rfl sg ?_; (with_reducible refine (cracknelref04_Simple.calls k _ _ l0 true _ ?side1 ?side2 A4.out).mono ?_); (case side1 => exact cs (Kd.C_below HR0.out HB.out)); (case side2 => exact HC0.out); rintro e w7 ⟨rfl, hb⟩; refine ⟨_, rfl, ?_⟩; replace HB := bz hb; (try clear hb)))
   go_ret
   exact ⟨by exact er, bh⟩
  ·replace c5 := Bool.eq_false_iff.mpr c5
   subst c5
   rw [if_neg (show ¬ (false = true) by decide)] at H
   obtain rfl := Option.some.inj H
   go_enter Try.func11, Try.ntmps11
   go_wp2_with (first | ((with_reducible refine gc 39 rfl ?_); refine goesL_ (some 4) rfl rfl Try.func39 (by kernel_rfl) rfl #[.slice A0 l0.length c0] rfl sg ?_; (with_reducible refine (cracknelref04_Polygon.calls k _ _ l0 true _ ?side1 ?side2 A2.out).mono ?_); (case side1 => exact cs HR0.out); (case side2 => exact HC0.out); rintro e w8 ⟨rfl, hb⟩; refine ⟨_, rfl, ?_⟩; replace HB := bz hb; (try clear hb)) | ((with_reducible refine gc 27 rfl ?_); refine goesL_ (some 7) rfl rfl Try.func27 (by kernel_rfl) rfl #[.slice A0 l0.length c0] rfl sg ?_; (with_reducible refine (cracknelref04_Simple.calls k _ _ l0 false _ ?side1 ?side2 A4.out).mono ?_); (case side1 => exact cs (Kd.C_below HR0.out HB.out)); (case side2 => exact HC0.out); rintro e w9 ⟨rfl, hb⟩; refine ⟨_, rfl, ?_⟩; replace HB := bz hb; (try clear hb)))
   go_ret
   exact ⟨by exact er, bh⟩
 ·replace c3 := Bool.eq_false_iff.mpr c3
  subst c3
  rw [if_neg (show ¬ (false = true) by decide)] at H
  obtain rfl := Option.some.inj H
  go_enter Try.func11, Try.ntmps11
  go_wp2_with (first | ((with_reducible refine gc 39 rfl ?_); refine goesL_ (some 4) rfl rfl Try.func39 (by kernel_rfl) rfl #[.slice A0 l0.length c0] rfl sg ?_; (with_reducible refine (cracknelref04_Polygon.calls k _ _ l0 false _ ?side1 ?side2 A2.out).mono ?_); (case side1 => exact cs HR0.out); (case side2 => exact HC0.out); rintro e w10 ⟨rfl, hb⟩; refine ⟨_, rfl, ?_⟩; replace HB := bz hb; (try clear hb)))
  go_ret
  exact ⟨by exact er, bh⟩
/-! ### cracknelref04_box: function 49 -/
def cracknelref04_box.l0 : Nat → List (S41) → Int → Int → Int → Int → Int → Option (Int × Int × Int × Int)
 | 0, _, _, _, _, _, _ => none
 | k + 1, x0, x6, x106000, x106001, x107000, x107001 => if x6 < (x0.length : Int) then (if 0 ≤ x6 then (cracknelref04_box.l0 k x0 (wrap64 (x6 + 1)) (mn x106000 ((rd_T41 x0 x6).f0)) (mn x106001 ((rd_T41 x0 x6).f1)) (mx x107000 ((rd_T41 x0 x6).f0)) (mx x107001 ((rd_T41 x0 x6).f1))) else (none)) else (some (x106000, x106001, x107000, x107001))
def cracknelref04_box.f (k : Nat) (l0 : List (S41)) : Option (Int × Int × Int × Int) := if 0 < (l0.length : Int) then (cracknelref04_box.l0 k l0 0 ((rd_T41 l0 0).f0) ((rd_T41 l0 0).f1) ((rd_T41 l0 0).f0) ((rd_T41 l0 0).f1)) else (none)
def cracknelref04_box.T1 : Bool × List (List Nat × List Nat) := (true, [([], []), ([0], [0]), ([1], [1]), ([], []), ([3], [3]), ([4], [4]), ([], []), ([], []), ([6, 2, 0, 1, 2, 6, 7], [2, 6]), ([7, 5, 8, 0, 1, 2, 3, 4, 5, 6, 7, 8], [5, 7])])
def cracknelref04_box.B1 : List Nat := [0, 1, 3, 0, 8, 24, 0, 0, 199, 511]
theorem cracknelref04_box.tab1 : rtab .any (opsOf Try.f49 1) = cracknelref04_box.T1 := by kernel_rfl
theorem cracknelref04_box.bits1 : waitsOk cracknelref04_box.T1.2 cracknelref04_box.B1 = true := by kernel_rfl
def cracknelref04_box.T5 : Bool × List (List Nat × List Nat) := (true, [([], []), ([0], [0]), ([], []), ([], []), ([2, 3], [2, 3]), ([4], [4]), ([5], [5]), ([1, 6], [1, 6]), ([], []), ([8], [8]), ([], []), ([], []), ([10, 11], [10, 11]), ([12], [12]), ([13], [13]), ([9, 14], [9, 14]), ([7, 15], [7, 15]), ([16, 0, 1, 2, 3, 4, 5, 6, 7, 8, 9, 10, 11, 12, 13, 14, 15, 16], [16])])
def cracknelref04_box.B5 : List Nat := [0, 1, 0, 0, 12, 28, 60, 127, 0, 256, 0, 0, 3072, 7168, 15360, 32512, 65535, 131071]
theorem cracknelref04_box.tab5 : rtab .any (opsOf Try.f49 5) = cracknelref04_box.T5 := by kernel_rfl
theorem cracknelref04_box.bits5 : waitsOk cracknelref04_box.T5.2 cracknelref04_box.B5 = true := by kernel_rfl
def cracknelref04_box.T6 : Bool × List (List Nat × List Nat) := (true, [([], []), ([0], [0]), ([], []), ([], []), ([2, 3], [2, 3]), ([4], [4]), ([5], [5]), ([1, 6], [1, 6]), ([], []), ([8], [8]), ([], []), ([], []), ([10, 11], [10, 11]), ([12], [12]), ([13], [13]), ([9, 14], [9, 14]), ([7, 15], [7, 15]), ([16, 0, 1, 2, 3, 4, 5, 6, 7, 8, 9, 10, 11, 12, 13, 14, 15, 16], [16])])
def cracknelref04_box.B6 : List Nat := [0, 1, 0, 0, 12, 28, 60, 127, 0, 256, 0, 0, 3072, 7168, 15360, 32512, 65535, 131071]
theorem cracknelref04_box.tab6 : rtab .any (opsOf Try.f49 6) = cracknelref04_box.T6 := by kernel_rfl
theorem cracknelref04_box.bits6 : waitsOk cracknelref04_box.T6.2 cracknelref04_box.B6 = true := by kernel_rfl
set_option maxHeartbeats 8000000 in
set_option maxRecDepth 100000 in
theorem cracknelref04_box.calls (k : Nat) (A0 : Option Addr) (c0 : Nat) (l0 : List (S41)) (r1 : Int) (r2 : Int) (r3 : Int) (r4 : Int) (w : World) (hr0 : Kd.C k41 w A0 l0.length l0) (hc0 : l0.length ≤ c0) (h : cracknelref04_box.f k l0 = some (r1, r2, r3, r4)) :
  Calls Try.prog 49 #[.slice A0 l0.length c0] w fun e w' => e = .returned (.tuple #[.agg #[.int .i64 r1, .int .i64 r2], .agg #[.int .i64 r3, .int .i64 r4]]) ∧ Below w.heap.size w w' := by
 have hu41 := Try.underlying41
 have HR0 := Aside0.mk hr0
 have HC0 := Aside0.mk hc0
 clear hr0 hc0
 have HB := Aside0.mk (Below.refl w.heap.size w)
 have H : (if 0 < (l0.length : Int) then (cracknelref04_box.l0 k l0 0 ((rd_T41 l0 0).f0) ((rd_T41 l0 0).f1) ((rd_T41 l0 0).f0) ((rd_T41 l0 0).f1)) else (none)) = some (r1, r2, r3, r4) := h
 clear h
 obtain ⟨c2, H⟩ := oi H
 have c2b0 := decide_eq_true c2
 have c2b1 : decide (0 < l0.length) = true := decide_eq_true (by omega)
 clear c2
 have H' := Aside0.mk H
 clear H
 go_enter Try.func49, Try.ntmps49
 try go_wp2_with (first | ((with_reducible refine gate_dst (N := 2) rfl ?_); refine bxe 2 #[.int .i64 0, .int .i64 0] 41 ?_; intro gb101 hg w3 hbox hb; have BK101 := Aside0.mk (hbox); have GW101 := ga w hg; have GE101 := GW101; replace HB := bz hb; clear hb hbox hg) | ((with_reducible refine gate_dst (N := 3) rfl ?_); refine bxe 3 #[.int .i64 0, .int .i64 0] 41 ?_; intro gb102 hg w4 hbox hb; have BK102 := Aside0.mk (hbox); have GW102 := ga w hg; have GE102 := GW102; have NB101_102 := nb hg (kl BK101); have NB102_101 := bn NB101_102; replace BK101 := kb BK101 hb; replace HB := bz hb; clear hb hbox hg))
 replace BK101 := Aside0.mk (blk_drew BK101.out)
 replace BK102 := Aside0.mk (blk_drew BK102.out)
 replace HB := Aside0.mk (below_drew1 HB.out)
 have p103 : 0 ≤ (0 : Int) := (by omega)
 have q103 : 0 < (l0.length : Int) := dt
 obtain ⟨ad103, e103, hx103_0, hx103_1⟩ := at_T41 HR0.out 0 p103 q103
 have hw103_1 := hx103_1
 (try rw [show ((0 : Int)).toNat = 0 from rfl] at hw103_1)
 (try rw [show 0 * 2 = 0 from rfl] at hw103_1)
 (try rw [Addr.add_zero'] at hw103_1)
 have hw103_0 := hx103_0
 (try rw [show ((0 : Int)).toNat = 0 from rfl] at hw103_0)
 (try rw [show 0 * 2 = 0 from rfl] at hw103_0)
 (try rw [Addr.add_zero'] at hw103_0)
 cases e103
 have qi103 : (0 < l0.length) = True := eq_true (by omega)
 (try rw [show ((0 : Int)).toNat = 0 from rfl] at hx103_0)
 (try rw [show 0 * 2 = 0 from rfl] at hx103_0)
 (try rw [Addr.add_zero'] at hx103_0)
 (try rw [show ((0 : Int)).toNat = 0 from rfl] at hx103_1)
 (try rw [show 0 * 2 = 0 from rfl] at hx103_1)
 (try rw [Addr.add_zero'] at hx103_1)
 replace hx103_0 := hc HB hx103_0
 replace hx103_1 := hc HB hx103_1
 replace p103 := eq_true p103
 replace q103 := eq_true q103
 have p104 : 0 ≤ (0 : Int) := (by omega)
 have q104 : 0 < (l0.length : Int) := dt
 obtain ⟨ad104, e104, hx104_0, hx104_1⟩ := at_T41 HR0.out 0 p104 q104
 have hw104_1 := hx104_1
 (try rw [show ((0 : Int)).toNat = 0 from rfl] at hw104_1)
 (try rw [show 0 * 2 = 0 from rfl] at hw104_1)
 (try rw [Addr.add_zero'] at hw104_1)
 have hw104_0 := hx104_0
 (try rw [show ((0 : Int)).toNat = 0 from rfl] at hw104_0)
 (try rw [show 0 * 2 = 0 from rfl] at hw104_0)
 (try rw [Addr.add_zero'] at hw104_0)
 obtain rfl : ad103 = ad104 := (by injection e104)
 have qi104 : (0 < l0.length) = True := eq_true (by omega)
 (try rw [show ((0 : Int)).toNat = 0 from rfl] at hx104_0)
 (try rw [show 0 * 2 = 0 from rfl] at hx104_0)
 (try rw [Addr.add_zero'] at hx104_0)
 (try rw [show ((0 : Int)).toNat = 0 from rfl] at hx104_1)
 (try rw [show 0 * 2 = 0 from rfl] at hx104_1)
 (try rw [Addr.add_zero'] at hx104_1)
 replace hx104_0 := hc HB hx104_0
 replace hx104_1 := hc HB hx104_1
 replace p104 := eq_true p104
 replace q104 := eq_true q104
 refine start_ (n := 10) (S := fun w' => w'.cell? ad103 = some (.int .i64 ((rd_T41 l0 0).f0)) ∧ w'.cell? ⟨ad103.block, ad103.off + 1, none⟩ = some (.int .i64 ((rd_T41 l0 0).f1)) ∧ w'.cell? ad103 = some (.int .i64 ((rd_T41 l0 0).f0)) ∧ w'.cell? ⟨ad103.block, ad103.off + 1, none⟩ = some (.int .i64 ((rd_T41 l0 0).f1))) (ds := []) #[N,N,N,N,N,N,N,N,N,N] (by kernel_rfl) rfl rfl ⟨(hc HB hw103_0), (hc HB hw103_1), (hc HB hw104_0), (hc HB hw104_1)⟩ (fun hHeld => ?_); refine with_tabW cracknelref04_box.tab1 cracknelref04_box.bits1 (fun HT_ HW_ => ?_)
 generalize w4.drew = w5 at BK101 BK102 HB hx103_0 hx103_1 hx104_0 hx104_1 hHeld ⊢
 refine pu 0 7 HT_ ?_
 refine pu 1 8 HT_ ?_
 refine pu 3 10 HT_ ?_
 refine pu 4 11 HT_ ?_
 refine tk4 2 9 hHeld HT_ HW_ ?_
 refine tk4 5 12 hHeld HT_ HW_ ?_
 refine join_ (σ := Nat × Nat) 2 #[T,T,T,T,T,T,T,T,N,N] (fun s_ => [(4, .pointer (some ⟨s_.1, 0, none⟩)), (5, .pointer (some ⟨s_.2, 0, none⟩))]) (fun s_ w' => (w'.cell? ad103 = some (.int .i64 ((rd_T41 l0 0).f0)) ∧ w'.cell? ⟨ad103.block, ad103.off + 1, none⟩ = some (.int .i64 ((rd_T41 l0 0).f1)) ∧ w'.cell? ad103 = some (.int .i64 ((rd_T41 l0 0).f0)) ∧ w'.cell? ⟨ad103.block, ad103.off + 1, none⟩ = some (.int .i64 ((rd_T41 l0 0).f1))) ∧ (w'.heap[gb101]? = some (.cells #[.int .i64 0, .int .i64 0] 41 (0, 0))) ∧ (w'.heap[gb102]? = some (.cells #[.int .i64 0, .int .i64 0] 41 (0, 0))) ∧ (w'.heap[s_.1]? = some (.cells #[.int .i64 0, .int .i64 0] 41 (0, 0))) ∧ (w'.heap[s_.2]? = some (.cells #[.int .i64 0, .int .i64 0] 41 (0, 0))) ∧ (w.heap.size ≤ s_.1) ∧ (w.heap.size ≤ s_.1) ∧ (gb101 ≠ s_.1) ∧ (s_.1 ≠ gb101) ∧ (gb102 ≠ s_.1) ∧ (s_.1 ≠ gb102) ∧ (s_.2 ≠ s_.1) ∧ (s_.1 ≠ s_.2) ∧ (w.heap.size ≤ s_.2) ∧ (w.heap.size ≤ s_.2) ∧ (gb101 ≠ s_.2) ∧ (s_.2 ≠ gb101) ∧ (gb102 ≠ s_.2) ∧ (s_.2 ≠ gb102) ∧ (Below w.heap.size w w')) ?_ ?_
 rotate_left
 ·intro hCont
  refine two_ (i := 6) (j := 7) (Ni := some 4) (Nj := some 5) #[T,T,T,T,T,T,T,N,N,N] #[T,T,T,T,T,T,N,T,N,N] rfl rfl rfl rfl (on2 HT_) (by decide) (by decide) (fun K hK => ?_) (fun K hK => ?_)
  ·skip
   refine bxs 4 #[.int .i64 0, .int .i64 0] 41 ?_
   intro gb105 hg w6 hbox hb
   have BK105 := Aside0.mk (hbox)
   have GW105 := ga w hg
   have GE105 := GW105
   have NB101_105 := nb hg (kl BK101)
   have NB105_101 := bn NB101_105
   have NB102_105 := nb hg (kl BK102)
   have NB105_102 := bn NB102_105
   replace BK101 := kb BK101 hb
   replace BK102 := kb BK102 hb
   replace HB := bz hb
   clear hb hbox hg
   refine hK.out _ _ ⟨(hc HB hw103_0), (hc HB hw103_1), (hc HB hw104_0), (hc HB hw104_1)⟩ (fun hHeld => ?_)
   clear hK K
   refine nm 4 ?_
   refine one_ (i := 7) (N := some 5) #[T,T,T,T,T,T,T,T,N,N] rfl rfl (on1 HT_) (by decide) (fun K hK => ?_)
   refine bxs 5 #[.int .i64 0, .int .i64 0] 41 ?_
   intro gb106 hg w7 hbox hb
   have BK106 := Aside0.mk (hbox)
   have GW106 := ga w hg
   have GE106 := GW106
   have NB101_106 := nb hg (kl BK101)
   have NB106_101 := bn NB101_106
   have NB102_106 := nb hg (kl BK102)
   have NB106_102 := bn NB102_106
   have NB105_106 := nb hg (kl BK105)
   have NB106_105 := bn NB105_106
   replace BK101 := kb BK101 hb
   replace BK102 := kb BK102 hb
   replace BK105 := kb BK105 hb
   replace HB := bz hb
   clear hb hbox hg
   refine hK.out _ _ ⟨(hc HB hw103_0), (hc HB hw103_1), (hc HB hw104_0), (hc HB hw104_1)⟩ (fun hHeld => ?_)
   clear hK K
   refine nm 5 ?_
   exact norm_ pa (hCont (gb105, gb106) _ ⟨hHeld, bk BK101, bk BK102, bk BK105, bk BK106, GW105.out, GE105.out, NB101_105.out, NB105_101.out, NB102_105.out, NB105_102.out, NB106_105.out, NB105_106.out, GW106.out, GE106.out, NB101_106.out, NB106_101.out, NB102_106.out, NB106_102.out, bh⟩)
  ·skip
   refine bxs 5 #[.int .i64 0, .int .i64 0] 41 ?_
   intro gb106 hg w6 hbox hb
   have BK106 := Aside0.mk (hbox)
   have GW106 := ga w hg
   have GE106 := GW106
   have NB101_106 := nb hg (kl BK101)
   have NB106_101 := bn NB101_106
   have NB102_106 := nb hg (kl BK102)
   have NB106_102 := bn NB102_106
   replace BK101 := kb BK101 hb
   replace BK102 := kb BK102 hb
   replace HB := bz hb
   clear hb hbox hg
   refine hK.out _ _ ⟨(hc HB hw103_0), (hc HB hw103_1), (hc HB hw104_0), (hc HB hw104_1)⟩ (fun hHeld => ?_)
   clear hK K
   refine nm 5 ?_
   refine one_ (i := 6) (N := some 4) #[T,T,T,T,T,T,T,T,N,N] rfl rfl (on1 HT_) (by decide) (fun K hK => ?_)
   refine bxs 4 #[.int .i64 0, .int .i64 0] 41 ?_
   intro gb105 hg w7 hbox hb
   have BK105 := Aside0.mk (hbox)
   have GW105 := ga w hg
   have GE105 := GW105
   have NB101_105 := nb hg (kl BK101)
   have NB105_101 := bn NB101_105
   have NB102_105 := nb hg (kl BK102)
   have NB105_102 := bn NB102_105
   have NB106_105 := nb hg (kl BK106)
   have NB105_106 := bn NB106_105
   replace BK101 := kb BK101 hb
   replace BK102 := kb BK102 hb
   replace BK106 := kb BK106 hb
   replace HB := bz hb
   clear hb hbox hg
   refine hK.out _ _ ⟨(hc HB hw103_0), (hc HB hw103_1), (hc HB hw104_0), (hc HB hw104_1)⟩ (fun hHeld => ?_)
   clear hK K
   refine nm 4 ?_
   exact norm_ pa (hCont (gb105, gb106) _ ⟨hHeld, bk BK101, bk BK102, bk BK105, bk BK106, GW105.out, GE105.out, NB101_105.out, NB105_101.out, NB102_105.out, NB105_102.out, NB106_105.out, NB105_106.out, GW106.out, GE106.out, NB101_106.out, NB106_101.out, NB102_106.out, NB106_102.out, bh⟩)
 rintro ⟨gb105, gb106⟩ w8 ⟨hS_, h0_, h1_, h2_, h3_, h4_, h5_, h6_, h7_, h8_, h9_, h10_, h11_, h12_, h13_, h14_, h15_, h16_, h17_, h18_⟩
 have BK105 := Aside0.mk h2_
 have BK106 := Aside0.mk h3_
 have GW105 := Aside0.mk h4_
 have GE105 := Aside0.mk h5_
 have NB101_105 := Aside0.mk h6_
 have NB105_101 := Aside0.mk h7_
 have NB102_105 := Aside0.mk h8_
 have NB105_102 := Aside0.mk h9_
 have NB106_105 := Aside0.mk h10_
 have NB105_106 := Aside0.mk h11_
 have GW106 := Aside0.mk h12_
 have GE106 := Aside0.mk h13_
 have NB101_106 := Aside0.mk h14_
 have NB106_101 := Aside0.mk h15_
 have NB102_106 := Aside0.mk h16_
 have NB106_102 := Aside0.mk h17_
 replace BK101 := Aside0.mk h0_
 replace BK102 := Aside0.mk h1_
 replace HB := Aside0.mk h18_
 clear h0_ h1_ h2_ h3_ h4_ h5_ h6_ h7_ h8_ h9_ h10_ h11_ h12_ h13_ h14_ h15_ h16_ h17_ h18_
 have hHeld := hS_
 refine nn ?_
 refine one_ (i := 8) (N := none) #[T,T,T,T,T,T,T,T,T,N] rfl rfl (on1 HT_) (by decide) (fun K hK => ?_)
 have hs9 : w8.cell? ⟨gb105, 0, none⟩ = some (.int .i64 0) := bc BK105 0
 have hfs9 := blk_frozen BK105.out 0
 have hns9_0 := NB101_105.out
 have hns9_1 := NB102_105.out
 have hns9_3 := NB106_105.out
 have hms9_0 := NB105_101.out
 have hms9_1 := NB105_102.out
 have hms9_3 := NB105_106.out
 have hs10 : w8.cell? ⟨gb105, 1, none⟩ = some (.int .i64 0) := bc BK105 1
 have hfs10 := blk_frozen BK105.out 1
 have hns10_0 := NB101_105.out
 have hns10_1 := NB102_105.out
 have hns10_3 := NB106_105.out
 have hms10_0 := NB105_101.out
 have hms10_1 := NB105_102.out
 have hms10_3 := NB105_106.out
 refine skip_ (w1 := ?_) (by rfl) rfl ?_ ?_
 rotate_left
 ·go_simp
  rfl
 refine hK.out _ _ ⟨((cell_far (p := ⟨gb105, _, none⟩) (fr hw103_0 GW105) _).trans (((cell_far (p := ⟨gb105, _, none⟩) (fr hw103_0 GW105) _).trans (hHeld.1)))), ((cell_far (p := ⟨gb105, _, none⟩) (fr hw103_1 GW105) _).trans (((cell_far (p := ⟨gb105, _, none⟩) (fr hw103_1 GW105) _).trans (hHeld.2.1)))), ((cell_far (p := ⟨gb105, _, none⟩) (fr hw104_0 GW105) _).trans (((cell_far (p := ⟨gb105, _, none⟩) (fr hw104_0 GW105) _).trans (hHeld.2.2.1)))), ((cell_far (p := ⟨gb105, _, none⟩) (fr hw104_1 GW105) _).trans (((cell_far (p := ⟨gb105, _, none⟩) (fr hw104_1 GW105) _).trans (hHeld.2.2.2))))⟩ (fun hHeld => ?_)
 clear hK K
 refine one_ (i := 9) (N := none) #[T,T,T,T,T,T,T,T,T,T] rfl rfl (on1 HT_) (by decide) (fun K hK => ?_)
 have hs11 : w8.cell? ⟨gb106, 0, none⟩ = some (.int .i64 0) := bc BK106 0
 have hfs11 := blk_frozen BK106.out 0
 have hns11_0 := NB101_106.out
 have hns11_1 := NB102_106.out
 have hns11_2 := NB105_106.out
 have hms11_0 := NB106_101.out
 have hms11_1 := NB106_102.out
 have hms11_2 := NB106_105.out
 have hs12 : w8.cell? ⟨gb106, 1, none⟩ = some (.int .i64 0) := bc BK106 1
 have hfs12 := blk_frozen BK106.out 1
 have hns12_0 := NB101_106.out
 have hns12_1 := NB102_106.out
 have hns12_2 := NB105_106.out
 have hms12_0 := NB106_101.out
 have hms12_1 := NB106_102.out
 have hms12_2 := NB106_105.out
 refine skip_ (w1 := ?_) (by rfl) rfl ?_ ?_
 rotate_left
 ·go_simp
  rfl
 refine hK.out _ _ ⟨((cell_far (p := ⟨gb106, _, none⟩) (fr hw103_0 GW106) _).trans (((cell_far (p := ⟨gb106, _, none⟩) (fr hw103_0 GW106) _).trans (hHeld.1)))), ((cell_far (p := ⟨gb106, _, none⟩) (fr hw103_1 GW106) _).trans (((cell_far (p := ⟨gb106, _, none⟩) (fr hw103_1 GW106) _).trans (hHeld.2.1)))), ((cell_far (p := ⟨gb106, _, none⟩) (fr hw104_0 GW106) _).trans (((cell_far (p := ⟨gb106, _, none⟩) (fr hw104_0 GW106) _).trans (hHeld.2.2.1)))), ((cell_far (p := ⟨gb106, _, none⟩) (fr hw104_1 GW106) _).trans (((cell_far (p := ⟨gb106, _, none⟩) (fr hw104_1 GW106) _).trans (hHeld.2.2.2))))⟩ (fun hHeld => ?_)
 clear hK K
 refine done_ (done_of HT_.out (by kernel_rfl)) ?_
 try go_wp2
 go_loopg [6] k (fun kq v6 w' => ∃ (x6_1 : Int) (x106000_1 : Int) (x106001_1 : Int) (x107000_1 : Int) (x107001_1 : Int), v6 = .int .i64 x6_1 ∧ Aside0 (cracknelref04_box.l0 kq l0 x6_1 x106000_1 x106001_1 x107000_1 x107001_1 = some (r1, r2, r3, r4)) ∧ Aside0 (kq ≤ k) ∧ Aside0 (w'.heap[gb101]? = some (.cells #[.int .i64 0, .int .i64 0] 41 (0, 0))) ∧ Aside0 (w'.heap[gb102]? = some (.cells #[.int .i64 0, .int .i64 0] 41 (0, 0))) ∧ Aside0 (w'.heap[gb105]? = some (.cells #[.int .i64 x106000_1, .int .i64 x106001_1] 41 (0, 0))) ∧ Aside0 (w'.heap[gb106]? = some (.cells #[.int .i64 x107000_1, .int .i64 x107001_1] 41 (0, 0))) ∧ Aside0 (Below w.heap.size w w'))
 case atStart => exact ⟨(0), ((rd_T41 l0 0).f0), ((rd_T41 l0 0).f1), ((rd_T41 l0 0).f0), ((rd_T41 l0 0).f1), sd, H', ⟨Nat.le_refl _⟩, ⟨by refine bf NB101_106 ?_; refine bf NB101_106 ?_; refine bf NB101_105 ?_; refine bf NB101_105 ?_; refine bd ?_; exact BK101.out⟩, ⟨by refine bf NB102_106 ?_; refine bf NB102_106 ?_; refine bf NB102_105 ?_; refine bf NB102_105 ?_; refine bd ?_; exact BK102.out⟩, ⟨by refine bf NB105_106 ?_; refine bf NB105_106 ?_; refine bd ?_; refine blk_put (cs := #[.int .i64 ((rd_T41 l0 0).f0), .int .i64 0]) ?_ 1 _ rfl; refine bd ?_; refine blk_put (cs := #[.int .i64 0, .int .i64 0]) ?_ 0 _ rfl; refine bd ?_; exact BK105.out⟩, ⟨by refine bd ?_; refine blk_put (cs := #[.int .i64 ((rd_T41 l0 0).f0), .int .i64 0]) ?_ 1 _ rfl; refine bd ?_; refine blk_put (cs := #[.int .i64 0, .int .i64 0]) ?_ 0 _ rfl; refine bf NB106_105 ?_; refine bf NB106_105 ?_; refine bd ?_; exact BK106.out⟩, ⟨bh⟩⟩
 case round =>
  clear H'
  (try clear c2b0); (try clear c2b1); (try clear hx103_0); (try clear hx103_1); (try clear hx104_0); (try clear hx104_1); (try clear p103); (try clear p104); (try clear q103); (try clear q104)
  obtain ⟨x6_1, x106000_1, x106001_1, x107000_1, x107001_1, rfl, HA, HK1, BK101, BK102, BK105, BK106, HB⟩ := hrel
  cases gk with
  | zero => exact absurd HA.out (by simp [cracknelref04_box.l0])
  | succ k1 =>
   have H := HA.out
   clear HA
   simp only [cracknelref04_box.l0] at H
   by_cases c13 : x6_1 < (l0.length : Int)
   ·rw [if_pos c13] at H
    have c13b0 := decide_eq_true c13
    clear c13
    obtain ⟨c14, H⟩ := oi H
    have c14b0 := decide_eq_true c14
    clear c14
    obtain ⟨ji15, hji15⟩ : ∃ j_ : Int, (mn x106000_1 ((rd_T41 l0 x6_1).f0)) = j_ := ⟨_, rfl⟩
    replace H : (cracknelref04_box.l0 k1 l0 (wrap64 (x6_1 + 1)) ji15 (mn x106001_1 ((rd_T41 l0 x6_1).f1)) (mx x107000_1 ((rd_T41 l0 x6_1).f0)) (mx x107001_1 ((rd_T41 l0 x6_1).f1))) = some (r1, r2, r3, r4) := by first | (rw [hji15] at H; exact H) | (simp only [hji15] at H ⊢; exact H)
    have hji15_ : (if ((rd_T41 l0 x6_1).f0) < x106000_1 then ((rd_T41 l0 x6_1).f0) else x106000_1) = ji15 := hji15
    obtain ⟨ji16, hji16⟩ : ∃ j_ : Int, (mn x106001_1 ((rd_T41 l0 x6_1).f1)) = j_ := ⟨_, rfl⟩
    replace H : (cracknelref04_box.l0 k1 l0 (wrap64 (x6_1 + 1)) ji15 ji16 (mx x107000_1 ((rd_T41 l0 x6_1).f0)) (mx x107001_1 ((rd_T41 l0 x6_1).f1))) = some (r1, r2, r3, r4) := by first | (rw [hji16] at H; exact H) | (simp only [hji16] at H ⊢; exact H)
    have hji16_ : (if ((rd_T41 l0 x6_1).f1) < x106001_1 then ((rd_T41 l0 x6_1).f1) else x106001_1) = ji16 := hji16
    obtain ⟨ji17, hji17⟩ : ∃ j_ : Int, (mx x107000_1 ((rd_T41 l0 x6_1).f0)) = j_ := ⟨_, rfl⟩
    replace H : (cracknelref04_box.l0 k1 l0 (wrap64 (x6_1 + 1)) ji15 ji16 ji17 (mx x107001_1 ((rd_T41 l0 x6_1).f1))) = some (r1, r2, r3, r4) := by first | (rw [hji17] at H; exact H) | (simp only [hji17] at H ⊢; exact H)
    have hji17_ : (if x107000_1 < ((rd_T41 l0 x6_1).f0) then ((rd_T41 l0 x6_1).f0) else x107000_1) = ji17 := hji17
    obtain ⟨ji18, hji18⟩ : ∃ j_ : Int, (mx x107001_1 ((rd_T41 l0 x6_1).f1)) = j_ := ⟨_, rfl⟩
    replace H : (cracknelref04_box.l0 k1 l0 (wrap64 (x6_1 + 1)) ji15 ji16 ji17 ji18) = some (r1, r2, r3, r4) := by first | (rw [hji18] at H; exact H) | (simp only [hji18] at H ⊢; exact H)
    have hji18_ : (if x107001_1 < ((rd_T41 l0 x6_1).f1) then ((rd_T41 l0 x6_1).f1) else x107001_1) = ji18 := hji18
    have H' := Aside0.mk H
    clear H
    try go_wp2
    replace BK101 := Aside0.mk (blk_drew BK101.out)
    replace BK102 := Aside0.mk (blk_drew BK102.out)
    replace BK105 := Aside0.mk (blk_drew BK105.out)
    replace BK106 := Aside0.mk (blk_drew BK106.out)
    replace HB := Aside0.mk (below_drew1 HB.out)
    have p107 : 0 ≤ (x6_1 : Int) := dt
    have q107 : x6_1 < (l0.length : Int) := dt
    obtain ⟨ad107, e107, hx107_0, hx107_1⟩ := at_T41 HR0.out x6_1 p107 q107
    have hw107_1 := hx107_1
    have hw107_0 := hx107_0
    obtain rfl : ad103 = ad107 := (by injection e107)
    replace hx107_0 := hc HB hx107_0
    replace hx107_1 := hc HB hx107_1
    replace p107 := eq_true p107
    replace q107 := eq_true q107
    have p108 : 0 ≤ (x6_1 : Int) := dt
    have q108 : x6_1 < (l0.length : Int) := dt
    obtain ⟨ad108, e108, hx108_0, hx108_1⟩ := at_T41 HR0.out x6_1 p108 q108
    have hw108_1 := hx108_1
    have hw108_0 := hx108_0
    obtain rfl : ad103 = ad108 := (by injection e108)
    replace hx108_0 := hc HB hx108_0
    replace hx108_1 := hc HB hx108_1
    replace p108 := eq_true p108
    replace q108 := eq_true q108
    refine start_ (n := 18) (S := fun w' => w'.cell? ⟨gb105, 0, none⟩ = some (.int .i64 x106000_1) ∧ w'.cell? ⟨gb105, 1, none⟩ = some (.int .i64 x106001_1) ∧ w'.cell? (ad103.add ((x6_1).toNat * 2)) = some (.int .i64 ((rd_T41 l0 x6_1).f0)) ∧ w'.cell? ⟨(ad103.add ((x6_1).toNat * 2)).block, (ad103.add ((x6_1).toNat * 2)).off + 1, none⟩ = some (.int .i64 ((rd_T41 l0 x6_1).f1)) ∧ w'.cell? (ad103.add ((x6_1).toNat * 2)) = some (.int .i64 ((rd_T41 l0 x6_1).f0)) ∧ w'.cell? ⟨(ad103.add ((x6_1).toNat * 2)).block, (ad103.add ((x6_1).toNat * 2)).off + 1, none⟩ = some (.int .i64 ((rd_T41 l0 x6_1).f1))) (ds := [17]) #[N,N,N,N,N,N,N,N,N,N,N,N,N,N,N,N,N,N] (by kernel_rfl) rfl rfl ⟨bc BK105 0, bc BK105 1, (hc HB hw107_0), (hc HB hw107_1), (hc HB hw108_0), (hc HB hw108_1)⟩ (fun hHeld => ?_); refine with_tabW cracknelref04_box.tab5 cracknelref04_box.bits5 (fun HT_ HW_ => ?_)
    generalize wr.drew = w19 at BK101 BK102 BK105 BK106 HB hx107_0 hx107_1 hx108_0 hx108_1 hHeld ⊢
    refine pu 0 19 HT_ ?_
    refine pu 2 21 HT_ ?_
    refine pu 3 22 HT_ ?_
    refine pu 4 23 HT_ ?_
    refine pu 5 24 HT_ ?_
    refine pu 8 27 HT_ ?_
    refine pu 10 29 HT_ ?_
    refine pu 11 30 HT_ ?_
    refine pu 12 31 HT_ ?_
    refine pu 13 32 HT_ ?_
    refine tk6 1 20 hHeld HT_ HW_ ?_
    refine tk6 6 25 hHeld HT_ HW_ ?_
    refine pu 7 26 HT_ ?_
    refine tk6 9 28 hHeld HT_ HW_ ?_
    refine tk6 14 33 hHeld HT_ HW_ ?_
    refine pu 15 34 HT_ ?_
    refine pu 16 35 HT_ ?_
    refine last_ (i := 17) (N := none) #[T,T,T,T,T,T,T,T,T,T,T,T,T,T,T,T,T,T] rfl rfl (on1 HT_) (by decide) (fun K hK => ?_)
    have hs20 : w19.cell? ⟨gb105, 0, none⟩ = some (.int .i64 x106000_1) := bc BK105 0
    have hfs20 := blk_frozen BK105.out 0
    have hns20_0 := NB101_105.out
    have hns20_1 := NB102_105.out
    have hns20_3 := NB106_105.out
    have hms20_0 := NB105_101.out
    have hms20_1 := NB105_102.out
    have hms20_3 := NB105_106.out
    have hs21 : w19.cell? ⟨gb105, 1, none⟩ = some (.int .i64 x106001_1) := bc BK105 1
    have hfs21 := blk_frozen BK105.out 1
    have hns21_0 := NB101_105.out
    have hns21_1 := NB102_105.out
    have hns21_3 := NB106_105.out
    have hms21_0 := NB105_101.out
    have hms21_1 := NB105_102.out
    have hms21_3 := NB105_106.out
    refine skip_ (w1 := ?_) (by rfl) rfl ?_ ?_
    rotate_left
    ·go_simp
     rfl
    refine hK.out _ _ ?_
    clear hK K
    refine done_ (done_of HT_.out (by kernel_rfl)) ?_
    try go_wp2
    have n0_ : Aside0 (((w19.setCell ⟨gb105, 0, none⟩ (.int .i64 ji15)).setCell ⟨gb105, 1, none⟩ (.int .i64 ji16)).heap[gb101]? = some (.cells #[.int .i64 0, .int .i64 0] 41 (0, 0))) := ⟨by refine bf NB101_105 ?_; refine bf NB101_105 ?_; refine bd ?_; exact BK101.out⟩
    have n1_ : Aside0 (((w19.setCell ⟨gb105, 0, none⟩ (.int .i64 ji15)).setCell ⟨gb105, 1, none⟩ (.int .i64 ji16)).heap[gb102]? = some (.cells #[.int .i64 0, .int .i64 0] 41 (0, 0))) := ⟨by refine bf NB102_105 ?_; refine bf NB102_105 ?_; refine bd ?_; exact BK102.out⟩
    have n2_ : Aside0 (((w19.setCell ⟨gb105, 0, none⟩ (.int .i64 ji15)).setCell ⟨gb105, 1, none⟩ (.int .i64 ji16)).heap[gb105]? = some (.cells #[.int .i64 ji15, .int .i64 ji16] 41 (0, 0))) := ⟨by refine bd ?_; refine blk_put (cs := #[.int .i64 ji15, .int .i64 x106001_1]) ?_ 1 _ rfl; refine bd ?_; refine blk_put (cs := #[.int .i64 x106000_1, .int .i64 x106001_1]) ?_ 0 _ rfl; refine bd ?_; exact BK105.out⟩
    have n3_ : Aside0 (((w19.setCell ⟨gb105, 0, none⟩ (.int .i64 ji15)).setCell ⟨gb105, 1, none⟩ (.int .i64 ji16)).heap[gb106]? = some (.cells #[.int .i64 x107000_1, .int .i64 x107001_1] 41 (0, 0))) := ⟨by refine bf NB106_105 ?_; refine bf NB106_105 ?_; refine bd ?_; exact BK106.out⟩
    have n4_ : Aside0 (Below w.heap.size w ((w19.setCell ⟨gb105, 0, none⟩ (.int .i64 ji15)).setCell ⟨gb105, 1, none⟩ (.int .i64 ji16))) := ⟨bh⟩
    (try clear BK101); (try clear BK102); (try clear BK105); (try clear BK106); (try clear HB)
    generalize ((w19.setCell ⟨gb105, 0, none⟩ (.int .i64 ji15)).setCell ⟨gb105, 1, none⟩ (.int .i64 ji16)) = w22 at n0_ n1_ n2_ n3_ n4_ ⊢
    have BK101 := n0_
    have BK102 := n1_
    have BK105 := n2_
    have BK106 := n3_
    have HB := n4_
    clear n0_ n1_ n2_ n3_ n4_
    replace BK101 := Aside0.mk (blk_drew BK101.out)
    replace BK102 := Aside0.mk (blk_drew BK102.out)
    replace BK105 := Aside0.mk (blk_drew BK105.out)
    replace BK106 := Aside0.mk (blk_drew BK106.out)
    replace HB := Aside0.mk (below_drew1 HB.out)
    have p109 : 0 ≤ (x6_1 : Int) := dt
    have q109 : x6_1 < (l0.length : Int) := dt
    obtain ⟨ad109, e109, hx109_0, hx109_1⟩ := at_T41 HR0.out x6_1 p109 q109
    have hw109_1 := hx109_1
    have hw109_0 := hx109_0
    obtain rfl : ad103 = ad109 := (by injection e109)
    replace hx109_0 := hc HB hx109_0
    replace hx109_1 := hc HB hx109_1
    replace p109 := eq_true p109
    replace q109 := eq_true q109
    have p110 : 0 ≤ (x6_1 : Int) := dt
    have q110 : x6_1 < (l0.length : Int) := dt
    obtain ⟨ad110, e110, hx110_0, hx110_1⟩ := at_T41 HR0.out x6_1 p110 q110
    have hw110_1 := hx110_1
    have hw110_0 := hx110_0
    obtain rfl : ad103 = ad110 := (by injection e110)
    replace hx110_0 := hc HB hx110_0
    replace hx110_1 := hc HB hx110_1
    replace p110 := eq_true p110
    replace q110 := eq_true q110
    refine start_ (n := 18) (S := fun w' => w'.cell? ⟨gb106, 0, none⟩ = some (.int .i64 x107000_1) ∧ w'.cell? ⟨gb106, 1, none⟩ = some (.int .i64 x107001_1) ∧ w'.cell? (ad103.add ((x6_1).toNat * 2)) = some (.int .i64 ((rd_T41 l0 x6_1).f0)) ∧ w'.cell? ⟨(ad103.add ((x6_1).toNat * 2)).block, (ad103.add ((x6_1).toNat * 2)).off + 1, none⟩ = some (.int .i64 ((rd_T41 l0 x6_1).f1)) ∧ w'.cell? (ad103.add ((x6_1).toNat * 2)) = some (.int .i64 ((rd_T41 l0 x6_1).f0)) ∧ w'.cell? ⟨(ad103.add ((x6_1).toNat * 2)).block, (ad103.add ((x6_1).toNat * 2)).off + 1, none⟩ = some (.int .i64 ((rd_T41 l0 x6_1).f1))) (ds := [17]) #[N,N,N,N,N,N,N,N,N,N,N,N,N,N,N,N,N,N] (by kernel_rfl) rfl rfl ⟨bc BK106 0, bc BK106 1, (hc HB hw109_0), (hc HB hw109_1), (hc HB hw110_0), (hc HB hw110_1)⟩ (fun hHeld => ?_); refine with_tabW cracknelref04_box.tab6 cracknelref04_box.bits6 (fun HT_ HW_ => ?_)
    generalize w22.drew = w23 at BK101 BK102 BK105 BK106 HB hx109_0 hx109_1 hx110_0 hx110_1 hHeld ⊢
    refine pu 0 36 HT_ ?_
    refine pu 2 38 HT_ ?_
    refine pu 3 39 HT_ ?_
    refine pu 4 40 HT_ ?_
    refine pu 5 41 HT_ ?_
    refine pu 8 44 HT_ ?_
    refine pu 10 46 HT_ ?_
    refine pu 11 47 HT_ ?_
    refine pu 12 48 HT_ ?_
    refine pu 13 49 HT_ ?_
    refine tk6 1 37 hHeld HT_ HW_ ?_
    refine tk6 6 42 hHeld HT_ HW_ ?_
    refine pu 7 43 HT_ ?_
    refine tk6 9 45 hHeld HT_ HW_ ?_
    refine tk6 14 50 hHeld HT_ HW_ ?_
    refine pu 15 51 HT_ ?_
    refine pu 16 52 HT_ ?_
    refine last_ (i := 17) (N := none) #[T,T,T,T,T,T,T,T,T,T,T,T,T,T,T,T,T,T] rfl rfl (on1 HT_) (by decide) (fun K hK => ?_)
    have hs24 : w23.cell? ⟨gb106, 0, none⟩ = some (.int .i64 x107000_1) := bc BK106 0
    have hfs24 := blk_frozen BK106.out 0
    have hns24_0 := NB101_106.out
    have hns24_1 := NB102_106.out
    have hns24_2 := NB105_106.out
    have hms24_0 := NB106_101.out
    have hms24_1 := NB106_102.out
    have hms24_2 := NB106_105.out
    have hs25 : w23.cell? ⟨gb106, 1, none⟩ = some (.int .i64 x107001_1) := bc BK106 1
    have hfs25 := blk_frozen BK106.out 1
    have hns25_0 := NB101_106.out
    have hns25_1 := NB102_106.out
    have hns25_2 := NB105_106.out
    have hms25_0 := NB106_101.out
    have hms25_1 := NB106_102.out
    have hms25_2 := NB106_105.out
    refine skip_ (w1 := ?_) (by rfl) rfl ?_ ?_
    rotate_left
    ·go_simp
     rfl
    refine hK.out _ _ ?_
    clear hK K
    refine done_ (done_of HT_.out (by kernel_rfl)) ?_
    try go_wp2
    go_roundg k1
    case measure => have := HK1.out; omega
    case rel => exact ⟨(wrap64 (x6_1 + 1)), (ji15), (ji16), (ji17), (ji18), sd, H', ⟨by have := HK1.out; omega⟩, ⟨by refine bf NB101_106 ?_; refine bf NB101_106 ?_; refine bd ?_; exact BK101.out⟩, ⟨by refine bf NB102_106 ?_; refine bf NB102_106 ?_; refine bd ?_; exact BK102.out⟩, ⟨by refine bf NB105_106 ?_; refine bf NB105_106 ?_; refine bd ?_; exact BK105.out⟩, ⟨by refine bd ?_; refine blk_put (cs := #[.int .i64 ji17, .int .i64 x107001_1]) ?_ 1 _ rfl; refine bd ?_; refine blk_put (cs := #[.int .i64 x107000_1, .int .i64 x107001_1]) ?_ 0 _ rfl; refine bd ?_; exact BK106.out⟩, ⟨bh⟩⟩
   ·rw [if_neg c13] at H
    have c13b0 := decide_eq_false c13
    clear c13
    simp only [Option.some.injEq, Prod.mk.injEq] at H
    obtain ⟨rfl, rfl, rfl, rfl⟩ := H
    try go_wp2
    replace BK101 := Aside0.mk (blk_drew BK101.out)
    replace BK102 := Aside0.mk (blk_drew BK102.out)
    replace BK105 := Aside0.mk (blk_drew BK105.out)
    replace BK106 := Aside0.mk (blk_drew BK106.out)
    replace HB := Aside0.mk (below_drew1 HB.out)
    refine start_ (n := 4) (S := fun w' => w'.cell? ⟨gb105, 0, none⟩ = some (.int .i64 x106000_1) ∧ w'.cell? ⟨gb105, 1, none⟩ = some (.int .i64 x106001_1) ∧ w'.cell? ⟨gb106, 0, none⟩ = some (.int .i64 x107000_1) ∧ w'.cell? ⟨gb106, 1, none⟩ = some (.int .i64 x107001_1)) (ds := []) #[N,N,N,N] (by kernel_rfl) rfl rfl ⟨bc BK105 0, bc BK105 1, bc BK106 0, bc BK106 1⟩ (fun hHeld => ?_)
    generalize wr.drew = w26 at BK101 BK102 BK105 BK106 HB hHeld ⊢
    refine take_ (i := 0) (N := some 53) (v := ?_) (a' := ?_) #[T,N,N,N] rfl rfl (by kernel_rfl) (fun _ _ _ h => h) (Or.inl ⟨by rfl, ?_⟩) hHeld ?_ ?_
    rotate_left
    ·rintro w' ⟨s0, s1, s2, s3⟩
     go_simp
     with_reducible rfl
    rotate_left
    ·simp only [Act.put, List.setIfInBounds_toArray, List.set_cons_zero, List.set_cons_succ, i64_w, i32_w]
     rfl
    refine take_ (i := 1) (N := some 54) (v := ?_) (a' := ?_) #[T,T,N,N] rfl rfl (by kernel_rfl) (fun _ _ _ h => h) (Or.inl ⟨by rfl, ?_⟩) hHeld ?_ ?_
    rotate_left
    ·rintro w' ⟨s0, s1, s2, s3⟩
     go_simp
     with_reducible rfl
    rotate_left
    ·simp only [Act.put, List.setIfInBounds_toArray, List.set_cons_zero, List.set_cons_succ, i64_w, i32_w]
     rfl
    refine one_ (i := 2) (N := none) #[T,T,T,N] rfl rfl (by kernel_rfl) (by decide) (fun K hK => ?_)
    have hs27 : w26.cell? ⟨gb101, 0, none⟩ = some (.int .i64 0) := bc BK101 0
    have hfs27 := blk_frozen BK101.out 0
    have hns27_1 := NB102_101.out
    have hns27_2 := NB105_101.out
    have hns27_3 := NB106_101.out
    have hms27_1 := NB101_102.out
    have hms27_2 := NB101_105.out
    have hms27_3 := NB101_106.out
    have hs28 : w26.cell? ⟨gb101, 1, none⟩ = some (.int .i64 0) := bc BK101 1
    have hfs28 := blk_frozen BK101.out 1
    have hns28_1 := NB102_101.out
    have hns28_2 := NB105_101.out
    have hns28_3 := NB106_101.out
    have hms28_1 := NB101_102.out
    have hms28_2 := NB101_105.out
    have hms28_3 := NB101_106.out
    refine skip_ (w1 := ?_) (by rfl) rfl ?_ ?_
    rotate_left
    ·go_simp
     rfl
    refine hK.out _ _ ⟨((cell_far (p := ⟨gb101, _, none⟩) NB105_101.out _).trans (((cell_far (p := ⟨gb101, _, none⟩) NB105_101.out _).trans (hHeld.1)))), ((cell_far (p := ⟨gb101, _, none⟩) NB105_101.out _).trans (((cell_far (p := ⟨gb101, _, none⟩) NB105_101.out _).trans (hHeld.2.1)))), ((cell_far (p := ⟨gb101, _, none⟩) NB106_101.out _).trans (((cell_far (p := ⟨gb101, _, none⟩) NB106_101.out _).trans (hHeld.2.2.1)))), ((cell_far (p := ⟨gb101, _, none⟩) NB106_101.out _).trans (((cell_far (p := ⟨gb101, _, none⟩) NB106_101.out _).trans (hHeld.2.2.2))))⟩ (fun hHeld => ?_)
    clear hK K
    refine one_ (i := 3) (N := none) #[T,T,T,T] rfl rfl (by kernel_rfl) (by decide) (fun K hK => ?_)
    have hs29 : w26.cell? ⟨gb102, 0, none⟩ = some (.int .i64 0) := bc BK102 0
    have hfs29 := blk_frozen BK102.out 0
    have hns29_0 := NB101_102.out
    have hns29_2 := NB105_102.out
    have hns29_3 := NB106_102.out
    have hms29_0 := NB102_101.out
    have hms29_2 := NB102_105.out
    have hms29_3 := NB102_106.out
    have hs30 : w26.cell? ⟨gb102, 1, none⟩ = some (.int .i64 0) := bc BK102 1
    have hfs30 := blk_frozen BK102.out 1
    have hns30_0 := NB101_102.out
    have hns30_2 := NB105_102.out
    have hns30_3 := NB106_102.out
    have hms30_0 := NB102_101.out
    have hms30_2 := NB102_105.out
    have hms30_3 := NB102_106.out
    refine skip_ (w1 := ?_) (by rfl) rfl ?_ ?_
    rotate_left
    ·go_simp
     rfl
    refine hK.out _ _ ⟨((cell_far (p := ⟨gb102, _, none⟩) NB105_102.out _).trans (((cell_far (p := ⟨gb102, _, none⟩) NB105_102.out _).trans (hHeld.1)))), ((cell_far (p := ⟨gb102, _, none⟩) NB105_102.out _).trans (((cell_far (p := ⟨gb102, _, none⟩) NB105_102.out _).trans (hHeld.2.1)))), ((cell_far (p := ⟨gb102, _, none⟩) NB106_102.out _).trans (((cell_far (p := ⟨gb102, _, none⟩) NB106_102.out _).trans (hHeld.2.2.1)))), ((cell_far (p := ⟨gb102, _, none⟩) NB106_102.out _).trans (((cell_far (p := ⟨gb102, _, none⟩) NB106_102.out _).trans (hHeld.2.2.2))))⟩ (fun hHeld => ?_)
    clear hK K
    refine done_ (by kernel_rfl) ?_
    try go_wp2
    refine bodyPost_ret (results_cc rfl _ _ gb101 gb102 41 41 #[.int .i64 x106000_1, .int .i64 x106001_1] #[.int .i64 x107000_1, .int .i64 x107001_1] (0, 0) (0, 0) _ _ rfl (by refine bf NB101_102 ?_; refine bf NB101_102 ?_; refine bd ?_; refine blk_put (cs := #[.int .i64 x106000_1, .int .i64 0]) ?_ 1 _ rfl; refine bd ?_; refine blk_put (cs := #[.int .i64 0, .int .i64 0]) ?_ 0 _ rfl; refine bd ?_; exact BK101.out) Try.underlying41 rfl (by kernel_rfl) rfl (by refine bd ?_; refine blk_put (cs := #[.int .i64 x107000_1, .int .i64 0]) ?_ 1 _ rfl; refine bd ?_; refine blk_put (cs := #[.int .i64 0, .int .i64 0]) ?_ 0 _ rfl; refine bf NB102_101 ?_; refine bf NB102_101 ?_; refine bd ?_; exact BK102.out) Try.underlying41 rfl (by kernel_rfl)) rfl ?_
    exact ⟨by exact er, bh⟩
/-! ### cracknelref04_Box: function 19 -/
def cracknelref04_Box.f (k : Nat) (l0 : List (S41)) : Option (Int × Int × Int × Int) := (cracknelref04_box.f k l0).bind fun bt103 => (some (bt103.1, bt103.2.1, bt103.2.2.1, bt103.2.2.2))
set_option maxHeartbeats 8000000 in
set_option maxRecDepth 100000 in
theorem cracknelref04_Box.calls (k : Nat) (A0 : Option Addr) (c0 : Nat) (l0 : List (S41)) (r1 : Int) (r2 : Int) (r3 : Int) (r4 : Int) (w : World) (hr0 : Kd.C k41 w A0 l0.length l0) (hc0 : l0.length ≤ c0) (h : cracknelref04_Box.f k l0 = some (r1, r2, r3, r4)) :
  Calls Try.prog 19 #[.slice A0 l0.length c0] w fun e w' => e = .returned (.tuple #[.agg #[.int .i64 r1, .int .i64 r2], .agg #[.int .i64 r3, .int .i64 r4]]) ∧ Below w.heap.size w w' := by
 have hu41 := Try.underlying41
 have HR0 := Aside0.mk hr0
 have HC0 := Aside0.mk hc0
 clear hr0 hc0
 have HB := Aside0.mk (Below.refl w.heap.size w)
 have H : ((cracknelref04_box.f k l0).bind fun bt103 => (some (bt103.1, bt103.2.1, bt103.2.2.1, bt103.2.2.2))) = some (r1, r2, r3, r4) := h
 clear h
 replace H := Option.bind_eq_some_iff.mp H
 obtain ⟨⟨t103, t104, t105, t106⟩, A20, H⟩ := H
 replace H : (some (t103, t104, t105, t106)) = some (r1, r2, r3, r4) := H
 have A2 := Aside0.mk A20
 clear A20
 simp only [Option.some.injEq, Prod.mk.injEq] at H
 obtain ⟨rfl, rfl, rfl, rfl⟩ := H
 go_enter Try.func19, Try.ntmps19
 go_wp2_with (first | ((with_reducible refine gate_dst (N := 2) rfl ?_); refine bxe 2 #[.int .i64 0, .int .i64 0] 41 ?_; intro gb101 hg w3 hbox hb; have BK101 := Aside0.mk (hbox); have GW101 := ga w hg; have GE101 := GW101; replace HB := bz hb; clear hb hbox hg) | ((with_reducible refine gate_dst (N := 3) rfl ?_); refine bxe 3 #[.int .i64 0, .int .i64 0] 41 ?_; intro gb102 hg w4 hbox hb; have BK102 := Aside0.mk (hbox); have GW102 := ga w hg; have GE102 := GW102; have NB101_102 := nb hg (kl BK101); have NB102_101 := bn NB101_102; replace BK101 := kb BK101 hb; replace HB := bz hb; clear hb hbox hg) | ((with_reducible refine gc 49 rfl ?_); refine goesL_ (some 5) rfl rfl Try.func49 (by kernel_rfl) rfl #[.slice A0 l0.length c0] rfl sg ?_; (with_reducible refine (cracknelref04_box.calls k _ _ l0 t103 t104 t105 t106 _ ?side1 ?side2 A2.out).mono ?_); (case side1 => exact cs (Kd.C_below HR0.out HB.out)); (case side2 => exact HC0.out); rintro e w5 ⟨rfl, hb⟩; refine ⟨_, rfl, ?_⟩; replace BK101 := kb BK101 hb; replace BK102 := kb BK102 hb; replace HB := bz hb; (try clear hb); have hnb6 := NB101_102.out; have hnc6 := NB102_101.out; obtain ⟨hcz7_0, hcz7_1, hfz7_0, hfz7_1⟩ := b2 BK101; obtain ⟨hcz8_0, hcz8_1, hfz8_0, hfz8_1⟩ := b2 BK102))
 refine bodyPost_ret (results_cc rfl _ _ gb101 gb102 41 41 #[.int .i64 t103, .int .i64 t104] #[.int .i64 t105, .int .i64 t106] (0, 0) (0, 0) _ _ rfl (by refine bf NB101_102 ?_; refine bf NB101_102 ?_; refine bd ?_; refine blk_put (cs := #[.int .i64 t103, .int .i64 0]) ?_ 1 _ rfl; refine bd ?_; refine blk_put (cs := #[.int .i64 0, .int .i64 0]) ?_ 0 _ rfl; refine bd ?_; exact BK101.out) Try.underlying41 rfl (by kernel_rfl) rfl (by refine bd ?_; refine blk_put (cs := #[.int .i64 t105, .int .i64 0]) ?_ 1 _ rfl; refine bd ?_; refine blk_put (cs := #[.int .i64 0, .int .i64 0]) ?_ 0 _ rfl; refine bf NB102_101 ?_; refine bf NB102_101 ?_; refine bd ?_; exact BK102.out) Try.underlying41 rfl (by kernel_rfl)) rfl ?_
 exact ⟨by exact er, bh⟩
/-! ### cracknellaw04_small: function 24 -/
def cracknellaw04_small.f (k : Nat) (l0 : List (S41)) : Option (Bool) := (cracknelref04_Box.f k l0).bind fun bt101 => (some (decide ((wrap64 ((wrap64 ((wrap64 (bt101.2.2.1 - bt101.1)) + 1)) * (wrap64 ((wrap64 (bt101.2.2.2 - bt101.2.1)) + 1)))) ≤ 2500)))
set_option maxHeartbeats 8000000 in
set_option maxRecDepth 100000 in
theorem cracknellaw04_small.calls (k : Nat) (A0 : Option Addr) (c0 : Nat) (l0 : List (S41)) (r : Bool) (w : World) (hr0 : Kd.C k41 w A0 l0.length l0) (hc0 : l0.length ≤ c0) (h : cracknellaw04_small.f k l0 = some r) :
  Calls Try.prog 24 #[.slice A0 l0.length c0] w fun e w' => e = .returned (.bool r) ∧ Below w.heap.size w w' := by
 have hu41 := Try.underlying41
 have HR0 := Aside0.mk hr0
 have HC0 := Aside0.mk hc0
 clear hr0 hc0
 have HB := Aside0.mk (Below.refl w.heap.size w)
 have H : ((cracknelref04_Box.f k l0).bind fun bt101 => (some (decide ((wrap64 ((wrap64 ((wrap64 (bt101.2.2.1 - bt101.1)) + 1)) * (wrap64 ((wrap64 (bt101.2.2.2 - bt101.2.1)) + 1)))) ≤ 2500)))) = some r := h
 clear h
 replace H := Option.bind_eq_some_iff.mp H
 obtain ⟨⟨t101, t102, t103, t104⟩, A20, H⟩ := H
 try dsimp only at H
 have A2 := Aside0.mk A20
 clear A20
 obtain rfl := Option.some.inj H
 go_enter Try.func24, Try.ntmps24
 go_wp2_with (first | ((with_reducible refine gc 19 rfl ?_); refine goesL_ (some 7) rfl rfl Try.func19 (by kernel_rfl) rfl #[.slice A0 l0.length c0] rfl sg ?_; (with_reducible refine (cracknelref04_Box.calls k _ _ l0 t101 t102 t103 t104 _ ?side1 ?side2 A2.out).mono ?_); (case side1 => exact cs HR0.out); (case side2 => exact HC0.out); rintro e w3 ⟨rfl, hb⟩; refine ⟨_, rfl, ?_⟩; replace HB := bz hb; (try clear hb)) | ((with_reducible refine gate_dst (N := 3) rfl ?_); refine bxe 3 #[.int .i64 0, .int .i64 0] 41 ?_; intro gb105 hg w4 hbox hb; have BK105 := Aside0.mk (hbox); have GW105 := ga w hg; have GE105 := GW105; replace HB := bz hb; clear hb hbox hg) | ((with_reducible refine gate_dst (N := 4) rfl ?_); refine bxe 4 #[.int .i64 0, .int .i64 0] 41 ?_; intro gb106 hg w5 hbox hb; have BK106 := Aside0.mk (hbox); have GW106 := ga w hg; have GE106 := GW106; have NB105_106 := nb hg (kl BK105); have NB106_105 := bn NB105_106; replace BK105 := kb BK105 hb; replace HB := bz hb; clear hb hbox hg; have hnb6 := NB105_106.out; have hnc6 := NB106_105.out; obtain ⟨hcz7_0, hcz7_1, hfz7_0, hfz7_1⟩ := b2 BK105; obtain ⟨hcz8_0, hcz8_1, hfz8_0, hfz8_1⟩ := b2 BK106))
 go_ret
 exact ⟨by exact er, bh⟩
/-! ### cracknelref04_Where: function 56 -/
mutual
def cracknelref04_Where.l0 : Nat → List (S41) → Bool → Int → Int → Int → Option (Int)
 | 0, _, _, _, _, _ => none
 | k + 1, x0, x5, x6, x102000, x102001 => if x6 < (x0.length : Int) then (if 0 ≤ x6 then ((cracknelref04_next.f x0 x6).bind fun bt103 => ((cracknelref04_On.f ((rd_T41 x0 x6).f0) ((rd_T41 x0 x6).f1) bt103.1 bt103.2 x102000 x102001).bind fun t107 => (if t107 = true then (some 0) else (if ((decide (((rd_T41 x0 x6).f1) > x102001)) != (decide (bt103.2 > x102001))) = true then ((cracknelref04_Cross.f ((rd_T41 x0 x6).f0) ((rd_T41 x0 x6).f1) bt103.1 bt103.2 x102000 x102001).bind fun t108 => (if bt103.2 < ((rd_T41 x0 x6).f1) then (cracknelref04_Where.j1 k x0 x5 x6 (wrap64 (-t108)) x102000 x102001) else (cracknelref04_Where.j1 k x0 x5 x6 t108 x102000 x102001))) else (cracknelref04_Where.l0 k x0 x5 (wrap64 (x6 + 1)) x102000 x102001))))) else (none)) else (if x5 = true then (some 1) else (some (-1)))
def cracknelref04_Where.j1 : Nat → List (S41) → Bool → Int → Int → Int → Int → Option (Int)
 | 0, _, _, _, _, _, _ => none
 | k + 1, x0, x5, x6, x9, x102000, x102001 => if x9 > 0 then (cracknelref04_Where.l0 k x0 (!x5) (wrap64 (x6 + 1)) x102000 x102001) else (cracknelref04_Where.l0 k x0 x5 (wrap64 (x6 + 1)) x102000 x102001)
end
def cracknelref04_Where.f (k : Nat) (l0 : List (S41)) (a1_0 : Int) (a1_1 : Int) : Option (Int) := cracknelref04_Where.l0 k l0 false 0 a1_0 a1_1
def cracknelref04_Where.T5 : Bool × List (List Nat × List Nat) := (true, [([], []), ([], []), ([0, 1], [0, 1]), ([2], [2]), ([], []), ([], []), ([4, 5], [4, 5]), ([], []), ([], []), ([7, 3, 6, 0, 1, 2, 3, 7, 8], [3, 7]), ([8, 6, 9, 0, 1, 2, 3, 4, 5, 6, 7, 8, 9], [6, 8])])
def cracknelref04_Where.B5 : List Nat := [0, 0, 3, 7, 0, 0, 48, 0, 0, 511, 1023]
theorem cracknelref04_Where.tab5 : rtab .any (opsOf Try.f56 5) = cracknelref04_Where.T5 := by kernel_rfl
theorem cracknelref04_Where.bits5 : waitsOk cracknelref04_Where.T5.2 cracknelref04_Where.B5 = true := by kernel_rfl
set_option maxHeartbeats 8000000 in
set_option maxRecDepth 100000 in
theorem cracknelref04_Where.calls (k : Nat) (A0 : Option Addr) (c0 : Nat) (l0 : List (S41)) (a1_0 : Int) (a1_1 : Int) (r : Int) (w : World) (hr0 : Kd.C k41 w A0 l0.length l0) (hc0 : l0.length ≤ c0) (h : cracknelref04_Where.f k l0 a1_0 a1_1 = some r) :
  Calls Try.prog 56 #[.slice A0 l0.length c0, .agg #[.int .i64 a1_0, .int .i64 a1_1]] w fun e w' => e = .returned (.int .i64 r) ∧ Below w.heap.size w w' := by
 have hu41 := Try.underlying41
 have HR0 := Aside0.mk hr0
 have HC0 := Aside0.mk hc0
 clear hr0 hc0
 have HB := Aside0.mk (Below.refl w.heap.size w)
 have H : (cracknelref04_Where.l0 k l0 false 0 a1_0 a1_1) = some r := h
 clear h
 have H' := Aside0.mk H
 clear H
 go_enter Try.func56, Try.ntmps56
 go_wp2_with (first | ((with_reducible refine gate_dst (N := 3) rfl ?_); refine bxe 3 #[.int .i64 a1_0, .int .i64 a1_1] 41 ?_; intro gb101 hg w3 hbox hb; have BK101 := Aside0.mk (hbox); have GW101 := ga w hg; have GE101 := GW101; replace HB := bz hb; clear hb hbox hg))
 go_loopg [5, 6] k (fun kq v5 v6 w' => ∃ (x5_1 : Bool) (x6_1 : Int), v5 = .bool x5_1 ∧ v6 = .int .i64 x6_1 ∧ Aside0 (cracknelref04_Where.l0 kq l0 x5_1 x6_1 a1_0 a1_1 = some r) ∧ Aside0 (kq ≤ k) ∧ Aside0 (w'.heap[gb101]? = some (.cells #[.int .i64 a1_0, .int .i64 a1_1] 41 (0, 0))) ∧ Aside0 (Below w.heap.size w w'))
 case atStart => exact ⟨(false), (0), sd, sd, H', ⟨Nat.le_refl _⟩, ⟨bk BK101⟩, ⟨bh⟩⟩
 case round =>
  clear H'
  skip
  obtain ⟨x5_1, x6_1, rfl, rfl, HA, HK1, BK101, HB⟩ := hrel
  cases gk with
  | zero => exact absurd HA.out (by simp [cracknelref04_Where.l0])
  | succ k1 =>
   have H := HA.out
   clear HA
   simp only [cracknelref04_Where.l0] at H
   by_cases c4 : x6_1 < (l0.length : Int)
   ·rw [if_pos c4] at H
    have c4b0 := decide_eq_true c4
    clear c4
    obtain ⟨c5, H⟩ := oi H
    have c5b0 := decide_eq_true c5
    clear c5
    replace H := Option.bind_eq_some_iff.mp H
    obtain ⟨⟨t103, t104⟩, A60, H⟩ := H
    try dsimp only at H
    have A6 := Aside0.mk A60
    clear A60
    replace H := Option.bind_eq_some_iff.mp H
    obtain ⟨t107, A70, H⟩ := H
    try dsimp only at H
    have A7 := Aside0.mk A70
    clear A70
    by_cases c8 : t107 = true
    ·subst c8
     rw [if_pos rfl] at H
     obtain rfl := Option.some.inj H
     try go_wp2
     replace BK101 := Aside0.mk (blk_drew BK101.out)
     replace HB := Aside0.mk (below_drew1 HB.out)
     have p102 : 0 ≤ (x6_1 : Int) := dt
     have q102 : x6_1 < (l0.length : Int) := dt
     obtain ⟨ad102, e102, hx102_0, hx102_1⟩ := at_T41 HR0.out x6_1 p102 q102
     have hw102_1 := hx102_1
     have hw102_0 := hx102_0
     cases e102
     replace hx102_0 := hc HB hx102_0
     replace hx102_1 := hc HB hx102_1
     replace p102 := eq_true p102
     replace q102 := eq_true q102
     refine start_ (n := 11) (S := fun w' => w'.cell? (ad102.add ((x6_1).toNat * 2)) = some (.int .i64 ((rd_T41 l0 x6_1).f0)) ∧ w'.cell? ⟨(ad102.add ((x6_1).toNat * 2)).block, (ad102.add ((x6_1).toNat * 2)).off + 1, none⟩ = some (.int .i64 ((rd_T41 l0 x6_1).f1))) (ds := []) #[N,N,N,N,N,N,N,N,N,N,N] (by kernel_rfl) rfl rfl ⟨(hc HB hw102_0), (hc HB hw102_1)⟩ (fun hHeld => ?_); refine with_tabW cracknelref04_Where.tab5 cracknelref04_Where.bits5 (fun HT_ HW_ => ?_)
     generalize wr.drew = w9 at BK101 HB hx102_0 hx102_1 hHeld ⊢
     refine pu 0 16 HT_ ?_
     refine pu 1 17 HT_ ?_
     refine pu 2 18 HT_ ?_
     refine pu 4 20 HT_ ?_
     refine pu 5 21 HT_ ?_
     refine tk2 3 19 hHeld HT_ HW_ ?_
     refine join_ (σ := Nat × Nat) 2 #[T,T,T,T,T,T,T,T,T,N,N] (fun s_ => [(22, .agg #[.int .i64 t103, .int .i64 t104]), (7, .pointer (some ⟨s_.1, 0, none⟩)), (8, .pointer (some ⟨s_.2, 0, none⟩))]) (fun s_ w' => (w'.cell? (ad102.add ((x6_1).toNat * 2)) = some (.int .i64 ((rd_T41 l0 x6_1).f0)) ∧ w'.cell? ⟨(ad102.add ((x6_1).toNat * 2)).block, (ad102.add ((x6_1).toNat * 2)).off + 1, none⟩ = some (.int .i64 ((rd_T41 l0 x6_1).f1))) ∧ (w'.heap[gb101]? = some (.cells #[.int .i64 a1_0, .int .i64 a1_1] 41 (0, 0))) ∧ (w'.heap[s_.1]? = some (.cells #[.int .i64 0, .int .i64 0] 41 (0, 0))) ∧ (w'.heap[s_.2]? = some (.cells #[.int .i64 0, .int .i64 0] 41 (0, 0))) ∧ (w.heap.size ≤ s_.1) ∧ (w.heap.size ≤ s_.1) ∧ (gb101 ≠ s_.1) ∧ (s_.1 ≠ gb101) ∧ (s_.2 ≠ s_.1) ∧ (s_.1 ≠ s_.2) ∧ (w.heap.size ≤ s_.2) ∧ (w.heap.size ≤ s_.2) ∧ (gb101 ≠ s_.2) ∧ (s_.2 ≠ gb101) ∧ (Below w.heap.size w w')) ?_ ?_
     rotate_left
     ·intro hJ6_7_8
      refine join_ (σ := Nat) 3 #[T,T,T,T,T,T,T,T,N,N,N] (fun s_ => [(22, .agg #[.int .i64 t103, .int .i64 t104]), (7, .pointer (some ⟨s_, 0, none⟩))]) (fun s_ w' => (w'.cell? (ad102.add ((x6_1).toNat * 2)) = some (.int .i64 ((rd_T41 l0 x6_1).f0)) ∧ w'.cell? ⟨(ad102.add ((x6_1).toNat * 2)).block, (ad102.add ((x6_1).toNat * 2)).off + 1, none⟩ = some (.int .i64 ((rd_T41 l0 x6_1).f1))) ∧ (w'.heap[gb101]? = some (.cells #[.int .i64 a1_0, .int .i64 a1_1] 41 (0, 0))) ∧ (w'.heap[s_]? = some (.cells #[.int .i64 0, .int .i64 0] 41 (0, 0))) ∧ (w.heap.size ≤ s_) ∧ (w.heap.size ≤ s_) ∧ (gb101 ≠ s_) ∧ (s_ ≠ gb101) ∧ (Below w.heap.size w w')) ?_ ?_
      rotate_left
      ·intro hJ6_7
       refine join_ (σ := Nat) 3 #[T,T,T,T,T,T,T,N,T,N,N] (fun s_ => [(22, .agg #[.int .i64 t103, .int .i64 t104]), (8, .pointer (some ⟨s_, 0, none⟩))]) (fun s_ w' => (w'.cell? (ad102.add ((x6_1).toNat * 2)) = some (.int .i64 ((rd_T41 l0 x6_1).f0)) ∧ w'.cell? ⟨(ad102.add ((x6_1).toNat * 2)).block, (ad102.add ((x6_1).toNat * 2)).off + 1, none⟩ = some (.int .i64 ((rd_T41 l0 x6_1).f1))) ∧ (w'.heap[gb101]? = some (.cells #[.int .i64 a1_0, .int .i64 a1_1] 41 (0, 0))) ∧ (w'.heap[s_]? = some (.cells #[.int .i64 0, .int .i64 0] 41 (0, 0))) ∧ (w.heap.size ≤ s_) ∧ (w.heap.size ≤ s_) ∧ (gb101 ≠ s_) ∧ (s_ ≠ gb101) ∧ (Below w.heap.size w w')) ?_ ?_
       rotate_left
       ·intro hJ6_8
        refine join_ (σ := Nat × Nat) 3 #[T,T,T,T,T,T,N,T,T,N,N] (fun s_ => [(7, .pointer (some ⟨s_.1, 0, none⟩)), (8, .pointer (some ⟨s_.2, 0, none⟩))]) (fun s_ w' => (w'.cell? (ad102.add ((x6_1).toNat * 2)) = some (.int .i64 ((rd_T41 l0 x6_1).f0)) ∧ w'.cell? ⟨(ad102.add ((x6_1).toNat * 2)).block, (ad102.add ((x6_1).toNat * 2)).off + 1, none⟩ = some (.int .i64 ((rd_T41 l0 x6_1).f1))) ∧ (w'.heap[gb101]? = some (.cells #[.int .i64 a1_0, .int .i64 a1_1] 41 (0, 0))) ∧ (w'.heap[s_.1]? = some (.cells #[.int .i64 0, .int .i64 0] 41 (0, 0))) ∧ (w'.heap[s_.2]? = some (.cells #[.int .i64 0, .int .i64 0] 41 (0, 0))) ∧ (w.heap.size ≤ s_.1) ∧ (w.heap.size ≤ s_.1) ∧ (gb101 ≠ s_.1) ∧ (s_.1 ≠ gb101) ∧ (s_.2 ≠ s_.1) ∧ (s_.1 ≠ s_.2) ∧ (w.heap.size ≤ s_.2) ∧ (w.heap.size ≤ s_.2) ∧ (gb101 ≠ s_.2) ∧ (s_.2 ≠ gb101) ∧ (Below w.heap.size w w')) ?_ ?_
        rotate_left
        ·intro hJ7_8
         refine join_ (σ := Unit) 4 #[T,T,T,T,T,T,T,N,N,N,N] (fun s_ => [(22, .agg #[.int .i64 t103, .int .i64 t104])]) (fun s_ w' => (w'.cell? (ad102.add ((x6_1).toNat * 2)) = some (.int .i64 ((rd_T41 l0 x6_1).f0)) ∧ w'.cell? ⟨(ad102.add ((x6_1).toNat * 2)).block, (ad102.add ((x6_1).toNat * 2)).off + 1, none⟩ = some (.int .i64 ((rd_T41 l0 x6_1).f1))) ∧ (w'.heap[gb101]? = some (.cells #[.int .i64 a1_0, .int .i64 a1_1] 41 (0, 0))) ∧ (Below w.heap.size w w')) ?_ ?_
         rotate_left
         ·intro hJ6
          refine join_ (σ := Nat) 4 #[T,T,T,T,T,T,N,T,N,N,N] (fun s_ => [(7, .pointer (some ⟨s_, 0, none⟩))]) (fun s_ w' => (w'.cell? (ad102.add ((x6_1).toNat * 2)) = some (.int .i64 ((rd_T41 l0 x6_1).f0)) ∧ w'.cell? ⟨(ad102.add ((x6_1).toNat * 2)).block, (ad102.add ((x6_1).toNat * 2)).off + 1, none⟩ = some (.int .i64 ((rd_T41 l0 x6_1).f1))) ∧ (w'.heap[gb101]? = some (.cells #[.int .i64 a1_0, .int .i64 a1_1] 41 (0, 0))) ∧ (w'.heap[s_]? = some (.cells #[.int .i64 0, .int .i64 0] 41 (0, 0))) ∧ (w.heap.size ≤ s_) ∧ (w.heap.size ≤ s_) ∧ (gb101 ≠ s_) ∧ (s_ ≠ gb101) ∧ (Below w.heap.size w w')) ?_ ?_
          rotate_left
          ·intro hJ7
           refine join_ (σ := Nat) 4 #[T,T,T,T,T,T,N,N,T,N,N] (fun s_ => [(8, .pointer (some ⟨s_, 0, none⟩))]) (fun s_ w' => (w'.cell? (ad102.add ((x6_1).toNat * 2)) = some (.int .i64 ((rd_T41 l0 x6_1).f0)) ∧ w'.cell? ⟨(ad102.add ((x6_1).toNat * 2)).block, (ad102.add ((x6_1).toNat * 2)).off + 1, none⟩ = some (.int .i64 ((rd_T41 l0 x6_1).f1))) ∧ (w'.heap[gb101]? = some (.cells #[.int .i64 a1_0, .int .i64 a1_1] 41 (0, 0))) ∧ (w'.heap[s_]? = some (.cells #[.int .i64 0, .int .i64 0] 41 (0, 0))) ∧ (w.heap.size ≤ s_) ∧ (w.heap.size ≤ s_) ∧ (gb101 ≠ s_) ∧ (s_ ≠ gb101) ∧ (Below w.heap.size w w')) ?_ ?_
           rotate_left
           ·intro hJ8
            refine three_ (i := 6) (j := 7) (k := 8) (Ni := some 22) (Nj := some 7) (Nk := some 8) #[T,T,T,T,T,T,T,N,N,N,N] #[T,T,T,T,T,T,N,T,N,N,N] #[T,T,T,T,T,T,N,N,T,N,N] rfl rfl rfl rfl rfl rfl (on3 HT_) (by decide) (by decide) (by decide) (fun K hK => ?_) (fun K hK => ?_) (fun K hK => ?_)
            ·skip
             refine goes_ Try.func58 (by kernel_rfl) rfl #[.slice (some ad102) l0.length c0, .int .i64 x6_1] (by rfl) rfl rfl sg ?_
             with_reducible refine (cracknelref04_next.calls _ _ l0 x6_1 t103 t104 _ ?side1 ?side2 A6.out).mono ?_
             (case side1 => exact cs (Kd.C_below HR0.out HB.out))
             (case side2 => exact HC0.out)
             rintro e w10 ⟨rfl, hb⟩
             refine ⟨_, rfl, ?_⟩
             replace BK101 := kb BK101 hb
             replace HB := bz hb
             (try clear hb)
             refine hK.out _ _ ⟨(hc HB hw102_0), (hc HB hw102_1)⟩ (fun hHeld => ?_)
             clear hK K
             refine nm 22 ?_
             exact norm_ pa (hJ6 () _ ⟨hHeld, bk BK101, bh⟩)
            ·skip
             refine bxs 7 #[.int .i64 0, .int .i64 0] 41 ?_
             intro gb105 hg w10 hbox hb
             have BK105 := Aside0.mk (hbox)
             have GW105 := ga w hg
             have GE105 := GW105
             have NB101_105 := nb hg (kl BK101)
             have NB105_101 := bn NB101_105
             replace BK101 := kb BK101 hb
             replace HB := bz hb
             clear hb hbox hg
             refine hK.out _ _ ⟨(hc HB hw102_0), (hc HB hw102_1)⟩ (fun hHeld => ?_)
             clear hK K
             refine nm 7 ?_
             exact norm_ pa (hJ7 (gb105) _ ⟨hHeld, bk BK101, bk BK105, GW105.out, GE105.out, NB101_105.out, NB105_101.out, bh⟩)
            ·skip
             refine bxs 8 #[.int .i64 0, .int .i64 0] 41 ?_
             intro gb106 hg w10 hbox hb
             have BK106 := Aside0.mk (hbox)
             have GW106 := ga w hg
             have GE106 := GW106
             have NB101_106 := nb hg (kl BK101)
             have NB106_101 := bn NB101_106
             replace BK101 := kb BK101 hb
             replace HB := bz hb
             clear hb hbox hg
             refine hK.out _ _ ⟨(hc HB hw102_0), (hc HB hw102_1)⟩ (fun hHeld => ?_)
             clear hK K
             refine nm 8 ?_
             exact norm_ pa (hJ8 (gb106) _ ⟨hHeld, bk BK101, bk BK106, GW106.out, GE106.out, NB101_106.out, NB106_101.out, bh⟩)
           ·skip
            rintro gb106 w11 ⟨hS_, h0_, h1_, h2_, h3_, h4_, h5_, h6_⟩
            have BK106 := Aside0.mk h1_
            have GW106 := Aside0.mk h2_
            have GE106 := Aside0.mk h3_
            have NB101_106 := Aside0.mk h4_
            have NB106_101 := Aside0.mk h5_
            replace BK101 := Aside0.mk h0_
            replace HB := Aside0.mk h6_
            clear h0_ h1_ h2_ h3_ h4_ h5_ h6_
            have hHeld := hS_
            refine nn ?_
            refine two_ (i := 6) (j := 7) (Ni := some 22) (Nj := some 7) #[T,T,T,T,T,T,T,N,T,N,N] #[T,T,T,T,T,T,N,T,T,N,N] rfl rfl rfl rfl (on2 HT_) (by decide) (by decide) (fun K hK => ?_) (fun K hK => ?_)
            ·skip
             refine goes_ Try.func58 (by kernel_rfl) rfl #[.slice (some ad102) l0.length c0, .int .i64 x6_1] (by rfl) rfl rfl sg ?_
             with_reducible refine (cracknelref04_next.calls _ _ l0 x6_1 t103 t104 _ ?side1 ?side2 A6.out).mono ?_
             (case side1 => exact cs (Kd.C_below HR0.out HB.out))
             (case side2 => exact HC0.out)
             rintro e w12 ⟨rfl, hb⟩
             refine ⟨_, rfl, ?_⟩
             replace BK101 := kb BK101 hb
             replace BK106 := kb BK106 hb
             replace HB := bz hb
             (try clear hb)
             refine hK.out _ _ ⟨(hc HB hw102_0), (hc HB hw102_1)⟩ (fun hHeld => ?_)
             clear hK K
             refine nm 22 ?_
             exact norm_ pa (hJ6_8 (gb106) _ ⟨hHeld, bk BK101, bk BK106, GW106.out, GE106.out, NB101_106.out, NB106_101.out, bh⟩)
            ·skip
             refine bxs 7 #[.int .i64 0, .int .i64 0] 41 ?_
             intro gb105 hg w12 hbox hb
             have BK105 := Aside0.mk (hbox)
             have GW105 := ga w hg
             have GE105 := GW105
             have NB101_105 := nb hg (kl BK101)
             have NB105_101 := bn NB101_105
             have NB106_105 := nb hg (kl BK106)
             have NB105_106 := bn NB106_105
             replace BK101 := kb BK101 hb
             replace BK106 := kb BK106 hb
             replace HB := bz hb
             clear hb hbox hg
             refine hK.out _ _ ⟨(hc HB hw102_0), (hc HB hw102_1)⟩ (fun hHeld => ?_)
             clear hK K
             refine nm 7 ?_
             exact norm_ pa (hJ7_8 (gb105, gb106) _ ⟨hHeld, bk BK101, bk BK105, bk BK106, GW105.out, GE105.out, NB101_105.out, NB105_101.out, NB106_105.out, NB105_106.out, GW106.out, GE106.out, NB101_106.out, NB106_101.out, bh⟩)
          ·skip
           rintro gb105 w11 ⟨hS_, h0_, h1_, h2_, h3_, h4_, h5_, h6_⟩
           have BK105 := Aside0.mk h1_
           have GW105 := Aside0.mk h2_
           have GE105 := Aside0.mk h3_
           have NB101_105 := Aside0.mk h4_
           have NB105_101 := Aside0.mk h5_
           replace BK101 := Aside0.mk h0_
           replace HB := Aside0.mk h6_
           clear h0_ h1_ h2_ h3_ h4_ h5_ h6_
           have hHeld := hS_
           refine nn ?_
           refine two_ (i := 6) (j := 8) (Ni := some 22) (Nj := some 8) #[T,T,T,T,T,T,T,T,N,N,N] #[T,T,T,T,T,T,N,T,T,N,N] rfl rfl rfl rfl (on2 HT_) (by decide) (by decide) (fun K hK => ?_) (fun K hK => ?_)
           ·skip
            refine goes_ Try.func58 (by kernel_rfl) rfl #[.slice (some ad102) l0.length c0, .int .i64 x6_1] (by rfl) rfl rfl sg ?_
            with_reducible refine (cracknelref04_next.calls _ _ l0 x6_1 t103 t104 _ ?side1 ?side2 A6.out).mono ?_
            (case side1 => exact cs (Kd.C_below HR0.out HB.out))
            (case side2 => exact HC0.out)
            rintro e w12 ⟨rfl, hb⟩
            refine ⟨_, rfl, ?_⟩
            replace BK101 := kb BK101 hb
            replace BK105 := kb BK105 hb
            replace HB := bz hb
            (try clear hb)
            refine hK.out _ _ ⟨(hc HB hw102_0), (hc HB hw102_1)⟩ (fun hHeld => ?_)
            clear hK K
            refine nm 22 ?_
            exact norm_ pa (hJ6_7 (gb105) _ ⟨hHeld, bk BK101, bk BK105, GW105.out, GE105.out, NB101_105.out, NB105_101.out, bh⟩)
           ·skip
            refine bxs 8 #[.int .i64 0, .int .i64 0] 41 ?_
            intro gb106 hg w12 hbox hb
            have BK106 := Aside0.mk (hbox)
            have GW106 := ga w hg
            have GE106 := GW106
            have NB101_106 := nb hg (kl BK101)
            have NB106_101 := bn NB101_106
            have NB105_106 := nb hg (kl BK105)
            have NB106_105 := bn NB105_106
            replace BK101 := kb BK101 hb
            replace BK105 := kb BK105 hb
            replace HB := bz hb
            clear hb hbox hg
            refine hK.out _ _ ⟨(hc HB hw102_0), (hc HB hw102_1)⟩ (fun hHeld => ?_)
            clear hK K
            refine nm 8 ?_
            exact norm_ pa (hJ7_8 (gb105, gb106) _ ⟨hHeld, bk BK101, bk BK105, bk BK106, GW105.out, GE105.out, NB101_105.out, NB105_101.out, NB106_105.out, NB105_106.out, GW106.out, GE106.out, NB101_106.out, NB106_101.out, bh⟩)
         ·skip
          rintro _ w11 ⟨hS_, h0_, h1_⟩
          replace BK101 := Aside0.mk h0_
          replace HB := Aside0.mk h1_
          clear h0_ h1_
          have hHeld := hS_
          refine nn ?_
          refine two_ (i := 7) (j := 8) (Ni := some 7) (Nj := some 8) #[T,T,T,T,T,T,T,T,N,N,N] #[T,T,T,T,T,T,T,N,T,N,N] rfl rfl rfl rfl (on2 HT_) (by decide) (by decide) (fun K hK => ?_) (fun K hK => ?_)
          ·skip
           refine bxs 7 #[.int .i64 0, .int .i64 0] 41 ?_
           intro gb105 hg w12 hbox hb
           have BK105 := Aside0.mk (hbox)
           have GW105 := ga w hg
           have GE105 := GW105
           have NB101_105 := nb hg (kl BK101)
           have NB105_101 := bn NB101_105
           replace BK101 := kb BK101 hb
           replace HB := bz hb
           clear hb hbox hg
           refine hK.out _ _ ⟨(hc HB hw102_0), (hc HB hw102_1)⟩ (fun hHeld => ?_)
           clear hK K
           refine nm 7 ?_
           exact norm_ pa (hJ6_7 (gb105) _ ⟨hHeld, bk BK101, bk BK105, GW105.out, GE105.out, NB101_105.out, NB105_101.out, bh⟩)
          ·skip
           refine bxs 8 #[.int .i64 0, .int .i64 0] 41 ?_
           intro gb106 hg w12 hbox hb
           have BK106 := Aside0.mk (hbox)
           have GW106 := ga w hg
           have GE106 := GW106
           have NB101_106 := nb hg (kl BK101)
           have NB106_101 := bn NB101_106
           replace BK101 := kb BK101 hb
           replace HB := bz hb
           clear hb hbox hg
           refine hK.out _ _ ⟨(hc HB hw102_0), (hc HB hw102_1)⟩ (fun hHeld => ?_)
           clear hK K
           refine nm 8 ?_
           exact norm_ pa (hJ6_8 (gb106) _ ⟨hHeld, bk BK101, bk BK106, GW106.out, GE106.out, NB101_106.out, NB106_101.out, bh⟩)
        ·skip
         rintro ⟨gb105, gb106⟩ w12 ⟨hS_, h0_, h1_, h2_, h3_, h4_, h5_, h6_, h7_, h8_, h9_, h10_, h11_, h12_, h13_⟩
         have BK105 := Aside0.mk h1_
         have BK106 := Aside0.mk h2_
         have GW105 := Aside0.mk h3_
         have GE105 := Aside0.mk h4_
         have NB101_105 := Aside0.mk h5_
         have NB105_101 := Aside0.mk h6_
         have NB106_105 := Aside0.mk h7_
         have NB105_106 := Aside0.mk h8_
         have GW106 := Aside0.mk h9_
         have GE106 := Aside0.mk h10_
         have NB101_106 := Aside0.mk h11_
         have NB106_101 := Aside0.mk h12_
         replace BK101 := Aside0.mk h0_
         replace HB := Aside0.mk h13_
         clear h0_ h1_ h2_ h3_ h4_ h5_ h6_ h7_ h8_ h9_ h10_ h11_ h12_ h13_
         have hHeld := hS_
         refine nn ?_
         refine one_ (i := 6) (N := some 22) #[T,T,T,T,T,T,T,T,T,N,N] rfl rfl (on1 HT_) (by decide) (fun K hK => ?_)
         refine goes_ Try.func58 (by kernel_rfl) rfl #[.slice (some ad102) l0.length c0, .int .i64 x6_1] (by rfl) rfl rfl sg ?_
         with_reducible refine (cracknelref04_next.calls _ _ l0 x6_1 t103 t104 _ ?side1 ?side2 A6.out).mono ?_
         (case side1 => exact cs (Kd.C_below HR0.out HB.out))
         (case side2 => exact HC0.out)
         rintro e w13 ⟨rfl, hb⟩
         refine ⟨_, rfl, ?_⟩
         replace BK101 := kb BK101 hb
         replace BK105 := kb BK105 hb
         replace BK106 := kb BK106 hb
         replace HB := bz hb
         (try clear hb)
         refine hK.out _ _ ⟨(hc HB hw102_0), (hc HB hw102_1)⟩ (fun hHeld => ?_)
         clear hK K
         refine nm 22 ?_
         exact norm_ pa (hJ6_7_8 (gb105, gb106) _ ⟨hHeld, bk BK101, bk BK105, bk BK106, GW105.out, GE105.out, NB101_105.out, NB105_101.out, NB106_105.out, NB105_106.out, GW106.out, GE106.out, NB101_106.out, NB106_101.out, bh⟩)
       ·skip
        rintro gb106 w12 ⟨hS_, h0_, h1_, h2_, h3_, h4_, h5_, h6_⟩
        have BK106 := Aside0.mk h1_
        have GW106 := Aside0.mk h2_
        have GE106 := Aside0.mk h3_
        have NB101_106 := Aside0.mk h4_
        have NB106_101 := Aside0.mk h5_
        replace BK101 := Aside0.mk h0_
        replace HB := Aside0.mk h6_
        clear h0_ h1_ h2_ h3_ h4_ h5_ h6_
        have hHeld := hS_
        refine nn ?_
        refine one_ (i := 7) (N := some 7) #[T,T,T,T,T,T,T,T,T,N,N] rfl rfl (on1 HT_) (by decide) (fun K hK => ?_)
        refine bxs 7 #[.int .i64 0, .int .i64 0] 41 ?_
        intro gb105 hg w13 hbox hb
        have BK105 := Aside0.mk (hbox)
        have GW105 := ga w hg
        have GE105 := GW105
        have NB101_105 := nb hg (kl BK101)
        have NB105_101 := bn NB101_105
        have NB106_105 := nb hg (kl BK106)
        have NB105_106 := bn NB106_105
        replace BK101 := kb BK101 hb
        replace BK106 := kb BK106 hb
        replace HB := bz hb
        clear hb hbox hg
        refine hK.out _ _ ⟨(hc HB hw102_0), (hc HB hw102_1)⟩ (fun hHeld => ?_)
        clear hK K
        refine nm 7 ?_
        exact norm_ pa (hJ6_7_8 (gb105, gb106) _ ⟨hHeld, bk BK101, bk BK105, bk BK106, GW105.out, GE105.out, NB101_105.out, NB105_101.out, NB106_105.out, NB105_106.out, GW106.out, GE106.out, NB101_106.out, NB106_101.out, bh⟩)
      ·skip
       rintro gb105 w12 ⟨hS_, h0_, h1_, h2_, h3_, h4_, h5_, h6_⟩
       have BK105 := Aside0.mk h1_
       have GW105 := Aside0.mk h2_
       have GE105 := Aside0.mk h3_
       have NB101_105 := Aside0.mk h4_
       have NB105_101 := Aside0.mk h5_
       replace BK101 := Aside0.mk h0_
       replace HB := Aside0.mk h6_
       clear h0_ h1_ h2_ h3_ h4_ h5_ h6_
       have hHeld := hS_
       refine nn ?_
       refine one_ (i := 8) (N := some 8) #[T,T,T,T,T,T,T,T,T,N,N] rfl rfl (on1 HT_) (by decide) (fun K hK => ?_)
       refine bxs 8 #[.int .i64 0, .int .i64 0] 41 ?_
       intro gb106 hg w13 hbox hb
       have BK106 := Aside0.mk (hbox)
       have GW106 := ga w hg
       have GE106 := GW106
       have NB101_106 := nb hg (kl BK101)
       have NB106_101 := bn NB101_106
       have NB105_106 := nb hg (kl BK105)
       have NB106_105 := bn NB105_106
       replace BK101 := kb BK101 hb
       replace BK105 := kb BK105 hb
       replace HB := bz hb
       clear hb hbox hg
       refine hK.out _ _ ⟨(hc HB hw102_0), (hc HB hw102_1)⟩ (fun hHeld => ?_)
       clear hK K
       refine nm 8 ?_
       exact norm_ pa (hJ6_7_8 (gb105, gb106) _ ⟨hHeld, bk BK101, bk BK105, bk BK106, GW105.out, GE105.out, NB101_105.out, NB105_101.out, NB106_105.out, NB105_106.out, GW106.out, GE106.out, NB101_106.out, NB106_101.out, bh⟩)
     rintro ⟨gb105, gb106⟩ w13 ⟨hS_, h0_, h1_, h2_, h3_, h4_, h5_, h6_, h7_, h8_, h9_, h10_, h11_, h12_, h13_⟩
     have BK105 := Aside0.mk h1_
     have BK106 := Aside0.mk h2_
     have GW105 := Aside0.mk h3_
     have GE105 := Aside0.mk h4_
     have NB101_105 := Aside0.mk h5_
     have NB105_101 := Aside0.mk h6_
     have NB106_105 := Aside0.mk h7_
     have NB105_106 := Aside0.mk h8_
     have GW106 := Aside0.mk h9_
     have GE106 := Aside0.mk h10_
     have NB101_106 := Aside0.mk h11_
     have NB106_101 := Aside0.mk h12_
     replace BK101 := Aside0.mk h0_
     replace HB := Aside0.mk h13_
     clear h0_ h1_ h2_ h3_ h4_ h5_ h6_ h7_ h8_ h9_ h10_ h11_ h12_ h13_
     have hHeld := hS_
     refine nn ?_
     refine one_ (i := 9) (N := none) #[T,T,T,T,T,T,T,T,T,T,N] rfl rfl (on1 HT_) (by decide) (fun K hK => ?_)
     have hs14 : w13.cell? ⟨gb105, 0, none⟩ = some (.int .i64 0) := bc BK105 0
     have hfs14 := blk_frozen BK105.out 0
     have hns14_0 := NB101_105.out
     have hns14_2 := NB106_105.out
     have hms14_0 := NB105_101.out
     have hms14_2 := NB105_106.out
     have hs15 : w13.cell? ⟨gb105, 1, none⟩ = some (.int .i64 0) := bc BK105 1
     have hfs15 := blk_frozen BK105.out 1
     have hns15_0 := NB101_105.out
     have hns15_2 := NB106_105.out
     have hms15_0 := NB105_101.out
     have hms15_2 := NB105_106.out
     refine skip_ (w1 := ?_) (by rfl) rfl ?_ ?_
     rotate_left
     ·go_simp
      rfl
     refine hK.out _ _ ⟨((cell_far (p := ⟨gb105, _, none⟩) (fr hw102_0 GW105) _).trans (((cell_far (p := ⟨gb105, _, none⟩) (fr hw102_0 GW105) _).trans (hHeld.1)))), ((cell_far (p := ⟨gb105, _, none⟩) (fr hw102_1 GW105) _).trans (((cell_far (p := ⟨gb105, _, none⟩) (fr hw102_1 GW105) _).trans (hHeld.2))))⟩ (fun hHeld => ?_)
     clear hK K
     refine one_ (i := 10) (N := none) #[T,T,T,T,T,T,T,T,T,T,T] rfl rfl (on1 HT_) (by decide) (fun K hK => ?_)
     have hs16 : w13.cell? ⟨gb106, 0, none⟩ = some (.int .i64 0) := bc BK106 0
     have hfs16 := blk_frozen BK106.out 0
     have hns16_0 := NB101_106.out
     have hns16_1 := NB105_106.out
     have hms16_0 := NB106_101.out
     have hms16_1 := NB106_105.out
     have hs17 : w13.cell? ⟨gb106, 1, none⟩ = some (.int .i64 0) := bc BK106 1
     have hfs17 := blk_frozen BK106.out 1
     have hns17_0 := NB101_106.out
     have hns17_1 := NB105_106.out
     have hms17_0 := NB106_101.out
     have hms17_1 := NB106_105.out
     refine skip_ (w1 := ?_) (by rfl) rfl ?_ ?_
     rotate_left
     ·go_simp
      rfl
     refine hK.out _ _ ⟨((cell_far (p := ⟨gb106, _, none⟩) (fr hw102_0 GW106) _).trans (((cell_far (p := ⟨gb106, _, none⟩) (fr hw102_0 GW106) _).trans (hHeld.1)))), ((cell_far (p := ⟨gb106, _, none⟩) (fr hw102_1 GW106) _).trans (((cell_far (p := ⟨gb106, _, none⟩) (fr hw102_1 GW106) _).trans (hHeld.2))))⟩ (fun hHeld => ?_)
     clear hK K
     refine done_ (done_of HT_.out (by kernel_rfl)) ?_
     have hnb18 := NB105_101.out
     have hnc18 := NB101_105.out
     have hnb19 := NB105_106.out
     have hnc19 := NB106_105.out
     obtain ⟨hcz20_0, hcz20_1, hfz20_0, hfz20_1⟩ := b2 BK105
     have hnb21 := NB106_101.out
     have hnc21 := NB101_106.out
     obtain ⟨hcz22_0, hcz22_1, hfz22_0, hfz22_1⟩ := b2 BK106
     obtain ⟨hcz23_0, hcz23_1, hfz23_0, hfz23_1⟩ := b2 BK101
     try go_wp2_with (first | ((with_reducible refine gc 59 rfl ?_); refine goesL_ (some 26) rfl rfl Try.func59 (by kernel_rfl) rfl #[.agg #[.int .i64 ((rd_T41 l0 x6_1).f0), .int .i64 ((rd_T41 l0 x6_1).f1)], .agg #[.int .i64 t103, .int .i64 t104], .agg #[.int .i64 a1_0, .int .i64 a1_1]] rfl sg ?_; (with_reducible refine (cracknelref04_On.calls ((rd_T41 l0 x6_1).f0) ((rd_T41 l0 x6_1).f1) t103 t104 a1_0 a1_1 true _ A7.out).mono ?_); rintro e w24 ⟨rfl, hb⟩; refine ⟨_, rfl, ?_⟩; replace BK101 := Aside0.mk (blk_below (g := gb101) (o := .cells #[.int .i64 a1_0, .int .i64 a1_1] 41 (0, 0)) (by refine bf NB101_106 ?_; refine bf NB101_106 ?_; refine bf NB101_105 ?_; refine bf NB101_105 ?_; refine bd ?_; exact BK101.out) hb); replace BK105 := Aside0.mk (blk_below (g := gb105) (o := .cells #[.int .i64 ((rd_T41 l0 x6_1).f0), .int .i64 ((rd_T41 l0 x6_1).f1)] 41 (0, 0)) (by refine bf NB105_106 ?_; refine bf NB105_106 ?_; refine bd ?_; refine blk_put (cs := #[.int .i64 ((rd_T41 l0 x6_1).f0), .int .i64 0]) ?_ 1 _ rfl; refine bd ?_; refine blk_put (cs := #[.int .i64 0, .int .i64 0]) ?_ 0 _ rfl; refine bd ?_; exact BK105.out) hb); replace BK106 := Aside0.mk (blk_below (g := gb106) (o := .cells #[.int .i64 t103, .int .i64 t104] 41 (0, 0)) (by refine bd ?_; refine blk_put (cs := #[.int .i64 t103, .int .i64 0]) ?_ 1 _ rfl; refine bd ?_; refine blk_put (cs := #[.int .i64 0, .int .i64 0]) ?_ 0 _ rfl; refine bf NB106_105 ?_; refine bf NB106_105 ?_; refine bd ?_; exact BK106.out) hb); replace HB := bz hb; (try clear hb)))
     go_ret
     exact ⟨by exact er, bh⟩
    ·replace c8 := Bool.eq_false_iff.mpr c8
     subst c8
     rw [if_neg (show ¬ (false = true) by decide)] at H
     by_cases c25 : ((decide (((rd_T41 l0 x6_1).f1) > a1_1)) != (decide (t104 > a1_1))) = true
     ·rw [if_pos c25] at H
      have c25b0 : ((decide (((rd_T41 l0 x6_1).f1) > a1_1)) != (decide (t104 > a1_1))) = true := c25
      (try (have c25b1 : decide ((decide (((rd_T41 l0 x6_1).f1) > a1_1)) = (decide (t104 > a1_1))) = false := by simpa using c25))
      (try (have c25b2 : ((decide (((rd_T41 l0 x6_1).f1) > a1_1)) == (decide (t104 > a1_1))) = false := by simpa using c25))
      (try (have c25b3 : ¬ ((decide (((rd_T41 l0 x6_1).f1) > a1_1)) = (decide (t104 > a1_1))) := by simpa using c25))
      clear c25
      replace H := Option.bind_eq_some_iff.mp H
      obtain ⟨t108, A260, H⟩ := H
      try dsimp only at H
      have A26 := Aside0.mk A260
      clear A260
      have HC27 := Aside0.mk H
      clear H
      try go_wp2
      replace BK101 := Aside0.mk (blk_drew BK101.out)
      replace HB := Aside0.mk (below_drew1 HB.out)
      have p102 : 0 ≤ (x6_1 : Int) := dt
      have q102 : x6_1 < (l0.length : Int) := dt
      obtain ⟨ad102, e102, hx102_0, hx102_1⟩ := at_T41 HR0.out x6_1 p102 q102
      have hw102_1 := hx102_1
      have hw102_0 := hx102_0
      cases e102
      replace hx102_0 := hc HB hx102_0
      replace hx102_1 := hc HB hx102_1
      replace p102 := eq_true p102
      replace q102 := eq_true q102
      refine start_ (n := 11) (S := fun w' => w'.cell? (ad102.add ((x6_1).toNat * 2)) = some (.int .i64 ((rd_T41 l0 x6_1).f0)) ∧ w'.cell? ⟨(ad102.add ((x6_1).toNat * 2)).block, (ad102.add ((x6_1).toNat * 2)).off + 1, none⟩ = some (.int .i64 ((rd_T41 l0 x6_1).f1))) (ds := []) #[N,N,N,N,N,N,N,N,N,N,N] (by kernel_rfl) rfl rfl ⟨(hc HB hw102_0), (hc HB hw102_1)⟩ (fun hHeld => ?_); refine with_tabW cracknelref04_Where.tab5 cracknelref04_Where.bits5 (fun HT_ HW_ => ?_)
      generalize wr.drew = w28 at BK101 HB hx102_0 hx102_1 hHeld ⊢
      refine pu 0 16 HT_ ?_
      refine pu 1 17 HT_ ?_
      refine pu 2 18 HT_ ?_
      refine pu 4 20 HT_ ?_
      refine pu 5 21 HT_ ?_
      refine tk2 3 19 hHeld HT_ HW_ ?_
      refine join_ (σ := Nat × Nat) 2 #[T,T,T,T,T,T,T,T,T,N,N] (fun s_ => [(22, .agg #[.int .i64 t103, .int .i64 t104]), (7, .pointer (some ⟨s_.1, 0, none⟩)), (8, .pointer (some ⟨s_.2, 0, none⟩))]) (fun s_ w' => (w'.cell? (ad102.add ((x6_1).toNat * 2)) = some (.int .i64 ((rd_T41 l0 x6_1).f0)) ∧ w'.cell? ⟨(ad102.add ((x6_1).toNat * 2)).block, (ad102.add ((x6_1).toNat * 2)).off + 1, none⟩ = some (.int .i64 ((rd_T41 l0 x6_1).f1))) ∧ (w'.heap[gb101]? = some (.cells #[.int .i64 a1_0, .int .i64 a1_1] 41 (0, 0))) ∧ (w'.heap[s_.1]? = some (.cells #[.int .i64 0, .int .i64 0] 41 (0, 0))) ∧ (w'.heap[s_.2]? = some (.cells #[.int .i64 0, .int .i64 0] 41 (0, 0))) ∧ (w.heap.size ≤ s_.1) ∧ (w.heap.size ≤ s_.1) ∧ (gb101 ≠ s_.1) ∧ (s_.1 ≠ gb101) ∧ (s_.2 ≠ s_.1) ∧ (s_.1 ≠ s_.2) ∧ (w.heap.size ≤ s_.2) ∧ (w.heap.size ≤ s_.2) ∧ (gb101 ≠ s_.2) ∧ (s_.2 ≠ gb101) ∧ (Below w.heap.size w w')) ?_ ?_
      rotate_left
      ·intro hJ6_7_8
       refine join_ (σ := Nat) 3 #[T,T,T,T,T,T,T,T,N,N,N] (fun s_ => [(22, .agg #[.int .i64 t103, .int .i64 t104]), (7, .pointer (some ⟨s_, 0, none⟩))]) (fun s_ w' => (w'.cell? (ad102.add ((x6_1).toNat * 2)) = some (.int .i64 ((rd_T41 l0 x6_1).f0)) ∧ w'.cell? ⟨(ad102.add ((x6_1).toNat * 2)).block, (ad102.add ((x6_1).toNat * 2)).off + 1, none⟩ = some (.int .i64 ((rd_T41 l0 x6_1).f1))) ∧ (w'.heap[gb101]? = some (.cells #[.int .i64 a1_0, .int .i64 a1_1] 41 (0, 0))) ∧ (w'.heap[s_]? = some (.cells #[.int .i64 0, .int .i64 0] 41 (0, 0))) ∧ (w.heap.size ≤ s_) ∧ (w.heap.size ≤ s_) ∧ (gb101 ≠ s_) ∧ (s_ ≠ gb101) ∧ (Below w.heap.size w w')) ?_ ?_
       rotate_left
       ·intro hJ6_7
        refine join_ (σ := Nat) 3 #[T,T,T,T,T,T,T,N,T,N,N] (fun s_ => [(22, .agg #[.int .i64 t103, .int .i64 t104]), (8, .pointer (some ⟨s_, 0, none⟩))]) (fun s_ w' => (w'.cell? (ad102.add ((x6_1).toNat * 2)) = some (.int .i64 ((rd_T41 l0 x6_1).f0)) ∧ w'.cell? ⟨(ad102.add ((x6_1).toNat * 2)).block, (ad102.add ((x6_1).toNat * 2)).off + 1, none⟩ = some (.int .i64 ((rd_T41 l0 x6_1).f1))) ∧ (w'.heap[gb101]? = some (.cells #[.int .i64 a1_0, .int .i64 a1_1] 41 (0, 0))) ∧ (w'.heap[s_]? = some (.cells #[.int .i64 0, .int .i64 0] 41 (0, 0))) ∧ (w.heap.size ≤ s_) ∧ (w.heap.size ≤ s_) ∧ (gb101 ≠ s_) ∧ (s_ ≠ gb101) ∧ (Below w.heap.size w w')) ?_ ?_
        rotate_left
        ·intro hJ6_8
         refine join_ (σ := Nat × Nat) 3 #[T,T,T,T,T,T,N,T,T,N,N] (fun s_ => [(7, .pointer (some ⟨s_.1, 0, none⟩)), (8, .pointer (some ⟨s_.2, 0, none⟩))]) (fun s_ w' => (w'.cell? (ad102.add ((x6_1).toNat * 2)) = some (.int .i64 ((rd_T41 l0 x6_1).f0)) ∧ w'.cell? ⟨(ad102.add ((x6_1).toNat * 2)).block, (ad102.add ((x6_1).toNat * 2)).off + 1, none⟩ = some (.int .i64 ((rd_T41 l0 x6_1).f1))) ∧ (w'.heap[gb101]? = some (.cells #[.int .i64 a1_0, .int .i64 a1_1] 41 (0, 0))) ∧ (w'.heap[s_.1]? = some (.cells #[.int .i64 0, .int .i64 0] 41 (0, 0))) ∧ (w'.heap[s_.2]? = some (.cells #[.int .i64 0, .int .i64 0] 41 (0, 0))) ∧ (w.heap.size ≤ s_.1) ∧ (w.heap.size ≤ s_.1) ∧ (gb101 ≠ s_.1) ∧ (s_.1 ≠ gb101) ∧ (s_.2 ≠ s_.1) ∧ (s_.1 ≠ s_.2) ∧ (w.heap.size ≤ s_.2) ∧ (w.heap.size ≤ s_.2) ∧ (gb101 ≠ s_.2) ∧ (s_.2 ≠ gb101) ∧ (Below w.heap.size w w')) ?_ ?_
         rotate_left
         ·intro hJ7_8
          refine join_ (σ := Unit) 4 #[T,T,T,T,T,T,T,N,N,N,N] (fun s_ => [(22, .agg #[.int .i64 t103, .int .i64 t104])]) (fun s_ w' => (w'.cell? (ad102.add ((x6_1).toNat * 2)) = some (.int .i64 ((rd_T41 l0 x6_1).f0)) ∧ w'.cell? ⟨(ad102.add ((x6_1).toNat * 2)).block, (ad102.add ((x6_1).toNat * 2)).off + 1, none⟩ = some (.int .i64 ((rd_T41 l0 x6_1).f1))) ∧ (w'.heap[gb101]? = some (.cells #[.int .i64 a1_0, .int .i64 a1_1] 41 (0, 0))) ∧ (Below w.heap.size w w')) ?_ ?_
          rotate_left
          ·intro hJ6
           refine join_ (σ := Nat) 4 #[T,T,T,T,T,T,N,T,N,N,N] (fun s_ => [(7, .pointer (some ⟨s_, 0, none⟩))]) (fun s_ w' => (w'.cell? (ad102.add ((x6_1).toNat * 2)) = some (.int .i64 ((rd_T41 l0 x6_1).f0)) ∧ w'.cell? ⟨(ad102.add ((x6_1).toNat * 2)).block, (ad102.add ((x6_1).toNat * 2)).off + 1, none⟩ = some (.int .i64 ((rd_T41 l0 x6_1).f1))) ∧ (w'.heap[gb101]? = some (.cells #[.int .i64 a1_0, .int .i64 a1_1] 41 (0, 0))) ∧ (w'.heap[s_]? = some (.cells #[.int .i64 0, .int .i64 0] 41 (0, 0))) ∧ (w.heap.size ≤ s_) ∧ (w.heap.size ≤ s_) ∧ (gb101 ≠ s_) ∧ (s_ ≠ gb101) ∧ (Below w.heap.size w w')) ?_ ?_
           rotate_left
           ·intro hJ7
            refine join_ (σ := Nat) 4 #[T,T,T,T,T,T,N,N,T,N,N] (fun s_ => [(8, .pointer (some ⟨s_, 0, none⟩))]) (fun s_ w' => (w'.cell? (ad102.add ((x6_1).toNat * 2)) = some (.int .i64 ((rd_T41 l0 x6_1).f0)) ∧ w'.cell? ⟨(ad102.add ((x6_1).toNat * 2)).block, (ad102.add ((x6_1).toNat * 2)).off + 1, none⟩ = some (.int .i64 ((rd_T41 l0 x6_1).f1))) ∧ (w'.heap[gb101]? = some (.cells #[.int .i64 a1_0, .int .i64 a1_1] 41 (0, 0))) ∧ (w'.heap[s_]? = some (.cells #[.int .i64 0, .int .i64 0] 41 (0, 0))) ∧ (w.heap.size ≤ s_) ∧ (w.heap.size ≤ s_) ∧ (gb101 ≠ s_) ∧ (s_ ≠ gb101) ∧ (Below w.heap.size w w')) ?_ ?_
            rotate_left
            ·intro hJ8
             refine three_ (i := 6) (j := 7) (k := 8) (Ni := some 22) (Nj := some 7) (Nk := some 8) #[T,T,T,T,T,T,T,N,N,N,N] #[T,T,T,T,T,T,N,T,N,N,N] #[T,T,T,T,T,T,N,N,T,N,N] rfl rfl rfl rfl rfl rfl (on3 HT_) (by decide) (by decide) (by decide) (fun K hK => ?_) (fun K hK => ?_) (fun K hK => ?_)
             ·skip
              refine goes_ Try.func58 (by kernel_rfl) rfl #[.slice (some ad102) l0.length c0, .int .i64 x6_1] (by rfl) rfl rfl sg ?_
              with_reducible refine (cracknelref04_next.calls _ _ l0 x6_1 t103 t104 _ ?side1 ?side2 A6.out).mono ?_
              (case side1 => exact cs (Kd.C_below HR0.out HB.out))
              (case side2 => exact HC0.out)
              rintro e w29 ⟨rfl, hb⟩
              refine ⟨_, rfl, ?_⟩
              replace BK101 := kb BK101 hb
              replace HB := bz hb
              (try clear hb)
              refine hK.out _ _ ⟨(hc HB hw102_0), (hc HB hw102_1)⟩ (fun hHeld => ?_)
              clear hK K
              refine nm 22 ?_
              exact norm_ pa (hJ6 () _ ⟨hHeld, bk BK101, bh⟩)
             ·skip
              refine bxs 7 #[.int .i64 0, .int .i64 0] 41 ?_
              intro gb105 hg w29 hbox hb
              have BK105 := Aside0.mk (hbox)
              have GW105 := ga w hg
              have GE105 := GW105
              have NB101_105 := nb hg (kl BK101)
              have NB105_101 := bn NB101_105
              replace BK101 := kb BK101 hb
              replace HB := bz hb
              clear hb hbox hg
              refine hK.out _ _ ⟨(hc HB hw102_0), (hc HB hw102_1)⟩ (fun hHeld => ?_)
              clear hK K
              refine nm 7 ?_
              exact norm_ pa (hJ7 (gb105) _ ⟨hHeld, bk BK101, bk BK105, GW105.out, GE105.out, NB101_105.out, NB105_101.out, bh⟩)
             ·skip
              refine bxs 8 #[.int .i64 0, .int .i64 0] 41 ?_
              intro gb106 hg w29 hbox hb
              have BK106 := Aside0.mk (hbox)
              have GW106 := ga w hg
              have GE106 := GW106
              have NB101_106 := nb hg (kl BK101)
              have NB106_101 := bn NB101_106
              replace BK101 := kb BK101 hb
              replace HB := bz hb
              clear hb hbox hg
              refine hK.out _ _ ⟨(hc HB hw102_0), (hc HB hw102_1)⟩ (fun hHeld => ?_)
              clear hK K
              refine nm 8 ?_
              exact norm_ pa (hJ8 (gb106) _ ⟨hHeld, bk BK101, bk BK106, GW106.out, GE106.out, NB101_106.out, NB106_101.out, bh⟩)
            ·skip
             rintro gb106 w30 ⟨hS_, h0_, h1_, h2_, h3_, h4_, h5_, h6_⟩
             have BK106 := Aside0.mk h1_
             have GW106 := Aside0.mk h2_
             have GE106 := Aside0.mk h3_
             have NB101_106 := Aside0.mk h4_
             have NB106_101 := Aside0.mk h5_
             replace BK101 := Aside0.mk h0_
             replace HB := Aside0.mk h6_
             clear h0_ h1_ h2_ h3_ h4_ h5_ h6_
             have hHeld := hS_
             refine nn ?_
             refine two_ (i := 6) (j := 7) (Ni := some 22) (Nj := some 7) #[T,T,T,T,T,T,T,N,T,N,N] #[T,T,T,T,T,T,N,T,T,N,N] rfl rfl rfl rfl (on2 HT_) (by decide) (by decide) (fun K hK => ?_) (fun K hK => ?_)
             ·skip
              refine goes_ Try.func58 (by kernel_rfl) rfl #[.slice (some ad102) l0.length c0, .int .i64 x6_1] (by rfl) rfl rfl sg ?_
              with_reducible refine (cracknelref04_next.calls _ _ l0 x6_1 t103 t104 _ ?side1 ?side2 A6.out).mono ?_
              (case side1 => exact cs (Kd.C_below HR0.out HB.out))
              (case side2 => exact HC0.out)
              rintro e w31 ⟨rfl, hb⟩
              refine ⟨_, rfl, ?_⟩
              replace BK101 := kb BK101 hb
              replace BK106 := kb BK106 hb
              replace HB := bz hb
              (try clear hb)
              refine hK.out _ _ ⟨(hc HB hw102_0), (hc HB hw102_1)⟩ (fun hHeld => ?_)
              clear hK K
              refine nm 22 ?_
              exact norm_ pa (hJ6_8 (gb106) _ ⟨hHeld, bk BK101, bk BK106, GW106.out, GE106.out, NB101_106.out, NB106_101.out, bh⟩)
             ·skip
              refine bxs 7 #[.int .i64 0, .int .i64 0] 41 ?_
              intro gb105 hg w31 hbox hb
              have BK105 := Aside0.mk (hbox)
              have GW105 := ga w hg
              have GE105 := GW105
              have NB101_105 := nb hg (kl BK101)
              have NB105_101 := bn NB101_105
              have NB106_105 := nb hg (kl BK106)
              have NB105_106 := bn NB106_105
              replace BK101 := kb BK101 hb
              replace BK106 := kb BK106 hb
              replace HB := bz hb
              clear hb hbox hg
              refine hK.out _ _ ⟨(hc HB hw102_0), (hc HB hw102_1)⟩ (fun hHeld => ?_)
              clear hK K
              refine nm 7 ?_
              exact norm_ pa (hJ7_8 (gb105, gb106) _ ⟨hHeld, bk BK101, bk BK105, bk BK106, GW105.out, GE105.out, NB101_105.out, NB105_101.out, NB106_105.out, NB105_106.out, GW106.out, GE106.out, NB101_106.out, NB106_101.out, bh⟩)
           ·skip
            rintro gb105 w30 ⟨hS_, h0_, h1_, h2_, h3_, h4_, h5_, h6_⟩
            have BK105 := Aside0.mk h1_
            have GW105 := Aside0.mk h2_
            have GE105 := Aside0.mk h3_
            have NB101_105 := Aside0.mk h4_
            have NB105_101 := Aside0.mk h5_
            replace BK101 := Aside0.mk h0_
            replace HB := Aside0.mk h6_
            clear h0_ h1_ h2_ h3_ h4_ h5_ h6_
            have hHeld := hS_
            refine nn ?_
            refine two_ (i := 6) (j := 8) (Ni := some 22) (Nj := some 8) #[T,T,T,T,T,T,T,T,N,N,N] #[T,T,T,T,T,T,N,T,T,N,N] rfl rfl rfl rfl (on2 HT_) (by decide) (by decide) (fun K hK => ?_) (fun K hK => ?_)
            ·skip
             refine goes_ Try.func58 (by kernel_rfl) rfl #[.slice (some ad102) l0.length c0, .int .i64 x6_1] (by rfl) rfl rfl sg ?_
             with_reducible refine (cracknelref04_next.calls _ _ l0 x6_1 t103 t104 _ ?side1 ?side2 A6.out).mono ?_
             (case side1 => exact cs (Kd.C_below HR0.out HB.out))
             (case side2 => exact HC0.out)
             rintro e w31 ⟨rfl, hb⟩
             refine ⟨_, rfl, ?_⟩
             replace BK101 := kb BK101 hb
             replace BK105 := kb BK105 hb
             replace HB := bz hb
             (try clear hb)
             refine hK.out _ _ ⟨(hc HB hw102_0), (hc HB hw102_1)⟩ (fun hHeld => ?_)
             clear hK K
             refine nm 22 ?_
             exact norm_ pa (hJ6_7 (gb105) _ ⟨hHeld, bk BK101, bk BK105, GW105.out, GE105.out, NB101_105.out, NB105_101.out, bh⟩)
            ·skip
             refine bxs 8 #[.int .i64 0, .int .i64 0] 41 ?_
             intro gb106 hg w31 hbox hb
             have BK106 := Aside0.mk (hbox)
             have GW106 := ga w hg
             have GE106 := GW106
             have NB101_106 := nb hg (kl BK101)
             have NB106_101 := bn NB101_106
             have NB105_106 := nb hg (kl BK105)
             have NB106_105 := bn NB105_106
             replace BK101 := kb BK101 hb
             replace BK105 := kb BK105 hb
             replace HB := bz hb
             clear hb hbox hg
             refine hK.out _ _ ⟨(hc HB hw102_0), (hc HB hw102_1)⟩ (fun hHeld => ?_)
             clear hK K
             refine nm 8 ?_
             exact norm_ pa (hJ7_8 (gb105, gb106) _ ⟨hHeld, bk BK101, bk BK105, bk BK106, GW105.out, GE105.out, NB101_105.out, NB105_101.out, NB106_105.out, NB105_106.out, GW106.out, GE106.out, NB101_106.out, NB106_101.out, bh⟩)
          ·skip
           rintro _ w30 ⟨hS_, h0_, h1_⟩
           replace BK101 := Aside0.mk h0_
           replace HB := Aside0.mk h1_
           clear h0_ h1_
           have hHeld := hS_
           refine nn ?_
           refine two_ (i := 7) (j := 8) (Ni := some 7) (Nj := some 8) #[T,T,T,T,T,T,T,T,N,N,N] #[T,T,T,T,T,T,T,N,T,N,N] rfl rfl rfl rfl (on2 HT_) (by decide) (by decide) (fun K hK => ?_) (fun K hK => ?_)
           ·skip
            refine bxs 7 #[.int .i64 0, .int .i64 0] 41 ?_
            intro gb105 hg w31 hbox hb
            have BK105 := Aside0.mk (hbox)
            have GW105 := ga w hg
            have GE105 := GW105
            have NB101_105 := nb hg (kl BK101)
            have NB105_101 := bn NB101_105
            replace BK101 := kb BK101 hb
            replace HB := bz hb
            clear hb hbox hg
            refine hK.out _ _ ⟨(hc HB hw102_0), (hc HB hw102_1)⟩ (fun hHeld => ?_)
            clear hK K
            refine nm 7 ?_
            exact norm_ pa (hJ6_7 (gb105) _ ⟨hHeld, bk BK101, bk BK105, GW105.out, GE105.out, NB101_105.out, NB105_101.out, bh⟩)
           ·skip
            refine bxs 8 #[.int .i64 0, .int .i64 0] 41 ?_
            intro gb106 hg w31 hbox hb
            have BK106 := Aside0.mk (hbox)
            have GW106 := ga w hg
            have GE106 := GW106
            have NB101_106 := nb hg (kl BK101)
            have NB106_101 := bn NB101_106
            replace BK101 := kb BK101 hb
            replace HB := bz hb
            clear hb hbox hg
            refine hK.out _ _ ⟨(hc HB hw102_0), (hc HB hw102_1)⟩ (fun hHeld => ?_)
            clear hK K
            refine nm 8 ?_
            exact norm_ pa (hJ6_8 (gb106) _ ⟨hHeld, bk BK101, bk BK106, GW106.out, GE106.out, NB101_106.out, NB106_101.out, bh⟩)
         ·skip
          rintro ⟨gb105, gb106⟩ w31 ⟨hS_, h0_, h1_, h2_, h3_, h4_, h5_, h6_, h7_, h8_, h9_, h10_, h11_, h12_, h13_⟩
          have BK105 := Aside0.mk h1_
          have BK106 := Aside0.mk h2_
          have GW105 := Aside0.mk h3_
          have GE105 := Aside0.mk h4_
          have NB101_105 := Aside0.mk h5_
          have NB105_101 := Aside0.mk h6_
          have NB106_105 := Aside0.mk h7_
          have NB105_106 := Aside0.mk h8_
          have GW106 := Aside0.mk h9_
          have GE106 := Aside0.mk h10_
          have NB101_106 := Aside0.mk h11_
          have NB106_101 := Aside0.mk h12_
          replace BK101 := Aside0.mk h0_
          replace HB := Aside0.mk h13_
          clear h0_ h1_ h2_ h3_ h4_ h5_ h6_ h7_ h8_ h9_ h10_ h11_ h12_ h13_
          have hHeld := hS_
          refine nn ?_
          refine one_ (i := 6) (N := some 22) #[T,T,T,T,T,T,T,T,T,N,N] rfl rfl (on1 HT_) (by decide) (fun K hK => ?_)
          refine goes_ Try.func58 (by kernel_rfl) rfl #[.slice (some ad102) l0.length c0, .int .i64 x6_1] (by rfl) rfl rfl sg ?_
          with_reducible refine (cracknelref04_next.calls _ _ l0 x6_1 t103 t104 _ ?side1 ?side2 A6.out).mono ?_
          (case side1 => exact cs (Kd.C_below HR0.out HB.out))
          (case side2 => exact HC0.out)
          rintro e w32 ⟨rfl, hb⟩
          refine ⟨_, rfl, ?_⟩
          replace BK101 := kb BK101 hb
          replace BK105 := kb BK105 hb
          replace BK106 := kb BK106 hb
          replace HB := bz hb
          (try clear hb)
          refine hK.out _ _ ⟨(hc HB hw102_0), (hc HB hw102_1)⟩ (fun hHeld => ?_)
          clear hK K
          refine nm 22 ?_
          exact norm_ pa (hJ6_7_8 (gb105, gb106) _ ⟨hHeld, bk BK101, bk BK105, bk BK106, GW105.out, GE105.out, NB101_105.out, NB105_101.out, NB106_105.out, NB105_106.out, GW106.out, GE106.out, NB101_106.out, NB106_101.out, bh⟩)
        ·skip
         rintro gb106 w31 ⟨hS_, h0_, h1_, h2_, h3_, h4_, h5_, h6_⟩
         have BK106 := Aside0.mk h1_
         have GW106 := Aside0.mk h2_
         have GE106 := Aside0.mk h3_
         have NB101_106 := Aside0.mk h4_
         have NB106_101 := Aside0.mk h5_
         replace BK101 := Aside0.mk h0_
         replace HB := Aside0.mk h6_
         clear h0_ h1_ h2_ h3_ h4_ h5_ h6_
         have hHeld := hS_
         refine nn ?_
         refine one_ (i := 7) (N := some 7) #[T,T,T,T,T,T,T,T,T,N,N] rfl rfl (on1 HT_) (by decide) (fun K hK => ?_)
         refine bxs 7 #[.int .i64 0, .int .i64 0] 41 ?_
         intro gb105 hg w32 hbox hb
         have BK105 := Aside0.mk (hbox)
         have GW105 := ga w hg
         have GE105 := GW105
         have NB101_105 := nb hg (kl BK101)
         have NB105_101 := bn NB101_105
         have NB106_105 := nb hg (kl BK106)
         have NB105_106 := bn NB106_105
         replace BK101 := kb BK101 hb
         replace BK106 := kb BK106 hb
         replace HB := bz hb
         clear hb hbox hg
         refine hK.out _ _ ⟨(hc HB hw102_0), (hc HB hw102_1)⟩ (fun hHeld => ?_)
         clear hK K
         refine nm 7 ?_
         exact norm_ pa (hJ6_7_8 (gb105, gb106) _ ⟨hHeld, bk BK101, bk BK105, bk BK106, GW105.out, GE105.out, NB101_105.out, NB105_101.out, NB106_105.out, NB105_106.out, GW106.out, GE106.out, NB101_106.out, NB106_101.out, bh⟩)
       ·skip
        rintro gb105 w31 ⟨hS_, h0_, h1_, h2_, h3_, h4_, h5_, h6_⟩
        have BK105 := Aside0.mk h1_
        have GW105 := Aside0.mk h2_
        have GE105 := Aside0.mk h3_
        have NB101_105 := Aside0.mk h4_
        have NB105_101 := Aside0.mk h5_
        replace BK101 := Aside0.mk h0_
        replace HB := Aside0.mk h6_
        clear h0_ h1_ h2_ h3_ h4_ h5_ h6_
        have hHeld := hS_
        refine nn ?_
        refine one_ (i := 8) (N := some 8) #[T,T,T,T,T,T,T,T,T,N,N] rfl rfl (on1 HT_) (by decide) (fun K hK => ?_)
        refine bxs 8 #[.int .i64 0, .int .i64 0] 41 ?_
        intro gb106 hg w32 hbox hb
        have BK106 := Aside0.mk (hbox)
        have GW106 := ga w hg
        have GE106 := GW106
        have NB101_106 := nb hg (kl BK101)
        have NB106_101 := bn NB101_106
        have NB105_106 := nb hg (kl BK105)
        have NB106_105 := bn NB105_106
        replace BK101 := kb BK101 hb
        replace BK105 := kb BK105 hb
        replace HB := bz hb
        clear hb hbox hg
        refine hK.out _ _ ⟨(hc HB hw102_0), (hc HB hw102_1)⟩ (fun hHeld => ?_)
        clear hK K
        refine nm 8 ?_
        exact norm_ pa (hJ6_7_8 (gb105, gb106) _ ⟨hHeld, bk BK101, bk BK105, bk BK106, GW105.out, GE105.out, NB101_105.out, NB105_101.out, NB106_105.out, NB105_106.out, GW106.out, GE106.out, NB101_106.out, NB106_101.out, bh⟩)
      rintro ⟨gb105, gb106⟩ w32 ⟨hS_, h0_, h1_, h2_, h3_, h4_, h5_, h6_, h7_, h8_, h9_, h10_, h11_, h12_, h13_⟩
      have BK105 := Aside0.mk h1_
      have BK106 := Aside0.mk h2_
      have GW105 := Aside0.mk h3_
      have GE105 := Aside0.mk h4_
      have NB101_105 := Aside0.mk h5_
      have NB105_101 := Aside0.mk h6_
      have NB106_105 := Aside0.mk h7_
      have NB105_106 := Aside0.mk h8_
      have GW106 := Aside0.mk h9_
      have GE106 := Aside0.mk h10_
      have NB101_106 := Aside0.mk h11_
      have NB106_101 := Aside0.mk h12_
      replace BK101 := Aside0.mk h0_
      replace HB := Aside0.mk h13_
      clear h0_ h1_ h2_ h3_ h4_ h5_ h6_ h7_ h8_ h9_ h10_ h11_ h12_ h13_
      have hHeld := hS_
      refine nn ?_
      refine one_ (i := 9) (N := none) #[T,T,T,T,T,T,T,T,T,T,N] rfl rfl (on1 HT_) (by decide) (fun K hK => ?_)
      have hs33 : w32.cell? ⟨gb105, 0, none⟩ = some (.int .i64 0) := bc BK105 0
      have hfs33 := blk_frozen BK105.out 0
      have hns33_0 := NB101_105.out
      have hns33_2 := NB106_105.out
      have hms33_0 := NB105_101.out
      have hms33_2 := NB105_106.out
      have hs34 : w32.cell? ⟨gb105, 1, none⟩ = some (.int .i64 0) := bc BK105 1
      have hfs34 := blk_frozen BK105.out 1
      have hns34_0 := NB101_105.out
      have hns34_2 := NB106_105.out
      have hms34_0 := NB105_101.out
      have hms34_2 := NB105_106.out
      refine skip_ (w1 := ?_) (by rfl) rfl ?_ ?_
      rotate_left
      ·go_simp
       rfl
      refine hK.out _ _ ⟨((cell_far (p := ⟨gb105, _, none⟩) (fr hw102_0 GW105) _).trans (((cell_far (p := ⟨gb105, _, none⟩) (fr hw102_0 GW105) _).trans (hHeld.1)))), ((cell_far (p := ⟨gb105, _, none⟩) (fr hw102_1 GW105) _).trans (((cell_far (p := ⟨gb105, _, none⟩) (fr hw102_1 GW105) _).trans (hHeld.2))))⟩ (fun hHeld => ?_)
      clear hK K
      refine one_ (i := 10) (N := none) #[T,T,T,T,T,T,T,T,T,T,T] rfl rfl (on1 HT_) (by decide) (fun K hK => ?_)
      have hs35 : w32.cell? ⟨gb106, 0, none⟩ = some (.int .i64 0) := bc BK106 0
      have hfs35 := blk_frozen BK106.out 0
      have hns35_0 := NB101_106.out
      have hns35_1 := NB105_106.out
      have hms35_0 := NB106_101.out
      have hms35_1 := NB106_105.out
      have hs36 : w32.cell? ⟨gb106, 1, none⟩ = some (.int .i64 0) := bc BK106 1
      have hfs36 := blk_frozen BK106.out 1
      have hns36_0 := NB101_106.out
      have hns36_1 := NB105_106.out
      have hms36_0 := NB106_101.out
      have hms36_1 := NB106_105.out
      refine skip_ (w1 := ?_) (by rfl) rfl ?_ ?_
      rotate_left
      ·go_simp
       rfl
      refine hK.out _ _ ⟨((cell_far (p := ⟨gb106, _, none⟩) (fr hw102_0 GW106) _).trans (((cell_far (p := ⟨gb106, _, none⟩) (fr hw102_0 GW106) _).trans (hHeld.1)))), ((cell_far (p := ⟨gb106, _, none⟩) (fr hw102_1 GW106) _).trans (((cell_far (p := ⟨gb106, _, none⟩) (fr hw102_1 GW106) _).trans (hHeld.2))))⟩ (fun hHeld => ?_)
      clear hK K
      refine done_ (done_of HT_.out (by kernel_rfl)) ?_
      have hnb37 := NB105_101.out
      have hnc37 := NB101_105.out
      have hnb38 := NB105_106.out
      have hnc38 := NB106_105.out
      obtain ⟨hcz39_0, hcz39_1, hfz39_0, hfz39_1⟩ := b2 BK105
      have hnb40 := NB106_101.out
      have hnc40 := NB101_106.out
      obtain ⟨hcz41_0, hcz41_1, hfz41_0, hfz41_1⟩ := b2 BK106
      obtain ⟨hcz42_0, hcz42_1, hfz42_0, hfz42_1⟩ := b2 BK101
      go_upto_if 46 with (first | ((with_reducible refine gc 59 rfl ?_); refine goesL_ (some 26) rfl rfl Try.func59 (by kernel_rfl) rfl #[.agg #[.int .i64 ((rd_T41 l0 x6_1).f0), .int .i64 ((rd_T41 l0 x6_1).f1)], .agg #[.int .i64 t103, .int .i64 t104], .agg #[.int .i64 a1_0, .int .i64 a1_1]] rfl sg ?_; (with_reducible refine (cracknelref04_On.calls ((rd_T41 l0 x6_1).f0) ((rd_T41 l0 x6_1).f1) t103 t104 a1_0 a1_1 false _ A7.out).mono ?_); rintro e w43 ⟨rfl, hb⟩; refine ⟨_, rfl, ?_⟩; replace BK101 := Aside0.mk (blk_below (g := gb101) (o := .cells #[.int .i64 a1_0, .int .i64 a1_1] 41 (0, 0)) (by refine bf NB101_106 ?_; refine bf NB101_106 ?_; refine bf NB101_105 ?_; refine bf NB101_105 ?_; refine bd ?_; exact BK101.out) hb); replace BK105 := Aside0.mk (blk_below (g := gb105) (o := .cells #[.int .i64 ((rd_T41 l0 x6_1).f0), .int .i64 ((rd_T41 l0 x6_1).f1)] 41 (0, 0)) (by refine bf NB105_106 ?_; refine bf NB105_106 ?_; refine bd ?_; refine blk_put (cs := #[.int .i64 ((rd_T41 l0 x6_1).f0), .int .i64 0]) ?_ 1 _ rfl; refine bd ?_; refine blk_put (cs := #[.int .i64 0, .int .i64 0]) ?_ 0 _ rfl; refine bd ?_; exact BK105.out) hb); replace BK106 := Aside0.mk (blk_below (g := gb106) (o := .cells #[.int .i64 t103, .int .i64 t104] 41 (0, 0)) (by refine bd ?_; refine blk_put (cs := #[.int .i64 t103, .int .i64 0]) ?_ 1 _ rfl; refine bd ?_; refine blk_put (cs := #[.int .i64 0, .int .i64 0]) ?_ 0 _ rfl; refine bf NB106_105 ?_; refine bf NB106_105 ?_; refine bd ?_; exact BK106.out) hb); replace HB := bz hb; (try clear hb); obtain ⟨hcz44_0, hcz44_1, hfz44_0, hfz44_1⟩ := b2 BK105; obtain ⟨hcz45_0, hcz45_1, hfz45_0, hfz45_1⟩ := b2 BK101; obtain ⟨hcz46_0, hcz46_1, hfz46_0, hfz46_1⟩ := b2 BK106) | ((with_reducible refine gc 31 rfl ?_); refine goesL_ (some 41) rfl rfl Try.func31 (by kernel_rfl) rfl #[.agg #[.int .i64 ((rd_T41 l0 x6_1).f0), .int .i64 ((rd_T41 l0 x6_1).f1)], .agg #[.int .i64 t103, .int .i64 t104], .agg #[.int .i64 a1_0, .int .i64 a1_1]] rfl sg ?_; (with_reducible refine (cracknelref04_Cross.calls ((rd_T41 l0 x6_1).f0) ((rd_T41 l0 x6_1).f1) t103 t104 a1_0 a1_1 t108 _ A26.out).mono ?_); rintro e w47 ⟨rfl, hb⟩; refine ⟨_, rfl, ?_⟩; replace BK101 := kb BK101 hb; replace BK105 := kb BK105 hb; replace BK106 := kb BK106 hb; replace HB := bz hb; (try clear hb); obtain ⟨hcz48_0, hcz48_1, hfz48_0, hfz48_1⟩ := b2 BK106; obtain ⟨hcz49_0, hcz49_1, hfz49_0, hfz49_1⟩ := b2 BK105))
      (try simp only [Act.put, List.setIfInBounds_toArray, List.set_cons_zero, List.set_cons_succ])
      go_cut [9] (fun v9 wc => ∃ (kq : Nat) (x9_26 : Int), v9 = .int .i64 x9_26 ∧ Aside0 (cracknelref04_Where.j1 kq l0 x5_1 x6_1 x9_26 a1_0 a1_1 = some r) ∧ Aside0 (kq ≤ k1) ∧ Aside0 (wc.heap[gb101]? = some (.cells #[.int .i64 a1_0, .int .i64 a1_1] 41 (0, 0))) ∧ Aside0 (wc.heap[gb105]? = some (.cells #[.int .i64 ((rd_T41 l0 x6_1).f0), .int .i64 ((rd_T41 l0 x6_1).f1)] 41 (0, 0))) ∧ Aside0 (wc.heap[gb106]? = some (.cells #[.int .i64 t103, .int .i64 t104] 41 (0, 0))) ∧ Aside0 (Below w.heap.size w wc))
      case first =>
       have H := HC27.out
       clear HC27
       by_cases c50 : t104 < ((rd_T41 l0 x6_1).f1)
       ·rw [if_pos c50] at H
        have c50b0 := decide_eq_true c50
        clear c50
        (first | rw [c50b0] | (simp only [i64_w, i32_w]; rw [c50b0]) | skip)
        have H' := Aside0.mk H
        clear H
        go_wp2
        go_meet
        case rel => exact ⟨_, (wrap64 (-t108)), sd, H', ⟨by have := HK1.out; first | omega | exact Nat.le_refl _⟩, ⟨bk BK101⟩, ⟨bk BK105⟩, ⟨bk BK106⟩, ⟨bh⟩⟩
       ·rw [if_neg c50] at H
        have c50b0 := decide_eq_false c50
        clear c50
        (first | rw [c50b0] | (simp only [i64_w, i32_w]; rw [c50b0]) | skip)
        have H' := Aside0.mk H
        clear H
        go_wp2
        go_meet
        case rel => exact ⟨_, (t108), sd, H', ⟨by have := HK1.out; first | omega | exact Nat.le_refl _⟩, ⟨bk BK101⟩, ⟨bk BK105⟩, ⟨bk BK106⟩, ⟨bh⟩⟩
      case rest =>
       clear HC27
       (try clear hcz39_0); (try clear hcz39_1); (try clear hcz41_0); (try clear hcz41_1); (try clear hcz42_0); (try clear hcz42_1); (try clear hcz44_0); (try clear hcz44_1); (try clear hcz45_0); (try clear hcz45_1); (try clear hcz46_0); (try clear hcz46_1); (try clear hcz48_0); (try clear hcz48_1); (try clear hcz49_0); (try clear hcz49_1); (try clear hfz39_0); (try clear hfz39_1); (try clear hfz41_0); (try clear hfz41_1); (try clear hfz42_0); (try clear hfz42_1); (try clear hfz44_0); (try clear hfz44_1); (try clear hfz45_0); (try clear hfz45_1); (try clear hfz46_0); (try clear hfz46_1); (try clear hfz48_0); (try clear hfz48_1); (try clear hfz49_0); (try clear hfz49_1)
       obtain ⟨kq, x9_26, rfl, HA, HJ26, BK101, BK105, BK106, HB⟩ := hcut
       cases kq with
       | zero => exact absurd HA.out (by simp [cracknelref04_Where.j1])
       | succ kj26 =>
        have H := HA.out
        clear HA
        simp only [cracknelref04_Where.j1] at H
        by_cases c51 : x9_26 > 0
        ·rw [if_pos c51] at H
         have c51b0 := decide_eq_true c51
         clear c51
         have H' := Aside0.mk H
         clear H
         go_wp2
         go_roundg kj26
         case measure => have := HK1.out; have := HJ26.out; omega
         case rel => exact ⟨(!x5_1), (wrap64 (x6_1 + 1)), sd, sd, H', ⟨by have := HK1.out; have := HJ26.out; omega⟩, ⟨bk BK101⟩, ⟨bh⟩⟩
        ·rw [if_neg c51] at H
         have c51b0 := decide_eq_false c51
         clear c51
         have H' := Aside0.mk H
         clear H
         go_wp2
         go_roundg kj26
         case measure => have := HK1.out; have := HJ26.out; omega
         case rel => exact ⟨(x5_1), (wrap64 (x6_1 + 1)), sd, sd, H', ⟨by have := HK1.out; have := HJ26.out; omega⟩, ⟨bk BK101⟩, ⟨bh⟩⟩
     ·rw [if_neg c25] at H
      have c25b0 : ((decide (((rd_T41 l0 x6_1).f1) > a1_1)) != (decide (t104 > a1_1))) = false := by simpa using c25
      (try (have c25b1 : decide ((decide (((rd_T41 l0 x6_1).f1) > a1_1)) = (decide (t104 > a1_1))) = true := by simpa using c25))
      (try (have c25b2 : ((decide (((rd_T41 l0 x6_1).f1) > a1_1)) == (decide (t104 > a1_1))) = true := by simpa using c25))
      clear c25
      have H' := Aside0.mk H
      clear H
      try go_wp2
      replace BK101 := Aside0.mk (blk_drew BK101.out)
      replace HB := Aside0.mk (below_drew1 HB.out)
      have p102 : 0 ≤ (x6_1 : Int) := dt
      have q102 : x6_1 < (l0.length : Int) := dt
      obtain ⟨ad102, e102, hx102_0, hx102_1⟩ := at_T41 HR0.out x6_1 p102 q102
      have hw102_1 := hx102_1
      have hw102_0 := hx102_0
      cases e102
      replace hx102_0 := hc HB hx102_0
      replace hx102_1 := hc HB hx102_1
      replace p102 := eq_true p102
      replace q102 := eq_true q102
      refine start_ (n := 11) (S := fun w' => w'.cell? (ad102.add ((x6_1).toNat * 2)) = some (.int .i64 ((rd_T41 l0 x6_1).f0)) ∧ w'.cell? ⟨(ad102.add ((x6_1).toNat * 2)).block, (ad102.add ((x6_1).toNat * 2)).off + 1, none⟩ = some (.int .i64 ((rd_T41 l0 x6_1).f1))) (ds := []) #[N,N,N,N,N,N,N,N,N,N,N] (by kernel_rfl) rfl rfl ⟨(hc HB hw102_0), (hc HB hw102_1)⟩ (fun hHeld => ?_); refine with_tabW cracknelref04_Where.tab5 cracknelref04_Where.bits5 (fun HT_ HW_ => ?_)
      generalize wr.drew = w52 at BK101 HB hx102_0 hx102_1 hHeld ⊢
      refine pu 0 16 HT_ ?_
      refine pu 1 17 HT_ ?_
      refine pu 2 18 HT_ ?_
      refine pu 4 20 HT_ ?_
      refine pu 5 21 HT_ ?_
      refine tk2 3 19 hHeld HT_ HW_ ?_
      refine join_ (σ := Nat × Nat) 2 #[T,T,T,T,T,T,T,T,T,N,N] (fun s_ => [(22, .agg #[.int .i64 t103, .int .i64 t104]), (7, .pointer (some ⟨s_.1, 0, none⟩)), (8, .pointer (some ⟨s_.2, 0, none⟩))]) (fun s_ w' => (w'.cell? (ad102.add ((x6_1).toNat * 2)) = some (.int .i64 ((rd_T41 l0 x6_1).f0)) ∧ w'.cell? ⟨(ad102.add ((x6_1).toNat * 2)).block, (ad102.add ((x6_1).toNat * 2)).off + 1, none⟩ = some (.int .i64 ((rd_T41 l0 x6_1).f1))) ∧ (w'.heap[gb101]? = some (.cells #[.int .i64 a1_0, .int .i64 a1_1] 41 (0, 0))) ∧ (w'.heap[s_.1]? = some (.cells #[.int .i64 0, .int .i64 0] 41 (0, 0))) ∧ (w'.heap[s_.2]? = some (.cells #[.int .i64 0, .int .i64 0] 41 (0, 0))) ∧ (w.heap.size ≤ s_.1) ∧ (w.heap.size ≤ s_.1) ∧ (gb101 ≠ s_.1) ∧ (s_.1 ≠ gb101) ∧ (s_.2 ≠ s_.1) ∧ (s_.1 ≠ s_.2) ∧ (w.heap.size ≤ s_.2) ∧ (w.heap.size ≤ s_.2) ∧ (gb101 ≠ s_.2) ∧ (s_.2 ≠ gb101) ∧ (Below w.heap.size w w')) ?_ ?_
      rotate_left
      ·intro hJ6_7_8
       refine join_ (σ := Nat) 3 #[T,T,T,T,T,T,T,T,N,N,N] (fun s_ => [(22, .agg #[.int .i64 t103, .int .i64 t104]), (7, .pointer (some ⟨s_, 0, none⟩))]) (fun s_ w' => (w'.cell? (ad102.add ((x6_1).toNat * 2)) = some (.int .i64 ((rd_T41 l0 x6_1).f0)) ∧ w'.cell? ⟨(ad102.add ((x6_1).toNat * 2)).block, (ad102.add ((x6_1).toNat * 2)).off + 1, none⟩ = some (.int .i64 ((rd_T41 l0 x6_1).f1))) ∧ (w'.heap[gb101]? = some (.cells #[.int .i64 a1_0, .int .i64 a1_1] 41 (0, 0))) ∧ (w'.heap[s_]? = some (.cells #[.int .i64 0, .int .i64 0] 41 (0, 0))) ∧ (w.heap.size ≤ s_) ∧ (w.heap.size ≤ s_) ∧ (gb101 ≠ s_) ∧ (s_ ≠ gb101) ∧ (Below w.heap.size w w')) ?_ ?_
       rotate_left
       ·intro hJ6_7
        refine join_ (σ := Nat) 3 #[T,T,T,T,T,T,T,N,T,N,N] (fun s_ => [(22, .agg #[.int .i64 t103, .int .i64 t104]), (8, .pointer (some ⟨s_, 0, none⟩))]) (fun s_ w' => (w'.cell? (ad102.add ((x6_1).toNat * 2)) = some (.int .i64 ((rd_T41 l0 x6_1).f0)) ∧ w'.cell? ⟨(ad102.add ((x6_1).toNat * 2)).block, (ad102.add ((x6_1).toNat * 2)).off + 1, none⟩ = some (.int .i64 ((rd_T41 l0 x6_1).f1))) ∧ (w'.heap[gb101]? = some (.cells #[.int .i64 a1_0, .int .i64 a1_1] 41 (0, 0))) ∧ (w'.heap[s_]? = some (.cells #[.int .i64 0, .int .i64 0] 41 (0, 0))) ∧ (w.heap.size ≤ s_) ∧ (w.heap.size ≤ s_) ∧ (gb101 ≠ s_) ∧ (s_ ≠ gb101) ∧ (Below w.heap.size w w')) ?_ ?_
        rotate_left
        ·intro hJ6_8
         refine join_ (σ := Nat × Nat) 3 #[T,T,T,T,T,T,N,T,T,N,N] (fun s_ => [(7, .pointer (some ⟨s_.1, 0, none⟩)), (8, .pointer (some ⟨s_.2, 0, none⟩))]) (fun s_ w' => (w'.cell? (ad102.add ((x6_1).toNat * 2)) = some (.int .i64 ((rd_T41 l0 x6_1).f0)) ∧ w'.cell? ⟨(ad102.add ((x6_1).toNat * 2)).block, (ad102.add ((x6_1).toNat * 2)).off + 1, none⟩ = some (.int .i64 ((rd_T41 l0 x6_1).f1))) ∧ (w'.heap[gb101]? = some (.cells #[.int .i64 a1_0, .int .i64 a1_1] 41 (0, 0))) ∧ (w'.heap[s_.1]? = some (.cells #[.int .i64 0, .int .i64 0] 41 (0, 0))) ∧ (w'.heap[s_.2]? = some (.cells #[.int .i64 0, .int .i64 0] 41 (0, 0))) ∧ (w.heap.size ≤ s_.1) ∧ (w.heap.size ≤ s_.1) ∧ (gb101 ≠ s_.1) ∧ (s_.1 ≠ gb101) ∧ (s_.2 ≠ s_.1) ∧ (s_.1 ≠ s_.2) ∧ (w.heap.size ≤ s_.2) ∧ (w.heap.size ≤ s_.2) ∧ (gb101 ≠ s_.2) ∧ (s_.2 ≠ gb101) ∧ (Below w.heap.size w w')) ?_ ?_
         rotate_left
         ·intro hJ7_8
          refine join_ (σ := Unit) 4 #[T,T,T,T,T,T,T,N,N,N,N] (fun s_ => [(22, .agg #[.int .i64 t103, .int .i64 t104])]) (fun s_ w' => (w'.cell? (ad102.add ((x6_1).toNat * 2)) = some (.int .i64 ((rd_T41 l0 x6_1).f0)) ∧ w'.cell? ⟨(ad102.add ((x6_1).toNat * 2)).block, (ad102.add ((x6_1).toNat * 2)).off + 1, none⟩ = some (.int .i64 ((rd_T41 l0 x6_1).f1))) ∧ (w'.heap[gb101]? = some (.cells #[.int .i64 a1_0, .int .i64 a1_1] 41 (0, 0))) ∧ (Below w.heap.size w w')) ?_ ?_
          rotate_left
          ·intro hJ6
           refine join_ (σ := Nat) 4 #[T,T,T,T,T,T,N,T,N,N,N] (fun s_ => [(7, .pointer (some ⟨s_, 0, none⟩))]) (fun s_ w' => (w'.cell? (ad102.add ((x6_1).toNat * 2)) = some (.int .i64 ((rd_T41 l0 x6_1).f0)) ∧ w'.cell? ⟨(ad102.add ((x6_1).toNat * 2)).block, (ad102.add ((x6_1).toNat * 2)).off + 1, none⟩ = some (.int .i64 ((rd_T41 l0 x6_1).f1))) ∧ (w'.heap[gb101]? = some (.cells #[.int .i64 a1_0, .int .i64 a1_1] 41 (0, 0))) ∧ (w'.heap[s_]? = some (.cells #[.int .i64 0, .int .i64 0] 41 (0, 0))) ∧ (w.heap.size ≤ s_) ∧ (w.heap.size ≤ s_) ∧ (gb101 ≠ s_) ∧ (s_ ≠ gb101) ∧ (Below w.heap.size w w')) ?_ ?_
           rotate_left
           ·intro hJ7
            refine join_ (σ := Nat) 4 #[T,T,T,T,T,T,N,N,T,N,N] (fun s_ => [(8, .pointer (some ⟨s_, 0, none⟩))]) (fun s_ w' => (w'.cell? (ad102.add ((x6_1).toNat * 2)) = some (.int .i64 ((rd_T41 l0 x6_1).f0)) ∧ w'.cell? ⟨(ad102.add ((x6_1).toNat * 2)).block, (ad102.add ((x6_1).toNat * 2)).off + 1, none⟩ = some (.int .i64 ((rd_T41 l0 x6_1).f1))) ∧ (w'.heap[gb101]? = some (.cells #[.int .i64 a1_0, .int .i64 a1_1] 41 (0, 0))) ∧ (w'.heap[s_]? = some (.cells #[.int .i64 0, .int .i64 0] 41 (0, 0))) ∧ (w.heap.size ≤ s_) ∧ (w.heap.size ≤ s_) ∧ (gb101 ≠ s_) ∧ (s_ ≠ gb101) ∧ (Below w.heap.size w w')) ?_ ?_
            rotate_left
            ·intro hJ8
             refine three_ (i := 6) (j := 7) (k := 8) (Ni := some 22) (Nj := some 7) (Nk := some 8) #[T,T,T,T,T,T,T,N,N,N,N] #[T,T,T,T,T,T,N,T,N,N,N] #[T,T,T,T,T,T,N,N,T,N,N] rfl rfl rfl rfl rfl rfl (on3 HT_) (by decide) (by decide) (by decide) (fun K hK => ?_) (fun K hK => ?_) (fun K hK => ?_)
             ·skip
              refine goes_ Try.func58 (by kernel_rfl) rfl #[.slice (some ad102) l0.length c0, .int .i64 x6_1] (by rfl) rfl rfl sg ?_
              with_reducible refine (cracknelref04_next.calls _ _ l0 x6_1 t103 t104 _ ?side1 ?side2 A6.out).mono ?_
              (case side1 => exact cs (Kd.C_below HR0.out HB.out))
              (case side2 => exact HC0.out)
              rintro e w53 ⟨rfl, hb⟩
              refine ⟨_, rfl, ?_⟩
              replace BK101 := kb BK101 hb
              replace HB := bz hb
              (try clear hb)
              refine hK.out _ _ ⟨(hc HB hw102_0), (hc HB hw102_1)⟩ (fun hHeld => ?_)
              clear hK K
              refine nm 22 ?_
              exact norm_ pa (hJ6 () _ ⟨hHeld, bk BK101, bh⟩)
             ·skip
              refine bxs 7 #[.int .i64 0, .int .i64 0] 41 ?_
              intro gb105 hg w53 hbox hb
              have BK105 := Aside0.mk (hbox)
              have GW105 := ga w hg
              have GE105 := GW105
              have NB101_105 := nb hg (kl BK101)
              have NB105_101 := bn NB101_105
              replace BK101 := kb BK101 hb
              replace HB := bz hb
              clear hb hbox hg
              refine hK.out _ _ ⟨(hc HB hw102_0), (hc HB hw102_1)⟩ (fun hHeld => ?_)
              clear hK K
              refine nm 7 ?_
              exact norm_ pa (hJ7 (gb105) _ ⟨hHeld, bk BK101, bk BK105, GW105.out, GE105.out, NB101_105.out, NB105_101.out, bh⟩)
             ·skip
              refine bxs 8 #[.int .i64 0, .int .i64 0] 41 ?_
              intro gb106 hg w53 hbox hb
              have BK106 := Aside0.mk (hbox)
              have GW106 := ga w hg
              have GE106 := GW106
              have NB101_106 := nb hg (kl BK101)
              have NB106_101 := bn NB101_106
              replace BK101 := kb BK101 hb
              replace HB := bz hb
              clear hb hbox hg
              refine hK.out _ _ ⟨(hc HB hw102_0), (hc HB hw102_1)⟩ (fun hHeld => ?_)
              clear hK K
              refine nm 8 ?_
              exact norm_ pa (hJ8 (gb106) _ ⟨hHeld, bk BK101, bk BK106, GW106.out, GE106.out, NB101_106.out, NB106_101.out, bh⟩)
            ·skip
             rintro gb106 w54 ⟨hS_, h0_, h1_, h2_, h3_, h4_, h5_, h6_⟩
             have BK106 := Aside0.mk h1_
             have GW106 := Aside0.mk h2_
             have GE106 := Aside0.mk h3_
             have NB101_106 := Aside0.mk h4_
             have NB106_101 := Aside0.mk h5_
             replace BK101 := Aside0.mk h0_
             replace HB := Aside0.mk h6_
             clear h0_ h1_ h2_ h3_ h4_ h5_ h6_
             have hHeld := hS_
             refine nn ?_
             refine two_ (i := 6) (j := 7) (Ni := some 22) (Nj := some 7) #[T,T,T,T,T,T,T,N,T,N,N] #[T,T,T,T,T,T,N,T,T,N,N] rfl rfl rfl rfl (on2 HT_) (by decide) (by decide) (fun K hK => ?_) (fun K hK => ?_)
             ·skip
              refine goes_ Try.func58 (by kernel_rfl) rfl #[.slice (some ad102) l0.length c0, .int .i64 x6_1] (by rfl) rfl rfl sg ?_
              with_reducible refine (cracknelref04_next.calls _ _ l0 x6_1 t103 t104 _ ?side1 ?side2 A6.out).mono ?_
              (case side1 => exact cs (Kd.C_below HR0.out HB.out))
              (case side2 => exact HC0.out)
              rintro e w55 ⟨rfl, hb⟩
              refine ⟨_, rfl, ?_⟩
              replace BK101 := kb BK101 hb
              replace BK106 := kb BK106 hb
              replace HB := bz hb
              (try clear hb)
              refine hK.out _ _ ⟨(hc HB hw102_0), (hc HB hw102_1)⟩ (fun hHeld => ?_)
              clear hK K
              refine nm 22 ?_
              exact norm_ pa (hJ6_8 (gb106) _ ⟨hHeld, bk BK101, bk BK106, GW106.out, GE106.out, NB101_106.out, NB106_101.out, bh⟩)
             ·skip
              refine bxs 7 #[.int .i64 0, .int .i64 0] 41 ?_
              intro gb105 hg w55 hbox hb
              have BK105 := Aside0.mk (hbox)
              have GW105 := ga w hg
              have GE105 := GW105
              have NB101_105 := nb hg (kl BK101)
              have NB105_101 := bn NB101_105
              have NB106_105 := nb hg (kl BK106)
              have NB105_106 := bn NB106_105
              replace BK101 := kb BK101 hb
              replace BK106 := kb BK106 hb
              replace HB := bz hb
              clear hb hbox hg
              refine hK.out _ _ ⟨(hc HB hw102_0), (hc HB hw102_1)⟩ (fun hHeld => ?_)
              clear hK K
              refine nm 7 ?_
              exact norm_ pa (hJ7_8 (gb105, gb106) _ ⟨hHeld, bk BK101, bk BK105, bk BK106, GW105.out, GE105.out, NB101_105.out, NB105_101.out, NB106_105.out, NB105_106.out, GW106.out, GE106.out, NB101_106.out, NB106_101.out, bh⟩)
           ·skip
            rintro gb105 w54 ⟨hS_, h0_, h1_, h2_, h3_, h4_, h5_, h6_⟩
            have BK105 := Aside0.mk h1_
            have GW105 := Aside0.mk h2_
            have GE105 := Aside0.mk h3_
            have NB101_105 := Aside0.mk h4_
            have NB105_101 := Aside0.mk h5_
            replace BK101 := Aside0.mk h0_
            replace HB := Aside0.mk h6_
            clear h0_ h1_ h2_ h3_ h4_ h5_ h6_
            have hHeld := hS_
            refine nn ?_
            refine two_ (i := 6) (j := 8) (Ni := some 22) (Nj := some 8) #[T,T,T,T,T,T,T,T,N,N,N] #[T,T,T,T,T,T,N,T,T,N,N] rfl rfl rfl rfl (on2 HT_) (by decide) (by decide) (fun K hK => ?_) (fun K hK => ?_)
            ·skip
             refine goes_ Try.func58 (by kernel_rfl) rfl #[.slice (some ad102) l0.length c0, .int .i64 x6_1] (by rfl) rfl rfl sg ?_
             with_reducible refine (cracknelref04_next.calls _ _ l0 x6_1 t103 t104 _ ?side1 ?side2 A6.out).mono ?_
             (case side1 => exact cs (Kd.C_below HR0.out HB.out))
             (case side2 => exact HC0.out)
             rintro e w55 ⟨rfl, hb⟩
             refine ⟨_, rfl, ?_⟩
             replace BK101 := kb BK101 hb
             replace BK105 := kb BK105 hb
             replace HB := bz hb
             (try clear hb)
             refine hK.out _ _ ⟨(hc HB hw102_0), (hc HB hw102_1)⟩ (fun hHeld => ?_)
             clear hK K
             refine nm 22 ?_
             exact norm_ pa (hJ6_7 (gb105) _ ⟨hHeld, bk BK101, bk BK105, GW105.out, GE105.out, NB101_105.out, NB105_101.out, bh⟩)
            ·skip
             refine bxs 8 #[.int .i64 0, .int .i64 0] 41 ?_
             intro gb106 hg w55 hbox hb
             have BK106 := Aside0.mk (hbox)
             have GW106 := ga w hg
             have GE106 := GW106
             have NB101_106 := nb hg (kl BK101)
             have NB106_101 := bn NB101_106
             have NB105_106 := nb hg (kl BK105)
             have NB106_105 := bn NB105_106
             replace BK101 := kb BK101 hb
             replace BK105 := kb BK105 hb
             replace HB := bz hb
             clear hb hbox hg
             refine hK.out _ _ ⟨(hc HB hw102_0), (hc HB hw102_1)⟩ (fun hHeld => ?_)
             clear hK K
             refine nm 8 ?_
             exact norm_ pa (hJ7_8 (gb105, gb106) _ ⟨hHeld, bk BK101, bk BK105, bk BK106, GW105.out, GE105.out, NB101_105.out, NB105_101.out, NB106_105.out, NB105_106.out, GW106.out, GE106.out, NB101_106.out, NB106_101.out, bh⟩)
          ·skip
           rintro _ w54 ⟨hS_, h0_, h1_⟩
           replace BK101 := Aside0.mk h0_
           replace HB := Aside0.mk h1_
           clear h0_ h1_
           have hHeld := hS_
           refine nn ?_
           refine two_ (i := 7) (j := 8) (Ni := some 7) (Nj := some 8) #[T,T,T,T,T,T,T,T,N,N,N] #[T,T,T,T,T,T,T,N,T,N,N] rfl rfl rfl rfl (on2 HT_) (by decide) (by decide) (fun K hK => ?_) (fun K hK => ?_)
           ·skip
            refine bxs 7 #[.int .i64 0, .int .i64 0] 41 ?_
            intro gb105 hg w55 hbox hb
            have BK105 := Aside0.mk (hbox)
            have GW105 := ga w hg
            have GE105 := GW105
            have NB101_105 := nb hg (kl BK101)
            have NB105_101 := bn NB101_105
            replace BK101 := kb BK101 hb
            replace HB := bz hb
            clear hb hbox hg
            refine hK.out _ _ ⟨(hc HB hw102_0), (hc HB hw102_1)⟩ (fun hHeld => ?_)
            clear hK K
            refine nm 7 ?_
            exact norm_ pa (hJ6_7 (gb105) _ ⟨hHeld, bk BK101, bk BK105, GW105.out, GE105.out, NB101_105.out, NB105_101.out, bh⟩)
           ·skip
            refine bxs 8 #[.int .i64 0, .int .i64 0] 41 ?_
            intro gb106 hg w55 hbox hb
            have BK106 := Aside0.mk (hbox)
            have GW106 := ga w hg
            have GE106 := GW106
            have NB101_106 := nb hg (kl BK101)
            have NB106_101 := bn NB101_106
            replace BK101 := kb BK101 hb
            replace HB := bz hb
            clear hb hbox hg
            refine hK.out _ _ ⟨(hc HB hw102_0), (hc HB hw102_1)⟩ (fun hHeld => ?_)
            clear hK K
            refine nm 8 ?_
            exact norm_ pa (hJ6_8 (gb106) _ ⟨hHeld, bk BK101, bk BK106, GW106.out, GE106.out, NB101_106.out, NB106_101.out, bh⟩)
         ·skip
          rintro ⟨gb105, gb106⟩ w55 ⟨hS_, h0_, h1_, h2_, h3_, h4_, h5_, h6_, h7_, h8_, h9_, h10_, h11_, h12_, h13_⟩
          have BK105 := Aside0.mk h1_
          have BK106 := Aside0.mk h2_
          have GW105 := Aside0.mk h3_
          have GE105 := Aside0.mk h4_
          have NB101_105 := Aside0.mk h5_
          have NB105_101 := Aside0.mk h6_
          have NB106_105 := Aside0.mk h7_
          have NB105_106 := Aside0.mk h8_
          have GW106 := Aside0.mk h9_
          have GE106 := Aside0.mk h10_
          have NB101_106 := Aside0.mk h11_
          have NB106_101 := Aside0.mk h12_
          replace BK101 := Aside0.mk h0_
          replace HB := Aside0.mk h13_
          clear h0_ h1_ h2_ h3_ h4_ h5_ h6_ h7_ h8_ h9_ h10_ h11_ h12_ h13_
          have hHeld := hS_
          refine nn ?_
          refine one_ (i := 6) (N := some 22) #[T,T,T,T,T,T,T,T,T,N,N] rfl rfl (on1 HT_) (by decide) (fun K hK => ?_)
          refine goes_ Try.func58 (by kernel_rfl) rfl #[.slice (some ad102) l0.length c0, .int .i64 x6_1] (by rfl) rfl rfl sg ?_
          with_reducible refine (cracknelref04_next.calls _ _ l0 x6_1 t103 t104 _ ?side1 ?side2 A6.out).mono ?_
          (case side1 => exact cs (Kd.C_below HR0.out HB.out))
          (case side2 => exact HC0.out)
          rintro e w56 ⟨rfl, hb⟩
          refine ⟨_, rfl, ?_⟩
          replace BK101 := kb BK101 hb
          replace BK105 := kb BK105 hb
          replace BK106 := kb BK106 hb
          replace HB := bz hb
          (try clear hb)
          refine hK.out _ _ ⟨(hc HB hw102_0), (hc HB hw102_1)⟩ (fun hHeld => ?_)
          clear hK K
          refine nm 22 ?_
          exact norm_ pa (hJ6_7_8 (gb105, gb106) _ ⟨hHeld, bk BK101, bk BK105, bk BK106, GW105.out, GE105.out, NB101_105.out, NB105_101.out, NB106_105.out, NB105_106.out, GW106.out, GE106.out, NB101_106.out, NB106_101.out, bh⟩)
        ·skip
         rintro gb106 w55 ⟨hS_, h0_, h1_, h2_, h3_, h4_, h5_, h6_⟩
         have BK106 := Aside0.mk h1_
         have GW106 := Aside0.mk h2_
         have GE106 := Aside0.mk h3_
         have NB101_106 := Aside0.mk h4_
         have NB106_101 := Aside0.mk h5_
         replace BK101 := Aside0.mk h0_
         replace HB := Aside0.mk h6_
         clear h0_ h1_ h2_ h3_ h4_ h5_ h6_
         have hHeld := hS_
         refine nn ?_
         refine one_ (i := 7) (N := some 7) #[T,T,T,T,T,T,T,T,T,N,N] rfl rfl (on1 HT_) (by decide) (fun K hK => ?_)
         refine bxs 7 #[.int .i64 0, .int .i64 0] 41 ?_
         intro gb105 hg w56 hbox hb
         have BK105 := Aside0.mk (hbox)
         have GW105 := ga w hg
         have GE105 := GW105
         have NB101_105 := nb hg (kl BK101)
         have NB105_101 := bn NB101_105
         have NB106_105 := nb hg (kl BK106)
         have NB105_106 := bn NB106_105
         replace BK101 := kb BK101 hb
         replace BK106 := kb BK106 hb
         replace HB := bz hb
         clear hb hbox hg
         refine hK.out _ _ ⟨(hc HB hw102_0), (hc HB hw102_1)⟩ (fun hHeld => ?_)
         clear hK K
         refine nm 7 ?_
         exact norm_ pa (hJ6_7_8 (gb105, gb106) _ ⟨hHeld, bk BK101, bk BK105, bk BK106, GW105.out, GE105.out, NB101_105.out, NB105_101.out, NB106_105.out, NB105_106.out, GW106.out, GE106.out, NB101_106.out, NB106_101.out, bh⟩)
       ·skip
        rintro gb105 w55 ⟨hS_, h0_, h1_, h2_, h3_, h4_, h5_, h6_⟩
        have BK105 := Aside0.mk h1_
        have GW105 := Aside0.mk h2_
        have GE105 := Aside0.mk h3_
        have NB101_105 := Aside0.mk h4_
        have NB105_101 := Aside0.mk h5_
        replace BK101 := Aside0.mk h0_
        replace HB := Aside0.mk h6_
        clear h0_ h1_ h2_ h3_ h4_ h5_ h6_
        have hHeld := hS_
        refine nn ?_
        refine one_ (i := 8) (N := some 8) #[T,T,T,T,T,T,T,T,T,N,N] rfl rfl (on1 HT_) (by decide) (fun K hK => ?_)
        refine bxs 8 #[.int .i64 0, .int .i64 0] 41 ?_
        intro gb106 hg w56 hbox hb
        have BK106 := Aside0.mk (hbox)
        have GW106 := ga w hg
        have GE106 := GW106
        have NB101_106 := nb hg (kl BK101)
        have NB106_101 := bn NB101_106
        have NB105_106 := nb hg (kl BK105)
        have NB106_105 := bn NB105_106
        replace BK101 := kb BK101 hb
        replace BK105 := kb BK105 hb
        replace HB := bz hb
        clear hb hbox hg
        refine hK.out _ _ ⟨(hc HB hw102_0), (hc HB hw102_1)⟩ (fun hHeld => ?_)
        clear hK K
        refine nm 8 ?_
        exact norm_ pa (hJ6_7_8 (gb105, gb106) _ ⟨hHeld, bk BK101, bk BK105, bk BK106, GW105.out, GE105.out, NB101_105.out, NB105_101.out, NB106_105.out, NB105_106.out, GW106.out, GE106.out, NB101_106.out, NB106_101.out, bh⟩)
      rintro ⟨gb105, gb106⟩ w56 ⟨hS_, h0_, h1_, h2_, h3_, h4_, h5_, h6_, h7_, h8_, h9_, h10_, h11_, h12_, h13_⟩
      have BK105 := Aside0.mk h1_
      have BK106 := Aside0.mk h2_
      have GW105 := Aside0.mk h3_
      have GE105 := Aside0.mk h4_
      have NB101_105 := Aside0.mk h5_
      have NB105_101 := Aside0.mk h6_
      have NB106_105 := Aside0.mk h7_
      have NB105_106 := Aside0.mk h8_
      have GW106 := Aside0.mk h9_
      have GE106 := Aside0.mk h10_
      have NB101_106 := Aside0.mk h11_
      have NB106_101 := Aside0.mk h12_
      replace BK101 := Aside0.mk h0_
      replace HB := Aside0.mk h13_
      clear h0_ h1_ h2_ h3_ h4_ h5_ h6_ h7_ h8_ h9_ h10_ h11_ h12_ h13_
      have hHeld := hS_
      refine nn ?_
      refine one_ (i := 9) (N := none) #[T,T,T,T,T,T,T,T,T,T,N] rfl rfl (on1 HT_) (by decide) (fun K hK => ?_)
      have hs57 : w56.cell? ⟨gb105, 0, none⟩ = some (.int .i64 0) := bc BK105 0
      have hfs57 := blk_frozen BK105.out 0
      have hns57_0 := NB101_105.out
      have hns57_2 := NB106_105.out
      have hms57_0 := NB105_101.out
      have hms57_2 := NB105_106.out
      have hs58 : w56.cell? ⟨gb105, 1, none⟩ = some (.int .i64 0) := bc BK105 1
      have hfs58 := blk_frozen BK105.out 1
      have hns58_0 := NB101_105.out
      have hns58_2 := NB106_105.out
      have hms58_0 := NB105_101.out
      have hms58_2 := NB105_106.out
      refine skip_ (w1 := ?_) (by rfl) rfl ?_ ?_
      rotate_left
      ·go_simp
       rfl
      refine hK.out _ _ ⟨((cell_far (p := ⟨gb105, _, none⟩) (fr hw102_0 GW105) _).trans (((cell_far (p := ⟨gb105, _, none⟩) (fr hw102_0 GW105) _).trans (hHeld.1)))), ((cell_far (p := ⟨gb105, _, none⟩) (fr hw102_1 GW105) _).trans (((cell_far (p := ⟨gb105, _, none⟩) (fr hw102_1 GW105) _).trans (hHeld.2))))⟩ (fun hHeld => ?_)
      clear hK K
      refine one_ (i := 10) (N := none) #[T,T,T,T,T,T,T,T,T,T,T] rfl rfl (on1 HT_) (by decide) (fun K hK => ?_)
      have hs59 : w56.cell? ⟨gb106, 0, none⟩ = some (.int .i64 0) := bc BK106 0
      have hfs59 := blk_frozen BK106.out 0
      have hns59_0 := NB101_106.out
      have hns59_1 := NB105_106.out
      have hms59_0 := NB106_101.out
      have hms59_1 := NB106_105.out
      have hs60 : w56.cell? ⟨gb106, 1, none⟩ = some (.int .i64 0) := bc BK106 1
      have hfs60 := blk_frozen BK106.out 1
      have hns60_0 := NB101_106.out
      have hns60_1 := NB105_106.out
      have hms60_0 := NB106_101.out
      have hms60_1 := NB106_105.out
      refine skip_ (w1 := ?_) (by rfl) rfl ?_ ?_
      rotate_left
      ·go_simp
       rfl
      refine hK.out _ _ ⟨((cell_far (p := ⟨gb106, _, none⟩) (fr hw102_0 GW106) _).trans (((cell_far (p := ⟨gb106, _, none⟩) (fr hw102_0 GW106) _).trans (hHeld.1)))), ((cell_far (p := ⟨gb106, _, none⟩) (fr hw102_1 GW106) _).trans (((cell_far (p := ⟨gb106, _, none⟩) (fr hw102_1 GW106) _).trans (hHeld.2))))⟩ (fun hHeld => ?_)
      clear hK K
      refine done_ (done_of HT_.out (by kernel_rfl)) ?_
      have hnb61 := NB105_101.out
      have hnc61 := NB101_105.out
      have hnb62 := NB105_106.out
      have hnc62 := NB106_105.out
      obtain ⟨hcz63_0, hcz63_1, hfz63_0, hfz63_1⟩ := b2 BK105
      have hnb64 := NB106_101.out
      have hnc64 := NB101_106.out
      obtain ⟨hcz65_0, hcz65_1, hfz65_0, hfz65_1⟩ := b2 BK106
      obtain ⟨hcz66_0, hcz66_1, hfz66_0, hfz66_1⟩ := b2 BK101
      try go_wp2_with (first | ((with_reducible refine gc 59 rfl ?_); refine goesL_ (some 26) rfl rfl Try.func59 (by kernel_rfl) rfl #[.agg #[.int .i64 ((rd_T41 l0 x6_1).f0), .int .i64 ((rd_T41 l0 x6_1).f1)], .agg #[.int .i64 t103, .int .i64 t104], .agg #[.int .i64 a1_0, .int .i64 a1_1]] rfl sg ?_; (with_reducible refine (cracknelref04_On.calls ((rd_T41 l0 x6_1).f0) ((rd_T41 l0 x6_1).f1) t103 t104 a1_0 a1_1 false _ A7.out).mono ?_); rintro e w67 ⟨rfl, hb⟩; refine ⟨_, rfl, ?_⟩; replace BK101 := Aside0.mk (blk_below (g := gb101) (o := .cells #[.int .i64 a1_0, .int .i64 a1_1] 41 (0, 0)) (by refine bf NB101_106 ?_; refine bf NB101_106 ?_; refine bf NB101_105 ?_; refine bf NB101_105 ?_; refine bd ?_; exact BK101.out) hb); replace BK105 := Aside0.mk (blk_below (g := gb105) (o := .cells #[.int .i64 ((rd_T41 l0 x6_1).f0), .int .i64 ((rd_T41 l0 x6_1).f1)] 41 (0, 0)) (by refine bf NB105_106 ?_; refine bf NB105_106 ?_; refine bd ?_; refine blk_put (cs := #[.int .i64 ((rd_T41 l0 x6_1).f0), .int .i64 0]) ?_ 1 _ rfl; refine bd ?_; refine blk_put (cs := #[.int .i64 0, .int .i64 0]) ?_ 0 _ rfl; refine bd ?_; exact BK105.out) hb); replace BK106 := Aside0.mk (blk_below (g := gb106) (o := .cells #[.int .i64 t103, .int .i64 t104] 41 (0, 0)) (by refine bd ?_; refine blk_put (cs := #[.int .i64 t103, .int .i64 0]) ?_ 1 _ rfl; refine bd ?_; refine blk_put (cs := #[.int .i64 0, .int .i64 0]) ?_ 0 _ rfl; refine bf NB106_105 ?_; refine bf NB106_105 ?_; refine bd ?_; exact BK106.out) hb); replace HB := bz hb; (try clear hb); obtain ⟨hcz68_0, hcz68_1, hfz68_0, hfz68_1⟩ := b2 BK105; obtain ⟨hcz69_0, hcz69_1, hfz69_0, hfz69_1⟩ := b2 BK101; obtain ⟨hcz70_0, hcz70_1, hfz70_0, hfz70_1⟩ := b2 BK106))
      go_roundg k1
      case measure => have := HK1.out; omega
      case rel => exact ⟨(x5_1), (wrap64 (x6_1 + 1)), sd, sd, H', ⟨by have := HK1.out; omega⟩, ⟨bk BK101⟩, ⟨bh⟩⟩
   ·rw [if_neg c4] at H
    have c4b0 := decide_eq_false c4
    clear c4
    by_cases c71 : x5_1 = true
    ·subst c71
     rw [if_pos rfl] at H
     obtain rfl := Option.some.inj H
     go_wp2
     go_ret
     exact ⟨by exact er, bh⟩
    ·replace c71 := Bool.eq_false_iff.mpr c71
     subst c71
     rw [if_neg (show ¬ (false = true) by decide)] at H
     obtain rfl := Option.some.inj H
     go_wp2
     go_ret
     exact ⟨by exact er, bh⟩
/-! ### cracknelref04_Lattice: function 25 -/
mutual
def cracknelref04_Lattice.l0 : Nat → List (S41) → Int → Int → Int → Int → Int → Int → Int → Option (Int × Int)
 | 0, _, _, _, _, _, _, _, _ => none
 | k + 1, x0, x6, x7, x8, x106000, x106001, x107000, x107001 => if x8 ≤ x107001 then (cracknelref04_Lattice.l1 k x0 x6 x7 x8 x106000 x106000 x106001 x107000 x107001) else (some (x6, x7))
def cracknelref04_Lattice.l1 : Nat → List (S41) → Int → Int → Int → Int → Int → Int → Int → Int → Option (Int × Int)
 | 0, _, _, _, _, _, _, _, _, _ => none
 | k + 1, x0, x6, x7, x8, x9, x106000, x106001, x107000, x107001 => if x9 ≤ x107000 then ((cracknelref04_Where.f k x0 x9 x8).bind fun t107 => (if t107 = 1 then (cracknelref04_Lattice.l1 k x0 (wrap64 (x6 + 1)) x7 x8 (wrap64 (x9 + 1)) x106000 x106001 x107000 x107001) else (if t107 = 0 then (cracknelref04_Lattice.l1 k x0 x6 (wrap64 (x7 + 1)) x8 (wrap64 (x9 + 1)) x106000 x106001 x107000 x107001) else (cracknelref04_Lattice.l1 k x0 x6 x7 x8 (wrap64 (x9 + 1)) x106000 x106001 x107000 x107001)))) else (cracknelref04_Lattice.l0 k x0 x6 x7 (wrap64 (x8 + 1)) x106000 x106001 x107000 x107001)
end
def cracknelref04_Lattice.f (k : Nat) (l0 : List (S41)) : Option (Int × Int) := (cracknelref04_box.f k l0).bind fun bt101 => (cracknelref04_Lattice.l0 k l0 0 0 bt101.2.1 bt101.1 bt101.2.1 bt101.2.2.1 bt101.2.2.2)
set_option maxHeartbeats 8000000 in
set_option maxRecDepth 100000 in
theorem cracknelref04_Lattice.calls (k : Nat) (A0 : Option Addr) (c0 : Nat) (l0 : List (S41)) (r1 : Int) (r2 : Int) (w : World) (hr0 : Kd.C k41 w A0 l0.length l0) (hc0 : l0.length ≤ c0) (h : cracknelref04_Lattice.f k l0 = some (r1, r2)) :
  Calls Try.prog 25 #[.slice A0 l0.length c0] w fun e w' => e = .returned (.tuple #[.int .i64 r1, .int .i64 r2]) ∧ Below w.heap.size w w' := by
 have hu41 := Try.underlying41
 have HR0 := Aside0.mk hr0
 have HC0 := Aside0.mk hc0
 clear hr0 hc0
 have HB := Aside0.mk (Below.refl w.heap.size w)
 have H : ((cracknelref04_box.f k l0).bind fun bt101 => (cracknelref04_Lattice.l0 k l0 0 0 bt101.2.1 bt101.1 bt101.2.1 bt101.2.2.1 bt101.2.2.2)) = some (r1, r2) := h
 clear h
 replace H := Option.bind_eq_some_iff.mp H
 obtain ⟨⟨t101, t102, t103, t104⟩, A20, H⟩ := H
 replace H : (cracknelref04_Lattice.l0 k l0 0 0 t102 t101 t102 t103 t104) = some (r1, r2) := H
 have A2 := Aside0.mk A20
 clear A20
 have H' := Aside0.mk H
 clear H
 go_enter Try.func25, Try.ntmps25
 go_wp2_with (first | ((with_reducible refine gc 49 rfl ?_); refine goesL_ (some 12) rfl rfl Try.func49 (by kernel_rfl) rfl #[.slice A0 l0.length c0] rfl sg ?_; (with_reducible refine (cracknelref04_box.calls k _ _ l0 t101 t102 t103 t104 _ ?side1 ?side2 A2.out).mono ?_); (case side1 => exact cs HR0.out); (case side2 => exact HC0.out); rintro e w3 ⟨rfl, hb⟩; refine ⟨_, rfl, ?_⟩; replace HB := bz hb; (try clear hb)) | ((with_reducible refine gate_dst (N := 4) rfl ?_); refine bxe 4 #[.int .i64 0, .int .i64 0] 41 ?_; intro gb105 hg w4 hbox hb; have BK105 := Aside0.mk (hbox); have GW105 := ga w hg; have GE105 := GW105; replace HB := bz hb; clear hb hbox hg) | ((with_reducible refine gate_dst (N := 5) rfl ?_); refine bxe 5 #[.int .i64 0, .int .i64 0] 41 ?_; intro gb106 hg w5 hbox hb; have BK106 := Aside0.mk (hbox); have GW106 := ga w hg; have GE106 := GW106; have NB105_106 := nb hg (kl BK105); have NB106_105 := bn NB105_106; replace BK105 := kb BK105 hb; replace HB := bz hb; clear hb hbox hg; have hnb6 := NB105_106.out; have hnc6 := NB106_105.out; obtain ⟨hcz7_0, hcz7_1, hfz7_0, hfz7_1⟩ := b2 BK105; obtain ⟨hcz8_0, hcz8_1, hfz8_0, hfz8_1⟩ := b2 BK106))
 go_loopg [6, 7, 8] k (fun kq v6 v7 v8 w' => ∃ (x6_1 : Int) (x7_1 : Int) (x8_1 : Int), v6 = .int .i64 x6_1 ∧ v7 = .int .i64 x7_1 ∧ v8 = .int .i64 x8_1 ∧ Aside0 (cracknelref04_Lattice.l0 kq l0 x6_1 x7_1 x8_1 t101 t102 t103 t104 = some (r1, r2)) ∧ Aside0 (kq ≤ k) ∧ Aside0 (w'.heap[gb105]? = some (.cells #[.int .i64 t101, .int .i64 t102] 41 (0, 0))) ∧ Aside0 (w'.heap[gb106]? = some (.cells #[.int .i64 t103, .int .i64 t104] 41 (0, 0))) ∧ Aside0 (Below w.heap.size w w'))
 case atStart => exact ⟨(0), (0), (t102), sd, sd, sd, H', ⟨Nat.le_refl _⟩, ⟨by refine bf NB105_106 ?_; refine bf NB105_106 ?_; refine bd ?_; refine blk_put (cs := #[.int .i64 t101, .int .i64 0]) ?_ 1 _ rfl; refine bd ?_; refine blk_put (cs := #[.int .i64 0, .int .i64 0]) ?_ 0 _ rfl; refine bd ?_; exact BK105.out⟩, ⟨by refine bd ?_; refine blk_put (cs := #[.int .i64 t103, .int .i64 0]) ?_ 1 _ rfl; refine bd ?_; refine blk_put (cs := #[.int .i64 0, .int .i64 0]) ?_ 0 _ rfl; refine bf NB106_105 ?_; refine bf NB106_105 ?_; refine bd ?_; exact BK106.out⟩, ⟨bh⟩⟩
 case round =>
  clear H'
  (try clear hcz7_0); (try clear hcz7_1); (try clear hcz8_0); (try clear hcz8_1); (try clear hfz7_0); (try clear hfz7_1); (try clear hfz8_0); (try clear hfz8_1)
  obtain ⟨x6_1, x7_1, x8_1, rfl, rfl, rfl, HA, HK1, BK105, BK106, HB⟩ := hrel
  cases gk with
  | zero => exact absurd HA.out (by simp [cracknelref04_Lattice.l0])
  | succ k1 =>
   have H := HA.out
   clear HA
   simp only [cracknelref04_Lattice.l0] at H
   by_cases c9 : x8_1 ≤ t104
   ·rw [if_pos c9] at H
    have c9b0 := decide_eq_true c9
    clear c9
    have H' := Aside0.mk H
    clear H
    have hnb10 := NB106_105.out
    have hnc10 := NB105_106.out
    obtain ⟨hcz11_0, hcz11_1, hfz11_0, hfz11_1⟩ := b2 BK106
    obtain ⟨hcz12_0, hcz12_1, hfz12_0, hfz12_1⟩ := b2 BK105
    go_wp2
    go_loopg [6, 7, 9] k1 (fun kq v6 v7 v9 w' => ∃ (x6_2 : Int) (x7_2 : Int) (x9_2 : Int), v6 = .int .i64 x6_2 ∧ v7 = .int .i64 x7_2 ∧ v9 = .int .i64 x9_2 ∧ Aside0 (cracknelref04_Lattice.l1 kq l0 x6_2 x7_2 x8_1 x9_2 t101 t102 t103 t104 = some (r1, r2)) ∧ Aside0 (kq ≤ k1) ∧ Aside0 (w'.heap[gb105]? = some (.cells #[.int .i64 t101, .int .i64 t102] 41 (0, 0))) ∧ Aside0 (w'.heap[gb106]? = some (.cells #[.int .i64 t103, .int .i64 t104] 41 (0, 0))) ∧ Aside0 (Below w.heap.size w w'))
    case atStart => exact ⟨(x6_1), (x7_1), (t101), sd, sd, sd, H', ⟨Nat.le_refl _⟩, ⟨bk BK105⟩, ⟨bk BK106⟩, ⟨bh⟩⟩
    case round =>
     clear H'
     (try clear c9b0); (try clear hcz11_0); (try clear hcz11_1); (try clear hcz12_0); (try clear hcz12_1); (try clear hfz11_0); (try clear hfz11_1); (try clear hfz12_0); (try clear hfz12_1)
     obtain ⟨x6_2, x7_2, x9_2, rfl, rfl, rfl, HA, HK2, BK105, BK106, HB⟩ := hrel
     cases gk with
     | zero => exact absurd HA.out (by simp [cracknelref04_Lattice.l1])
     | succ k2 =>
      have H := HA.out
      clear HA
      simp only [cracknelref04_Lattice.l1] at H
      by_cases c13 : x9_2 ≤ t103
      ·rw [if_pos c13] at H
       have c13b0 := decide_eq_true c13
       clear c13
       replace H := Option.bind_eq_some_iff.mp H
       obtain ⟨t107, A140, H⟩ := H
       replace H : (if t107 = 1 then (cracknelref04_Lattice.l1 k2 l0 (wrap64 (x6_2 + 1)) x7_2 x8_1 (wrap64 (x9_2 + 1)) t101 t102 t103 t104) else (if t107 = 0 then (cracknelref04_Lattice.l1 k2 l0 x6_2 (wrap64 (x7_2 + 1)) x8_1 (wrap64 (x9_2 + 1)) t101 t102 t103 t104) else (cracknelref04_Lattice.l1 k2 l0 x6_2 x7_2 x8_1 (wrap64 (x9_2 + 1)) t101 t102 t103 t104))) = some (r1, r2) := H
       have A14 := Aside0.mk A140
       clear A140
       by_cases c15 : t107 = 1
       ·rw [if_pos c15] at H
        have c15b0 : (t107 == 1) = true := beq_iff_eq.mpr c15
        have c15b1 : (t107 != 1) = false := bne_eq_false_iff_eq.mpr c15
        clear c15
        have H' := Aside0.mk H
        clear H
        have hnb16 := NB106_105.out
        have hnc16 := NB105_106.out
        obtain ⟨hcz17_0, hcz17_1, hfz17_0, hfz17_1⟩ := b2 BK106
        go_wp2_with (first | ((with_reducible refine gc 56 rfl ?_); refine goesL_ (some 35) rfl rfl Try.func56 (by kernel_rfl) rfl #[.slice A0 l0.length c0, .agg #[.int .i64 x9_2, .int .i64 x8_1]] rfl sg ?_; (with_reducible refine (cracknelref04_Where.calls k2 _ _ l0 x9_2 x8_1 t107 _ ?side1 ?side2 A14.out).mono ?_); (case side1 => exact cs (Kd.C_below HR0.out HB.out)); (case side2 => exact HC0.out); rintro e w18 ⟨rfl, hb⟩; refine ⟨_, rfl, ?_⟩; replace BK105 := kb BK105 hb; replace BK106 := kb BK106 hb; replace HB := bz hb; (try clear hb)))
        go_roundg k2
        case measure => have := HK1.out; have := HK2.out; omega
        case rel => exact ⟨(wrap64 (x6_2 + 1)), (x7_2), (wrap64 (x9_2 + 1)), sd, sd, sd, H', ⟨by have := HK1.out; have := HK2.out; omega⟩, ⟨bk BK105⟩, ⟨bk BK106⟩, ⟨bh⟩⟩
       ·rw [if_neg c15] at H
        have c15b0 : (t107 == 1) = false := beq_eq_false_iff_ne.mpr c15
        have c15b1 : (t107 != 1) = true := bne_iff_ne.mpr c15
        by_cases c19 : t107 = 0
        ·rw [if_pos c19] at H
         have c19b0 : (t107 == 0) = true := beq_iff_eq.mpr c19
         have c19b1 : (t107 != 0) = false := bne_eq_false_iff_eq.mpr c19
         clear c19
         have H' := Aside0.mk H
         clear H
         have hnb20 := NB106_105.out
         have hnc20 := NB105_106.out
         obtain ⟨hcz21_0, hcz21_1, hfz21_0, hfz21_1⟩ := b2 BK106
         go_wp2_with (first | ((with_reducible refine gc 56 rfl ?_); refine goesL_ (some 35) rfl rfl Try.func56 (by kernel_rfl) rfl #[.slice A0 l0.length c0, .agg #[.int .i64 x9_2, .int .i64 x8_1]] rfl sg ?_; (with_reducible refine (cracknelref04_Where.calls k2 _ _ l0 x9_2 x8_1 t107 _ ?side1 ?side2 A14.out).mono ?_); (case side1 => exact cs (Kd.C_below HR0.out HB.out)); (case side2 => exact HC0.out); rintro e w22 ⟨rfl, hb⟩; refine ⟨_, rfl, ?_⟩; replace BK105 := kb BK105 hb; replace BK106 := kb BK106 hb; replace HB := bz hb; (try clear hb)))
         go_roundg k2
         case measure => have := HK1.out; have := HK2.out; omega
         case rel => exact ⟨(x6_2), (wrap64 (x7_2 + 1)), (wrap64 (x9_2 + 1)), sd, sd, sd, H', ⟨by have := HK1.out; have := HK2.out; omega⟩, ⟨bk BK105⟩, ⟨bk BK106⟩, ⟨bh⟩⟩
        ·rw [if_neg c19] at H
         have c19b0 : (t107 == 0) = false := beq_eq_false_iff_ne.mpr c19
         have c19b1 : (t107 != 0) = true := bne_iff_ne.mpr c19
         have H' := Aside0.mk H
         clear H
         have hnb23 := NB106_105.out
         have hnc23 := NB105_106.out
         obtain ⟨hcz24_0, hcz24_1, hfz24_0, hfz24_1⟩ := b2 BK106
         go_wp2_with (first | ((with_reducible refine gc 56 rfl ?_); refine goesL_ (some 35) rfl rfl Try.func56 (by kernel_rfl) rfl #[.slice A0 l0.length c0, .agg #[.int .i64 x9_2, .int .i64 x8_1]] rfl sg ?_; (with_reducible refine (cracknelref04_Where.calls k2 _ _ l0 x9_2 x8_1 t107 _ ?side1 ?side2 A14.out).mono ?_); (case side1 => exact cs (Kd.C_below HR0.out HB.out)); (case side2 => exact HC0.out); rintro e w25 ⟨rfl, hb⟩; refine ⟨_, rfl, ?_⟩; replace BK105 := kb BK105 hb; replace BK106 := kb BK106 hb; replace HB := bz hb; (try clear hb)))
         go_roundg k2
         case measure => have := HK1.out; have := HK2.out; omega
         case rel => exact ⟨(x6_2), (x7_2), (wrap64 (x9_2 + 1)), sd, sd, sd, H', ⟨by have := HK1.out; have := HK2.out; omega⟩, ⟨bk BK105⟩, ⟨bk BK106⟩, ⟨bh⟩⟩
      ·rw [if_neg c13] at H
       have c13b0 := decide_eq_false c13
       clear c13
       have H' := Aside0.mk H
       clear H
       have hnb26 := NB106_105.out
       have hnc26 := NB105_106.out
       obtain ⟨hcz27_0, hcz27_1, hfz27_0, hfz27_1⟩ := b2 BK106
       go_wp2
       go_roundg k2
       case measure => have := HK1.out; have := HK2.out; omega
       case rel => exact ⟨(x6_2), (x7_2), (wrap64 (x8_1 + 1)), sd, sd, sd, H', ⟨by have := HK1.out; have := HK2.out; omega⟩, ⟨bk BK105⟩, ⟨bk BK106⟩, ⟨bh⟩⟩
   ·rw [if_neg c9] at H
    have c9b0 := decide_eq_false c9
    clear c9
    simp only [Option.some.injEq, Prod.mk.injEq] at H
    obtain ⟨rfl, rfl⟩ := H
    have hnb28 := NB106_105.out
    have hnc28 := NB105_106.out
    obtain ⟨hcz29_0, hcz29_1, hfz29_0, hfz29_1⟩ := b2 BK106
    go_wp2
    go_ret2
    exact ⟨by exact er, bh⟩
/-! ### shape_sub: function 53 -/
def shape_sub.f (a0_0 : Int) (a0_1 : Int) (a1_0 : Int) (a1_1 : Int) : Option (Int × Int) := some (wrap64 (a0_0 - a1_0), wrap64 (a0_1 - a1_1))
set_option maxHeartbeats 8000000 in
set_option maxRecDepth 100000 in
theorem shape_sub.calls (a0_0 : Int) (a0_1 : Int) (a1_0 : Int) (a1_1 : Int) (r1 : Int) (r2 : Int) (w : World) (h : shape_sub.f a0_0 a0_1 a1_0 a1_1 = some (r1, r2)) :
  Calls Try.prog 53 #[.agg #[.int .i64 a0_0, .int .i64 a0_1], .agg #[.int .i64 a1_0, .int .i64 a1_1]] w fun e w' => e = .returned (.agg #[.int .i64 r1, .int .i64 r2]) ∧ Below w.heap.size w w' := by
 have hu41 := Try.underlying41
 have HB := Aside0.mk (Below.refl w.heap.size w)
 have H : (some (wrap64 (a0_0 - a1_0), wrap64 (a0_1 - a1_1))) = some (r1, r2) := h
 clear h
 simp only [Option.some.injEq, Prod.mk.injEq] at H
 obtain ⟨rfl, rfl⟩ := H
 go_enter Try.func53, Try.ntmps53
 go_wp2_with (first | ((with_reducible refine gate_dst (N := 2) rfl ?_); refine bxe 2 #[.int .i64 a0_0, .int .i64 a0_1] 41 ?_; intro gb101 hg w3 hbox hb; have BK101 := Aside0.mk (hbox); have GW101 := ga w hg; have GE101 := GW101; replace HB := bz hb; clear hb hbox hg) | ((with_reducible refine gate_dst (N := 3) rfl ?_); refine bxe 3 #[.int .i64 a1_0, .int .i64 a1_1] 41 ?_; intro gb102 hg w4 hbox hb; have BK102 := Aside0.mk (hbox); have GW102 := ga w hg; have GE102 := GW102; have NB101_102 := nb hg (kl BK101); have NB102_101 := bn NB101_102; replace BK101 := kb BK101 hb; replace HB := bz hb; clear hb hbox hg) | ((with_reducible refine gate_dst (N := 4) rfl ?_); refine bxe 4 #[.int .i64 0, .int .i64 0] 41 ?_; intro gb103 hg w5 hbox hb; have BK103 := Aside0.mk (hbox); have GW103 := ga w hg; have GE103 := GW103; have NB101_103 := nb hg (kl BK101); have NB103_101 := bn NB101_103; have NB102_103 := nb hg (kl BK102); have NB103_102 := bn NB102_103; replace BK101 := kb BK101 hb; replace BK102 := kb BK102 hb; replace HB := bz hb; clear hb hbox hg; have hnb6 := NB101_102.out; have hnc6 := NB102_101.out; have hnb7 := NB101_103.out; have hnc7 := NB103_101.out; obtain ⟨hcz8_0, hcz8_1, hfz8_0, hfz8_1⟩ := b2 BK101; have hnb9 := NB102_103.out; have hnc9 := NB103_102.out; obtain ⟨hcz10_0, hcz10_1, hfz10_0, hfz10_1⟩ := b2 BK102; obtain ⟨hcz11_0, hcz11_1, hfz11_0, hfz11_1⟩ := b2 BK103))
 refine bodyPost_ret (results_cell_row rfl _ _ gb103 41 #[.int .i64 (wrap64 (a0_0 - a1_0)), .int .i64 (wrap64 (a0_1 - a1_1))] (0, 0) _ rfl (by refine bd ?_; refine blk_put (cs := #[.int .i64 (wrap64 (a0_0 - a1_0)), .int .i64 0]) ?_ 1 _ rfl; refine bd ?_; refine blk_put (cs := #[.int .i64 0, .int .i64 0]) ?_ 0 _ rfl; refine bd ?_; exact BK103.out) Try.underlying41 rfl (by kernel_rfl)) rfl ?_
 exact ⟨by exact er, bh⟩
/-! ### shape_cross: function 77 -/
def shape_cross.f (a0_0 : Int) (a0_1 : Int) (a1_0 : Int) (a1_1 : Int) : Option (Int) := some (wrap64 ((wrap64 (a0_0 * a1_1)) - (wrap64 (a0_1 * a1_0))))
set_option maxHeartbeats 8000000 in
set_option maxRecDepth 100000 in
theorem shape_cross.calls (a0_0 : Int) (a0_1 : Int) (a1_0 : Int) (a1_1 : Int) (r : Int) (w : World) (h : shape_cross.f a0_0 a0_1 a1_0 a1_1 = some r) :
  Calls Try.prog 77 #[.agg #[.int .i64 a0_0, .int .i64 a0_1], .agg #[.int .i64 a1_0, .int .i64 a1_1]] w fun e w' => e = .returned (.int .i64 r) ∧ Below w.heap.size w w' := by
 have hu41 := Try.underlying41
 have HB := Aside0.mk (Below.refl w.heap.size w)
 have H : (some (wrap64 ((wrap64 (a0_0 * a1_1)) - (wrap64 (a0_1 * a1_0))))) = some r := h
 clear h
 obtain rfl := Option.some.inj H
 go_enter Try.func77, Try.ntmps77
 go_wp2_with (first | ((with_reducible refine gate_dst (N := 2) rfl ?_); refine bxe 2 #[.int .i64 a0_0, .int .i64 a0_1] 41 ?_; intro gb101 hg w3 hbox hb; have BK101 := Aside0.mk (hbox); have GW101 := ga w hg; have GE101 := GW101; replace HB := bz hb; clear hb hbox hg) | ((with_reducible refine gate_dst (N := 3) rfl ?_); refine bxe 3 #[.int .i64 a1_0, .int .i64 a1_1] 41 ?_; intro gb102 hg w4 hbox hb; have BK102 := Aside0.mk (hbox); have GW102 := ga w hg; have GE102 := GW102; have NB101_102 := nb hg (kl BK101); have NB102_101 := bn NB101_102; replace BK101 := kb BK101 hb; replace HB := bz hb; clear hb hbox hg; have hnb5 := NB101_102.out; have hnc5 := NB102_101.out; obtain ⟨hcz6_0, hcz6_1, hfz6_0, hfz6_1⟩ := b2 BK101; obtain ⟨hcz7_0, hcz7_1, hfz7_0, hfz7_1⟩ := b2 BK102))
 go_ret
 exact ⟨by exact er, bh⟩
/-! ### shape_area2: function 55 -/
def shape_area2.l0 : Nat → List (S41) → Int → Int → Int → Option (Int)
 | 0, _, _, _, _ => none
 | k + 1, x0, x3, x6, x7 => if x7 < x6 then (if 0 ≤ x7 then (if x7 < (x0.length : Int) then (if (x0.length : Int) = 0 then (none) else (if 0 ≤ (Int.tmod (wrap64 (x7 + 1)) (x0.length : Int)) then (if (Int.tmod (wrap64 (x7 + 1)) (x0.length : Int)) < (x0.length : Int) then ((shape_cross.f ((rd_T41 x0 x7).f0) ((rd_T41 x0 x7).f1) ((rd_T41 x0 (Int.tmod (wrap64 (x7 + 1)) (x0.length : Int))).f0) ((rd_T41 x0 (Int.tmod (wrap64 (x7 + 1)) (x0.length : Int))).f1)).bind fun t103 => (shape_area2.l0 k x0 (wrap64 (x3 + t103)) x6 (wrap64 (x7 + 1)))) else (none)) else (none))) else (none)) else (none)) else (some x3)
def shape_area2.f (k : Nat) (l0 : List (S41)) : Option (Int) := shape_area2.l0 k l0 0 (l0.length : Int) 0
def shape_area2.T5 : Bool × List (List Nat × List Nat) := (true, [([], []), ([], []), ([], []), ([1, 2], [1, 2]), ([3], [3]), ([], []), ([], []), ([6], [6]), ([], []), ([8], [8]), ([7, 9], [7, 9]), ([5, 10], [5, 10]), ([11], [11]), ([4, 12], [4, 12]), ([0, 13], [0, 13]), ([14, 13, 0, 1, 2, 3, 4, 5, 6, 7, 8, 9, 10, 11, 12, 13, 14], [0, 14])])
def shape_area2.B5 : List Nat := [0, 0, 0, 6, 14, 0, 0, 64, 0, 256, 960, 2016, 4064, 8190, 16383, 32767]
theorem shape_area2.tab5 : rtab .any (opsOf Try.f55 5) = shape_area2.T5 := by kernel_rfl
theorem shape_area2.bits5 : waitsOk shape_area2.T5.2 shape_area2.B5 = true := by kernel_rfl
set_option maxHeartbeats 8000000 in
set_option maxRecDepth 100000 in
theorem shape_area2.calls (k : Nat) (A0 : Option Addr) (c0 : Nat) (l0 : List (S41)) (r : Int) (w : World) (hr0 : Kd.C k41 w A0 l0.length l0) (hc0 : l0.length ≤ c0) (h : shape_area2.f k l0 = some r) :
  Calls Try.prog 55 #[.slice A0 l0.length c0] w fun e w' => e = .returned (.int .i64 r) ∧ Below w.heap.size w w' := by
 have hu41 := Try.underlying41
 have HR0 := Aside0.mk hr0
 have HC0 := Aside0.mk hc0
 clear hr0 hc0
 have HB := Aside0.mk (Below.refl w.heap.size w)
 have H : (shape_area2.l0 k l0 0 (l0.length : Int) 0) = some r := h
 clear h
 have H' := Aside0.mk H
 clear H
 go_enter Try.func55, Try.ntmps55
 go_wp2
 go_loopg [3, 7] k (fun kq v3 v7 w' => ∃ (x3_1 : Int) (x7_1 : Int), v3 = .int .i64 x3_1 ∧ v7 = .int .i64 x7_1 ∧ Aside0 (shape_area2.l0 kq l0 x3_1 (l0.length : Int) x7_1 = some r) ∧ Aside0 (kq ≤ k) ∧ Aside0 (Below w.heap.size w w'))
 case atStart => exact ⟨(0), (0), sd, sd, H', ⟨Nat.le_refl _⟩, ⟨bh⟩⟩
 case round =>
  clear H'
  obtain ⟨x3_1, x7_1, rfl, rfl, HA, HK1, HB⟩ := hrel
  cases gk with
  | zero => exact absurd HA.out (by simp [shape_area2.l0])
  | succ k1 =>
   have H := HA.out
   clear HA
   simp only [shape_area2.l0] at H
   by_cases c2 : x7_1 < (l0.length : Int)
   ·rw [if_pos c2] at H
    have c2b0 := decide_eq_true c2
    clear c2
    obtain ⟨c3, H⟩ := oi H
    have c3b0 := decide_eq_true c3
    clear c3
    obtain ⟨c4, H⟩ := oi H
    have c4b0 := decide_eq_true c4
    clear c4
    obtain ⟨c5, H⟩ := oj H
    have c5b0 : ((l0.length : Int) == 0) = false := beq_eq_false_iff_ne.mpr c5
    have c5b1 : ((l0.length : Int) != 0) = true := bne_iff_ne.mpr c5
    have c5b2 : ¬ (l0 = []) := fun h_ => c5 (by rw [h_]; rfl)
    obtain ⟨ji6, hji6⟩ : ∃ j_ : Int, (Int.tmod (wrap64 (x7_1 + 1)) (l0.length : Int)) = j_ := ⟨_, rfl⟩
    first | rw [hji6] at H | simp only [hji6] at H
    obtain ⟨c7, H⟩ := oi H
    have c7b0 := decide_eq_true c7
    clear c7
    obtain ⟨c8, H⟩ := oi H
    have c8b0 := decide_eq_true c8
    clear c8
    replace H := Option.bind_eq_some_iff.mp H
    obtain ⟨t103, A90, H⟩ := H
    try dsimp only at H
    have A9 := Aside0.mk A90
    clear A90
    have H' := Aside0.mk H
    clear H
    try go_wp2
    replace HB := Aside0.mk (below_drew1 HB.out)
    have p101 : 0 ≤ (x7_1 : Int) := dt
    have q101 : x7_1 < (l0.length : Int) := dt
    obtain ⟨ad101, e101, hx101_0, hx101_1⟩ := at_T41 HR0.out x7_1 p101 q101
    have hw101_1 := hx101_1
    have hw101_0 := hx101_0
    cases e101
    replace hx101_0 := hc HB hx101_0
    replace hx101_1 := hc HB hx101_1
    replace p101 := eq_true p101
    replace q101 := eq_true q101
    have p102 : 0 ≤ ((ji6) : Int) := dt
    have q102 : (ji6) < (l0.length : Int) := dt
    obtain ⟨ad102, e102, hx102_0, hx102_1⟩ := at_T41 HR0.out (ji6) p102 q102
    have hw102_1 := hx102_1
    have hw102_0 := hx102_0
    obtain rfl : ad101 = ad102 := (by injection e102)
    replace hx102_0 := hc HB hx102_0
    replace hx102_1 := hc HB hx102_1
    replace p102 := eq_true p102
    replace q102 := eq_true q102
    refine start_ (n := 16) (S := fun w' => w'.cell? (ad101.add ((x7_1).toNat * 2)) = some (.int .i64 ((rd_T41 l0 x7_1).f0)) ∧ w'.cell? ⟨(ad101.add ((x7_1).toNat * 2)).block, (ad101.add ((x7_1).toNat * 2)).off + 1, none⟩ = some (.int .i64 ((rd_T41 l0 x7_1).f1)) ∧ w'.cell? (ad101.add (((ji6)).toNat * 2)) = some (.int .i64 ((rd_T41 l0 (ji6)).f0)) ∧ w'.cell? ⟨(ad101.add (((ji6)).toNat * 2)).block, (ad101.add (((ji6)).toNat * 2)).off + 1, none⟩ = some (.int .i64 ((rd_T41 l0 (ji6)).f1))) (ds := []) #[N,N,N,N,N,N,N,N,N,N,N,N,N,N,N,N] (by kernel_rfl) rfl rfl ⟨(hc HB hw101_0), (hc HB hw101_1), (hc HB hw102_0), (hc HB hw102_1)⟩ (fun hHeld => ?_); refine with_tabW shape_area2.tab5 shape_area2.bits5 (fun HT_ HW_ => ?_)
    generalize wr.drew = w10 at HB hx101_0 hx101_1 hx102_0 hx102_1 hHeld ⊢
    refine pu 0 10 HT_ ?_
    refine pu 1 11 HT_ ?_
    refine pu 2 12 HT_ ?_
    refine pu 3 13 HT_ ?_
    refine pu 5 15 HT_ ?_
    refine pu 6 16 HT_ ?_
    refine pu 7 17 HT_ ?_
    refine pu 8 18 HT_ ?_
    refine pu 9 19 HT_ ?_
    refine pu 10 20 HT_ ?_
    refine pu 11 21 HT_ ?_
    refine tk4 4 14 hHeld HT_ HW_ ?_
    refine tk4 12 22 hHeld HT_ HW_ ?_
    refine one_ (i := 13) (N := some 23) #[T,T,T,T,T,T,T,T,T,T,T,T,T,T,N,N] rfl rfl (on1 HT_) (by decide) (fun K hK => ?_)
    refine goes_ Try.func77 (by kernel_rfl) rfl #[.agg #[.int .i64 ((rd_T41 l0 x7_1).f0), .int .i64 ((rd_T41 l0 x7_1).f1)], .agg #[.int .i64 ((rd_T41 l0 (ji6)).f0), .int .i64 ((rd_T41 l0 (ji6)).f1)]] (by rfl) rfl rfl (by (try simp only [List.map_toArray, List.map_cons, List.map_nil]); first | done | (simp only [hji6]; rfl) | rfl | (simp only [List.length_drop, List.length_take]; rfl)) ?_
    with_reducible refine (shape_cross.calls ((rd_T41 l0 x7_1).f0) ((rd_T41 l0 x7_1).f1) ((rd_T41 l0 (ji6)).f0) ((rd_T41 l0 (ji6)).f1) t103 _ A9.out).mono ?_
    rintro e w11 ⟨rfl, hb⟩
    refine ⟨_, rfl, ?_⟩
    replace HB := bz hb
    (try clear hb)
    refine hK.out _ _ ⟨(hc HB hw101_0), (hc HB hw101_1), (hc HB hw102_0), (hc HB hw102_1)⟩ (fun hHeld => ?_)
    clear hK K
    refine nm 23 ?_
    refine pu 14 24 HT_ ?_
    refine pu 15 3 HT_ ?_
    refine done_ (done_of HT_.out (by kernel_rfl)) ?_
    try go_wp2
    go_roundg k1
    case measure => have := HK1.out; omega
    case rel => exact ⟨(wrap64 (x3_1 + t103)), (wrap64 (x7_1 + 1)), sd, sd, H', ⟨by have := HK1.out; omega⟩, ⟨bh⟩⟩
   ·rw [if_neg c2] at H
    have c2b0 := decide_eq_false c2
    clear c2
    obtain rfl := Option.some.inj H
    go_wp2
    go_ret
    exact ⟨by exact er, bh⟩
/-! ### shape_gcd: function 54 -/
def shape_gcd.l0 : Nat → Int → Int → Option (Int)
 | 0, _, _ => none
 | k + 1, x0, x1 => if x1 > 0 then (if x1 = 0 then (none) else (shape_gcd.l0 k x1 (Int.tmod x0 x1))) else (some x0)
def shape_gcd.f (k : Nat) (a0 : Int) (a1 : Int) : Option (Int) := shape_gcd.l0 k (mx a0 (wrap64 (-a0))) (mx a1 (wrap64 (-a1)))
set_option maxHeartbeats 8000000 in
set_option maxRecDepth 100000 in
theorem shape_gcd.calls (k : Nat) (a0 : Int) (a1 : Int) (r : Int) (w : World) (h : shape_gcd.f k a0 a1 = some r) :
  Calls Try.prog 54 #[.int .i64 a0, .int .i64 a1] w fun e w' => e = .returned (.int .i64 r) ∧ Below w.heap.size w w' := by
 have HB := Aside0.mk (Below.refl w.heap.size w)
 have H : (shape_gcd.l0 k (mx a0 (wrap64 (-a0))) (mx a1 (wrap64 (-a1)))) = some r := h
 clear h
 obtain ⟨ji3, hji3⟩ : ∃ j_ : Int, (mx a0 (wrap64 (-a0))) = j_ := ⟨_, rfl⟩
 first | rw [hji3] at H | simp only [hji3] at H
 have hji3_ : (if a0 < (wrap64 (-a0)) then (wrap64 (-a0)) else a0) = ji3 := hji3
 obtain ⟨ji4, hji4⟩ : ∃ j_ : Int, (mx a1 (wrap64 (-a1))) = j_ := ⟨_, rfl⟩
 first | rw [hji4] at H | simp only [hji4] at H
 have hji4_ : (if a1 < (wrap64 (-a1)) then (wrap64 (-a1)) else a1) = ji4 := hji4
 have H' := Aside0.mk H
 clear H
 go_enter Try.func54, Try.ntmps54
 go_wp2
 repeat (go_quiet (fail); try go_wp2)
 go_loopg [0, 1] k (fun kq v0 v1 w' => ∃ (x0_1 : Int) (x1_1 : Int), v0 = .int .i64 x0_1 ∧ v1 = .int .i64 x1_1 ∧ Aside0 (shape_gcd.l0 kq x0_1 x1_1 = some r) ∧ Aside0 (kq ≤ k) ∧ Aside0 (Below w.heap.size w w'))
 case atStart => exact ⟨(ji3), (ji4), (by first | rfl | (simp; done) | (simp only [← hji3] <;> (first | rfl | simp)) | (simp [*]; done)), (by first | rfl | (simp; done) | (simp only [← hji4] <;> (first | rfl | simp)) | (simp [*]; done)), H', ⟨Nat.le_refl _⟩, ⟨bh⟩⟩
 case round =>
  clear H'
  skip
  obtain ⟨x0_1, x1_1, rfl, rfl, HA, HK1, HB⟩ := hrel
  cases gk with
  | zero => exact absurd HA.out (by simp [shape_gcd.l0])
  | succ k1 =>
   have H := HA.out
   clear HA
   simp only [shape_gcd.l0] at H
   by_cases c5 : x1_1 > 0
   ·rw [if_pos c5] at H
    have c5b0 := decide_eq_true c5
    clear c5
    obtain ⟨c6, H⟩ := oj H
    have c6b0 : (x1_1 == 0) = false := beq_eq_false_iff_ne.mpr c6
    have c6b1 : (x1_1 != 0) = true := bne_iff_ne.mpr c6
    have H' := Aside0.mk H
    clear H
    go_wp2
    repeat (go_quiet (fail); try go_wp2)
    go_roundg k1
    case measure => have := HK1.out; omega
    case rel => exact ⟨(x1_1), (Int.tmod x0_1 x1_1), sd, sd, H', ⟨by have := HK1.out; omega⟩, ⟨bh⟩⟩
   ·rw [if_neg c5] at H
    have c5b0 := decide_eq_false c5
    clear c5
    obtain rfl := Option.some.inj H
    go_wp2
    repeat (go_quiet (fail); try go_wp2)
    go_ret
    exact ⟨by first | rfl | (simp [errW_none, errW_some] <;> rfl) | (simp only [← hji3, ← hji4]; first | rfl | (simp [errW_none, errW_some] <;> rfl)) | (simp [*, errW_none, errW_some] <;> rfl), bh⟩
end Go.Proofs.Ythehmkpcddafnaa.PG
end
section
namespace Go.Proofs.Ythehmkpcddafnaa.PG
open Go.RowKit Go.Proofs.YthehmkpcddafnaaW.PrintWords Go.Proofs.YthehmkpcddafnaaW.PrintLast Go.Proofs.YthehmkpcddafnaaW.PrintMore
def fidx (p : S41 → Bool) (l : List S41) : Int := match l.findIdx? p with
 | some i => i
 | none => -1
theorem fidx_hit (p : S41 → Bool) (l : List S41) (k : Nat) (hk : k < l.length) (h : p (rd_T41 l k) = true) (h0 : ∀ j, j < k → p (rd_T41 l j) = false) : fidx p l = k := by
 have e : l.findIdx? p = some k := by
  rw [List.findIdx?_eq_some_iff_getElem]
  refine ⟨hk, ?_, ?_⟩
  ·simp only [rd_T41, Int.toNat_natCast, List.getD_eq_getElem?_getD, List.getElem?_eq_getElem hk, Option.getD_some] at h; exact h
  ·intro j hj
   have := h0 j hj
   simp only [rd_T41, Int.toNat_natCast, List.getD_eq_getElem?_getD, List.getElem?_eq_getElem (show j < l.length by omega), Option.getD_some] at this
   simp [this]
 unfold fidx; rw [e]
theorem fidx_miss (p : S41 → Bool) (l : List S41) (h0 : ∀ j, j < l.length → p (rd_T41 l (j : Nat)) = false) : fidx p l = -1 := by
 have e : l.findIdx? p = none := by
  rw [List.findIdx?_eq_none_iff]
  intro x hx
  obtain ⟨j, hj, rfl⟩ := List.mem_iff_getElem.mp hx
  have := h0 j hj
  simp only [rd_T41, Int.toNat_natCast, List.getD_eq_getElem?_getD, List.getElem?_eq_getElem hj, Option.getD_some] at this
  exact this
 unfold fidx; rw [e]
set_option maxHeartbeats 2000000 in
theorem IndexFunc_any (g : Nat) (lb : Array Value) (p : S41 → Bool) (eg : ∀ args w, (callFunc g args).run Try.prog w = .ok (.enter g args) w)
  (A0 : Option Addr) (c0 : Nat) (l0 : List S41) (w : World) (hr0 : Kd.C k41 w A0 l0.length l0)
  (hp : ∀ (W : World) (x : S41), Below w.heap.size w W → Calls Try.prog g (#[.agg #[.int .i64 x.f0, .int .i64 x.f1]] ++ lb) W fun e w' => e = .returned (.bool (p x)) ∧ Below w.heap.size w w') :
  Calls Try.prog 121 #[.slice A0 l0.length c0, .func (.func g) #[] lb] w fun e w' => e = .returned (.int .i64 (fidx p l0)) ∧ Below w.heap.size w w' := by
 have hu29 := Try.underlying41
 have hm : l0.length ≤ 9223372036854775807 := Kd.C_max hr0
 have HR0 := Aside0.mk hr0
 clear hr0
 generalize hn : l0.length = n at *
 have HN := Aside0.mk hn
 clear hn
 go_enter Try.func121, Try.ntmps121
 go_wp2
 go_loopg [5, 8] n (fun gg _ s8 wr => ∃ kk : Nat, kk ≤ n ∧ n - kk ≤ gg ∧ s8 = .int .i64 kk ∧ Aside0 (Below w.heap.size w wr) ∧ Aside0 (∀ j, j < kk → p (rd_T41 l0 (j : Nat)) = false))
 case atStart => exact ⟨0, Nat.zero_le _, by omega, rfl, ⟨Below.refl _ w⟩, ⟨fun j hj => absurd hj (Nat.not_lt_zero _)⟩⟩
 case round =>
  obtain ⟨kk, hkk, hg, rfl, BW, A⟩ := hrel
  by_cases hlt : kk < n
  ·have hltz : (kk : Int) < (n : Int) := by omega
   obtain ⟨ad, e1, hx0, hx1⟩ := at_T41 HR0.out (kk : Int) (by omega) hltz
   cases e1
   replace hx0 := (BW.out.cell (World.block_lt_of_cell? w _ hx0)).trans hx0
   replace hx1 := (BW.out.cell (World.block_lt_of_cell? w _ hx1)).trans hx1
   have hcall := hp wr (rd_T41 l0 kk) BW.out
   clear hp
   rw [Int.toNat_natCast] at hx0 hx1
   generalize hy : rd_T41 l0 kk = y at hx0 hx1 hcall
   have B := Aside0.mk hy
   clear hy
   cases hq : p y with
   | true =>
    rw [hq] at hcall
    go_wp2_with (go_at_fn g; refine hcall.mono ?_; rintro e w' ⟨rfl, hb'⟩)
    go_ret
    refine ⟨?_, hb'⟩
    rw [fidx_hit p l0 kk (by rw [HN.out]; exact hlt) (by rw [B.out]; exact hq) A.out]; rfl
   | false =>
    rw [hq] at hcall
    go_wp2_with (go_at_fn g; refine hcall.mono ?_; rintro e w' ⟨rfl, hb'⟩)
    go_roundg (n - (kk + 1))
    case measure => omega
    case rel =>
     refine ⟨kk + 1, by omega, by omega, by go_num, ⟨hb'⟩, ⟨fun j hj => ?_⟩⟩
     by_cases e : j = kk
     ·subst e
      rw [B.out]; exact hq
     ·exact A.out j (by omega)
  ·have hltz : ¬ (kk : Int) < (n : Int) := by omega
   have : kk = n := by omega
   subst this
   go_wp2
   go_ret
   refine ⟨?_, BW.out⟩
   rw [fidx_miss p l0 (by rw [HN.out]; exact A.out)]; rfl
theorem fidx_nonneg (p : S41 → Bool) (l : List S41) : decide (fidx p l ≥ 0) = l.any p := by
 unfold fidx
 cases e : l.findIdx? p with
 | none =>
  rw [List.findIdx?_eq_none_iff] at e
  have : l.any p = false := by rw [List.any_eq_false]; intro x hx; simp [e x hx]
  rw [this]; rfl
 | some i =>
  rw [List.findIdx?_eq_some_iff_getElem] at e
  obtain ⟨hi, hp, _⟩ := e
  have : l.any p = true := by rw [List.any_eq_true]; exact ⟨_, List.getElem_mem hi, hp⟩
  rw [this]; simp
set_option maxHeartbeats 2000000 in
theorem ContainsFunc_any (g : Nat) (lb : Array Value) (p : S41 → Bool) (eg : ∀ args w, (callFunc g args).run Try.prog w = .ok (.enter g args) w)
  (A0 : Option Addr) (c0 : Nat) (l0 : List S41) (w : World) (hr0 : Kd.C k41 w A0 l0.length l0)
  (hp : ∀ (W : World) (x : S41), Below w.heap.size w W → Calls Try.prog g (#[.agg #[.int .i64 x.f0, .int .i64 x.f1]] ++ lb) W fun e w' => e = .returned (.bool (p x)) ∧ Below w.heap.size w w') :
  Calls Try.prog 109 #[.slice A0 l0.length c0, .func (.func g) #[] lb] w fun e w' => e = .returned (.bool (l0.any p)) ∧ Below w.heap.size w w' := by
 rw [← fidx_nonneg p l0]
 have hc := IndexFunc_any g lb p eg A0 c0 l0 w hr0 hp
 clear hp hr0
 generalize fidx p l0 = r at hc ⊢
 generalize l0.length = n at hc ⊢
 go_enter Try.func109, Try.ntmps109
 go_wp2_with (go_at_call 121; refine hc.mono ?_; rintro e w' ⟨rfl, hb'⟩)
 go_ret
 exact ⟨rfl, hb'⟩
def beyond (m : Int) (p : S41) : Bool := decide (p.f0 < wrap64 (-m)) || (decide (p.f0 > m) || (decide (p.f1 < wrap64 (-m)) || decide (p.f1 > m)))
set_option maxHeartbeats 2000000 in
theorem within_1 (m : Int) (B : Nat) (W : World) (x : S41) (hc : W.cell? ⟨B, 0, none⟩ = some (.int .i64 m)) (hB : B < W.heap.size) :
  Calls Try.prog 110 #[.agg #[.int .i64 x.f0, .int .i64 x.f1], .pointer (some ⟨B, 0, none⟩)] W fun e w' => e = .returned (.bool (beyond m x)) ∧ Below W.heap.size W w' := by
 have hne : B ≠ W.heap.size := by omega
 unfold beyond
 go_enter Try.func110, Try.ntmps110
 go_wp2
 all_goals (go_ret; refine ⟨?_, (Below.refl _ _).alloc (Nat.le_refl _) _⟩)
 all_goals (refine congrArg (fun b => Ending.returned (Value.bool b)) ?_; (first | (rw [Bool.eq_iff_iff]; done) | (rw [Bool.eq_iff_iff]; simp; done) | (rw [Bool.eq_iff_iff]; simp; omega)))
def shape_within.f (l0 : List (S41)) (a1 : Int) : Option (Bool) := some (!(l0.any (beyond a1)))
set_option maxHeartbeats 2000000 in
theorem shape_within.calls (A0 : Option Addr) (c0 : Nat) (l0 : List (S41)) (a1 : Int) (r : Bool) (w : World) (hr0 : Kd.C k41 w A0 l0.length l0) (_hc0 : l0.length ≤ c0) (h : shape_within.f l0 a1 = some r) :
  Calls Try.prog 72 #[.slice A0 l0.length c0, .int .i64 a1] w fun e w' => e = .returned (.bool r) ∧ Below w.heap.size w w' := by
 obtain rfl := Option.some.inj h
 clear h
 have eg : ∀ args w, (callFunc 110 args).run Try.prog w = .ok (.enter 110 args) w := enters_of Try.func110 (by kernel_rfl) rfl
 have hc := ContainsFunc_any 110 #[.pointer (some ⟨w.heap.size, 0, none⟩)] (beyond a1) eg A0 c0 l0 (w.alloc (.cells #[.int .i64 a1] 3)) (Kd.C_alloc hr0 _)
  (fun W x hb => by
   have e1 : W.cell? ⟨w.heap.size, 0, none⟩ = some (.int .i64 a1) := (hb.cell (p := ⟨w.heap.size, 0, none⟩) (by simp)).trans (by simp)
   have e2 : w.heap.size < W.heap.size := Nat.lt_of_lt_of_le (by simp) hb.size
   exact (within_1 a1 w.heap.size W x e1 e2).mono fun e w' ⟨he, hb'⟩ => ⟨he, hb.trans (hb'.mono hb.size)⟩)
 clear hr0 eg
 generalize l0.any (beyond a1) = r at hc ⊢
 generalize l0.length = n at hc ⊢
 go_enter Try.func72, Try.ntmps72
 go_wp2_with (go_at_call 109; refine hc.mono ?_; rintro e w' ⟨rfl, hb'⟩)
 go_ret
 exact ⟨rfl, ((Below.refl _ w).alloc (Nat.le_refl _) _).trans (hb'.mono (by simp))⟩
end Go.Proofs.Ythehmkpcddafnaa.PG
end
section
namespace Go.Proofs.Ythehmkpcddafnaa.PG
open Go.RowKit Go.Proofs.YthehmkpcddafnaaW.PrintWords Go.Proofs.YthehmkpcddafnaaW.PrintLast Go.Proofs.YthehmkpcddafnaaW.PrintMore
attribute [local go_sem] max2_int min2_int max_two min_two max_three min_three max_four min_four
set_option linter.unusedVariables false
set_option linter.unusedSimpArgs false
/-! ### shape_polygon: function 71 -/
def shape_polygon.f (l0 : List (S41)) : Option (Bool) := if (l0.length : Int) ≥ 3 then (if (l0.length : Int) ≤ 32 then ((shape_within.f l0 10000).bind fun t101 => (some t101)) else (some false)) else (some false)
set_option maxHeartbeats 8000000 in
set_option maxRecDepth 100000 in
theorem shape_polygon.calls (A0 : Option Addr) (c0 : Nat) (l0 : List (S41)) (r : Bool) (w : World) (hr0 : Kd.C k41 w A0 l0.length l0) (hc0 : l0.length ≤ c0) (h : shape_polygon.f l0 = some r) :
  Calls Try.prog 71 #[.slice A0 l0.length c0] w fun e w' => e = .returned (.bool r) ∧ Below w.heap.size w w' := by
 have HR0 := Aside0.mk hr0
 have HC0 := Aside0.mk hc0
 clear hr0 hc0
 have HB := Aside0.mk (Below.refl w.heap.size w)
 have H : (if (l0.length : Int) ≥ 3 then (if (l0.length : Int) ≤ 32 then ((shape_within.f l0 10000).bind fun t101 => (some t101)) else (some false)) else (some false)) = some r := h
 clear h
 by_cases c2 : (l0.length : Int) ≥ 3
 ·rw [if_pos c2] at H
  have c2b0 := decide_eq_true c2
  have c2b1 : decide (3 ≤ l0.length) = true := decide_eq_true (by omega)
  clear c2
  by_cases c3 : (l0.length : Int) ≤ 32
  ·rw [if_pos c3] at H
   have c3b0 := decide_eq_true c3
   have c3b1 : decide (l0.length ≤ 32) = true := decide_eq_true (by omega)
   clear c3
   replace H := Option.bind_eq_some_iff.mp H
   obtain ⟨t101, A40, H⟩ := H
   try dsimp only at H
   have A4 := Aside0.mk A40
   clear A40
   obtain rfl := Option.some.inj H
   go_enter Try.func71, Try.ntmps71
   go_wp2_with (first | (go_at_call 72; (with_reducible refine (shape_within.calls _ _ l0 10000 t101 _ ?side1 ?side2 A4.out).mono ?_); (case side1 => exact cs HR0.out); (case side2 => exact HC0.out); rintro e w5 ⟨rfl, hb⟩; replace HB := bz hb; (try clear hb)))
   go_ret
   exact ⟨by exact er, bh⟩
  ·rw [if_neg c3] at H
   have c3b0 := decide_eq_false c3
   have c3b1 : decide (l0.length ≤ 32) = false := decide_eq_false (by omega)
   clear c3
   obtain rfl := Option.some.inj H
   go_enter Try.func71, Try.ntmps71
   go_wp2
   go_ret
   exact ⟨by exact er, bh⟩
 ·rw [if_neg c2] at H
  have c2b0 := decide_eq_false c2
  have c2b1 : decide (3 ≤ l0.length) = false := decide_eq_false (by omega)
  clear c2
  obtain rfl := Option.some.inj H
  go_enter Try.func71, Try.ntmps71
  go_wp2
  go_ret
  exact ⟨by exact er, bh⟩
/-! ### shape_dot: function 80 -/
def shape_dot.f (a0_0 : Int) (a0_1 : Int) (a1_0 : Int) (a1_1 : Int) : Option (Int) := some (wrap64 ((wrap64 (a0_0 * a1_0)) + (wrap64 (a0_1 * a1_1))))
set_option maxHeartbeats 8000000 in
set_option maxRecDepth 100000 in
theorem shape_dot.calls (a0_0 : Int) (a0_1 : Int) (a1_0 : Int) (a1_1 : Int) (r : Int) (w : World) (h : shape_dot.f a0_0 a0_1 a1_0 a1_1 = some r) :
  Calls Try.prog 80 #[.agg #[.int .i64 a0_0, .int .i64 a0_1], .agg #[.int .i64 a1_0, .int .i64 a1_1]] w fun e w' => e = .returned (.int .i64 r) ∧ Below w.heap.size w w' := by
 have hu41 := Try.underlying41
 have HB := Aside0.mk (Below.refl w.heap.size w)
 have H : (some (wrap64 ((wrap64 (a0_0 * a1_0)) + (wrap64 (a0_1 * a1_1))))) = some r := h
 clear h
 obtain rfl := Option.some.inj H
 go_enter Try.func80, Try.ntmps80
 go_wp2_with (first | ((with_reducible refine gate_dst (N := 2) rfl ?_); refine bxe 2 #[.int .i64 a0_0, .int .i64 a0_1] 41 ?_; intro gb101 hg w3 hbox hb; have BK101 := Aside0.mk (hbox); have GW101 := ga w hg; have GE101 := GW101; replace HB := bz hb; clear hb hbox hg) | ((with_reducible refine gate_dst (N := 3) rfl ?_); refine bxe 3 #[.int .i64 a1_0, .int .i64 a1_1] 41 ?_; intro gb102 hg w4 hbox hb; have BK102 := Aside0.mk (hbox); have GW102 := ga w hg; have GE102 := GW102; have NB101_102 := nb hg (kl BK101); have NB102_101 := bn NB101_102; replace BK101 := kb BK101 hb; replace HB := bz hb; clear hb hbox hg; have hnb5 := NB101_102.out; have hnc5 := NB102_101.out; obtain ⟨hcz6_0, hcz6_1, hfz6_0, hfz6_1⟩ := b2 BK101; obtain ⟨hcz7_0, hcz7_1, hfz7_0, hfz7_1⟩ := b2 BK102))
 go_ret
 exact ⟨by exact er, bh⟩
/-! ### cmp_isNaN_int: function 117 -/
def cmp_isNaN_int.f (a0 : Int) : Option (Bool) := some (a0 != a0)
set_option maxHeartbeats 8000000 in
set_option maxRecDepth 100000 in
theorem cmp_isNaN_int.calls (a0 : Int) (r : Bool) (w : World) (h : cmp_isNaN_int.f a0 = some r) :
  Calls Try.prog 117 #[.int .i64 a0] w fun e w' => e = .returned (.bool r) ∧ Drawn0 w w' := by
 have H : (some (a0 != a0)) = some r := h
 clear h
 obtain rfl := Option.some.inj H
 go_enter Try.func117, Try.ntmps117
 go_wp2
 go_ret
 exact ⟨by first | rfl | (simp; done) | (simp [*]; done), by repeat (first | exact Drawn0.refl _ | apply Drawn0.step)⟩
/-! ### cmp_Compare_int: function 91 -/
def cmp_Compare_int.f (a0 : Int) (a1 : Int) : Option (Int) := (cmp_isNaN_int.f a0).bind fun t101 => ((cmp_isNaN_int.f a1).bind fun t102 => (if t101 = true then (if t102 = true then (some 0) else (some (-1))) else (if t102 = true then (some 1) else (if a0 < a1 then (some (-1)) else (if a0 > a1 then (some 1) else (some 0))))))
set_option maxHeartbeats 8000000 in
set_option maxRecDepth 100000 in
theorem cmp_Compare_int.calls (a0 : Int) (a1 : Int) (r : Int) (w : World) (h : cmp_Compare_int.f a0 a1 = some r) :
  Calls Try.prog 91 #[.int .i64 a0, .int .i64 a1] w fun e w' => e = .returned (.int .i64 r) ∧ Drawn0 w w' := by
 have H : ((cmp_isNaN_int.f a0).bind fun t101 => ((cmp_isNaN_int.f a1).bind fun t102 => (if t101 = true then (if t102 = true then (some 0) else (some (-1))) else (if t102 = true then (some 1) else (if a0 < a1 then (some (-1)) else (if a0 > a1 then (some 1) else (some 0))))))) = some r := h
 clear h
 replace H := Option.bind_eq_some_iff.mp H
 obtain ⟨t101, A30, H⟩ := H
 try dsimp only at H
 have A3 := Aside0.mk A30
 clear A30
 replace H := Option.bind_eq_some_iff.mp H
 obtain ⟨t102, A40, H⟩ := H
 try dsimp only at H
 have A4 := Aside0.mk A40
 clear A40
 by_cases c5 : t101 = true
 ·subst c5
  rw [if_pos rfl] at H
  by_cases c6 : t102 = true
  ·subst c6
   rw [if_pos rfl] at H
   obtain rfl := Option.some.inj H
   go_enter Try.func91, Try.ntmps91
   go_wp2_with (first | ((with_reducible refine gc 117 rfl ?_); refine goesL_ (some 8) rfl rfl Try.func117 (by kernel_rfl) rfl #[.int .i64 a0] rfl sg ?_; (with_reducible refine (cmp_isNaN_int.calls a0 true _ A3.out).mono ?_); rintro e w' ⟨rfl, ⟨nd, rfl⟩⟩; refine ⟨_, rfl, ?_⟩) | ((with_reducible refine gc 117 rfl ?_); refine goesL_ (some 10) rfl rfl Try.func117 (by kernel_rfl) rfl #[.int .i64 a1] rfl sg ?_; (with_reducible refine (cmp_isNaN_int.calls a1 true _ A4.out).mono ?_); rintro e w' ⟨rfl, ⟨nd, rfl⟩⟩; refine ⟨_, rfl, ?_⟩))
   go_ret
   exact ⟨by first | rfl | (simp; done) | (simp [*]; done), by repeat (first | exact Drawn0.refl _ | apply Drawn0.step)⟩
  ·replace c6 := Bool.eq_false_iff.mpr c6
   subst c6
   rw [if_neg (show ¬ (false = true) by decide)] at H
   obtain rfl := Option.some.inj H
   go_enter Try.func91, Try.ntmps91
   go_wp2_with (first | ((with_reducible refine gc 117 rfl ?_); refine goesL_ (some 8) rfl rfl Try.func117 (by kernel_rfl) rfl #[.int .i64 a0] rfl sg ?_; (with_reducible refine (cmp_isNaN_int.calls a0 true _ A3.out).mono ?_); rintro e w' ⟨rfl, ⟨nd, rfl⟩⟩; refine ⟨_, rfl, ?_⟩) | ((with_reducible refine gc 117 rfl ?_); refine goesL_ (some 10) rfl rfl Try.func117 (by kernel_rfl) rfl #[.int .i64 a1] rfl sg ?_; (with_reducible refine (cmp_isNaN_int.calls a1 false _ A4.out).mono ?_); rintro e w' ⟨rfl, ⟨nd, rfl⟩⟩; refine ⟨_, rfl, ?_⟩))
   go_ret
   exact ⟨by first | rfl | (simp; done) | (simp [*]; done), by repeat (first | exact Drawn0.refl _ | apply Drawn0.step)⟩
 ·replace c5 := Bool.eq_false_iff.mpr c5
  subst c5
  rw [if_neg (show ¬ (false = true) by decide)] at H
  by_cases c7 : t102 = true
  ·subst c7
   rw [if_pos rfl] at H
   obtain rfl := Option.some.inj H
   go_enter Try.func91, Try.ntmps91
   go_wp2_with (first | ((with_reducible refine gc 117 rfl ?_); refine goesL_ (some 8) rfl rfl Try.func117 (by kernel_rfl) rfl #[.int .i64 a0] rfl sg ?_; (with_reducible refine (cmp_isNaN_int.calls a0 false _ A3.out).mono ?_); rintro e w' ⟨rfl, ⟨nd, rfl⟩⟩; refine ⟨_, rfl, ?_⟩) | ((with_reducible refine gc 117 rfl ?_); refine goesL_ (some 10) rfl rfl Try.func117 (by kernel_rfl) rfl #[.int .i64 a1] rfl sg ?_; (with_reducible refine (cmp_isNaN_int.calls a1 true _ A4.out).mono ?_); rintro e w' ⟨rfl, ⟨nd, rfl⟩⟩; refine ⟨_, rfl, ?_⟩))
   go_ret
   exact ⟨by first | rfl | (simp; done) | (simp [*]; done), by repeat (first | exact Drawn0.refl _ | apply Drawn0.step)⟩
  ·replace c7 := Bool.eq_false_iff.mpr c7
   subst c7
   rw [if_neg (show ¬ (false = true) by decide)] at H
   by_cases c8 : a0 < a1
   ·rw [if_pos c8] at H
    have c8b0 := decide_eq_true c8
    clear c8
    obtain rfl := Option.some.inj H
    go_enter Try.func91, Try.ntmps91
    go_wp2_with (first | ((with_reducible refine gc 117 rfl ?_); refine goesL_ (some 8) rfl rfl Try.func117 (by kernel_rfl) rfl #[.int .i64 a0] rfl sg ?_; (with_reducible refine (cmp_isNaN_int.calls a0 false _ A3.out).mono ?_); rintro e w' ⟨rfl, ⟨nd, rfl⟩⟩; refine ⟨_, rfl, ?_⟩) | ((with_reducible refine gc 117 rfl ?_); refine goesL_ (some 10) rfl rfl Try.func117 (by kernel_rfl) rfl #[.int .i64 a1] rfl sg ?_; (with_reducible refine (cmp_isNaN_int.calls a1 false _ A4.out).mono ?_); rintro e w' ⟨rfl, ⟨nd, rfl⟩⟩; refine ⟨_, rfl, ?_⟩))
    go_ret
    exact ⟨by first | rfl | (simp; done) | (simp [*]; done), by repeat (first | exact Drawn0.refl _ | apply Drawn0.step)⟩
   ·rw [if_neg c8] at H
    have c8b0 := decide_eq_false c8
    clear c8
    by_cases c9 : a0 > a1
    ·rw [if_pos c9] at H
     have c9b0 := decide_eq_true c9
     clear c9
     obtain rfl := Option.some.inj H
     go_enter Try.func91, Try.ntmps91
     go_wp2_with (first | ((with_reducible refine gc 117 rfl ?_); refine goesL_ (some 8) rfl rfl Try.func117 (by kernel_rfl) rfl #[.int .i64 a0] rfl sg ?_; (with_reducible refine (cmp_isNaN_int.calls a0 false _ A3.out).mono ?_); rintro e w' ⟨rfl, ⟨nd, rfl⟩⟩; refine ⟨_, rfl, ?_⟩) | ((with_reducible refine gc 117 rfl ?_); refine goesL_ (some 10) rfl rfl Try.func117 (by kernel_rfl) rfl #[.int .i64 a1] rfl sg ?_; (with_reducible refine (cmp_isNaN_int.calls a1 false _ A4.out).mono ?_); rintro e w' ⟨rfl, ⟨nd, rfl⟩⟩; refine ⟨_, rfl, ?_⟩))
     go_ret
     exact ⟨by first | rfl | (simp; done) | (simp [*]; done), by repeat (first | exact Drawn0.refl _ | apply Drawn0.step)⟩
    ·rw [if_neg c9] at H
     have c9b0 := decide_eq_false c9
     clear c9
     obtain rfl := Option.some.inj H
     go_enter Try.func91, Try.ntmps91
     go_wp2_with (first | ((with_reducible refine gc 117 rfl ?_); refine goesL_ (some 8) rfl rfl Try.func117 (by kernel_rfl) rfl #[.int .i64 a0] rfl sg ?_; (with_reducible refine (cmp_isNaN_int.calls a0 false _ A3.out).mono ?_); rintro e w' ⟨rfl, ⟨nd, rfl⟩⟩; refine ⟨_, rfl, ?_⟩) | ((with_reducible refine gc 117 rfl ?_); refine goesL_ (some 10) rfl rfl Try.func117 (by kernel_rfl) rfl #[.int .i64 a1] rfl sg ?_; (with_reducible refine (cmp_isNaN_int.calls a1 false _ A4.out).mono ?_); rintro e w' ⟨rfl, ⟨nd, rfl⟩⟩; refine ⟨_, rfl, ?_⟩))
     go_ret
     exact ⟨by first | rfl | (simp; done) | (simp [*]; done), by repeat (first | exact Drawn0.refl _ | apply Drawn0.step)⟩
/-! ### shape_sign: function 82 -/
def shape_sign.f (a0 : Int) : Option (Int) := (cmp_Compare_int.f a0 0).bind fun t101 => (some t101)
set_option maxHeartbeats 8000000 in
set_option maxRecDepth 100000 in
theorem shape_sign.calls (a0 : Int) (r : Int) (w : World) (h : shape_sign.f a0 = some r) :
  Calls Try.prog 82 #[.int .i64 a0] w fun e w' => e = .returned (.int .i64 r) ∧ Drawn0 w w' := by
 have H : ((cmp_Compare_int.f a0 0).bind fun t101 => (some t101)) = some r := h
 clear h
 replace H := Option.bind_eq_some_iff.mp H
 obtain ⟨t101, A20, H⟩ := H
 try dsimp only at H
 have A2 := Aside0.mk A20
 clear A20
 obtain rfl := Option.some.inj H
 go_enter Try.func82, Try.ntmps82
 go_wp2_with (first | ((with_reducible refine gc 91 rfl ?_); refine goesL_ (some 4) rfl rfl Try.func91 (by kernel_rfl) rfl #[.int .i64 a0, .int .i64 0] rfl sg ?_; (with_reducible refine (cmp_Compare_int.calls a0 0 t101 _ A2.out).mono ?_); rintro e w' ⟨rfl, ⟨nd, rfl⟩⟩; refine ⟨_, rfl, ?_⟩))
 go_ret
 exact ⟨by first | rfl | (simp; done) | (simp [*]; done), by repeat (first | exact Drawn0.refl _ | apply Drawn0.step)⟩
/-! ### shape_side: function 98 -/
def shape_side.f (a0_0 : Int) (a0_1 : Int) (a1_0 : Int) (a1_1 : Int) (a2_0 : Int) (a2_1 : Int) : Option (Int) := (shape_sub.f a1_0 a1_1 a0_0 a0_1).bind fun bt104 => ((shape_sub.f a2_0 a2_1 a0_0 a0_1).bind fun bt106 => ((shape_cross.f bt104.1 bt104.2 bt106.1 bt106.2).bind fun t108 => (some t108)))
def shape_side.T1 : Bool × List (List Nat × List Nat) := (true, [([], []), ([], []), ([0, 1], [0, 1]), ([], []), ([], []), ([3, 4, 2], [3, 4]), ([2, 5, 5], [2, 5]), ([6, 6, 0, 1, 2, 3, 4, 5, 6], [6])])
def shape_side.B1 : List Nat := [0, 0, 3, 0, 0, 31, 63, 127]
theorem shape_side.tab1 : rtab .any (opsOf Try.f98 1) = shape_side.T1 := by kernel_rfl
theorem shape_side.bits1 : waitsOk shape_side.T1.2 shape_side.B1 = true := by kernel_rfl
set_option maxHeartbeats 8000000 in
set_option maxRecDepth 100000 in
theorem shape_side.calls (a0_0 : Int) (a0_1 : Int) (a1_0 : Int) (a1_1 : Int) (a2_0 : Int) (a2_1 : Int) (r : Int) (w : World) (h : shape_side.f a0_0 a0_1 a1_0 a1_1 a2_0 a2_1 = some r) :
  Calls Try.prog 98 #[.agg #[.int .i64 a0_0, .int .i64 a0_1], .agg #[.int .i64 a1_0, .int .i64 a1_1], .agg #[.int .i64 a2_0, .int .i64 a2_1]] w fun e w' => e = .returned (.int .i64 r) ∧ Below w.heap.size w w' := by
 have hu41 := Try.underlying41
 have HB := Aside0.mk (Below.refl w.heap.size w)
 have H : ((shape_sub.f a1_0 a1_1 a0_0 a0_1).bind fun bt104 => ((shape_sub.f a2_0 a2_1 a0_0 a0_1).bind fun bt106 => ((shape_cross.f bt104.1 bt104.2 bt106.1 bt106.2).bind fun t108 => (some t108)))) = some r := h
 clear h
 replace H := Option.bind_eq_some_iff.mp H
 obtain ⟨⟨t104, t105⟩, A40, H⟩ := H
 try dsimp only at H
 have A4 := Aside0.mk A40
 clear A40
 replace H := Option.bind_eq_some_iff.mp H
 obtain ⟨⟨t106, t107⟩, A50, H⟩ := H
 try dsimp only at H
 have A5 := Aside0.mk A50
 clear A50
 replace H := Option.bind_eq_some_iff.mp H
 obtain ⟨t108, A60, H⟩ := H
 try dsimp only at H
 have A6 := Aside0.mk A60
 clear A60
 obtain rfl := Option.some.inj H
 go_enter Try.func98, Try.ntmps98
 try go_wp2_with (first | ((with_reducible refine gate_dst (N := 3) rfl ?_); refine bxe 3 #[.int .i64 a0_0, .int .i64 a0_1] 41 ?_; intro gb101 hg w7 hbox hb; have BK101 := Aside0.mk (hbox); have GW101 := ga w hg; have GE101 := GW101; replace HB := bz hb; clear hb hbox hg) | ((with_reducible refine gate_dst (N := 4) rfl ?_); refine bxe 4 #[.int .i64 a1_0, .int .i64 a1_1] 41 ?_; intro gb102 hg w8 hbox hb; have BK102 := Aside0.mk (hbox); have GW102 := ga w hg; have GE102 := GW102; have NB101_102 := nb hg (kl BK101); have NB102_101 := bn NB101_102; replace BK101 := kb BK101 hb; replace HB := bz hb; clear hb hbox hg) | ((with_reducible refine gate_dst (N := 5) rfl ?_); refine bxe 5 #[.int .i64 a2_0, .int .i64 a2_1] 41 ?_; intro gb103 hg w9 hbox hb; have BK103 := Aside0.mk (hbox); have GW103 := ga w hg; have GE103 := GW103; have NB101_103 := nb hg (kl BK101); have NB103_101 := bn NB101_103; have NB102_103 := nb hg (kl BK102); have NB103_102 := bn NB102_103; replace BK101 := kb BK101 hb; replace BK102 := kb BK102 hb; replace HB := bz hb; clear hb hbox hg))
 replace BK101 := Aside0.mk (blk_drew BK101.out)
 replace BK102 := Aside0.mk (blk_drew BK102.out)
 replace BK103 := Aside0.mk (blk_drew BK103.out)
 replace HB := Aside0.mk (below_drew1 HB.out)
 refine start_ (n := 8) (S := fun w' => w'.cell? ⟨gb102, 0, none⟩ = some (.int .i64 a1_0) ∧ w'.cell? ⟨gb102, 1, none⟩ = some (.int .i64 a1_1) ∧ w'.cell? ⟨gb101, 0, none⟩ = some (.int .i64 a0_0) ∧ w'.cell? ⟨gb101, 1, none⟩ = some (.int .i64 a0_1) ∧ w'.cell? ⟨gb103, 0, none⟩ = some (.int .i64 a2_0) ∧ w'.cell? ⟨gb103, 1, none⟩ = some (.int .i64 a2_1)) (ds := []) #[N,N,N,N,N,N,N,N] (by kernel_rfl) rfl rfl ⟨bc BK102 0, bc BK102 1, bc BK101 0, bc BK101 1, bc BK103 0, bc BK103 1⟩ (fun hHeld => ?_); refine with_tabW shape_side.tab1 shape_side.bits1 (fun HT_ HW_ => ?_)
 generalize w9.drew = w10 at BK101 BK102 BK103 HB hHeld ⊢
 refine tk6 0 7 hHeld HT_ HW_ ?_
 refine tk6 1 8 hHeld HT_ HW_ ?_
 refine tk6 3 10 hHeld HT_ HW_ ?_
 refine tk6 4 11 hHeld HT_ HW_ ?_
 refine one_ (i := 2) (N := some 9) #[T,T,T,T,T,N,N,N] rfl rfl (on1 HT_) (by decide) (fun K hK => ?_)
 refine goes_ Try.func53 (by kernel_rfl) rfl #[.agg #[.int .i64 a1_0, .int .i64 a1_1], .agg #[.int .i64 a0_0, .int .i64 a0_1]] (by rfl) rfl rfl sg ?_
 with_reducible refine (shape_sub.calls a1_0 a1_1 a0_0 a0_1 t104 t105 _ A4.out).mono ?_
 rintro e w11 ⟨rfl, hb⟩
 refine ⟨_, rfl, ?_⟩
 replace BK101 := kb BK101 hb
 replace BK102 := kb BK102 hb
 replace BK103 := kb BK103 hb
 replace HB := bz hb
 (try clear hb)
 refine hK.out _ _ ⟨bc BK102 0, bc BK102 1, bc BK101 0, bc BK101 1, bc BK103 0, bc BK103 1⟩ (fun hHeld => ?_)
 clear hK K
 refine nm 9 ?_
 refine one_ (i := 5) (N := some 12) #[T,T,T,T,T,T,N,N] rfl rfl (on1 HT_) (by decide) (fun K hK => ?_)
 refine goes_ Try.func53 (by kernel_rfl) rfl #[.agg #[.int .i64 a2_0, .int .i64 a2_1], .agg #[.int .i64 a0_0, .int .i64 a0_1]] (by rfl) rfl rfl sg ?_
 with_reducible refine (shape_sub.calls a2_0 a2_1 a0_0 a0_1 t106 t107 _ A5.out).mono ?_
 rintro e w12 ⟨rfl, hb⟩
 refine ⟨_, rfl, ?_⟩
 replace BK101 := kb BK101 hb
 replace BK102 := kb BK102 hb
 replace BK103 := kb BK103 hb
 replace HB := bz hb
 (try clear hb)
 refine hK.out _ _ ⟨bc BK102 0, bc BK102 1, bc BK101 0, bc BK101 1, bc BK103 0, bc BK103 1⟩ (fun hHeld => ?_)
 clear hK K
 refine nm 12 ?_
 refine one_ (i := 6) (N := some 13) #[T,T,T,T,T,T,T,N] rfl rfl (on1 HT_) (by decide) (fun K hK => ?_)
 refine goes_ Try.func77 (by kernel_rfl) rfl #[.agg #[.int .i64 t104, .int .i64 t105], .agg #[.int .i64 t106, .int .i64 t107]] (by rfl) rfl rfl sg ?_
 with_reducible refine (shape_cross.calls t104 t105 t106 t107 t108 _ A6.out).mono ?_
 rintro e w13 ⟨rfl, hb⟩
 refine ⟨_, rfl, ?_⟩
 replace BK101 := kb BK101 hb
 replace BK102 := kb BK102 hb
 replace BK103 := kb BK103 hb
 replace HB := bz hb
 (try clear hb)
 refine hK.out _ _ ⟨bc BK102 0, bc BK102 1, bc BK101 0, bc BK101 1, bc BK103 0, bc BK103 1⟩ (fun hHeld => ?_)
 clear hK K
 refine nm 13 ?_
 refine pu 7 6 HT_ ?_
 refine done_ (done_of HT_.out (by kernel_rfl)) ?_
 try go_wp2
 go_ret
 exact ⟨by exact er, bh⟩
/-! ### shape_on: function 111 -/
def shape_on.f (a0_0 : Int) (a0_1 : Int) (a1_0 : Int) (a1_1 : Int) (a2_0 : Int) (a2_1 : Int) : Option (Bool) := (shape_side.f a0_0 a0_1 a1_0 a1_1 a2_0 a2_1).bind fun t104 => (if t104 = 0 then ((shape_sub.f a0_0 a0_1 a2_0 a2_1).bind fun bt105 => ((shape_sub.f a1_0 a1_1 a2_0 a2_1).bind fun bt107 => ((shape_dot.f bt105.1 bt105.2 bt107.1 bt107.2).bind fun t109 => (some (decide (t109 ≤ 0)))))) else (some false))
def shape_on.T1 : Bool × List (List Nat × List Nat) := (true, [([], []), ([], []), ([], []), ([0, 1, 2], [0, 1, 2]), ([3], [3]), ([4, 3], [4]), ([5], [5]), ([5], [5]), ([6, 7, 5, 5], [5, 6, 7]), ([5], [5]), ([5], [5]), ([9, 10, 8, 5], [5, 9, 10]), ([8, 11, 11, 5], [5, 8, 11]), ([12, 5], [5, 12]), ([5, 13], [5, 13]), ([14, 12, 0, 1, 2, 3, 4, 5, 6, 7, 8, 9, 10, 11, 12, 13, 14], [14])])
def shape_on.B1 : List Nat := [0, 0, 0, 7, 15, 31, 63, 63, 255, 63, 63, 2047, 4095, 8191, 16383, 32767]
theorem shape_on.tab1 : rtab .any (opsOf Try.f111 1) = shape_on.T1 := by kernel_rfl
theorem shape_on.bits1 : waitsOk shape_on.T1.2 shape_on.B1 = true := by kernel_rfl
set_option maxHeartbeats 8000000 in
set_option maxRecDepth 100000 in
theorem shape_on.calls (a0_0 : Int) (a0_1 : Int) (a1_0 : Int) (a1_1 : Int) (a2_0 : Int) (a2_1 : Int) (r : Bool) (w : World) (h : shape_on.f a0_0 a0_1 a1_0 a1_1 a2_0 a2_1 = some r) :
  Calls Try.prog 111 #[.agg #[.int .i64 a0_0, .int .i64 a0_1], .agg #[.int .i64 a1_0, .int .i64 a1_1], .agg #[.int .i64 a2_0, .int .i64 a2_1]] w fun e w' => e = .returned (.bool r) ∧ Below w.heap.size w w' := by
 have hu41 := Try.underlying41
 have HB := Aside0.mk (Below.refl w.heap.size w)
 have H : ((shape_side.f a0_0 a0_1 a1_0 a1_1 a2_0 a2_1).bind fun t104 => (if t104 = 0 then ((shape_sub.f a0_0 a0_1 a2_0 a2_1).bind fun bt105 => ((shape_sub.f a1_0 a1_1 a2_0 a2_1).bind fun bt107 => ((shape_dot.f bt105.1 bt105.2 bt107.1 bt107.2).bind fun t109 => (some (decide (t109 ≤ 0)))))) else (some false))) = some r := h
 clear h
 replace H := Option.bind_eq_some_iff.mp H
 obtain ⟨t104, A40, H⟩ := H
 try dsimp only at H
 have A4 := Aside0.mk A40
 clear A40
 by_cases c5 : t104 = 0
 ·rw [if_pos c5] at H
  have c5b0 : (t104 == 0) = true := beq_iff_eq.mpr c5
  have c5b1 : (t104 != 0) = false := bne_eq_false_iff_eq.mpr c5
  clear c5
  replace H := Option.bind_eq_some_iff.mp H
  obtain ⟨⟨t105, t106⟩, A60, H⟩ := H
  try dsimp only at H
  have A6 := Aside0.mk A60
  clear A60
  replace H := Option.bind_eq_some_iff.mp H
  obtain ⟨⟨t107, t108⟩, A70, H⟩ := H
  try dsimp only at H
  have A7 := Aside0.mk A70
  clear A70
  replace H := Option.bind_eq_some_iff.mp H
  obtain ⟨t109, A80, H⟩ := H
  try dsimp only at H
  have A8 := Aside0.mk A80
  clear A80
  obtain rfl := Option.some.inj H
  go_enter Try.func111, Try.ntmps111
  try go_wp2_with (first | ((with_reducible refine gate_dst (N := 3) rfl ?_); refine bxe 3 #[.int .i64 a0_0, .int .i64 a0_1] 41 ?_; intro gb101 hg w9 hbox hb; have BK101 := Aside0.mk (hbox); have GW101 := ga w hg; have GE101 := GW101; replace HB := bz hb; clear hb hbox hg) | ((with_reducible refine gate_dst (N := 4) rfl ?_); refine bxe 4 #[.int .i64 a1_0, .int .i64 a1_1] 41 ?_; intro gb102 hg w10 hbox hb; have BK102 := Aside0.mk (hbox); have GW102 := ga w hg; have GE102 := GW102; have NB101_102 := nb hg (kl BK101); have NB102_101 := bn NB101_102; replace BK101 := kb BK101 hb; replace HB := bz hb; clear hb hbox hg) | ((with_reducible refine gate_dst (N := 5) rfl ?_); refine bxe 5 #[.int .i64 a2_0, .int .i64 a2_1] 41 ?_; intro gb103 hg w11 hbox hb; have BK103 := Aside0.mk (hbox); have GW103 := ga w hg; have GE103 := GW103; have NB101_103 := nb hg (kl BK101); have NB103_101 := bn NB101_103; have NB102_103 := nb hg (kl BK102); have NB103_102 := bn NB102_103; replace BK101 := kb BK101 hb; replace BK102 := kb BK102 hb; replace HB := bz hb; clear hb hbox hg))
  replace BK101 := Aside0.mk (blk_drew BK101.out)
  replace BK102 := Aside0.mk (blk_drew BK102.out)
  replace BK103 := Aside0.mk (blk_drew BK103.out)
  replace HB := Aside0.mk (below_drew1 HB.out)
  refine start_ (n := 16) (S := fun w' => w'.cell? ⟨gb101, 0, none⟩ = some (.int .i64 a0_0) ∧ w'.cell? ⟨gb101, 1, none⟩ = some (.int .i64 a0_1) ∧ w'.cell? ⟨gb102, 0, none⟩ = some (.int .i64 a1_0) ∧ w'.cell? ⟨gb102, 1, none⟩ = some (.int .i64 a1_1) ∧ w'.cell? ⟨gb103, 0, none⟩ = some (.int .i64 a2_0) ∧ w'.cell? ⟨gb103, 1, none⟩ = some (.int .i64 a2_1)) (ds := []) #[N,N,N,N,N,N,N,N,N,N,N,N,N,N,N,N] (by kernel_rfl) rfl rfl ⟨bc BK101 0, bc BK101 1, bc BK102 0, bc BK102 1, bc BK103 0, bc BK103 1⟩ (fun hHeld => ?_); refine with_tabW shape_on.tab1 shape_on.bits1 (fun HT_ HW_ => ?_)
  generalize w11.drew = w12 at BK101 BK102 BK103 HB hHeld ⊢
  refine tk6 0 7 hHeld HT_ HW_ ?_
  refine tk6 1 8 hHeld HT_ HW_ ?_
  refine tk6 2 9 hHeld HT_ HW_ ?_
  refine one_ (i := 3) (N := some 10) #[T,T,T,T,N,N,N,N,N,N,N,N,N,N,N,N] rfl rfl (on1 HT_) (by decide) (fun K hK => ?_)
  refine goes_ Try.func98 (by kernel_rfl) rfl #[.agg #[.int .i64 a0_0, .int .i64 a0_1], .agg #[.int .i64 a1_0, .int .i64 a1_1], .agg #[.int .i64 a2_0, .int .i64 a2_1]] (by rfl) rfl rfl sg ?_
  with_reducible refine (shape_side.calls a0_0 a0_1 a1_0 a1_1 a2_0 a2_1 t104 _ A4.out).mono ?_
  rintro e w13 ⟨rfl, hb⟩
  refine ⟨_, rfl, ?_⟩
  replace BK101 := kb BK101 hb
  replace BK102 := kb BK102 hb
  replace BK103 := kb BK103 hb
  replace HB := bz hb
  (try clear hb)
  refine hK.out _ _ ⟨bc BK101 0, bc BK101 1, bc BK102 0, bc BK102 1, bc BK103 0, bc BK103 1⟩ (fun hHeld => ?_)
  clear hK K
  refine nm 10 ?_
  refine pu 4 11 HT_ ?_
  refine pu 5 12 HT_ ?_
  refine tk6 6 13 hHeld HT_ HW_ ?_
  refine tk6 7 14 hHeld HT_ HW_ ?_
  refine tk6 9 16 hHeld HT_ HW_ ?_
  refine tk6 10 17 hHeld HT_ HW_ ?_
  refine one_ (i := 8) (N := some 15) #[T,T,T,T,T,T,T,T,T,T,T,N,N,N,N,N] rfl rfl (on1 HT_) (by decide) (fun K hK => ?_)
  refine goes_ Try.func53 (by kernel_rfl) rfl #[.agg #[.int .i64 a0_0, .int .i64 a0_1], .agg #[.int .i64 a2_0, .int .i64 a2_1]] (by rfl) rfl rfl sg ?_
  with_reducible refine (shape_sub.calls a0_0 a0_1 a2_0 a2_1 t105 t106 _ A6.out).mono ?_
  rintro e w14 ⟨rfl, hb⟩
  refine ⟨_, rfl, ?_⟩
  replace BK101 := kb BK101 hb
  replace BK102 := kb BK102 hb
  replace BK103 := kb BK103 hb
  replace HB := bz hb
  (try clear hb)
  refine hK.out _ _ ⟨bc BK101 0, bc BK101 1, bc BK102 0, bc BK102 1, bc BK103 0, bc BK103 1⟩ (fun hHeld => ?_)
  clear hK K
  refine nm 15 ?_
  refine one_ (i := 11) (N := some 18) #[T,T,T,T,T,T,T,T,T,T,T,T,N,N,N,N] rfl rfl (on1 HT_) (by decide) (fun K hK => ?_)
  refine goes_ Try.func53 (by kernel_rfl) rfl #[.agg #[.int .i64 a1_0, .int .i64 a1_1], .agg #[.int .i64 a2_0, .int .i64 a2_1]] (by rfl) rfl rfl sg ?_
  with_reducible refine (shape_sub.calls a1_0 a1_1 a2_0 a2_1 t107 t108 _ A7.out).mono ?_
  rintro e w15 ⟨rfl, hb⟩
  refine ⟨_, rfl, ?_⟩
  replace BK101 := kb BK101 hb
  replace BK102 := kb BK102 hb
  replace BK103 := kb BK103 hb
  replace HB := bz hb
  (try clear hb)
  refine hK.out _ _ ⟨bc BK101 0, bc BK101 1, bc BK102 0, bc BK102 1, bc BK103 0, bc BK103 1⟩ (fun hHeld => ?_)
  clear hK K
  refine nm 18 ?_
  refine one_ (i := 12) (N := some 19) #[T,T,T,T,T,T,T,T,T,T,T,T,T,N,N,N] rfl rfl (on1 HT_) (by decide) (fun K hK => ?_)
  refine goes_ Try.func80 (by kernel_rfl) rfl #[.agg #[.int .i64 t105, .int .i64 t106], .agg #[.int .i64 t107, .int .i64 t108]] (by rfl) rfl rfl sg ?_
  with_reducible refine (shape_dot.calls t105 t106 t107 t108 t109 _ A8.out).mono ?_
  rintro e w16 ⟨rfl, hb⟩
  refine ⟨_, rfl, ?_⟩
  replace BK101 := kb BK101 hb
  replace BK102 := kb BK102 hb
  replace BK103 := kb BK103 hb
  replace HB := bz hb
  (try clear hb)
  refine hK.out _ _ ⟨bc BK101 0, bc BK101 1, bc BK102 0, bc BK102 1, bc BK103 0, bc BK103 1⟩ (fun hHeld => ?_)
  clear hK K
  refine nm 19 ?_
  refine pu 13 20 HT_ ?_
  refine pu 14 21 HT_ ?_
  refine pu 15 6 HT_ ?_
  refine done_ (done_of HT_.out (by kernel_rfl)) ?_
  try go_wp2
  go_ret
  exact ⟨by exact er, bh⟩
 ·rw [if_neg c5] at H
  have c5b0 : (t104 == 0) = false := beq_eq_false_iff_ne.mpr c5
  have c5b1 : (t104 != 0) = true := bne_iff_ne.mpr c5
  obtain rfl := Option.some.inj H
  go_enter Try.func111, Try.ntmps111
  try go_wp2_with (first | ((with_reducible refine gate_dst (N := 3) rfl ?_); refine bxe 3 #[.int .i64 a0_0, .int .i64 a0_1] 41 ?_; intro gb101 hg w17 hbox hb; have BK101 := Aside0.mk (hbox); have GW101 := ga w hg; have GE101 := GW101; replace HB := bz hb; clear hb hbox hg) | ((with_reducible refine gate_dst (N := 4) rfl ?_); refine bxe 4 #[.int .i64 a1_0, .int .i64 a1_1] 41 ?_; intro gb102 hg w18 hbox hb; have BK102 := Aside0.mk (hbox); have GW102 := ga w hg; have GE102 := GW102; have NB101_102 := nb hg (kl BK101); have NB102_101 := bn NB101_102; replace BK101 := kb BK101 hb; replace HB := bz hb; clear hb hbox hg) | ((with_reducible refine gate_dst (N := 5) rfl ?_); refine bxe 5 #[.int .i64 a2_0, .int .i64 a2_1] 41 ?_; intro gb103 hg w19 hbox hb; have BK103 := Aside0.mk (hbox); have GW103 := ga w hg; have GE103 := GW103; have NB101_103 := nb hg (kl BK101); have NB103_101 := bn NB101_103; have NB102_103 := nb hg (kl BK102); have NB103_102 := bn NB102_103; replace BK101 := kb BK101 hb; replace BK102 := kb BK102 hb; replace HB := bz hb; clear hb hbox hg))
  replace BK101 := Aside0.mk (blk_drew BK101.out)
  replace BK102 := Aside0.mk (blk_drew BK102.out)
  replace BK103 := Aside0.mk (blk_drew BK103.out)
  replace HB := Aside0.mk (below_drew1 HB.out)
  refine start_ (n := 16) (S := fun w' => w'.cell? ⟨gb101, 0, none⟩ = some (.int .i64 a0_0) ∧ w'.cell? ⟨gb101, 1, none⟩ = some (.int .i64 a0_1) ∧ w'.cell? ⟨gb102, 0, none⟩ = some (.int .i64 a1_0) ∧ w'.cell? ⟨gb102, 1, none⟩ = some (.int .i64 a1_1) ∧ w'.cell? ⟨gb103, 0, none⟩ = some (.int .i64 a2_0) ∧ w'.cell? ⟨gb103, 1, none⟩ = some (.int .i64 a2_1)) (ds := []) #[N,N,N,N,N,N,N,N,N,N,N,N,N,N,N,N] (by kernel_rfl) rfl rfl ⟨bc BK101 0, bc BK101 1, bc BK102 0, bc BK102 1, bc BK103 0, bc BK103 1⟩ (fun hHeld => ?_); refine with_tabW shape_on.tab1 shape_on.bits1 (fun HT_ HW_ => ?_)
  generalize w19.drew = w20 at BK101 BK102 BK103 HB hHeld ⊢
  refine tk6 0 7 hHeld HT_ HW_ ?_
  refine tk6 1 8 hHeld HT_ HW_ ?_
  refine tk6 2 9 hHeld HT_ HW_ ?_
  refine one_ (i := 3) (N := some 10) #[T,T,T,T,N,N,N,N,N,N,N,N,N,N,N,N] rfl rfl (on1 HT_) (by decide) (fun K hK => ?_)
  refine goes_ Try.func98 (by kernel_rfl) rfl #[.agg #[.int .i64 a0_0, .int .i64 a0_1], .agg #[.int .i64 a1_0, .int .i64 a1_1], .agg #[.int .i64 a2_0, .int .i64 a2_1]] (by rfl) rfl rfl sg ?_
  with_reducible refine (shape_side.calls a0_0 a0_1 a1_0 a1_1 a2_0 a2_1 t104 _ A4.out).mono ?_
  rintro e w21 ⟨rfl, hb⟩
  refine ⟨_, rfl, ?_⟩
  replace BK101 := kb BK101 hb
  replace BK102 := kb BK102 hb
  replace BK103 := kb BK103 hb
  replace HB := bz hb
  (try clear hb)
  refine hK.out _ _ ⟨bc BK101 0, bc BK101 1, bc BK102 0, bc BK102 1, bc BK103 0, bc BK103 1⟩ (fun hHeld => ?_)
  clear hK K
  refine nm 10 ?_
  refine pu 4 11 HT_ ?_
  refine pu 5 12 HT_ ?_
  refine pz 6 13 HT_ ?_
  refine pz 7 14 HT_ ?_
  refine pz 8 15 HT_ ?_
  refine pz 9 16 HT_ ?_
  refine pz 10 17 HT_ ?_
  refine pz 11 18 HT_ ?_
  refine pz 12 19 HT_ ?_
  refine pz 13 20 HT_ ?_
  refine pu 14 21 HT_ ?_
  refine pu 15 6 HT_ ?_
  refine done_ (done_of HT_.out (by kernel_rfl)) ?_
  try go_wp2
  go_ret
  exact ⟨by exact er, bh⟩
end Go.Proofs.Ythehmkpcddafnaa.PG
end
