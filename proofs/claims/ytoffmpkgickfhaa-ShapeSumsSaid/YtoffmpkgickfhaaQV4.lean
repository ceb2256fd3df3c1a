/- Parts of the proof of YtoffmpkgickfhaaLawShapeSums: printed walks, their words, and plain laws. -/
import Derived.Test.YtoffmpkgickfhaaQV1
import Derived.Test.YtoffmpkgickfhaaQV2
import Derived.Test.YtoffmpkgickfhaaQV3
section
namespace Go.Proofs.Ytoffmpkgickfhaa.PG
open Go.RowKit Go.Proofs.YtoffmpkgickfhaaW.PrintWords Go.Proofs.YtoffmpkgickfhaaW.PrintLast Go.Proofs.YtoffmpkgickfhaaW.PrintMore
attribute [local go_sem] max2_int min2_int max_two min_two max_three min_three max_four min_four
set_option linter.unusedVariables false
set_option linter.unusedSimpArgs false
attribute [local go_sem high] eqA29
/-! ### shape_simple: function 69 -/
mutual
def shape_simple.l0 : Nat → List (S29) → Int → Int → Int → Option (Bool)
 | 0, _, _, _, _ => none
 | k + 1, x0, x3, x12, x13 => if x13 < x12 then (if x3 = 0 then (none) else (if 0 ≤ (Int.tmod (wrap64 ((wrap64 (x13 + x3)) - 1)) x3) then (if (Int.tmod (wrap64 ((wrap64 (x13 + x3)) - 1)) x3) < (x0.length : Int) then (if 0 ≤ (Int.tmod (wrap64 (x13 + 1)) x3) then (if (Int.tmod (wrap64 (x13 + 1)) x3) < (x0.length : Int) then (if 0 ≤ x13 then (if x13 < (x0.length : Int) then (if (((rd_T29 x0 x13).f0) == ((rd_T29 x0 (Int.tmod (wrap64 (x13 + 1)) x3)).f0) && (((rd_T29 x0 x13).f1) == ((rd_T29 x0 (Int.tmod (wrap64 (x13 + 1)) x3)).f1))) = true then (some false) else ((shape_sub.f ((rd_T29 x0 (Int.tmod (wrap64 ((wrap64 (x13 + x3)) - 1)) x3)).f0) ((rd_T29 x0 (Int.tmod (wrap64 ((wrap64 (x13 + x3)) - 1)) x3)).f1) ((rd_T29 x0 x13).f0) ((rd_T29 x0 x13).f1)).bind fun bt107 => ((shape_sub.f ((rd_T29 x0 (Int.tmod (wrap64 (x13 + 1)) x3)).f0) ((rd_T29 x0 (Int.tmod (wrap64 (x13 + 1)) x3)).f1) ((rd_T29 x0 x13).f0) ((rd_T29 x0 x13).f1)).bind fun bt110 => ((shape_cross.f bt107.1 bt107.2 bt110.1 bt110.2).bind fun t114 => (if t114 = 0 then ((shape_dot.f bt107.1 bt107.2 bt110.1 bt110.2).bind fun t115 => (shape_simple.j1 k x0 x3 x13 x12 x13 (decide (t115 > 0)) ((rd_T29 x0 (Int.tmod (wrap64 (x13 + 1)) x3)).f0) ((rd_T29 x0 (Int.tmod (wrap64 (x13 + 1)) x3)).f1))) else (shape_simple.j1 k x0 x3 x13 x12 x13 false ((rd_T29 x0 (Int.tmod (wrap64 (x13 + 1)) x3)).f0) ((rd_T29 x0 (Int.tmod (wrap64 (x13 + 1)) x3)).f1))))))) else (none)) else (none)) else (none)) else (none)) else (none)) else (none))) else (some true)
def shape_simple.j1 : Nat → List (S29) → Int → Int → Int → Int → Bool → Int → Int → Option (Bool)
 | 0, _, _, _, _, _, _, _, _ => none
 | k + 1, x0, x3, x4, x12, x13, x59, x105000, x105001 => if x59 = true then (some false) else (shape_simple.l1 k x0 x3 x4 x12 x13 x4 0 x105000 x105001)
def shape_simple.l1 : Nat → List (S29) → Int → Int → Int → Int → Int → Int → Int → Int → Option (Bool)
 | 0, _, _, _, _, _, _, _, _, _ => none
 | k + 1, x0, x3, x4, x12, x13, x60, x61, x105000, x105001 => if x61 < x60 then (if (wrap64 (x61 + 1)) = x4 then (shape_simple.j3 k x0 x3 x4 x12 x13 x60 x61 false x105000 x105001) else (if x61 = 0 then (if x4 = (wrap64 (x3 - 1)) then (shape_simple.j3 k x0 x3 x4 x12 x13 x60 x61 false x105000 x105001) else (if 0 ≤ x4 then (if x4 < (x0.length : Int) then (if 0 ≤ x61 then (if x61 < (x0.length : Int) then (if 0 ≤ (wrap64 (x61 + 1)) then (if (wrap64 (x61 + 1)) < (x0.length : Int) then ((shape_meet.f k ((rd_T29 x0 x4).f0) ((rd_T29 x0 x4).f1) x105000 x105001 ((rd_T29 x0 x61).f0) ((rd_T29 x0 x61).f1) ((rd_T29 x0 (wrap64 (x61 + 1))).f0) ((rd_T29 x0 (wrap64 (x61 + 1))).f1)).bind fun t119 => (shape_simple.j3 k x0 x3 x4 x12 x13 x60 x61 t119 x105000 x105001)) else (none)) else (none)) else (none)) else (none)) else (none)) else (none))) else (if 0 ≤ x4 then (if x4 < (x0.length : Int) then (if 0 ≤ x61 then (if x61 < (x0.length : Int) then (if 0 ≤ (wrap64 (x61 + 1)) then (if (wrap64 (x61 + 1)) < (x0.length : Int) then ((shape_meet.f k ((rd_T29 x0 x4).f0) ((rd_T29 x0 x4).f1) x105000 x105001 ((rd_T29 x0 x61).f0) ((rd_T29 x0 x61).f1) ((rd_T29 x0 (wrap64 (x61 + 1))).f0) ((rd_T29 x0 (wrap64 (x61 + 1))).f1)).bind fun t123 => (shape_simple.j3 k x0 x3 x4 x12 x13 x60 x61 t123 x105000 x105001)) else (none)) else (none)) else (none)) else (none)) else (none)) else (none)))) else (shape_simple.l0 k x0 x3 x12 (wrap64 (x13 + 1)))
def shape_simple.j3 : Nat → List (S29) → Int → Int → Int → Int → Int → Int → Bool → Int → Int → Option (Bool)
 | 0, _, _, _, _, _, _, _, _, _, _ => none
 | k + 1, x0, x3, x4, x12, x13, x60, x61, x94, x105000, x105001 => if x94 = true then (some false) else (shape_simple.l1 k x0 x3 x4 x12 x13 x60 (wrap64 (x61 + 1)) x105000 x105001)
end
def shape_simple.f (k : Nat) (l0 : List (S29)) : Option (Bool) := shape_simple.l0 k l0 (l0.length : Int) (l0.length : Int) 0
def shape_simple.T5 : Bool × List (List Nat × List Nat) := (true, [([], []), ([], []), ([], []), ([1, 2], [1, 2]), ([3], [3]), ([], []), ([4, 5], [4, 5]), ([0, 6], [0, 6]), ([7], [7]), ([], []), ([], []), ([10], [10]), ([], []), ([11, 12], [11, 12]), ([9, 13], [9, 13]), ([14], [14]), ([], []), ([], []), ([16, 8, 0, 1, 2, 3, 4, 5, 6, 7, 8, 16, 17], [8, 16]), ([17, 15, 18, 0, 1, 2, 3, 4, 5, 6, 7, 8, 9, 10, 11, 12, 13, 14, 15, 16, 17, 18], [15, 17])])
def shape_simple.B5 : List Nat := [0, 0, 0, 6, 14, 0, 62, 127, 255, 0, 0, 1024, 0, 7168, 15872, 32256, 0, 0, 197119, 524287]
theorem shape_simple.tab5 : rtab .any (opsOf Try.f69 5) = shape_simple.T5 := by kernel_rfl
theorem shape_simple.bits5 : waitsOk shape_simple.T5.2 shape_simple.B5 = true := by kernel_rfl
def shape_simple.T8 : Bool × List (List Nat × List Nat) := (true, [([], []), ([], []), ([], []), ([1, 2], [1, 2]), ([3], [3]), ([0, 4], [0, 4]), ([], []), ([], []), ([], []), ([7, 8], [7, 8]), ([9], [9]), ([6, 10, 5], [6, 10]), ([], []), ([], []), ([12, 5, 11, 0, 1, 2, 3, 4, 5, 12, 13], [5, 12]), ([13, 11, 14, 0, 1, 2, 3, 4, 5, 6, 7, 8, 9, 10, 11, 12, 13, 14], [11, 13])])
def shape_simple.B8 : List Nat := [0, 0, 0, 6, 14, 31, 0, 0, 0, 384, 896, 2047, 0, 0, 16383, 32767]
theorem shape_simple.tab8 : rtab .any (opsOf Try.f69 8) = shape_simple.T8 := by kernel_rfl
theorem shape_simple.bits8 : waitsOk shape_simple.T8.2 shape_simple.B8 = true := by kernel_rfl
def shape_simple.T14 : Bool × List (List Nat × List Nat) := (true, [([], []), ([0], [0]), ([], []), ([1, 2], [1, 2]), ([3], [3]), ([4], [4]), ([5, 4], [4, 5]), ([6, 4, 4], [4, 6]), ([7], [7]), ([7], [7]), ([9, 7], [7, 9]), ([8, 10, 7], [7, 8, 10]), ([7, 11, 4], [4, 7, 11]), ([4, 12], [4, 12]), ([13, 7], [13]), ([14], [14]), ([14], [14]), ([15, 16, 14], [14, 15, 16]), ([17, 14], [14, 17]), ([14], [14]), ([14], [14]), ([14], [14]), ([20, 21, 14], [14, 20, 21]), ([22, 14], [14, 22]), ([14], [14]), ([14], [14]), ([25, 14], [14, 25]), ([24, 26, 14], [14, 24, 26]), ([27, 14], [14, 27]), ([18, 19, 23, 28, 14, 14], [14, 18, 19, 23, 28]), ([14, 29], [14, 29])])
def shape_simple.B14 : List Nat := [0, 1, 0, 7, 15, 31, 63, 127, 255, 255, 767, 2047, 4095, 8191, 16383, 32767, 32767, 131071, 262143, 32767, 32767, 32767, 3178495, 7372799, 32767, 32767, 33587199, 117473279, 251691007, 536870911, 1073741823]
theorem shape_simple.tab14 : rtab .any (opsOf Try.f69 14) = shape_simple.T14 := by kernel_rfl
theorem shape_simple.bits14 : waitsOk shape_simple.T14.2 shape_simple.B14 = true := by kernel_rfl
set_option maxHeartbeats 8000000 in
set_option maxRecDepth 100000 in
theorem shape_simple.calls (k : Nat) (A0 : Option Addr) (c0 : Nat) (l0 : List (S29)) (r : Bool) (w : World) (hr0 : Kd.C k29 w A0 l0.length l0) (hc0 : l0.length ≤ c0) (h : shape_simple.f k l0 = some r) :
  Calls Try.prog 69 #[.slice A0 l0.length c0] w fun e w' => e = .returned (.bool r) ∧ Below w.heap.size w w' := by
 have hu29 := Try.underlying29
 have HR0 := Aside0.mk hr0
 have HC0 := Aside0.mk hc0
 clear hr0 hc0
 have HB := Aside0.mk (Below.refl w.heap.size w)
 have H : (shape_simple.l0 k l0 (l0.length : Int) (l0.length : Int) 0) = some r := h
 clear h
 have H' := Aside0.mk H
 clear H
 go_enter Try.func69, Try.ntmps69
 go_wp2
 go_loopg [13] k (fun kq v13 w' => ∃ (x13_1 : Int), v13 = .int .i64 x13_1 ∧ Aside0 (shape_simple.l0 kq l0 (l0.length : Int) (l0.length : Int) x13_1 = some r) ∧ Aside0 (kq ≤ k) ∧ Aside0 (Below w.heap.size w w'))
 case atStart => exact ⟨(0), sd, H', ⟨Nat.le_refl _⟩, ⟨bh⟩⟩
 case round =>
  clear H'
  obtain ⟨x13_1, rfl, HA, HK1, HB⟩ := hrel
  cases gk with
  | zero => exact absurd HA.out (by simp [shape_simple.l0])
  | succ k1 =>
   have H := HA.out
   clear HA
   simp only [shape_simple.l0] at H
   by_cases c2 : x13_1 < (l0.length : Int)
   ·rw [if_pos c2] at H
    have c2b0 := decide_eq_true c2
    clear c2
    replace H := oj H
    obtain ⟨c3, H⟩ := H
    have c3b0 : ((l0.length : Int) == 0) = false := beq_eq_false_iff_ne.mpr c3
    have c3b1 : ((l0.length : Int) != 0) = true := bne_iff_ne.mpr c3
    have c3b2 : ¬ (l0 = []) := fun h_ => c3 (by rw [h_]; rfl)
    obtain ⟨ji4, hji4⟩ : ∃ j_ : Int, (Int.tmod (wrap64 ((wrap64 (x13_1 + (l0.length : Int))) - 1)) (l0.length : Int)) = j_ := ⟨_, rfl⟩
    first | rw [hji4] at H | simp only [hji4] at H
    replace H := oi H
    obtain ⟨c5, H⟩ := H
    have c5b0 := decide_eq_true c5
    clear c5
    replace H := oi H
    obtain ⟨c6, H⟩ := H
    have c6b0 := decide_eq_true c6
    clear c6
    obtain ⟨ji7, hji7⟩ : ∃ j_ : Int, (Int.tmod (wrap64 (x13_1 + 1)) (l0.length : Int)) = j_ := ⟨_, rfl⟩
    first | rw [hji7] at H | simp only [hji7] at H
    replace H := oi H
    obtain ⟨c8, H⟩ := H
    have c8b0 := decide_eq_true c8
    clear c8
    replace H := oi H
    obtain ⟨c9, H⟩ := H
    have c9b0 := decide_eq_true c9
    clear c9
    replace H := oi H
    obtain ⟨c10, H⟩ := H
    have c10b0 := decide_eq_true c10
    clear c10
    replace H := oi H
    obtain ⟨c11, H⟩ := H
    have c11b0 := decide_eq_true c11
    clear c11
    by_cases c12 : (((rd_T29 l0 x13_1).f0) == ((rd_T29 l0 (ji7)).f0) && (((rd_T29 l0 x13_1).f1) == ((rd_T29 l0 (ji7)).f1))) = true
    ·rw [if_pos c12] at H
     have c12b0 : (((rd_T29 l0 x13_1).f0) == ((rd_T29 l0 (ji7)).f0) && (((rd_T29 l0 x13_1).f1) == ((rd_T29 l0 (ji7)).f1))) = true := c12
     (try (have c12b1 : decide (((rd_T29 l0 x13_1).f0) = ((rd_T29 l0 (ji7)).f0) && (((rd_T29 l0 x13_1).f1) == ((rd_T29 l0 (ji7)).f1))) = true := by simpa using c12))
     (try (have c12b2 : (((rd_T29 l0 x13_1).f0) == ((rd_T29 l0 (ji7)).f0) && (((rd_T29 l0 x13_1).f1) == ((rd_T29 l0 (ji7)).f1))) = true := by simpa using c12))
     clear c12
     obtain rfl := Option.some.inj H
     try go_wp2
     replace HB := Aside0.mk (below_drew1 HB.out)
     have p101 : 0 ≤ ((ji4) : Int) := dt
     have q101 : (ji4) < (l0.length : Int) := dt
     obtain ⟨ad101, e101, hx101_0, hx101_1⟩ := at_T29 HR0.out (ji4) p101 q101
     have hw101_1 := hx101_1
     have hw101_0 := hx101_0
     cases e101
     replace hx101_0 := hc HB hx101_0
     replace hx101_1 := hc HB hx101_1
     replace p101 := eq_true p101
     replace q101 := eq_true q101
     have p102 : 0 ≤ ((ji7) : Int) := dt
     have q102 : (ji7) < (l0.length : Int) := dt
     obtain ⟨ad102, e102, hx102_0, hx102_1⟩ := at_T29 HR0.out (ji7) p102 q102
     have hw102_1 := hx102_1
     have hw102_0 := hx102_0
     obtain rfl : ad101 = ad102 := (by injection e102)
     replace hx102_0 := hc HB hx102_0
     replace hx102_1 := hc HB hx102_1
     replace p102 := eq_true p102
     replace q102 := eq_true q102
     refine start_ (n := 20) (S := fun w' => w'.cell? (ad101.add (((ji4)).toNat * 2)) = some (.int .i64 ((rd_T29 l0 (ji4)).f0)) ∧ w'.cell? ⟨(ad101.add (((ji4)).toNat * 2)).block, (ad101.add (((ji4)).toNat * 2)).off + 1, none⟩ = some (.int .i64 ((rd_T29 l0 (ji4)).f1)) ∧ w'.cell? (ad101.add (((ji7)).toNat * 2)) = some (.int .i64 ((rd_T29 l0 (ji7)).f0)) ∧ w'.cell? ⟨(ad101.add (((ji7)).toNat * 2)).block, (ad101.add (((ji7)).toNat * 2)).off + 1, none⟩ = some (.int .i64 ((rd_T29 l0 (ji7)).f1))) (ds := []) #[N,N,N,N,N,N,N,N,N,N,N,N,N,N,N,N,N,N,N,N] (by kernel_rfl) rfl rfl ⟨(hc HB hw101_0), (hc HB hw101_1), (hc HB hw102_0), (hc HB hw102_1)⟩ (fun hHeld => ?_); refine with_tabW shape_simple.tab5 shape_simple.bits5 (fun HT_ HW_ => ?_)
     generalize wr.drew = w13 at HB hx101_0 hx101_1 hx102_0 hx102_1 hHeld ⊢
     refine pu 0 16 HT_ ?_
     refine pu 1 17 HT_ ?_
     refine pu 2 18 HT_ ?_
     refine pu 3 19 HT_ ?_
     refine pu 4 20 HT_ ?_
     refine pu 5 21 HT_ ?_
     refine pu 6 22 HT_ ?_
     refine pu 7 23 HT_ ?_
     refine pu 9 25 HT_ ?_
     refine pu 10 26 HT_ ?_
     refine pu 11 27 HT_ ?_
     refine pu 12 28 HT_ ?_
     refine pu 13 29 HT_ ?_
     refine pu 14 30 HT_ ?_
     refine tk4 8 24 hHeld HT_ HW_ ?_
     refine tk4 15 31 hHeld HT_ HW_ ?_
     refine join_ (σ := Nat × Nat) 2 #[T,T,T,T,T,T,T,T,T,T,T,T,T,T,T,T,T,T,N,N] (fun s_ => [(5, .pointer (some ⟨s_.1, 0, none⟩)), (6, .pointer (some ⟨s_.2, 0, none⟩))]) (fun s_ w' => (w'.cell? (ad101.add (((ji4)).toNat * 2)) = some (.int .i64 ((rd_T29 l0 (ji4)).f0)) ∧ w'.cell? ⟨(ad101.add (((ji4)).toNat * 2)).block, (ad101.add (((ji4)).toNat * 2)).off + 1, none⟩ = some (.int .i64 ((rd_T29 l0 (ji4)).f1)) ∧ w'.cell? (ad101.add (((ji7)).toNat * 2)) = some (.int .i64 ((rd_T29 l0 (ji7)).f0)) ∧ w'.cell? ⟨(ad101.add (((ji7)).toNat * 2)).block, (ad101.add (((ji7)).toNat * 2)).off + 1, none⟩ = some (.int .i64 ((rd_T29 l0 (ji7)).f1))) ∧ (w'.heap[s_.1]? = some (.cells #[.int .i64 0, .int .i64 0] 29 (0, 0))) ∧ (w'.heap[s_.2]? = some (.cells #[.int .i64 0, .int .i64 0] 29 (0, 0))) ∧ (w.heap.size ≤ s_.1) ∧ (w.heap.size ≤ s_.1) ∧ (s_.2 ≠ s_.1) ∧ (s_.1 ≠ s_.2) ∧ (w.heap.size ≤ s_.2) ∧ (w.heap.size ≤ s_.2) ∧ (Below w.heap.size w w')) ?_ ?_
     rotate_left
     ·intro hCont
      refine two_ (i := 16) (j := 17) (Ni := some 5) (Nj := some 6) #[T,T,T,T,T,T,T,T,T,T,T,T,T,T,T,T,T,N,N,N] #[T,T,T,T,T,T,T,T,T,T,T,T,T,T,T,T,N,T,N,N] rfl rfl rfl rfl (on2 HT_) (by decide) (by decide) (fun K hK => ?_) (fun K hK => ?_)
      ·skip
       refine bxs 5 #[.int .i64 0, .int .i64 0] 29 ?_
       intro gb103 hg w14 hbox hb
       have BK103 := Aside0.mk (hbox)
       have GW103 := Aside0.mk (gs hg : w.heap.size ≤ gb103)
       have GE103 := Aside0.mk (gs hg : w.heap.size ≤ gb103)
       replace HB := Aside0.mk (below_step bh hb)
       clear hb hbox hg
       refine hK.out _ _ ⟨(hc HB hw101_0), (hc HB hw101_1), (hc HB hw102_0), (hc HB hw102_1)⟩ (fun hHeld => ?_)
       clear hK K
       refine nm 5 ?_
       refine one_ (i := 17) (N := some 6) #[T,T,T,T,T,T,T,T,T,T,T,T,T,T,T,T,T,T,N,N] rfl rfl (on1 HT_) (by decide) (fun K hK => ?_)
       refine bxs 6 #[.int .i64 0, .int .i64 0] 29 ?_
       intro gb104 hg w15 hbox hb
       have BK104 := Aside0.mk (hbox)
       have GW104 := Aside0.mk (gs hg : w.heap.size ≤ gb104)
       have GE104 := Aside0.mk (gs hg : w.heap.size ≤ gb104)
       have NB103_104 := Aside0.mk ((by rw [hg]; exact Nat.ne_of_lt (kl BK103) : gb103 ≠ gb104))
       have NB104_103 := Aside0.mk ((by rw [hg]; exact Nat.ne_of_gt (kl BK103) : gb104 ≠ gb103))
       replace BK103 := kb BK103 hb
       replace HB := Aside0.mk (below_step bh hb)
       clear hb hbox hg
       refine hK.out _ _ ⟨(hc HB hw101_0), (hc HB hw101_1), (hc HB hw102_0), (hc HB hw102_1)⟩ (fun hHeld => ?_)
       clear hK K
       refine nm 6 ?_
       exact norm_ pa (hCont (gb103, gb104) _ ⟨hHeld, bk BK103, bk BK104, GW103.out, GE103.out, NB104_103.out, NB103_104.out, GW104.out, GE104.out, bh⟩)
      ·skip
       refine bxs 6 #[.int .i64 0, .int .i64 0] 29 ?_
       intro gb104 hg w14 hbox hb
       have BK104 := Aside0.mk (hbox)
       have GW104 := Aside0.mk (gs hg : w.heap.size ≤ gb104)
       have GE104 := Aside0.mk (gs hg : w.heap.size ≤ gb104)
       replace HB := Aside0.mk (below_step bh hb)
       clear hb hbox hg
       refine hK.out _ _ ⟨(hc HB hw101_0), (hc HB hw101_1), (hc HB hw102_0), (hc HB hw102_1)⟩ (fun hHeld => ?_)
       clear hK K
       refine nm 6 ?_
       refine one_ (i := 16) (N := some 5) #[T,T,T,T,T,T,T,T,T,T,T,T,T,T,T,T,T,T,N,N] rfl rfl (on1 HT_) (by decide) (fun K hK => ?_)
       refine bxs 5 #[.int .i64 0, .int .i64 0] 29 ?_
       intro gb103 hg w15 hbox hb
       have BK103 := Aside0.mk (hbox)
       have GW103 := Aside0.mk (gs hg : w.heap.size ≤ gb103)
       have GE103 := Aside0.mk (gs hg : w.heap.size ≤ gb103)
       have NB104_103 := Aside0.mk ((by rw [hg]; exact Nat.ne_of_lt (kl BK104) : gb104 ≠ gb103))
       have NB103_104 := Aside0.mk ((by rw [hg]; exact Nat.ne_of_gt (kl BK104) : gb103 ≠ gb104))
       replace BK104 := kb BK104 hb
       replace HB := Aside0.mk (below_step bh hb)
       clear hb hbox hg
       refine hK.out _ _ ⟨(hc HB hw101_0), (hc HB hw101_1), (hc HB hw102_0), (hc HB hw102_1)⟩ (fun hHeld => ?_)
       clear hK K
       refine nm 5 ?_
       exact norm_ pa (hCont (gb103, gb104) _ ⟨hHeld, bk BK103, bk BK104, GW103.out, GE103.out, NB104_103.out, NB103_104.out, GW104.out, GE104.out, bh⟩)
     rintro ⟨gb103, gb104⟩ w16 ⟨hS_, h0_, h1_, h2_, h3_, h4_, h5_, h6_, h7_, h8_⟩
     have BK103 := Aside0.mk h0_
     have BK104 := Aside0.mk h1_
     have GW103 := Aside0.mk h2_
     have GE103 := Aside0.mk h3_
     have NB104_103 := Aside0.mk h4_
     have NB103_104 := Aside0.mk h5_
     have GW104 := Aside0.mk h6_
     have GE104 := Aside0.mk h7_
     replace HB := Aside0.mk h8_
     clear h0_ h1_ h2_ h3_ h4_ h5_ h6_ h7_ h8_
     have hHeld := hS_
     refine nn ?_
     refine one_ (i := 18) (N := none) #[T,T,T,T,T,T,T,T,T,T,T,T,T,T,T,T,T,T,T,N] rfl rfl (on1 HT_) (by decide) (fun K hK => ?_)
     have hs17 : w16.cell? ⟨gb103, 0, none⟩ = some (.int .i64 0) := bc BK103 0
     have hfs17 := blk_frozen BK103.out 0
     have hns17_1 := NB104_103.out
     have hms17_1 := NB103_104.out
     have hs18 : w16.cell? ⟨gb103, 1, none⟩ = some (.int .i64 0) := bc BK103 1
     have hfs18 := blk_frozen BK103.out 1
     have hns18_1 := NB104_103.out
     have hms18_1 := NB103_104.out
     refine skip_ (w1 := ?_) (by rfl) rfl ?_ ?_
     rotate_left
     ·go_simp
      rfl
     refine hK.out _ _ ⟨((cell_far (p := ⟨gb103, _, none⟩) (fr hw101_0 GW103) _).trans (((cell_far (p := ⟨gb103, _, none⟩) (fr hw101_0 GW103) _).trans (hHeld.1)))), ((cell_far (p := ⟨gb103, _, none⟩) (fr hw101_1 GW103) _).trans (((cell_far (p := ⟨gb103, _, none⟩) (fr hw101_1 GW103) _).trans (hHeld.2.1)))), ((cell_far (p := ⟨gb103, _, none⟩) (fr hw102_0 GW103) _).trans (((cell_far (p := ⟨gb103, _, none⟩) (fr hw102_0 GW103) _).trans (hHeld.2.2.1)))), ((cell_far (p := ⟨gb103, _, none⟩) (fr hw102_1 GW103) _).trans (((cell_far (p := ⟨gb103, _, none⟩) (fr hw102_1 GW103) _).trans (hHeld.2.2.2))))⟩ (fun hHeld => ?_)
     clear hK K
     refine one_ (i := 19) (N := none) #[T,T,T,T,T,T,T,T,T,T,T,T,T,T,T,T,T,T,T,T] rfl rfl (on1 HT_) (by decide) (fun K hK => ?_)
     have hs19 : w16.cell? ⟨gb104, 0, none⟩ = some (.int .i64 0) := bc BK104 0
     have hfs19 := blk_frozen BK104.out 0
     have hns19_0 := NB103_104.out
     have hms19_0 := NB104_103.out
     have hs20 : w16.cell? ⟨gb104, 1, none⟩ = some (.int .i64 0) := bc BK104 1
     have hfs20 := blk_frozen BK104.out 1
     have hns20_0 := NB103_104.out
     have hms20_0 := NB104_103.out
     refine skip_ (w1 := ?_) (by rfl) rfl ?_ ?_
     rotate_left
     ·go_simp
      rfl
     refine hK.out _ _ ⟨((cell_far (p := ⟨gb104, _, none⟩) (fr hw101_0 GW104) _).trans (((cell_far (p := ⟨gb104, _, none⟩) (fr hw101_0 GW104) _).trans (hHeld.1)))), ((cell_far (p := ⟨gb104, _, none⟩) (fr hw101_1 GW104) _).trans (((cell_far (p := ⟨gb104, _, none⟩) (fr hw101_1 GW104) _).trans (hHeld.2.1)))), ((cell_far (p := ⟨gb104, _, none⟩) (fr hw102_0 GW104) _).trans (((cell_far (p := ⟨gb104, _, none⟩) (fr hw102_0 GW104) _).trans (hHeld.2.2.1)))), ((cell_far (p := ⟨gb104, _, none⟩) (fr hw102_1 GW104) _).trans (((cell_far (p := ⟨gb104, _, none⟩) (fr hw102_1 GW104) _).trans (hHeld.2.2.2))))⟩ (fun hHeld => ?_)
     clear hK K
     refine done_ (done_of HT_.out (by kernel_rfl)) ?_
     try go_wp2
     have n0_ : Aside0 (((((w16.setCell ⟨gb103, 0, none⟩ (.int .i64 ((rd_T29 l0 (ji4)).f0))).setCell ⟨gb103, 1, none⟩ (.int .i64 ((rd_T29 l0 (ji4)).f1))).setCell ⟨gb104, 0, none⟩ (.int .i64 ((rd_T29 l0 (ji7)).f0))).setCell ⟨gb104, 1, none⟩ (.int .i64 ((rd_T29 l0 (ji7)).f1))).heap[gb103]? = some (.cells #[.int .i64 ((rd_T29 l0 (ji4)).f0), .int .i64 ((rd_T29 l0 (ji4)).f1)] 29 (0, 0))) := ⟨by refine bd ?_; refine blk_far ?_ NB103_104.out _; refine bd ?_; refine blk_far ?_ NB103_104.out _; refine bd ?_; refine blk_put (cs := #[.int .i64 ((rd_T29 l0 (ji4)).f0), .int .i64 0]) ?_ 1 _ rfl; refine bd ?_; refine blk_put (cs := #[.int .i64 0, .int .i64 0]) ?_ 0 _ rfl; refine bd ?_; exact BK103.out⟩
     have n1_ : Aside0 (((((w16.setCell ⟨gb103, 0, none⟩ (.int .i64 ((rd_T29 l0 (ji4)).f0))).setCell ⟨gb103, 1, none⟩ (.int .i64 ((rd_T29 l0 (ji4)).f1))).setCell ⟨gb104, 0, none⟩ (.int .i64 ((rd_T29 l0 (ji7)).f0))).setCell ⟨gb104, 1, none⟩ (.int .i64 ((rd_T29 l0 (ji7)).f1))).heap[gb104]? = some (.cells #[.int .i64 ((rd_T29 l0 (ji7)).f0), .int .i64 ((rd_T29 l0 (ji7)).f1)] 29 (0, 0))) := ⟨by refine bd ?_; refine blk_put (cs := #[.int .i64 ((rd_T29 l0 (ji7)).f0), .int .i64 0]) ?_ 1 _ rfl; refine bd ?_; refine blk_put (cs := #[.int .i64 0, .int .i64 0]) ?_ 0 _ rfl; refine bd ?_; refine blk_far ?_ NB104_103.out _; refine bd ?_; refine blk_far ?_ NB104_103.out _; refine bd ?_; exact BK104.out⟩
     have n2_ : Aside0 (Below w.heap.size w ((((w16.setCell ⟨gb103, 0, none⟩ (.int .i64 ((rd_T29 l0 (ji4)).f0))).setCell ⟨gb103, 1, none⟩ (.int .i64 ((rd_T29 l0 (ji4)).f1))).setCell ⟨gb104, 0, none⟩ (.int .i64 ((rd_T29 l0 (ji7)).f0))).setCell ⟨gb104, 1, none⟩ (.int .i64 ((rd_T29 l0 (ji7)).f1)))) := ⟨bh⟩
     (try clear BK103); (try clear BK104); (try clear HB)
     generalize ((((w16.setCell ⟨gb103, 0, none⟩ (.int .i64 ((rd_T29 l0 (ji4)).f0))).setCell ⟨gb103, 1, none⟩ (.int .i64 ((rd_T29 l0 (ji4)).f1))).setCell ⟨gb104, 0, none⟩ (.int .i64 ((rd_T29 l0 (ji7)).f0))).setCell ⟨gb104, 1, none⟩ (.int .i64 ((rd_T29 l0 (ji7)).f1))) = w21 at n0_ n1_ n2_ ⊢
     have BK103 := n0_
     have BK104 := n1_
     have HB := n2_
     clear n0_ n1_ n2_
     replace BK103 := Aside0.mk (blk_drew BK103.out)
     replace BK104 := Aside0.mk (blk_drew BK104.out)
     replace HB := Aside0.mk (below_drew1 HB.out)
     have p105 : 0 ≤ (x13_1 : Int) := dt
     have q105 : x13_1 < (l0.length : Int) := dt
     obtain ⟨ad105, e105, hx105_0, hx105_1⟩ := at_T29 HR0.out x13_1 p105 q105
     have hw105_1 := hx105_1
     have hw105_0 := hx105_0
     obtain rfl : ad101 = ad105 := (by injection e105)
     replace hx105_0 := hc HB hx105_0
     replace hx105_1 := hc HB hx105_1
     replace p105 := eq_true p105
     replace q105 := eq_true q105
     refine start_ (n := 6) (S := fun w' => w'.cell? ⟨gb104, 0, none⟩ = some (.int .i64 ((rd_T29 l0 (ji7)).f0)) ∧ w'.cell? ⟨gb104, 1, none⟩ = some (.int .i64 ((rd_T29 l0 (ji7)).f1)) ∧ w'.cell? (ad101.add ((x13_1).toNat * 2)) = some (.int .i64 ((rd_T29 l0 x13_1).f0)) ∧ w'.cell? ⟨(ad101.add ((x13_1).toNat * 2)).block, (ad101.add ((x13_1).toNat * 2)).off + 1, none⟩ = some (.int .i64 ((rd_T29 l0 x13_1).f1))) (ds := []) #[N,N,N,N,N,N] (by kernel_rfl) rfl rfl ⟨bc BK104 0, bc BK104 1, (hc HB hw105_0), (hc HB hw105_1)⟩ (fun hHeld => ?_)
     generalize w21.drew = w22 at BK103 BK104 HB hx105_0 hx105_1 hHeld ⊢
     refine pure_ (i := 0) (N := some 32) (v := ?_) (a' := ?_) #[T,N,N,N,N,N] rfl rfl (by kernel_rfl) (fun _ _ _ h => h) (Or.inl ⟨by rfl, ?_⟩) ?_ ?_
     rotate_left
     ·intro w'
      go_simp
      with_reducible rfl
     rotate_left
     ·simp only [Act.put, List.setIfInBounds_toArray, List.set_cons_zero, List.set_cons_succ, i64_w, i32_w]
      rfl
     refine pure_ (i := 1) (N := some 33) (v := ?_) (a' := ?_) #[T,T,N,N,N,N] rfl rfl (by kernel_rfl) (fun _ _ _ h => h) (Or.inl ⟨by rfl, ?_⟩) ?_ ?_
     rotate_left
     ·intro w'
      go_simp
      with_reducible rfl
     rotate_left
     ·simp only [Act.put, List.setIfInBounds_toArray, List.set_cons_zero, List.set_cons_succ, i64_w, i32_w]
      rfl
     refine pure_ (i := 2) (N := some 34) (v := ?_) (a' := ?_) #[T,T,T,N,N,N] rfl rfl (by kernel_rfl) (fun _ _ _ h => h) (Or.inl ⟨by rfl, ?_⟩) ?_ ?_
     rotate_left
     ·intro w'
      go_simp
      with_reducible rfl
     rotate_left
     ·simp only [Act.put, List.setIfInBounds_toArray, List.set_cons_zero, List.set_cons_succ, i64_w, i32_w]
      rfl
     refine take_ (i := 3) (N := some 35) (v := ?_) (a' := ?_) #[T,T,T,T,N,N] rfl rfl (by kernel_rfl) (fun _ _ _ h => h) (Or.inl ⟨by rfl, ?_⟩) hHeld ?_ ?_
     rotate_left
     ·rintro w' ⟨s0, s1, s2, s3⟩
      go_simp
      with_reducible rfl
     rotate_left
     ·simp only [Act.put, List.setIfInBounds_toArray, List.set_cons_zero, List.set_cons_succ, i64_w, i32_w]
      rfl
     refine take_ (i := 4) (N := some 36) (v := ?_) (a' := ?_) #[T,T,T,T,T,N] rfl rfl (by kernel_rfl) (fun _ _ _ h => h) (Or.inl ⟨by rfl, ?_⟩) hHeld ?_ ?_
     rotate_left
     ·rintro w' ⟨s0, s1, s2, s3⟩
      go_simp
      with_reducible rfl
     rotate_left
     ·simp only [Act.put, List.setIfInBounds_toArray, List.set_cons_zero, List.set_cons_succ, i64_w, i32_w]
      rfl
     refine pure_ (i := 5) (N := some 37) (v := ?_) (a' := ?_) #[T,T,T,T,T,T] rfl rfl (by kernel_rfl) (fun _ _ _ h => h) (Or.inl ⟨by rfl, ?_⟩) ?_ ?_
     rotate_left
     ·intro w'
      go_simp
      with_reducible rfl
     rotate_left
     ·simp only [Act.put, List.setIfInBounds_toArray, List.set_cons_zero, List.set_cons_succ, i64_w, i32_w]
      rfl
     refine done_ (by kernel_rfl) ?_
     try go_wp2
     go_ret
     exact ⟨by first | rfl | (simp [errW_none, errW_some] <;> rfl) | (simp only [← hji4, ← hji7]; first | rfl | (simp [errW_none, errW_some] <;> rfl)) | (simp [*, errW_none, errW_some] <;> rfl), bh⟩
    ·rw [if_neg c12] at H
     have c12b0 : (((rd_T29 l0 x13_1).f0) == ((rd_T29 l0 (ji7)).f0) && (((rd_T29 l0 x13_1).f1) == ((rd_T29 l0 (ji7)).f1))) = false := by simpa using c12
     (try (have c12b1 : decide (((rd_T29 l0 x13_1).f0) = ((rd_T29 l0 (ji7)).f0) && (((rd_T29 l0 x13_1).f1) == ((rd_T29 l0 (ji7)).f1))) = false := by simpa using c12))
     (try (have c12b2 : (((rd_T29 l0 x13_1).f0) == ((rd_T29 l0 (ji7)).f0) && (((rd_T29 l0 x13_1).f1) == ((rd_T29 l0 (ji7)).f1))) = false := by simpa using c12))
     (try (have c12b3 : ¬ (((rd_T29 l0 x13_1).f0) = ((rd_T29 l0 (ji7)).f0) && (((rd_T29 l0 x13_1).f1) == ((rd_T29 l0 (ji7)).f1))) := by simpa using c12))
     clear c12
     replace H := Option.bind_eq_some_iff.mp H
     obtain ⟨⟨t107, t108⟩, A230, H⟩ := H
     try dsimp only at H
     have A23 := Aside0.mk A230
     clear A230
     replace H := Option.bind_eq_some_iff.mp H
     obtain ⟨⟨t110, t111⟩, A240, H⟩ := H
     try dsimp only at H
     have A24 := Aside0.mk A240
     clear A240
     have HC25 := Aside0.mk H
     clear H
     try go_wp2
     replace HB := Aside0.mk (below_drew1 HB.out)
     have p101 : 0 ≤ ((ji4) : Int) := dt
     have q101 : (ji4) < (l0.length : Int) := dt
     obtain ⟨ad101, e101, hx101_0, hx101_1⟩ := at_T29 HR0.out (ji4) p101 q101
     have hw101_1 := hx101_1
     have hw101_0 := hx101_0
     cases e101
     replace hx101_0 := hc HB hx101_0
     replace hx101_1 := hc HB hx101_1
     replace p101 := eq_true p101
     replace q101 := eq_true q101
     have p102 : 0 ≤ ((ji7) : Int) := dt
     have q102 : (ji7) < (l0.length : Int) := dt
     obtain ⟨ad102, e102, hx102_0, hx102_1⟩ := at_T29 HR0.out (ji7) p102 q102
     have hw102_1 := hx102_1
     have hw102_0 := hx102_0
     obtain rfl : ad101 = ad102 := (by injection e102)
     replace hx102_0 := hc HB hx102_0
     replace hx102_1 := hc HB hx102_1
     replace p102 := eq_true p102
     replace q102 := eq_true q102
     refine start_ (n := 20) (S := fun w' => w'.cell? (ad101.add (((ji4)).toNat * 2)) = some (.int .i64 ((rd_T29 l0 (ji4)).f0)) ∧ w'.cell? ⟨(ad101.add (((ji4)).toNat * 2)).block, (ad101.add (((ji4)).toNat * 2)).off + 1, none⟩ = some (.int .i64 ((rd_T29 l0 (ji4)).f1)) ∧ w'.cell? (ad101.add (((ji7)).toNat * 2)) = some (.int .i64 ((rd_T29 l0 (ji7)).f0)) ∧ w'.cell? ⟨(ad101.add (((ji7)).toNat * 2)).block, (ad101.add (((ji7)).toNat * 2)).off + 1, none⟩ = some (.int .i64 ((rd_T29 l0 (ji7)).f1))) (ds := []) #[N,N,N,N,N,N,N,N,N,N,N,N,N,N,N,N,N,N,N,N] (by kernel_rfl) rfl rfl ⟨(hc HB hw101_0), (hc HB hw101_1), (hc HB hw102_0), (hc HB hw102_1)⟩ (fun hHeld => ?_); refine with_tabW shape_simple.tab5 shape_simple.bits5 (fun HT_ HW_ => ?_)
     generalize wr.drew = w26 at HB hx101_0 hx101_1 hx102_0 hx102_1 hHeld ⊢
     refine pu 0 16 HT_ ?_
     refine pu 1 17 HT_ ?_
     refine pu 2 18 HT_ ?_
     refine pu 3 19 HT_ ?_
     refine pu 4 20 HT_ ?_
     refine pu 5 21 HT_ ?_
     refine pu 6 22 HT_ ?_
     refine pu 7 23 HT_ ?_
     refine pu 9 25 HT_ ?_
     refine pu 10 26 HT_ ?_
     refine pu 11 27 HT_ ?_
     refine pu 12 28 HT_ ?_
     refine pu 13 29 HT_ ?_
     refine pu 14 30 HT_ ?_
     refine tk4 8 24 hHeld HT_ HW_ ?_
     refine tk4 15 31 hHeld HT_ HW_ ?_
     refine join_ (σ := Nat × Nat) 2 #[T,T,T,T,T,T,T,T,T,T,T,T,T,T,T,T,T,T,N,N] (fun s_ => [(5, .pointer (some ⟨s_.1, 0, none⟩)), (6, .pointer (some ⟨s_.2, 0, none⟩))]) (fun s_ w' => (w'.cell? (ad101.add (((ji4)).toNat * 2)) = some (.int .i64 ((rd_T29 l0 (ji4)).f0)) ∧ w'.cell? ⟨(ad101.add (((ji4)).toNat * 2)).block, (ad101.add (((ji4)).toNat * 2)).off + 1, none⟩ = some (.int .i64 ((rd_T29 l0 (ji4)).f1)) ∧ w'.cell? (ad101.add (((ji7)).toNat * 2)) = some (.int .i64 ((rd_T29 l0 (ji7)).f0)) ∧ w'.cell? ⟨(ad101.add (((ji7)).toNat * 2)).block, (ad101.add (((ji7)).toNat * 2)).off + 1, none⟩ = some (.int .i64 ((rd_T29 l0 (ji7)).f1))) ∧ (w'.heap[s_.1]? = some (.cells #[.int .i64 0, .int .i64 0] 29 (0, 0))) ∧ (w'.heap[s_.2]? = some (.cells #[.int .i64 0, .int .i64 0] 29 (0, 0))) ∧ (w.heap.size ≤ s_.1) ∧ (w.heap.size ≤ s_.1) ∧ (s_.2 ≠ s_.1) ∧ (s_.1 ≠ s_.2) ∧ (w.heap.size ≤ s_.2) ∧ (w.heap.size ≤ s_.2) ∧ (Below w.heap.size w w')) ?_ ?_
     rotate_left
     ·intro hCont
      refine two_ (i := 16) (j := 17) (Ni := some 5) (Nj := some 6) #[T,T,T,T,T,T,T,T,T,T,T,T,T,T,T,T,T,N,N,N] #[T,T,T,T,T,T,T,T,T,T,T,T,T,T,T,T,N,T,N,N] rfl rfl rfl rfl (on2 HT_) (by decide) (by decide) (fun K hK => ?_) (fun K hK => ?_)
      ·skip
       refine bxs 5 #[.int .i64 0, .int .i64 0] 29 ?_
       intro gb103 hg w27 hbox hb
       have BK103 := Aside0.mk (hbox)
       have GW103 := Aside0.mk (gs hg : w.heap.size ≤ gb103)
       have GE103 := Aside0.mk (gs hg : w.heap.size ≤ gb103)
       replace HB := Aside0.mk (below_step bh hb)
       clear hb hbox hg
       refine hK.out _ _ ⟨(hc HB hw101_0), (hc HB hw101_1), (hc HB hw102_0), (hc HB hw102_1)⟩ (fun hHeld => ?_)
       clear hK K
       refine nm 5 ?_
       refine one_ (i := 17) (N := some 6) #[T,T,T,T,T,T,T,T,T,T,T,T,T,T,T,T,T,T,N,N] rfl rfl (on1 HT_) (by decide) (fun K hK => ?_)
       refine bxs 6 #[.int .i64 0, .int .i64 0] 29 ?_
       intro gb104 hg w28 hbox hb
       have BK104 := Aside0.mk (hbox)
       have GW104 := Aside0.mk (gs hg : w.heap.size ≤ gb104)
       have GE104 := Aside0.mk (gs hg : w.heap.size ≤ gb104)
       have NB103_104 := Aside0.mk ((by rw [hg]; exact Nat.ne_of_lt (kl BK103) : gb103 ≠ gb104))
       have NB104_103 := Aside0.mk ((by rw [hg]; exact Nat.ne_of_gt (kl BK103) : gb104 ≠ gb103))
       replace BK103 := kb BK103 hb
       replace HB := Aside0.mk (below_step bh hb)
       clear hb hbox hg
       refine hK.out _ _ ⟨(hc HB hw101_0), (hc HB hw101_1), (hc HB hw102_0), (hc HB hw102_1)⟩ (fun hHeld => ?_)
       clear hK K
       refine nm 6 ?_
       exact norm_ pa (hCont (gb103, gb104) _ ⟨hHeld, bk BK103, bk BK104, GW103.out, GE103.out, NB104_103.out, NB103_104.out, GW104.out, GE104.out, bh⟩)
      ·skip
       refine bxs 6 #[.int .i64 0, .int .i64 0] 29 ?_
       intro gb104 hg w27 hbox hb
       have BK104 := Aside0.mk (hbox)
       have GW104 := Aside0.mk (gs hg : w.heap.size ≤ gb104)
       have GE104 := Aside0.mk (gs hg : w.heap.size ≤ gb104)
       replace HB := Aside0.mk (below_step bh hb)
       clear hb hbox hg
       refine hK.out _ _ ⟨(hc HB hw101_0), (hc HB hw101_1), (hc HB hw102_0), (hc HB hw102_1)⟩ (fun hHeld => ?_)
       clear hK K
       refine nm 6 ?_
       refine one_ (i := 16) (N := some 5) #[T,T,T,T,T,T,T,T,T,T,T,T,T,T,T,T,T,T,N,N] rfl rfl (on1 HT_) (by decide) (fun K hK => ?_)
       refine bxs 5 #[.int .i64 0, .int .i64 0] 29 ?_
       intro gb103 hg w28 hbox hb
       have BK103 := Aside0.mk (hbox)
       have GW103 := Aside0.mk (gs hg : w.heap.size ≤ gb103)
       have GE103 := Aside0.mk (gs hg : w.heap.size ≤ gb103)
       have NB104_103 := Aside0.mk ((by rw [hg]; exact Nat.ne_of_lt (kl BK104) : gb104 ≠ gb103))
       have NB103_104 := Aside0.mk ((by rw [hg]; exact Nat.ne_of_gt (kl BK104) : gb103 ≠ gb104))
       replace BK104 := kb BK104 hb
       replace HB := Aside0.mk (below_step bh hb)
       clear hb hbox hg
       refine hK.out _ _ ⟨(hc HB hw101_0), (hc HB hw101_1), (hc HB hw102_0), (hc HB hw102_1)⟩ (fun hHeld => ?_)
       clear hK K
       refine nm 5 ?_
       exact norm_ pa (hCont (gb103, gb104) _ ⟨hHeld, bk BK103, bk BK104, GW103.out, GE103.out, NB104_103.out, NB103_104.out, GW104.out, GE104.out, bh⟩)
     rintro ⟨gb103, gb104⟩ w29 ⟨hS_, h0_, h1_, h2_, h3_, h4_, h5_, h6_, h7_, h8_⟩
     have BK103 := Aside0.mk h0_
     have BK104 := Aside0.mk h1_
     have GW103 := Aside0.mk h2_
     have GE103 := Aside0.mk h3_
     have NB104_103 := Aside0.mk h4_
     have NB103_104 := Aside0.mk h5_
     have GW104 := Aside0.mk h6_
     have GE104 := Aside0.mk h7_
     replace HB := Aside0.mk h8_
     clear h0_ h1_ h2_ h3_ h4_ h5_ h6_ h7_ h8_
     have hHeld := hS_
     refine nn ?_
     refine one_ (i := 18) (N := none) #[T,T,T,T,T,T,T,T,T,T,T,T,T,T,T,T,T,T,T,N] rfl rfl (on1 HT_) (by decide) (fun K hK => ?_)
     have hs30 : w29.cell? ⟨gb103, 0, none⟩ = some (.int .i64 0) := bc BK103 0
     have hfs30 := blk_frozen BK103.out 0
     have hns30_1 := NB104_103.out
     have hms30_1 := NB103_104.out
     have hs31 : w29.cell? ⟨gb103, 1, none⟩ = some (.int .i64 0) := bc BK103 1
     have hfs31 := blk_frozen BK103.out 1
     have hns31_1 := NB104_103.out
     have hms31_1 := NB103_104.out
     refine skip_ (w1 := ?_) (by rfl) rfl ?_ ?_
     rotate_left
     ·go_simp
      rfl
     refine hK.out _ _ ⟨((cell_far (p := ⟨gb103, _, none⟩) (fr hw101_0 GW103) _).trans (((cell_far (p := ⟨gb103, _, none⟩) (fr hw101_0 GW103) _).trans (hHeld.1)))), ((cell_far (p := ⟨gb103, _, none⟩) (fr hw101_1 GW103) _).trans (((cell_far (p := ⟨gb103, _, none⟩) (fr hw101_1 GW103) _).trans (hHeld.2.1)))), ((cell_far (p := ⟨gb103, _, none⟩) (fr hw102_0 GW103) _).trans (((cell_far (p := ⟨gb103, _, none⟩) (fr hw102_0 GW103) _).trans (hHeld.2.2.1)))), ((cell_far (p := ⟨gb103, _, none⟩) (fr hw102_1 GW103) _).trans (((cell_far (p := ⟨gb103, _, none⟩) (fr hw102_1 GW103) _).trans (hHeld.2.2.2))))⟩ (fun hHeld => ?_)
     clear hK K
     refine one_ (i := 19) (N := none) #[T,T,T,T,T,T,T,T,T,T,T,T,T,T,T,T,T,T,T,T] rfl rfl (on1 HT_) (by decide) (fun K hK => ?_)
     have hs32 : w29.cell? ⟨gb104, 0, none⟩ = some (.int .i64 0) := bc BK104 0
     have hfs32 := blk_frozen BK104.out 0
     have hns32_0 := NB103_104.out
     have hms32_0 := NB104_103.out
     have hs33 : w29.cell? ⟨gb104, 1, none⟩ = some (.int .i64 0) := bc BK104 1
     have hfs33 := blk_frozen BK104.out 1
     have hns33_0 := NB103_104.out
     have hms33_0 := NB104_103.out
     refine skip_ (w1 := ?_) (by rfl) rfl ?_ ?_
     rotate_left
     ·go_simp
      rfl
     refine hK.out _ _ ⟨((cell_far (p := ⟨gb104, _, none⟩) (fr hw101_0 GW104) _).trans (((cell_far (p := ⟨gb104, _, none⟩) (fr hw101_0 GW104) _).trans (hHeld.1)))), ((cell_far (p := ⟨gb104, _, none⟩) (fr hw101_1 GW104) _).trans (((cell_far (p := ⟨gb104, _, none⟩) (fr hw101_1 GW104) _).trans (hHeld.2.1)))), ((cell_far (p := ⟨gb104, _, none⟩) (fr hw102_0 GW104) _).trans (((cell_far (p := ⟨gb104, _, none⟩) (fr hw102_0 GW104) _).trans (hHeld.2.2.1)))), ((cell_far (p := ⟨gb104, _, none⟩) (fr hw102_1 GW104) _).trans (((cell_far (p := ⟨gb104, _, none⟩) (fr hw102_1 GW104) _).trans (hHeld.2.2.2))))⟩ (fun hHeld => ?_)
     clear hK K
     refine done_ (done_of HT_.out (by kernel_rfl)) ?_
     try go_wp2
     have n0_ : Aside0 (((((w29.setCell ⟨gb103, 0, none⟩ (.int .i64 ((rd_T29 l0 (ji4)).f0))).setCell ⟨gb103, 1, none⟩ (.int .i64 ((rd_T29 l0 (ji4)).f1))).setCell ⟨gb104, 0, none⟩ (.int .i64 ((rd_T29 l0 (ji7)).f0))).setCell ⟨gb104, 1, none⟩ (.int .i64 ((rd_T29 l0 (ji7)).f1))).heap[gb103]? = some (.cells #[.int .i64 ((rd_T29 l0 (ji4)).f0), .int .i64 ((rd_T29 l0 (ji4)).f1)] 29 (0, 0))) := ⟨by refine bd ?_; refine blk_far ?_ NB103_104.out _; refine bd ?_; refine blk_far ?_ NB103_104.out _; refine bd ?_; refine blk_put (cs := #[.int .i64 ((rd_T29 l0 (ji4)).f0), .int .i64 0]) ?_ 1 _ rfl; refine bd ?_; refine blk_put (cs := #[.int .i64 0, .int .i64 0]) ?_ 0 _ rfl; refine bd ?_; exact BK103.out⟩
     have n1_ : Aside0 (((((w29.setCell ⟨gb103, 0, none⟩ (.int .i64 ((rd_T29 l0 (ji4)).f0))).setCell ⟨gb103, 1, none⟩ (.int .i64 ((rd_T29 l0 (ji4)).f1))).setCell ⟨gb104, 0, none⟩ (.int .i64 ((rd_T29 l0 (ji7)).f0))).setCell ⟨gb104, 1, none⟩ (.int .i64 ((rd_T29 l0 (ji7)).f1))).heap[gb104]? = some (.cells #[.int .i64 ((rd_T29 l0 (ji7)).f0), .int .i64 ((rd_T29 l0 (ji7)).f1)] 29 (0, 0))) := ⟨by refine bd ?_; refine blk_put (cs := #[.int .i64 ((rd_T29 l0 (ji7)).f0), .int .i64 0]) ?_ 1 _ rfl; refine bd ?_; refine blk_put (cs := #[.int .i64 0, .int .i64 0]) ?_ 0 _ rfl; refine bd ?_; refine blk_far ?_ NB104_103.out _; refine bd ?_; refine blk_far ?_ NB104_103.out _; refine bd ?_; exact BK104.out⟩
     have n2_ : Aside0 (Below w.heap.size w ((((w29.setCell ⟨gb103, 0, none⟩ (.int .i64 ((rd_T29 l0 (ji4)).f0))).setCell ⟨gb103, 1, none⟩ (.int .i64 ((rd_T29 l0 (ji4)).f1))).setCell ⟨gb104, 0, none⟩ (.int .i64 ((rd_T29 l0 (ji7)).f0))).setCell ⟨gb104, 1, none⟩ (.int .i64 ((rd_T29 l0 (ji7)).f1)))) := ⟨bh⟩
     (try clear BK103); (try clear BK104); (try clear HB)
     generalize ((((w29.setCell ⟨gb103, 0, none⟩ (.int .i64 ((rd_T29 l0 (ji4)).f0))).setCell ⟨gb103, 1, none⟩ (.int .i64 ((rd_T29 l0 (ji4)).f1))).setCell ⟨gb104, 0, none⟩ (.int .i64 ((rd_T29 l0 (ji7)).f0))).setCell ⟨gb104, 1, none⟩ (.int .i64 ((rd_T29 l0 (ji7)).f1))) = w34 at n0_ n1_ n2_ ⊢
     have BK103 := n0_
     have BK104 := n1_
     have HB := n2_
     clear n0_ n1_ n2_
     replace BK103 := Aside0.mk (blk_drew BK103.out)
     replace BK104 := Aside0.mk (blk_drew BK104.out)
     replace HB := Aside0.mk (below_drew1 HB.out)
     have p105 : 0 ≤ (x13_1 : Int) := dt
     have q105 : x13_1 < (l0.length : Int) := dt
     obtain ⟨ad105, e105, hx105_0, hx105_1⟩ := at_T29 HR0.out x13_1 p105 q105
     have hw105_1 := hx105_1
     have hw105_0 := hx105_0
     obtain rfl : ad101 = ad105 := (by injection e105)
     replace hx105_0 := hc HB hx105_0
     replace hx105_1 := hc HB hx105_1
     replace p105 := eq_true p105
     replace q105 := eq_true q105
     refine start_ (n := 6) (S := fun w' => w'.cell? ⟨gb104, 0, none⟩ = some (.int .i64 ((rd_T29 l0 (ji7)).f0)) ∧ w'.cell? ⟨gb104, 1, none⟩ = some (.int .i64 ((rd_T29 l0 (ji7)).f1)) ∧ w'.cell? (ad101.add ((x13_1).toNat * 2)) = some (.int .i64 ((rd_T29 l0 x13_1).f0)) ∧ w'.cell? ⟨(ad101.add ((x13_1).toNat * 2)).block, (ad101.add ((x13_1).toNat * 2)).off + 1, none⟩ = some (.int .i64 ((rd_T29 l0 x13_1).f1))) (ds := []) #[N,N,N,N,N,N] (by kernel_rfl) rfl rfl ⟨bc BK104 0, bc BK104 1, (hc HB hw105_0), (hc HB hw105_1)⟩ (fun hHeld => ?_)
     generalize w34.drew = w35 at BK103 BK104 HB hx105_0 hx105_1 hHeld ⊢
     refine pure_ (i := 0) (N := some 32) (v := ?_) (a' := ?_) #[T,N,N,N,N,N] rfl rfl (by kernel_rfl) (fun _ _ _ h => h) (Or.inl ⟨by rfl, ?_⟩) ?_ ?_
     rotate_left
     ·intro w'
      go_simp
      with_reducible rfl
     rotate_left
     ·simp only [Act.put, List.setIfInBounds_toArray, List.set_cons_zero, List.set_cons_succ, i64_w, i32_w]
      rfl
     refine pure_ (i := 1) (N := some 33) (v := ?_) (a' := ?_) #[T,T,N,N,N,N] rfl rfl (by kernel_rfl) (fun _ _ _ h => h) (Or.inl ⟨by rfl, ?_⟩) ?_ ?_
     rotate_left
     ·intro w'
      go_simp
      with_reducible rfl
     rotate_left
     ·simp only [Act.put, List.setIfInBounds_toArray, List.set_cons_zero, List.set_cons_succ, i64_w, i32_w]
      rfl
     refine pure_ (i := 2) (N := some 34) (v := ?_) (a' := ?_) #[T,T,T,N,N,N] rfl rfl (by kernel_rfl) (fun _ _ _ h => h) (Or.inl ⟨by rfl, ?_⟩) ?_ ?_
     rotate_left
     ·intro w'
      go_simp
      with_reducible rfl
     rotate_left
     ·simp only [Act.put, List.setIfInBounds_toArray, List.set_cons_zero, List.set_cons_succ, i64_w, i32_w]
      rfl
     refine take_ (i := 3) (N := some 35) (v := ?_) (a' := ?_) #[T,T,T,T,N,N] rfl rfl (by kernel_rfl) (fun _ _ _ h => h) (Or.inl ⟨by rfl, ?_⟩) hHeld ?_ ?_
     rotate_left
     ·rintro w' ⟨s0, s1, s2, s3⟩
      go_simp
      with_reducible rfl
     rotate_left
     ·simp only [Act.put, List.setIfInBounds_toArray, List.set_cons_zero, List.set_cons_succ, i64_w, i32_w]
      rfl
     refine take_ (i := 4) (N := some 36) (v := ?_) (a' := ?_) #[T,T,T,T,T,N] rfl rfl (by kernel_rfl) (fun _ _ _ h => h) (Or.inl ⟨by rfl, ?_⟩) hHeld ?_ ?_
     rotate_left
     ·rintro w' ⟨s0, s1, s2, s3⟩
      go_simp
      with_reducible rfl
     rotate_left
     ·simp only [Act.put, List.setIfInBounds_toArray, List.set_cons_zero, List.set_cons_succ, i64_w, i32_w]
      rfl
     refine pure_ (i := 5) (N := some 37) (v := ?_) (a' := ?_) #[T,T,T,T,T,T] rfl rfl (by kernel_rfl) (fun _ _ _ h => h) (Or.inl ⟨by rfl, ?_⟩) ?_ ?_
     rotate_left
     ·intro w'
      go_simp
      with_reducible rfl
     rotate_left
     ·simp only [Act.put, List.setIfInBounds_toArray, List.set_cons_zero, List.set_cons_succ, i64_w, i32_w]
      rfl
     refine done_ (by kernel_rfl) ?_
     try go_wp2
     replace BK103 := Aside0.mk (blk_drew BK103.out)
     replace BK104 := Aside0.mk (blk_drew BK104.out)
     replace HB := Aside0.mk (below_drew1 HB.out)
     have p106 : 0 ≤ (x13_1 : Int) := dt
     have q106 : x13_1 < (l0.length : Int) := dt
     obtain ⟨ad106, e106, hx106_0, hx106_1⟩ := at_T29 HR0.out x13_1 p106 q106
     have hw106_1 := hx106_1
     have hw106_0 := hx106_0
     obtain rfl : ad101 = ad106 := (by injection e106)
     replace hx106_0 := hc HB hx106_0
     replace hx106_1 := hc HB hx106_1
     replace p106 := eq_true p106
     replace q106 := eq_true q106
     have p109 : 0 ≤ (x13_1 : Int) := dt
     have q109 : x13_1 < (l0.length : Int) := dt
     obtain ⟨ad109, e109, hx109_0, hx109_1⟩ := at_T29 HR0.out x13_1 p109 q109
     have hw109_1 := hx109_1
     have hw109_0 := hx109_0
     obtain rfl : ad101 = ad109 := (by injection e109)
     replace hx109_0 := hc HB hx109_0
     replace hx109_1 := hc HB hx109_1
     replace p109 := eq_true p109
     replace q109 := eq_true q109
     refine start_ (n := 16) (S := fun w' => w'.cell? ⟨gb103, 0, none⟩ = some (.int .i64 ((rd_T29 l0 (ji4)).f0)) ∧ w'.cell? ⟨gb103, 1, none⟩ = some (.int .i64 ((rd_T29 l0 (ji4)).f1)) ∧ w'.cell? ⟨gb104, 0, none⟩ = some (.int .i64 ((rd_T29 l0 (ji7)).f0)) ∧ w'.cell? ⟨gb104, 1, none⟩ = some (.int .i64 ((rd_T29 l0 (ji7)).f1)) ∧ w'.cell? (ad101.add ((x13_1).toNat * 2)) = some (.int .i64 ((rd_T29 l0 x13_1).f0)) ∧ w'.cell? ⟨(ad101.add ((x13_1).toNat * 2)).block, (ad101.add ((x13_1).toNat * 2)).off + 1, none⟩ = some (.int .i64 ((rd_T29 l0 x13_1).f1)) ∧ w'.cell? (ad101.add ((x13_1).toNat * 2)) = some (.int .i64 ((rd_T29 l0 x13_1).f0)) ∧ w'.cell? ⟨(ad101.add ((x13_1).toNat * 2)).block, (ad101.add ((x13_1).toNat * 2)).off + 1, none⟩ = some (.int .i64 ((rd_T29 l0 x13_1).f1))) (ds := []) #[N,N,N,N,N,N,N,N,N,N,N,N,N,N,N,N] (by kernel_rfl) rfl rfl ⟨bc BK103 0, bc BK103 1, bc BK104 0, bc BK104 1, (hc HB hw106_0), (hc HB hw106_1), (hc HB hw109_0), (hc HB hw109_1)⟩ (fun hHeld => ?_); refine with_tabW shape_simple.tab8 shape_simple.bits8 (fun HT_ HW_ => ?_)
     generalize w35.drew = w36 at BK103 BK104 HB hx106_0 hx106_1 hx109_0 hx109_1 hHeld ⊢
     refine pu 1 39 HT_ ?_
     refine pu 2 40 HT_ ?_
     refine pu 3 41 HT_ ?_
     refine pu 7 45 HT_ ?_
     refine pu 8 46 HT_ ?_
     refine pu 9 47 HT_ ?_
     refine tk8 0 38 hHeld HT_ HW_ ?_
     refine tk8 4 42 hHeld HT_ HW_ ?_
     refine tk8 6 44 hHeld HT_ HW_ ?_
     refine tk8 10 48 hHeld HT_ HW_ ?_
     refine join_ (σ := Nat × Nat) 2 #[T,T,T,T,T,T,T,T,T,T,T,T,T,T,N,N] (fun s_ => [(43, .agg #[.int .i64 t107, .int .i64 t108]), (49, .agg #[.int .i64 t110, .int .i64 t111]), (7, .pointer (some ⟨s_.1, 0, none⟩)), (8, .pointer (some ⟨s_.2, 0, none⟩))]) (fun s_ w' => (w'.cell? ⟨gb103, 0, none⟩ = some (.int .i64 ((rd_T29 l0 (ji4)).f0)) ∧ w'.cell? ⟨gb103, 1, none⟩ = some (.int .i64 ((rd_T29 l0 (ji4)).f1)) ∧ w'.cell? ⟨gb104, 0, none⟩ = some (.int .i64 ((rd_T29 l0 (ji7)).f0)) ∧ w'.cell? ⟨gb104, 1, none⟩ = some (.int .i64 ((rd_T29 l0 (ji7)).f1)) ∧ w'.cell? (ad101.add ((x13_1).toNat * 2)) = some (.int .i64 ((rd_T29 l0 x13_1).f0)) ∧ w'.cell? ⟨(ad101.add ((x13_1).toNat * 2)).block, (ad101.add ((x13_1).toNat * 2)).off + 1, none⟩ = some (.int .i64 ((rd_T29 l0 x13_1).f1)) ∧ w'.cell? (ad101.add ((x13_1).toNat * 2)) = some (.int .i64 ((rd_T29 l0 x13_1).f0)) ∧ w'.cell? ⟨(ad101.add ((x13_1).toNat * 2)).block, (ad101.add ((x13_1).toNat * 2)).off + 1, none⟩ = some (.int .i64 ((rd_T29 l0 x13_1).f1))) ∧ (w'.heap[gb103]? = some (.cells #[.int .i64 ((rd_T29 l0 (ji4)).f0), .int .i64 ((rd_T29 l0 (ji4)).f1)] 29 (0, 0))) ∧ (w'.heap[gb104]? = some (.cells #[.int .i64 ((rd_T29 l0 (ji7)).f0), .int .i64 ((rd_T29 l0 (ji7)).f1)] 29 (0, 0))) ∧ (w'.heap[s_.1]? = some (.cells #[.int .i64 0, .int .i64 0] 29 (0, 0))) ∧ (w'.heap[s_.2]? = some (.cells #[.int .i64 0, .int .i64 0] 29 (0, 0))) ∧ (w.heap.size ≤ s_.1) ∧ (w.heap.size ≤ s_.1) ∧ (gb103 ≠ s_.1) ∧ (s_.1 ≠ gb103) ∧ (gb104 ≠ s_.1) ∧ (s_.1 ≠ gb104) ∧ (s_.2 ≠ s_.1) ∧ (s_.1 ≠ s_.2) ∧ (w.heap.size ≤ s_.2) ∧ (w.heap.size ≤ s_.2) ∧ (gb103 ≠ s_.2) ∧ (s_.2 ≠ gb103) ∧ (gb104 ≠ s_.2) ∧ (s_.2 ≠ gb104) ∧ (Below w.heap.size w w')) ?_ ?_
     rotate_left
     ·intro hJ5_11_12_13
      refine join_ (σ := Nat) 3 #[T,T,T,T,T,T,T,T,T,T,T,T,T,N,N,N] (fun s_ => [(43, .agg #[.int .i64 t107, .int .i64 t108]), (49, .agg #[.int .i64 t110, .int .i64 t111]), (7, .pointer (some ⟨s_, 0, none⟩))]) (fun s_ w' => (w'.cell? ⟨gb103, 0, none⟩ = some (.int .i64 ((rd_T29 l0 (ji4)).f0)) ∧ w'.cell? ⟨gb103, 1, none⟩ = some (.int .i64 ((rd_T29 l0 (ji4)).f1)) ∧ w'.cell? ⟨gb104, 0, none⟩ = some (.int .i64 ((rd_T29 l0 (ji7)).f0)) ∧ w'.cell? ⟨gb104, 1, none⟩ = some (.int .i64 ((rd_T29 l0 (ji7)).f1)) ∧ w'.cell? (ad101.add ((x13_1).toNat * 2)) = some (.int .i64 ((rd_T29 l0 x13_1).f0)) ∧ w'.cell? ⟨(ad101.add ((x13_1).toNat * 2)).block, (ad101.add ((x13_1).toNat * 2)).off + 1, none⟩ = some (.int .i64 ((rd_T29 l0 x13_1).f1)) ∧ w'.cell? (ad101.add ((x13_1).toNat * 2)) = some (.int .i64 ((rd_T29 l0 x13_1).f0)) ∧ w'.cell? ⟨(ad101.add ((x13_1).toNat * 2)).block, (ad101.add ((x13_1).toNat * 2)).off + 1, none⟩ = some (.int .i64 ((rd_T29 l0 x13_1).f1))) ∧ (w'.heap[gb103]? = some (.cells #[.int .i64 ((rd_T29 l0 (ji4)).f0), .int .i64 ((rd_T29 l0 (ji4)).f1)] 29 (0, 0))) ∧ (w'.heap[gb104]? = some (.cells #[.int .i64 ((rd_T29 l0 (ji7)).f0), .int .i64 ((rd_T29 l0 (ji7)).f1)] 29 (0, 0))) ∧ (w'.heap[s_]? = some (.cells #[.int .i64 0, .int .i64 0] 29 (0, 0))) ∧ (w.heap.size ≤ s_) ∧ (w.heap.size ≤ s_) ∧ (gb103 ≠ s_) ∧ (s_ ≠ gb103) ∧ (gb104 ≠ s_) ∧ (s_ ≠ gb104) ∧ (Below w.heap.size w w')) ?_ ?_
      rotate_left
      ·intro hJ5_11_12
       refine join_ (σ := Nat) 3 #[T,T,T,T,T,T,T,T,T,T,T,T,N,T,N,N] (fun s_ => [(43, .agg #[.int .i64 t107, .int .i64 t108]), (49, .agg #[.int .i64 t110, .int .i64 t111]), (8, .pointer (some ⟨s_, 0, none⟩))]) (fun s_ w' => (w'.cell? ⟨gb103, 0, none⟩ = some (.int .i64 ((rd_T29 l0 (ji4)).f0)) ∧ w'.cell? ⟨gb103, 1, none⟩ = some (.int .i64 ((rd_T29 l0 (ji4)).f1)) ∧ w'.cell? ⟨gb104, 0, none⟩ = some (.int .i64 ((rd_T29 l0 (ji7)).f0)) ∧ w'.cell? ⟨gb104, 1, none⟩ = some (.int .i64 ((rd_T29 l0 (ji7)).f1)) ∧ w'.cell? (ad101.add ((x13_1).toNat * 2)) = some (.int .i64 ((rd_T29 l0 x13_1).f0)) ∧ w'.cell? ⟨(ad101.add ((x13_1).toNat * 2)).block, (ad101.add ((x13_1).toNat * 2)).off + 1, none⟩ = some (.int .i64 ((rd_T29 l0 x13_1).f1)) ∧ w'.cell? (ad101.add ((x13_1).toNat * 2)) = some (.int .i64 ((rd_T29 l0 x13_1).f0)) ∧ w'.cell? ⟨(ad101.add ((x13_1).toNat * 2)).block, (ad101.add ((x13_1).toNat * 2)).off + 1, none⟩ = some (.int .i64 ((rd_T29 l0 x13_1).f1))) ∧ (w'.heap[gb103]? = some (.cells #[.int .i64 ((rd_T29 l0 (ji4)).f0), .int .i64 ((rd_T29 l0 (ji4)).f1)] 29 (0, 0))) ∧ (w'.heap[gb104]? = some (.cells #[.int .i64 ((rd_T29 l0 (ji7)).f0), .int .i64 ((rd_T29 l0 (ji7)).f1)] 29 (0, 0))) ∧ (w'.heap[s_]? = some (.cells #[.int .i64 0, .int .i64 0] 29 (0, 0))) ∧ (w.heap.size ≤ s_) ∧ (w.heap.size ≤ s_) ∧ (gb103 ≠ s_) ∧ (s_ ≠ gb103) ∧ (gb104 ≠ s_) ∧ (s_ ≠ gb104) ∧ (Below w.heap.size w w')) ?_ ?_
       rotate_left
       ·intro hJ5_11_13
        refine join_ (σ := Nat × Nat) 3 #[T,T,T,T,T,T,T,T,T,T,T,N,T,T,N,N] (fun s_ => [(43, .agg #[.int .i64 t107, .int .i64 t108]), (7, .pointer (some ⟨s_.1, 0, none⟩)), (8, .pointer (some ⟨s_.2, 0, none⟩))]) (fun s_ w' => (w'.cell? ⟨gb103, 0, none⟩ = some (.int .i64 ((rd_T29 l0 (ji4)).f0)) ∧ w'.cell? ⟨gb103, 1, none⟩ = some (.int .i64 ((rd_T29 l0 (ji4)).f1)) ∧ w'.cell? ⟨gb104, 0, none⟩ = some (.int .i64 ((rd_T29 l0 (ji7)).f0)) ∧ w'.cell? ⟨gb104, 1, none⟩ = some (.int .i64 ((rd_T29 l0 (ji7)).f1)) ∧ w'.cell? (ad101.add ((x13_1).toNat * 2)) = some (.int .i64 ((rd_T29 l0 x13_1).f0)) ∧ w'.cell? ⟨(ad101.add ((x13_1).toNat * 2)).block, (ad101.add ((x13_1).toNat * 2)).off + 1, none⟩ = some (.int .i64 ((rd_T29 l0 x13_1).f1)) ∧ w'.cell? (ad101.add ((x13_1).toNat * 2)) = some (.int .i64 ((rd_T29 l0 x13_1).f0)) ∧ w'.cell? ⟨(ad101.add ((x13_1).toNat * 2)).block, (ad101.add ((x13_1).toNat * 2)).off + 1, none⟩ = some (.int .i64 ((rd_T29 l0 x13_1).f1))) ∧ (w'.heap[gb103]? = some (.cells #[.int .i64 ((rd_T29 l0 (ji4)).f0), .int .i64 ((rd_T29 l0 (ji4)).f1)] 29 (0, 0))) ∧ (w'.heap[gb104]? = some (.cells #[.int .i64 ((rd_T29 l0 (ji7)).f0), .int .i64 ((rd_T29 l0 (ji7)).f1)] 29 (0, 0))) ∧ (w'.heap[s_.1]? = some (.cells #[.int .i64 0, .int .i64 0] 29 (0, 0))) ∧ (w'.heap[s_.2]? = some (.cells #[.int .i64 0, .int .i64 0] 29 (0, 0))) ∧ (w.heap.size ≤ s_.1) ∧ (w.heap.size ≤ s_.1) ∧ (gb103 ≠ s_.1) ∧ (s_.1 ≠ gb103) ∧ (gb104 ≠ s_.1) ∧ (s_.1 ≠ gb104) ∧ (s_.2 ≠ s_.1) ∧ (s_.1 ≠ s_.2) ∧ (w.heap.size ≤ s_.2) ∧ (w.heap.size ≤ s_.2) ∧ (gb103 ≠ s_.2) ∧ (s_.2 ≠ gb103) ∧ (gb104 ≠ s_.2) ∧ (s_.2 ≠ gb104) ∧ (Below w.heap.size w w')) ?_ ?_
        rotate_left
        ·intro hJ5_12_13
         refine join_ (σ := Unit) 4 #[T,T,T,T,T,T,T,T,T,T,T,T,N,N,N,N] (fun s_ => [(43, .agg #[.int .i64 t107, .int .i64 t108]), (49, .agg #[.int .i64 t110, .int .i64 t111])]) (fun s_ w' => (w'.cell? ⟨gb103, 0, none⟩ = some (.int .i64 ((rd_T29 l0 (ji4)).f0)) ∧ w'.cell? ⟨gb103, 1, none⟩ = some (.int .i64 ((rd_T29 l0 (ji4)).f1)) ∧ w'.cell? ⟨gb104, 0, none⟩ = some (.int .i64 ((rd_T29 l0 (ji7)).f0)) ∧ w'.cell? ⟨gb104, 1, none⟩ = some (.int .i64 ((rd_T29 l0 (ji7)).f1)) ∧ w'.cell? (ad101.add ((x13_1).toNat * 2)) = some (.int .i64 ((rd_T29 l0 x13_1).f0)) ∧ w'.cell? ⟨(ad101.add ((x13_1).toNat * 2)).block, (ad101.add ((x13_1).toNat * 2)).off + 1, none⟩ = some (.int .i64 ((rd_T29 l0 x13_1).f1)) ∧ w'.cell? (ad101.add ((x13_1).toNat * 2)) = some (.int .i64 ((rd_T29 l0 x13_1).f0)) ∧ w'.cell? ⟨(ad101.add ((x13_1).toNat * 2)).block, (ad101.add ((x13_1).toNat * 2)).off + 1, none⟩ = some (.int .i64 ((rd_T29 l0 x13_1).f1))) ∧ (w'.heap[gb103]? = some (.cells #[.int .i64 ((rd_T29 l0 (ji4)).f0), .int .i64 ((rd_T29 l0 (ji4)).f1)] 29 (0, 0))) ∧ (w'.heap[gb104]? = some (.cells #[.int .i64 ((rd_T29 l0 (ji7)).f0), .int .i64 ((rd_T29 l0 (ji7)).f1)] 29 (0, 0))) ∧ (Below w.heap.size w w')) ?_ ?_
         rotate_left
         ·intro hJ5_11
          refine join_ (σ := Nat) 4 #[T,T,T,T,T,T,T,T,T,T,T,N,T,N,N,N] (fun s_ => [(43, .agg #[.int .i64 t107, .int .i64 t108]), (7, .pointer (some ⟨s_, 0, none⟩))]) (fun s_ w' => (w'.cell? ⟨gb103, 0, none⟩ = some (.int .i64 ((rd_T29 l0 (ji4)).f0)) ∧ w'.cell? ⟨gb103, 1, none⟩ = some (.int .i64 ((rd_T29 l0 (ji4)).f1)) ∧ w'.cell? ⟨gb104, 0, none⟩ = some (.int .i64 ((rd_T29 l0 (ji7)).f0)) ∧ w'.cell? ⟨gb104, 1, none⟩ = some (.int .i64 ((rd_T29 l0 (ji7)).f1)) ∧ w'.cell? (ad101.add ((x13_1).toNat * 2)) = some (.int .i64 ((rd_T29 l0 x13_1).f0)) ∧ w'.cell? ⟨(ad101.add ((x13_1).toNat * 2)).block, (ad101.add ((x13_1).toNat * 2)).off + 1, none⟩ = some (.int .i64 ((rd_T29 l0 x13_1).f1)) ∧ w'.cell? (ad101.add ((x13_1).toNat * 2)) = some (.int .i64 ((rd_T29 l0 x13_1).f0)) ∧ w'.cell? ⟨(ad101.add ((x13_1).toNat * 2)).block, (ad101.add ((x13_1).toNat * 2)).off + 1, none⟩ = some (.int .i64 ((rd_T29 l0 x13_1).f1))) ∧ (w'.heap[gb103]? = some (.cells #[.int .i64 ((rd_T29 l0 (ji4)).f0), .int .i64 ((rd_T29 l0 (ji4)).f1)] 29 (0, 0))) ∧ (w'.heap[gb104]? = some (.cells #[.int .i64 ((rd_T29 l0 (ji7)).f0), .int .i64 ((rd_T29 l0 (ji7)).f1)] 29 (0, 0))) ∧ (w'.heap[s_]? = some (.cells #[.int .i64 0, .int .i64 0] 29 (0, 0))) ∧ (w.heap.size ≤ s_) ∧ (w.heap.size ≤ s_) ∧ (gb103 ≠ s_) ∧ (s_ ≠ gb103) ∧ (gb104 ≠ s_) ∧ (s_ ≠ gb104) ∧ (Below w.heap.size w w')) ?_ ?_
          rotate_left
          ·intro hJ5_12
           refine join_ (σ := Nat) 4 #[T,T,T,T,T,T,T,T,T,T,T,N,N,T,N,N] (fun s_ => [(43, .agg #[.int .i64 t107, .int .i64 t108]), (8, .pointer (some ⟨s_, 0, none⟩))]) (fun s_ w' => (w'.cell? ⟨gb103, 0, none⟩ = some (.int .i64 ((rd_T29 l0 (ji4)).f0)) ∧ w'.cell? ⟨gb103, 1, none⟩ = some (.int .i64 ((rd_T29 l0 (ji4)).f1)) ∧ w'.cell? ⟨gb104, 0, none⟩ = some (.int .i64 ((rd_T29 l0 (ji7)).f0)) ∧ w'.cell? ⟨gb104, 1, none⟩ = some (.int .i64 ((rd_T29 l0 (ji7)).f1)) ∧ w'.cell? (ad101.add ((x13_1).toNat * 2)) = some (.int .i64 ((rd_T29 l0 x13_1).f0)) ∧ w'.cell? ⟨(ad101.add ((x13_1).toNat * 2)).block, (ad101.add ((x13_1).toNat * 2)).off + 1, none⟩ = some (.int .i64 ((rd_T29 l0 x13_1).f1)) ∧ w'.cell? (ad101.add ((x13_1).toNat * 2)) = some (.int .i64 ((rd_T29 l0 x13_1).f0)) ∧ w'.cell? ⟨(ad101.add ((x13_1).toNat * 2)).block, (ad101.add ((x13_1).toNat * 2)).off + 1, none⟩ = some (.int .i64 ((rd_T29 l0 x13_1).f1))) ∧ (w'.heap[gb103]? = some (.cells #[.int .i64 ((rd_T29 l0 (ji4)).f0), .int .i64 ((rd_T29 l0 (ji4)).f1)] 29 (0, 0))) ∧ (w'.heap[gb104]? = some (.cells #[.int .i64 ((rd_T29 l0 (ji7)).f0), .int .i64 ((rd_T29 l0 (ji7)).f1)] 29 (0, 0))) ∧ (w'.heap[s_]? = some (.cells #[.int .i64 0, .int .i64 0] 29 (0, 0))) ∧ (w.heap.size ≤ s_) ∧ (w.heap.size ≤ s_) ∧ (gb103 ≠ s_) ∧ (s_ ≠ gb103) ∧ (gb104 ≠ s_) ∧ (s_ ≠ gb104) ∧ (Below w.heap.size w w')) ?_ ?_
           rotate_left
           ·intro hJ5_13
            refine join_ (σ := Nat × Nat) 4 #[T,T,T,T,T,N,T,T,T,T,T,N,T,T,N,N] (fun s_ => [(7, .pointer (some ⟨s_.1, 0, none⟩)), (8, .pointer (some ⟨s_.2, 0, none⟩))]) (fun s_ w' => (w'.cell? ⟨gb103, 0, none⟩ = some (.int .i64 ((rd_T29 l0 (ji4)).f0)) ∧ w'.cell? ⟨gb103, 1, none⟩ = some (.int .i64 ((rd_T29 l0 (ji4)).f1)) ∧ w'.cell? ⟨gb104, 0, none⟩ = some (.int .i64 ((rd_T29 l0 (ji7)).f0)) ∧ w'.cell? ⟨gb104, 1, none⟩ = some (.int .i64 ((rd_T29 l0 (ji7)).f1)) ∧ w'.cell? (ad101.add ((x13_1).toNat * 2)) = some (.int .i64 ((rd_T29 l0 x13_1).f0)) ∧ w'.cell? ⟨(ad101.add ((x13_1).toNat * 2)).block, (ad101.add ((x13_1).toNat * 2)).off + 1, none⟩ = some (.int .i64 ((rd_T29 l0 x13_1).f1)) ∧ w'.cell? (ad101.add ((x13_1).toNat * 2)) = some (.int .i64 ((rd_T29 l0 x13_1).f0)) ∧ w'.cell? ⟨(ad101.add ((x13_1).toNat * 2)).block, (ad101.add ((x13_1).toNat * 2)).off + 1, none⟩ = some (.int .i64 ((rd_T29 l0 x13_1).f1))) ∧ (w'.heap[gb103]? = some (.cells #[.int .i64 ((rd_T29 l0 (ji4)).f0), .int .i64 ((rd_T29 l0 (ji4)).f1)] 29 (0, 0))) ∧ (w'.heap[gb104]? = some (.cells #[.int .i64 ((rd_T29 l0 (ji7)).f0), .int .i64 ((rd_T29 l0 (ji7)).f1)] 29 (0, 0))) ∧ (w'.heap[s_.1]? = some (.cells #[.int .i64 0, .int .i64 0] 29 (0, 0))) ∧ (w'.heap[s_.2]? = some (.cells #[.int .i64 0, .int .i64 0] 29 (0, 0))) ∧ (w.heap.size ≤ s_.1) ∧ (w.heap.size ≤ s_.1) ∧ (gb103 ≠ s_.1) ∧ (s_.1 ≠ gb103) ∧ (gb104 ≠ s_.1) ∧ (s_.1 ≠ gb104) ∧ (s_.2 ≠ s_.1) ∧ (s_.1 ≠ s_.2) ∧ (w.heap.size ≤ s_.2) ∧ (w.heap.size ≤ s_.2) ∧ (gb103 ≠ s_.2) ∧ (s_.2 ≠ gb103) ∧ (gb104 ≠ s_.2) ∧ (s_.2 ≠ gb104) ∧ (Below w.heap.size w w')) ?_ ?_
            rotate_left
            ·intro hJ12_13
             refine join_ (σ := Unit) 5 #[T,T,T,T,T,T,T,T,T,T,T,N,N,N,N,N] (fun s_ => [(43, .agg #[.int .i64 t107, .int .i64 t108])]) (fun s_ w' => (w'.cell? ⟨gb103, 0, none⟩ = some (.int .i64 ((rd_T29 l0 (ji4)).f0)) ∧ w'.cell? ⟨gb103, 1, none⟩ = some (.int .i64 ((rd_T29 l0 (ji4)).f1)) ∧ w'.cell? ⟨gb104, 0, none⟩ = some (.int .i64 ((rd_T29 l0 (ji7)).f0)) ∧ w'.cell? ⟨gb104, 1, none⟩ = some (.int .i64 ((rd_T29 l0 (ji7)).f1)) ∧ w'.cell? (ad101.add ((x13_1).toNat * 2)) = some (.int .i64 ((rd_T29 l0 x13_1).f0)) ∧ w'.cell? ⟨(ad101.add ((x13_1).toNat * 2)).block, (ad101.add ((x13_1).toNat * 2)).off + 1, none⟩ = some (.int .i64 ((rd_T29 l0 x13_1).f1)) ∧ w'.cell? (ad101.add ((x13_1).toNat * 2)) = some (.int .i64 ((rd_T29 l0 x13_1).f0)) ∧ w'.cell? ⟨(ad101.add ((x13_1).toNat * 2)).block, (ad101.add ((x13_1).toNat * 2)).off + 1, none⟩ = some (.int .i64 ((rd_T29 l0 x13_1).f1))) ∧ (w'.heap[gb103]? = some (.cells #[.int .i64 ((rd_T29 l0 (ji4)).f0), .int .i64 ((rd_T29 l0 (ji4)).f1)] 29 (0, 0))) ∧ (w'.heap[gb104]? = some (.cells #[.int .i64 ((rd_T29 l0 (ji7)).f0), .int .i64 ((rd_T29 l0 (ji7)).f1)] 29 (0, 0))) ∧ (Below w.heap.size w w')) ?_ ?_
             rotate_left
             ·intro hJ5
              refine join_ (σ := Nat) 5 #[T,T,T,T,T,N,T,T,T,T,T,N,T,N,N,N] (fun s_ => [(7, .pointer (some ⟨s_, 0, none⟩))]) (fun s_ w' => (w'.cell? ⟨gb103, 0, none⟩ = some (.int .i64 ((rd_T29 l0 (ji4)).f0)) ∧ w'.cell? ⟨gb103, 1, none⟩ = some (.int .i64 ((rd_T29 l0 (ji4)).f1)) ∧ w'.cell? ⟨gb104, 0, none⟩ = some (.int .i64 ((rd_T29 l0 (ji7)).f0)) ∧ w'.cell? ⟨gb104, 1, none⟩ = some (.int .i64 ((rd_T29 l0 (ji7)).f1)) ∧ w'.cell? (ad101.add ((x13_1).toNat * 2)) = some (.int .i64 ((rd_T29 l0 x13_1).f0)) ∧ w'.cell? ⟨(ad101.add ((x13_1).toNat * 2)).block, (ad101.add ((x13_1).toNat * 2)).off + 1, none⟩ = some (.int .i64 ((rd_T29 l0 x13_1).f1)) ∧ w'.cell? (ad101.add ((x13_1).toNat * 2)) = some (.int .i64 ((rd_T29 l0 x13_1).f0)) ∧ w'.cell? ⟨(ad101.add ((x13_1).toNat * 2)).block, (ad101.add ((x13_1).toNat * 2)).off + 1, none⟩ = some (.int .i64 ((rd_T29 l0 x13_1).f1))) ∧ (w'.heap[gb103]? = some (.cells #[.int .i64 ((rd_T29 l0 (ji4)).f0), .int .i64 ((rd_T29 l0 (ji4)).f1)] 29 (0, 0))) ∧ (w'.heap[gb104]? = some (.cells #[.int .i64 ((rd_T29 l0 (ji7)).f0), .int .i64 ((rd_T29 l0 (ji7)).f1)] 29 (0, 0))) ∧ (w'.heap[s_]? = some (.cells #[.int .i64 0, .int .i64 0] 29 (0, 0))) ∧ (w.heap.size ≤ s_) ∧ (w.heap.size ≤ s_) ∧ (gb103 ≠ s_) ∧ (s_ ≠ gb103) ∧ (gb104 ≠ s_) ∧ (s_ ≠ gb104) ∧ (Below w.heap.size w w')) ?_ ?_
              rotate_left
              ·intro hJ12
               refine join_ (σ := Nat) 5 #[T,T,T,T,T,N,T,T,T,T,T,N,N,T,N,N] (fun s_ => [(8, .pointer (some ⟨s_, 0, none⟩))]) (fun s_ w' => (w'.cell? ⟨gb103, 0, none⟩ = some (.int .i64 ((rd_T29 l0 (ji4)).f0)) ∧ w'.cell? ⟨gb103, 1, none⟩ = some (.int .i64 ((rd_T29 l0 (ji4)).f1)) ∧ w'.cell? ⟨gb104, 0, none⟩ = some (.int .i64 ((rd_T29 l0 (ji7)).f0)) ∧ w'.cell? ⟨gb104, 1, none⟩ = some (.int .i64 ((rd_T29 l0 (ji7)).f1)) ∧ w'.cell? (ad101.add ((x13_1).toNat * 2)) = some (.int .i64 ((rd_T29 l0 x13_1).f0)) ∧ w'.cell? ⟨(ad101.add ((x13_1).toNat * 2)).block, (ad101.add ((x13_1).toNat * 2)).off + 1, none⟩ = some (.int .i64 ((rd_T29 l0 x13_1).f1)) ∧ w'.cell? (ad101.add ((x13_1).toNat * 2)) = some (.int .i64 ((rd_T29 l0 x13_1).f0)) ∧ w'.cell? ⟨(ad101.add ((x13_1).toNat * 2)).block, (ad101.add ((x13_1).toNat * 2)).off + 1, none⟩ = some (.int .i64 ((rd_T29 l0 x13_1).f1))) ∧ (w'.heap[gb103]? = some (.cells #[.int .i64 ((rd_T29 l0 (ji4)).f0), .int .i64 ((rd_T29 l0 (ji4)).f1)] 29 (0, 0))) ∧ (w'.heap[gb104]? = some (.cells #[.int .i64 ((rd_T29 l0 (ji7)).f0), .int .i64 ((rd_T29 l0 (ji7)).f1)] 29 (0, 0))) ∧ (w'.heap[s_]? = some (.cells #[.int .i64 0, .int .i64 0] 29 (0, 0))) ∧ (w.heap.size ≤ s_) ∧ (w.heap.size ≤ s_) ∧ (gb103 ≠ s_) ∧ (s_ ≠ gb103) ∧ (gb104 ≠ s_) ∧ (s_ ≠ gb104) ∧ (Below w.heap.size w w')) ?_ ?_
               rotate_left
               ·intro hJ13
                refine three_ (i := 5) (j := 12) (k := 13) (Ni := some 43) (Nj := some 7) (Nk := some 8) #[T,T,T,T,T,T,T,T,T,T,T,N,N,N,N,N] #[T,T,T,T,T,N,T,T,T,T,T,N,T,N,N,N] #[T,T,T,T,T,N,T,T,T,T,T,N,N,T,N,N] rfl rfl rfl rfl rfl rfl (on3 HT_) (by decide) (by decide) (by decide) (fun K hK => ?_) (fun K hK => ?_) (fun K hK => ?_)
                ·skip
                 refine goes_ Try.func70 (by kernel_rfl) rfl #[.agg #[.int .i64 ((rd_T29 l0 (ji4)).f0), .int .i64 ((rd_T29 l0 (ji4)).f1)], .agg #[.int .i64 ((rd_T29 l0 x13_1).f0), .int .i64 ((rd_T29 l0 x13_1).f1)]] (by rfl) rfl rfl (by (try simp only [List.map_toArray, List.map_cons, List.map_nil]); first | done | (simp only [hji4]; rfl) | rfl | (simp only [List.length_drop, List.length_take]; rfl)) ?_
                 with_reducible refine (shape_sub.calls ((rd_T29 l0 (ji4)).f0) ((rd_T29 l0 (ji4)).f1) ((rd_T29 l0 x13_1).f0) ((rd_T29 l0 x13_1).f1) t107 t108 _ A23.out).mono ?_
                 rintro e w37 ⟨rfl, hb⟩
                 refine ⟨_, rfl, ?_⟩
                 replace BK103 := kb BK103 hb
                 replace BK104 := kb BK104 hb
                 replace HB := Aside0.mk (below_step bh hb)
                 (try clear hb); (try clear hb2); (try clear hk); (try clear hi)
                 refine hK.out _ _ ⟨bc BK103 0, bc BK103 1, bc BK104 0, bc BK104 1, (hc HB hw106_0), (hc HB hw106_1), (hc HB hw109_0), (hc HB hw109_1)⟩ (fun hHeld => ?_)
                 clear hK K
                 refine nm 43 ?_
                 exact norm_ pa (hJ5 () _ ⟨hHeld, bk BK103, bk BK104, bh⟩)
                ·skip
                 refine bxs 7 #[.int .i64 0, .int .i64 0] 29 ?_
                 intro gb112 hg w37 hbox hb
                 have BK112 := Aside0.mk (hbox)
                 have GW112 := Aside0.mk (gs hg : w.heap.size ≤ gb112)
                 have GE112 := Aside0.mk (gs hg : w.heap.size ≤ gb112)
                 have NB103_112 := Aside0.mk ((by rw [hg]; exact Nat.ne_of_lt (kl BK103) : gb103 ≠ gb112))
                 have NB112_103 := Aside0.mk ((by rw [hg]; exact Nat.ne_of_gt (kl BK103) : gb112 ≠ gb103))
                 have NB104_112 := Aside0.mk ((by rw [hg]; exact Nat.ne_of_lt (kl BK104) : gb104 ≠ gb112))
                 have NB112_104 := Aside0.mk ((by rw [hg]; exact Nat.ne_of_gt (kl BK104) : gb112 ≠ gb104))
                 replace BK103 := kb BK103 hb
                 replace BK104 := kb BK104 hb
                 replace HB := Aside0.mk (below_step bh hb)
                 clear hb hbox hg
                 refine hK.out _ _ ⟨bc BK103 0, bc BK103 1, bc BK104 0, bc BK104 1, (hc HB hw106_0), (hc HB hw106_1), (hc HB hw109_0), (hc HB hw109_1)⟩ (fun hHeld => ?_)
                 clear hK K
                 refine nm 7 ?_
                 exact norm_ pa (hJ12 (gb112) _ ⟨hHeld, bk BK103, bk BK104, bk BK112, GW112.out, GE112.out, NB103_112.out, NB112_103.out, NB104_112.out, NB112_104.out, bh⟩)
                ·skip
                 refine bxs 8 #[.int .i64 0, .int .i64 0] 29 ?_
                 intro gb113 hg w37 hbox hb
                 have BK113 := Aside0.mk (hbox)
                 have GW113 := Aside0.mk (gs hg : w.heap.size ≤ gb113)
                 have GE113 := Aside0.mk (gs hg : w.heap.size ≤ gb113)
                 have NB103_113 := Aside0.mk ((by rw [hg]; exact Nat.ne_of_lt (kl BK103) : gb103 ≠ gb113))
                 have NB113_103 := Aside0.mk ((by rw [hg]; exact Nat.ne_of_gt (kl BK103) : gb113 ≠ gb103))
                 have NB104_113 := Aside0.mk ((by rw [hg]; exact Nat.ne_of_lt (kl BK104) : gb104 ≠ gb113))
                 have NB113_104 := Aside0.mk ((by rw [hg]; exact Nat.ne_of_gt (kl BK104) : gb113 ≠ gb104))
                 replace BK103 := kb BK103 hb
                 replace BK104 := kb BK104 hb
                 replace HB := Aside0.mk (below_step bh hb)
                 clear hb hbox hg
                 refine hK.out _ _ ⟨bc BK103 0, bc BK103 1, bc BK104 0, bc BK104 1, (hc HB hw106_0), (hc HB hw106_1), (hc HB hw109_0), (hc HB hw109_1)⟩ (fun hHeld => ?_)
                 clear hK K
                 refine nm 8 ?_
                 exact norm_ pa (hJ13 (gb113) _ ⟨hHeld, bk BK103, bk BK104, bk BK113, GW113.out, GE113.out, NB103_113.out, NB113_103.out, NB104_113.out, NB113_104.out, bh⟩)
               ·skip
                rintro gb113 w38 ⟨hS_, h0_, h1_, h2_, h3_, h4_, h5_, h6_, h7_, h8_, h9_⟩
                have BK113 := Aside0.mk h2_
                have GW113 := Aside0.mk h3_
                have GE113 := Aside0.mk h4_
                have NB103_113 := Aside0.mk h5_
                have NB113_103 := Aside0.mk h6_
                have NB104_113 := Aside0.mk h7_
                have NB113_104 := Aside0.mk h8_
                replace BK103 := Aside0.mk h0_
                replace BK104 := Aside0.mk h1_
                replace HB := Aside0.mk h9_
                clear h0_ h1_ h2_ h3_ h4_ h5_ h6_ h7_ h8_ h9_
                have hHeld := hS_
                refine nn ?_
                refine two_ (i := 5) (j := 12) (Ni := some 43) (Nj := some 7) #[T,T,T,T,T,T,T,T,T,T,T,N,N,T,N,N] #[T,T,T,T,T,N,T,T,T,T,T,N,T,T,N,N] rfl rfl rfl rfl (on2 HT_) (by decide) (by decide) (fun K hK => ?_) (fun K hK => ?_)
                ·skip
                 refine goes_ Try.func70 (by kernel_rfl) rfl #[.agg #[.int .i64 ((rd_T29 l0 (ji4)).f0), .int .i64 ((rd_T29 l0 (ji4)).f1)], .agg #[.int .i64 ((rd_T29 l0 x13_1).f0), .int .i64 ((rd_T29 l0 x13_1).f1)]] (by rfl) rfl rfl (by (try simp only [List.map_toArray, List.map_cons, List.map_nil]); first | done | (simp only [hji4]; rfl) | rfl | (simp only [List.length_drop, List.length_take]; rfl)) ?_
                 with_reducible refine (shape_sub.calls ((rd_T29 l0 (ji4)).f0) ((rd_T29 l0 (ji4)).f1) ((rd_T29 l0 x13_1).f0) ((rd_T29 l0 x13_1).f1) t107 t108 _ A23.out).mono ?_
                 rintro e w39 ⟨rfl, hb⟩
                 refine ⟨_, rfl, ?_⟩
                 replace BK103 := kb BK103 hb
                 replace BK104 := kb BK104 hb
                 replace BK113 := kb BK113 hb
                 replace HB := Aside0.mk (below_step bh hb)
                 (try clear hb); (try clear hb2); (try clear hk); (try clear hi)
                 refine hK.out _ _ ⟨bc BK103 0, bc BK103 1, bc BK104 0, bc BK104 1, (hc HB hw106_0), (hc HB hw106_1), (hc HB hw109_0), (hc HB hw109_1)⟩ (fun hHeld => ?_)
                 clear hK K
                 refine nm 43 ?_
                 exact norm_ pa (hJ5_13 (gb113) _ ⟨hHeld, bk BK103, bk BK104, bk BK113, GW113.out, GE113.out, NB103_113.out, NB113_103.out, NB104_113.out, NB113_104.out, bh⟩)
                ·skip
                 refine bxs 7 #[.int .i64 0, .int .i64 0] 29 ?_
                 intro gb112 hg w39 hbox hb
                 have BK112 := Aside0.mk (hbox)
                 have GW112 := Aside0.mk (gs hg : w.heap.size ≤ gb112)
                 have GE112 := Aside0.mk (gs hg : w.heap.size ≤ gb112)
                 have NB103_112 := Aside0.mk ((by rw [hg]; exact Nat.ne_of_lt (kl BK103) : gb103 ≠ gb112))
                 have NB112_103 := Aside0.mk ((by rw [hg]; exact Nat.ne_of_gt (kl BK103) : gb112 ≠ gb103))
                 have NB104_112 := Aside0.mk ((by rw [hg]; exact Nat.ne_of_lt (kl BK104) : gb104 ≠ gb112))
                 have NB112_104 := Aside0.mk ((by rw [hg]; exact Nat.ne_of_gt (kl BK104) : gb112 ≠ gb104))
                 have NB113_112 := Aside0.mk ((by rw [hg]; exact Nat.ne_of_lt (kl BK113) : gb113 ≠ gb112))
                 have NB112_113 := Aside0.mk ((by rw [hg]; exact Nat.ne_of_gt (kl BK113) : gb112 ≠ gb113))
                 replace BK103 := kb BK103 hb
                 replace BK104 := kb BK104 hb
                 replace BK113 := kb BK113 hb
                 replace HB := Aside0.mk (below_step bh hb)
                 clear hb hbox hg
                 refine hK.out _ _ ⟨bc BK103 0, bc BK103 1, bc BK104 0, bc BK104 1, (hc HB hw106_0), (hc HB hw106_1), (hc HB hw109_0), (hc HB hw109_1)⟩ (fun hHeld => ?_)
                 clear hK K
                 refine nm 7 ?_
                 exact norm_ pa (hJ12_13 (gb112, gb113) _ ⟨hHeld, bk BK103, bk BK104, bk BK112, bk BK113, GW112.out, GE112.out, NB103_112.out, NB112_103.out, NB104_112.out, NB112_104.out, NB113_112.out, NB112_113.out, GW113.out, GE113.out, NB103_113.out, NB113_103.out, NB104_113.out, NB113_104.out, bh⟩)
              ·skip
               rintro gb112 w38 ⟨hS_, h0_, h1_, h2_, h3_, h4_, h5_, h6_, h7_, h8_, h9_⟩
               have BK112 := Aside0.mk h2_
               have GW112 := Aside0.mk h3_
               have GE112 := Aside0.mk h4_
               have NB103_112 := Aside0.mk h5_
               have NB112_103 := Aside0.mk h6_
               have NB104_112 := Aside0.mk h7_
               have NB112_104 := Aside0.mk h8_
               replace BK103 := Aside0.mk h0_
               replace BK104 := Aside0.mk h1_
               replace HB := Aside0.mk h9_
               clear h0_ h1_ h2_ h3_ h4_ h5_ h6_ h7_ h8_ h9_
               have hHeld := hS_
               refine nn ?_
               refine two_ (i := 5) (j := 13) (Ni := some 43) (Nj := some 8) #[T,T,T,T,T,T,T,T,T,T,T,N,T,N,N,N] #[T,T,T,T,T,N,T,T,T,T,T,N,T,T,N,N] rfl rfl rfl rfl (on2 HT_) (by decide) (by decide) (fun K hK => ?_) (fun K hK => ?_)
               ·skip
                refine goes_ Try.func70 (by kernel_rfl) rfl #[.agg #[.int .i64 ((rd_T29 l0 (ji4)).f0), .int .i64 ((rd_T29 l0 (ji4)).f1)], .agg #[.int .i64 ((rd_T29 l0 x13_1).f0), .int .i64 ((rd_T29 l0 x13_1).f1)]] (by rfl) rfl rfl (by (try simp only [List.map_toArray, List.map_cons, List.map_nil]); first | done | (simp only [hji4]; rfl) | rfl | (simp only [List.length_drop, List.length_take]; rfl)) ?_
                with_reducible refine (shape_sub.calls ((rd_T29 l0 (ji4)).f0) ((rd_T29 l0 (ji4)).f1) ((rd_T29 l0 x13_1).f0) ((rd_T29 l0 x13_1).f1) t107 t108 _ A23.out).mono ?_
                rintro e w39 ⟨rfl, hb⟩
                refine ⟨_, rfl, ?_⟩
                replace BK103 := kb BK103 hb
                replace BK104 := kb BK104 hb
                replace BK112 := kb BK112 hb
                replace HB := Aside0.mk (below_step bh hb)
                (try clear hb); (try clear hb2); (try clear hk); (try clear hi)
                refine hK.out _ _ ⟨bc BK103 0, bc BK103 1, bc BK104 0, bc BK104 1, (hc HB hw106_0), (hc HB hw106_1), (hc HB hw109_0), (hc HB hw109_1)⟩ (fun hHeld => ?_)
                clear hK K
                refine nm 43 ?_
                exact norm_ pa (hJ5_12 (gb112) _ ⟨hHeld, bk BK103, bk BK104, bk BK112, GW112.out, GE112.out, NB103_112.out, NB112_103.out, NB104_112.out, NB112_104.out, bh⟩)
               ·skip
                refine bxs 8 #[.int .i64 0, .int .i64 0] 29 ?_
                intro gb113 hg w39 hbox hb
                have BK113 := Aside0.mk (hbox)
                have GW113 := Aside0.mk (gs hg : w.heap.size ≤ gb113)
                have GE113 := Aside0.mk (gs hg : w.heap.size ≤ gb113)
                have NB103_113 := Aside0.mk ((by rw [hg]; exact Nat.ne_of_lt (kl BK103) : gb103 ≠ gb113))
                have NB113_103 := Aside0.mk ((by rw [hg]; exact Nat.ne_of_gt (kl BK103) : gb113 ≠ gb103))
                have NB104_113 := Aside0.mk ((by rw [hg]; exact Nat.ne_of_lt (kl BK104) : gb104 ≠ gb113))
                have NB113_104 := Aside0.mk ((by rw [hg]; exact Nat.ne_of_gt (kl BK104) : gb113 ≠ gb104))
                have NB112_113 := Aside0.mk ((by rw [hg]; exact Nat.ne_of_lt (kl BK112) : gb112 ≠ gb113))
                have NB113_112 := Aside0.mk ((by rw [hg]; exact Nat.ne_of_gt (kl BK112) : gb113 ≠ gb112))
                replace BK103 := kb BK103 hb
                replace BK104 := kb BK104 hb
                replace BK112 := kb BK112 hb
                replace HB := Aside0.mk (below_step bh hb)
                clear hb hbox hg
                refine hK.out _ _ ⟨bc BK103 0, bc BK103 1, bc BK104 0, bc BK104 1, (hc HB hw106_0), (hc HB hw106_1), (hc HB hw109_0), (hc HB hw109_1)⟩ (fun hHeld => ?_)
                clear hK K
                refine nm 8 ?_
                exact norm_ pa (hJ12_13 (gb112, gb113) _ ⟨hHeld, bk BK103, bk BK104, bk BK112, bk BK113, GW112.out, GE112.out, NB103_112.out, NB112_103.out, NB104_112.out, NB112_104.out, NB113_112.out, NB112_113.out, GW113.out, GE113.out, NB103_113.out, NB113_103.out, NB104_113.out, NB113_104.out, bh⟩)
             ·skip
              rintro _ w38 ⟨hS_, h0_, h1_, h2_⟩
              replace BK103 := Aside0.mk h0_
              replace BK104 := Aside0.mk h1_
              replace HB := Aside0.mk h2_
              clear h0_ h1_ h2_
              have hHeld := hS_
              refine nn ?_
              refine three_ (i := 11) (j := 12) (k := 13) (Ni := some 49) (Nj := some 7) (Nk := some 8) #[T,T,T,T,T,T,T,T,T,T,T,T,N,N,N,N] #[T,T,T,T,T,T,T,T,T,T,T,N,T,N,N,N] #[T,T,T,T,T,T,T,T,T,T,T,N,N,T,N,N] rfl rfl rfl rfl rfl rfl (on3 HT_) (by decide) (by decide) (by decide) (fun K hK => ?_) (fun K hK => ?_) (fun K hK => ?_)
              ·skip
               refine goes_ Try.func70 (by kernel_rfl) rfl #[.agg #[.int .i64 ((rd_T29 l0 (ji7)).f0), .int .i64 ((rd_T29 l0 (ji7)).f1)], .agg #[.int .i64 ((rd_T29 l0 x13_1).f0), .int .i64 ((rd_T29 l0 x13_1).f1)]] (by rfl) rfl rfl (by (try simp only [List.map_toArray, List.map_cons, List.map_nil]); first | done | (simp only [hji7]; rfl) | rfl | (simp only [List.length_drop, List.length_take]; rfl)) ?_
               with_reducible refine (shape_sub.calls ((rd_T29 l0 (ji7)).f0) ((rd_T29 l0 (ji7)).f1) ((rd_T29 l0 x13_1).f0) ((rd_T29 l0 x13_1).f1) t110 t111 _ A24.out).mono ?_
               rintro e w39 ⟨rfl, hb⟩
               refine ⟨_, rfl, ?_⟩
               replace BK103 := kb BK103 hb
               replace BK104 := kb BK104 hb
               replace HB := Aside0.mk (below_step bh hb)
               (try clear hb); (try clear hb2); (try clear hk); (try clear hi)
               refine hK.out _ _ ⟨bc BK103 0, bc BK103 1, bc BK104 0, bc BK104 1, (hc HB hw106_0), (hc HB hw106_1), (hc HB hw109_0), (hc HB hw109_1)⟩ (fun hHeld => ?_)
               clear hK K
               refine nm 49 ?_
               exact norm_ pa (hJ5_11 () _ ⟨hHeld, bk BK103, bk BK104, bh⟩)
              ·skip
               refine bxs 7 #[.int .i64 0, .int .i64 0] 29 ?_
               intro gb112 hg w39 hbox hb
               have BK112 := Aside0.mk (hbox)
               have GW112 := Aside0.mk (gs hg : w.heap.size ≤ gb112)
               have GE112 := Aside0.mk (gs hg : w.heap.size ≤ gb112)
               have NB103_112 := Aside0.mk ((by rw [hg]; exact Nat.ne_of_lt (kl BK103) : gb103 ≠ gb112))
               have NB112_103 := Aside0.mk ((by rw [hg]; exact Nat.ne_of_gt (kl BK103) : gb112 ≠ gb103))
               have NB104_112 := Aside0.mk ((by rw [hg]; exact Nat.ne_of_lt (kl BK104) : gb104 ≠ gb112))
               have NB112_104 := Aside0.mk ((by rw [hg]; exact Nat.ne_of_gt (kl BK104) : gb112 ≠ gb104))
               replace BK103 := kb BK103 hb
               replace BK104 := kb BK104 hb
               replace HB := Aside0.mk (below_step bh hb)
               clear hb hbox hg
               refine hK.out _ _ ⟨bc BK103 0, bc BK103 1, bc BK104 0, bc BK104 1, (hc HB hw106_0), (hc HB hw106_1), (hc HB hw109_0), (hc HB hw109_1)⟩ (fun hHeld => ?_)
               clear hK K
               refine nm 7 ?_
               exact norm_ pa (hJ5_12 (gb112) _ ⟨hHeld, bk BK103, bk BK104, bk BK112, GW112.out, GE112.out, NB103_112.out, NB112_103.out, NB104_112.out, NB112_104.out, bh⟩)
              ·skip
               refine bxs 8 #[.int .i64 0, .int .i64 0] 29 ?_
               intro gb113 hg w39 hbox hb
               have BK113 := Aside0.mk (hbox)
               have GW113 := Aside0.mk (gs hg : w.heap.size ≤ gb113)
               have GE113 := Aside0.mk (gs hg : w.heap.size ≤ gb113)
               have NB103_113 := Aside0.mk ((by rw [hg]; exact Nat.ne_of_lt (kl BK103) : gb103 ≠ gb113))
               have NB113_103 := Aside0.mk ((by rw [hg]; exact Nat.ne_of_gt (kl BK103) : gb113 ≠ gb103))
               have NB104_113 := Aside0.mk ((by rw [hg]; exact Nat.ne_of_lt (kl BK104) : gb104 ≠ gb113))
               have NB113_104 := Aside0.mk ((by rw [hg]; exact Nat.ne_of_gt (kl BK104) : gb113 ≠ gb104))
               replace BK103 := kb BK103 hb
               replace BK104 := kb BK104 hb
               replace HB := Aside0.mk (below_step bh hb)
               clear hb hbox hg
               refine hK.out _ _ ⟨bc BK103 0, bc BK103 1, bc BK104 0, bc BK104 1, (hc HB hw106_0), (hc HB hw106_1), (hc HB hw109_0), (hc HB hw109_1)⟩ (fun hHeld => ?_)
               clear hK K
               refine nm 8 ?_
               exact norm_ pa (hJ5_13 (gb113) _ ⟨hHeld, bk BK103, bk BK104, bk BK113, GW113.out, GE113.out, NB103_113.out, NB113_103.out, NB104_113.out, NB113_104.out, bh⟩)
            ·skip
             rintro ⟨gb112, gb113⟩ w39 ⟨hS_, h0_, h1_, h2_, h3_, h4_, h5_, h6_, h7_, h8_, h9_, h10_, h11_, h12_, h13_, h14_, h15_, h16_, h17_, h18_⟩
             have BK112 := Aside0.mk h2_
             have BK113 := Aside0.mk h3_
             have GW112 := Aside0.mk h4_
             have GE112 := Aside0.mk h5_
             have NB103_112 := Aside0.mk h6_
             have NB112_103 := Aside0.mk h7_
             have NB104_112 := Aside0.mk h8_
             have NB112_104 := Aside0.mk h9_
             have NB113_112 := Aside0.mk h10_
             have NB112_113 := Aside0.mk h11_
             have GW113 := Aside0.mk h12_
             have GE113 := Aside0.mk h13_
             have NB103_113 := Aside0.mk h14_
             have NB113_103 := Aside0.mk h15_
             have NB104_113 := Aside0.mk h16_
             have NB113_104 := Aside0.mk h17_
             replace BK103 := Aside0.mk h0_
             replace BK104 := Aside0.mk h1_
             replace HB := Aside0.mk h18_
             clear h0_ h1_ h2_ h3_ h4_ h5_ h6_ h7_ h8_ h9_ h10_ h11_ h12_ h13_ h14_ h15_ h16_ h17_ h18_
             have hHeld := hS_
             refine nn ?_
             refine one_ (i := 5) (N := some 43) #[T,T,T,T,T,T,T,T,T,T,T,N,T,T,N,N] rfl rfl (on1 HT_) (by decide) (fun K hK => ?_)
             refine goes_ Try.func70 (by kernel_rfl) rfl #[.agg #[.int .i64 ((rd_T29 l0 (ji4)).f0), .int .i64 ((rd_T29 l0 (ji4)).f1)], .agg #[.int .i64 ((rd_T29 l0 x13_1).f0), .int .i64 ((rd_T29 l0 x13_1).f1)]] (by rfl) rfl rfl (by (try simp only [List.map_toArray, List.map_cons, List.map_nil]); first | done | (simp only [hji4]; rfl) | rfl | (simp only [List.length_drop, List.length_take]; rfl)) ?_
             with_reducible refine (shape_sub.calls ((rd_T29 l0 (ji4)).f0) ((rd_T29 l0 (ji4)).f1) ((rd_T29 l0 x13_1).f0) ((rd_T29 l0 x13_1).f1) t107 t108 _ A23.out).mono ?_
             rintro e w40 ⟨rfl, hb⟩
             refine ⟨_, rfl, ?_⟩
             replace BK103 := kb BK103 hb
             replace BK104 := kb BK104 hb
             replace BK112 := kb BK112 hb
             replace BK113 := kb BK113 hb
             replace HB := Aside0.mk (below_step bh hb)
             (try clear hb); (try clear hb2); (try clear hk); (try clear hi)
             refine hK.out _ _ ⟨bc BK103 0, bc BK103 1, bc BK104 0, bc BK104 1, (hc HB hw106_0), (hc HB hw106_1), (hc HB hw109_0), (hc HB hw109_1)⟩ (fun hHeld => ?_)
             clear hK K
             refine nm 43 ?_
             exact norm_ pa (hJ5_12_13 (gb112, gb113) _ ⟨hHeld, bk BK103, bk BK104, bk BK112, bk BK113, GW112.out, GE112.out, NB103_112.out, NB112_103.out, NB104_112.out, NB112_104.out, NB113_112.out, NB112_113.out, GW113.out, GE113.out, NB103_113.out, NB113_103.out, NB104_113.out, NB113_104.out, bh⟩)
           ·skip
            rintro gb113 w39 ⟨hS_, h0_, h1_, h2_, h3_, h4_, h5_, h6_, h7_, h8_, h9_⟩
            have BK113 := Aside0.mk h2_
            have GW113 := Aside0.mk h3_
            have GE113 := Aside0.mk h4_
            have NB103_113 := Aside0.mk h5_
            have NB113_103 := Aside0.mk h6_
            have NB104_113 := Aside0.mk h7_
            have NB113_104 := Aside0.mk h8_
            replace BK103 := Aside0.mk h0_
            replace BK104 := Aside0.mk h1_
            replace HB := Aside0.mk h9_
            clear h0_ h1_ h2_ h3_ h4_ h5_ h6_ h7_ h8_ h9_
            have hHeld := hS_
            refine nn ?_
            refine two_ (i := 11) (j := 12) (Ni := some 49) (Nj := some 7) #[T,T,T,T,T,T,T,T,T,T,T,T,N,T,N,N] #[T,T,T,T,T,T,T,T,T,T,T,N,T,T,N,N] rfl rfl rfl rfl (on2 HT_) (by decide) (by decide) (fun K hK => ?_) (fun K hK => ?_)
            ·skip
             refine goes_ Try.func70 (by kernel_rfl) rfl #[.agg #[.int .i64 ((rd_T29 l0 (ji7)).f0), .int .i64 ((rd_T29 l0 (ji7)).f1)], .agg #[.int .i64 ((rd_T29 l0 x13_1).f0), .int .i64 ((rd_T29 l0 x13_1).f1)]] (by rfl) rfl rfl (by (try simp only [List.map_toArray, List.map_cons, List.map_nil]); first | done | (simp only [hji7]; rfl) | rfl | (simp only [List.length_drop, List.length_take]; rfl)) ?_
             with_reducible refine (shape_sub.calls ((rd_T29 l0 (ji7)).f0) ((rd_T29 l0 (ji7)).f1) ((rd_T29 l0 x13_1).f0) ((rd_T29 l0 x13_1).f1) t110 t111 _ A24.out).mono ?_
             rintro e w40 ⟨rfl, hb⟩
             refine ⟨_, rfl, ?_⟩
             replace BK103 := kb BK103 hb
             replace BK104 := kb BK104 hb
             replace BK113 := kb BK113 hb
             replace HB := Aside0.mk (below_step bh hb)
             (try clear hb); (try clear hb2); (try clear hk); (try clear hi)
             refine hK.out _ _ ⟨bc BK103 0, bc BK103 1, bc BK104 0, bc BK104 1, (hc HB hw106_0), (hc HB hw106_1), (hc HB hw109_0), (hc HB hw109_1)⟩ (fun hHeld => ?_)
             clear hK K
             refine nm 49 ?_
             exact norm_ pa (hJ5_11_13 (gb113) _ ⟨hHeld, bk BK103, bk BK104, bk BK113, GW113.out, GE113.out, NB103_113.out, NB113_103.out, NB104_113.out, NB113_104.out, bh⟩)
            ·skip
             refine bxs 7 #[.int .i64 0, .int .i64 0] 29 ?_
             intro gb112 hg w40 hbox hb
             have BK112 := Aside0.mk (hbox)
             have GW112 := Aside0.mk (gs hg : w.heap.size ≤ gb112)
             have GE112 := Aside0.mk (gs hg : w.heap.size ≤ gb112)
             have NB103_112 := Aside0.mk ((by rw [hg]; exact Nat.ne_of_lt (kl BK103) : gb103 ≠ gb112))
             have NB112_103 := Aside0.mk ((by rw [hg]; exact Nat.ne_of_gt (kl BK103) : gb112 ≠ gb103))
             have NB104_112 := Aside0.mk ((by rw [hg]; exact Nat.ne_of_lt (kl BK104) : gb104 ≠ gb112))
             have NB112_104 := Aside0.mk ((by rw [hg]; exact Nat.ne_of_gt (kl BK104) : gb112 ≠ gb104))
             have NB113_112 := Aside0.mk ((by rw [hg]; exact Nat.ne_of_lt (kl BK113) : gb113 ≠ gb112))
             have NB112_113 := Aside0.mk ((by rw [hg]; exact Nat.ne_of_gt (kl BK113) : gb112 ≠ gb113))
             replace BK103 := kb BK103 hb
             replace BK104 := kb BK104 hb
             replace BK113 := kb BK113 hb
             replace HB := Aside0.mk (below_step bh hb)
             clear hb hbox hg
             refine hK.out _ _ ⟨bc BK103 0, bc BK103 1, bc BK104 0, bc BK104 1, (hc HB hw106_0), (hc HB hw106_1), (hc HB hw109_0), (hc HB hw109_1)⟩ (fun hHeld => ?_)
             clear hK K
             refine nm 7 ?_
             exact norm_ pa (hJ5_12_13 (gb112, gb113) _ ⟨hHeld, bk BK103, bk BK104, bk BK112, bk BK113, GW112.out, GE112.out, NB103_112.out, NB112_103.out, NB104_112.out, NB112_104.out, NB113_112.out, NB112_113.out, GW113.out, GE113.out, NB103_113.out, NB113_103.out, NB104_113.out, NB113_104.out, bh⟩)
          ·skip
           rintro gb112 w39 ⟨hS_, h0_, h1_, h2_, h3_, h4_, h5_, h6_, h7_, h8_, h9_⟩
           have BK112 := Aside0.mk h2_
           have GW112 := Aside0.mk h3_
           have GE112 := Aside0.mk h4_
           have NB103_112 := Aside0.mk h5_
           have NB112_103 := Aside0.mk h6_
           have NB104_112 := Aside0.mk h7_
           have NB112_104 := Aside0.mk h8_
           replace BK103 := Aside0.mk h0_
           replace BK104 := Aside0.mk h1_
           replace HB := Aside0.mk h9_
           clear h0_ h1_ h2_ h3_ h4_ h5_ h6_ h7_ h8_ h9_
           have hHeld := hS_
           refine nn ?_
           refine two_ (i := 11) (j := 13) (Ni := some 49) (Nj := some 8) #[T,T,T,T,T,T,T,T,T,T,T,T,T,N,N,N] #[T,T,T,T,T,T,T,T,T,T,T,N,T,T,N,N] rfl rfl rfl rfl (on2 HT_) (by decide) (by decide) (fun K hK => ?_) (fun K hK => ?_)
           ·skip
            refine goes_ Try.func70 (by kernel_rfl) rfl #[.agg #[.int .i64 ((rd_T29 l0 (ji7)).f0), .int .i64 ((rd_T29 l0 (ji7)).f1)], .agg #[.int .i64 ((rd_T29 l0 x13_1).f0), .int .i64 ((rd_T29 l0 x13_1).f1)]] (by rfl) rfl rfl (by (try simp only [List.map_toArray, List.map_cons, List.map_nil]); first | done | (simp only [hji7]; rfl) | rfl | (simp only [List.length_drop, List.length_take]; rfl)) ?_
            with_reducible refine (shape_sub.calls ((rd_T29 l0 (ji7)).f0) ((rd_T29 l0 (ji7)).f1) ((rd_T29 l0 x13_1).f0) ((rd_T29 l0 x13_1).f1) t110 t111 _ A24.out).mono ?_
            rintro e w40 ⟨rfl, hb⟩
            refine ⟨_, rfl, ?_⟩
            replace BK103 := kb BK103 hb
            replace BK104 := kb BK104 hb
            replace BK112 := kb BK112 hb
            replace HB := Aside0.mk (below_step bh hb)
            (try clear hb); (try clear hb2); (try clear hk); (try clear hi)
            refine hK.out _ _ ⟨bc BK103 0, bc BK103 1, bc BK104 0, bc BK104 1, (hc HB hw106_0), (hc HB hw106_1), (hc HB hw109_0), (hc HB hw109_1)⟩ (fun hHeld => ?_)
            clear hK K
            refine nm 49 ?_
            exact norm_ pa (hJ5_11_12 (gb112) _ ⟨hHeld, bk BK103, bk BK104, bk BK112, GW112.out, GE112.out, NB103_112.out, NB112_103.out, NB104_112.out, NB112_104.out, bh⟩)
           ·skip
            refine bxs 8 #[.int .i64 0, .int .i64 0] 29 ?_
            intro gb113 hg w40 hbox hb
            have BK113 := Aside0.mk (hbox)
            have GW113 := Aside0.mk (gs hg : w.heap.size ≤ gb113)
            have GE113 := Aside0.mk (gs hg : w.heap.size ≤ gb113)
            have NB103_113 := Aside0.mk ((by rw [hg]; exact Nat.ne_of_lt (kl BK103) : gb103 ≠ gb113))
            have NB113_103 := Aside0.mk ((by rw [hg]; exact Nat.ne_of_gt (kl BK103) : gb113 ≠ gb103))
            have NB104_113 := Aside0.mk ((by rw [hg]; exact Nat.ne_of_lt (kl BK104) : gb104 ≠ gb113))
            have NB113_104 := Aside0.mk ((by rw [hg]; exact Nat.ne_of_gt (kl BK104) : gb113 ≠ gb104))
            have NB112_113 := Aside0.mk ((by rw [hg]; exact Nat.ne_of_lt (kl BK112) : gb112 ≠ gb113))
            have NB113_112 := Aside0.mk ((by rw [hg]; exact Nat.ne_of_gt (kl BK112) : gb113 ≠ gb112))
            replace BK103 := kb BK103 hb
            replace BK104 := kb BK104 hb
            replace BK112 := kb BK112 hb
            replace HB := Aside0.mk (below_step bh hb)
            clear hb hbox hg
            refine hK.out _ _ ⟨bc BK103 0, bc BK103 1, bc BK104 0, bc BK104 1, (hc HB hw106_0), (hc HB hw106_1), (hc HB hw109_0), (hc HB hw109_1)⟩ (fun hHeld => ?_)
            clear hK K
            refine nm 8 ?_
            exact norm_ pa (hJ5_12_13 (gb112, gb113) _ ⟨hHeld, bk BK103, bk BK104, bk BK112, bk BK113, GW112.out, GE112.out, NB103_112.out, NB112_103.out, NB104_112.out, NB112_104.out, NB113_112.out, NB112_113.out, GW113.out, GE113.out, NB103_113.out, NB113_103.out, NB104_113.out, NB113_104.out, bh⟩)
         ·skip
          rintro _ w39 ⟨hS_, h0_, h1_, h2_⟩
          replace BK103 := Aside0.mk h0_
          replace BK104 := Aside0.mk h1_
          replace HB := Aside0.mk h2_
          clear h0_ h1_ h2_
          have hHeld := hS_
          refine nn ?_
          refine two_ (i := 12) (j := 13) (Ni := some 7) (Nj := some 8) #[T,T,T,T,T,T,T,T,T,T,T,T,T,N,N,N] #[T,T,T,T,T,T,T,T,T,T,T,T,N,T,N,N] rfl rfl rfl rfl (on2 HT_) (by decide) (by decide) (fun K hK => ?_) (fun K hK => ?_)
          ·skip
           refine bxs 7 #[.int .i64 0, .int .i64 0] 29 ?_
           intro gb112 hg w40 hbox hb
           have BK112 := Aside0.mk (hbox)
           have GW112 := Aside0.mk (gs hg : w.heap.size ≤ gb112)
           have GE112 := Aside0.mk (gs hg : w.heap.size ≤ gb112)
           have NB103_112 := Aside0.mk ((by rw [hg]; exact Nat.ne_of_lt (kl BK103) : gb103 ≠ gb112))
           have NB112_103 := Aside0.mk ((by rw [hg]; exact Nat.ne_of_gt (kl BK103) : gb112 ≠ gb103))
           have NB104_112 := Aside0.mk ((by rw [hg]; exact Nat.ne_of_lt (kl BK104) : gb104 ≠ gb112))
           have NB112_104 := Aside0.mk ((by rw [hg]; exact Nat.ne_of_gt (kl BK104) : gb112 ≠ gb104))
           replace BK103 := kb BK103 hb
           replace BK104 := kb BK104 hb
           replace HB := Aside0.mk (below_step bh hb)
           clear hb hbox hg
           refine hK.out _ _ ⟨bc BK103 0, bc BK103 1, bc BK104 0, bc BK104 1, (hc HB hw106_0), (hc HB hw106_1), (hc HB hw109_0), (hc HB hw109_1)⟩ (fun hHeld => ?_)
           clear hK K
           refine nm 7 ?_
           exact norm_ pa (hJ5_11_12 (gb112) _ ⟨hHeld, bk BK103, bk BK104, bk BK112, GW112.out, GE112.out, NB103_112.out, NB112_103.out, NB104_112.out, NB112_104.out, bh⟩)
          ·skip
           refine bxs 8 #[.int .i64 0, .int .i64 0] 29 ?_
           intro gb113 hg w40 hbox hb
           have BK113 := Aside0.mk (hbox)
           have GW113 := Aside0.mk (gs hg : w.heap.size ≤ gb113)
           have GE113 := Aside0.mk (gs hg : w.heap.size ≤ gb113)
           have NB103_113 := Aside0.mk ((by rw [hg]; exact Nat.ne_of_lt (kl BK103) : gb103 ≠ gb113))
           have NB113_103 := Aside0.mk ((by rw [hg]; exact Nat.ne_of_gt (kl BK103) : gb113 ≠ gb103))
           have NB104_113 := Aside0.mk ((by rw [hg]; exact Nat.ne_of_lt (kl BK104) : gb104 ≠ gb113))
           have NB113_104 := Aside0.mk ((by rw [hg]; exact Nat.ne_of_gt (kl BK104) : gb113 ≠ gb104))
           replace BK103 := kb BK103 hb
           replace BK104 := kb BK104 hb
           replace HB := Aside0.mk (below_step bh hb)
           clear hb hbox hg
           refine hK.out _ _ ⟨bc BK103 0, bc BK103 1, bc BK104 0, bc BK104 1, (hc HB hw106_0), (hc HB hw106_1), (hc HB hw109_0), (hc HB hw109_1)⟩ (fun hHeld => ?_)
           clear hK K
           refine nm 8 ?_
           exact norm_ pa (hJ5_11_13 (gb113) _ ⟨hHeld, bk BK103, bk BK104, bk BK113, GW113.out, GE113.out, NB103_113.out, NB113_103.out, NB104_113.out, NB113_104.out, bh⟩)
        ·skip
         rintro ⟨gb112, gb113⟩ w40 ⟨hS_, h0_, h1_, h2_, h3_, h4_, h5_, h6_, h7_, h8_, h9_, h10_, h11_, h12_, h13_, h14_, h15_, h16_, h17_, h18_⟩
         have BK112 := Aside0.mk h2_
         have BK113 := Aside0.mk h3_
         have GW112 := Aside0.mk h4_
         have GE112 := Aside0.mk h5_
         have NB103_112 := Aside0.mk h6_
         have NB112_103 := Aside0.mk h7_
         have NB104_112 := Aside0.mk h8_
         have NB112_104 := Aside0.mk h9_
         have NB113_112 := Aside0.mk h10_
         have NB112_113 := Aside0.mk h11_
         have GW113 := Aside0.mk h12_
         have GE113 := Aside0.mk h13_
         have NB103_113 := Aside0.mk h14_
         have NB113_103 := Aside0.mk h15_
         have NB104_113 := Aside0.mk h16_
         have NB113_104 := Aside0.mk h17_
         replace BK103 := Aside0.mk h0_
         replace BK104 := Aside0.mk h1_
         replace HB := Aside0.mk h18_
         clear h0_ h1_ h2_ h3_ h4_ h5_ h6_ h7_ h8_ h9_ h10_ h11_ h12_ h13_ h14_ h15_ h16_ h17_ h18_
         have hHeld := hS_
         refine nn ?_
         refine one_ (i := 11) (N := some 49) #[T,T,T,T,T,T,T,T,T,T,T,T,T,T,N,N] rfl rfl (on1 HT_) (by decide) (fun K hK => ?_)
         refine goes_ Try.func70 (by kernel_rfl) rfl #[.agg #[.int .i64 ((rd_T29 l0 (ji7)).f0), .int .i64 ((rd_T29 l0 (ji7)).f1)], .agg #[.int .i64 ((rd_T29 l0 x13_1).f0), .int .i64 ((rd_T29 l0 x13_1).f1)]] (by rfl) rfl rfl (by (try simp only [List.map_toArray, List.map_cons, List.map_nil]); first | done | (simp only [hji7]; rfl) | rfl | (simp only [List.length_drop, List.length_take]; rfl)) ?_
         with_reducible refine (shape_sub.calls ((rd_T29 l0 (ji7)).f0) ((rd_T29 l0 (ji7)).f1) ((rd_T29 l0 x13_1).f0) ((rd_T29 l0 x13_1).f1) t110 t111 _ A24.out).mono ?_
         rintro e w41 ⟨rfl, hb⟩
         refine ⟨_, rfl, ?_⟩
         replace BK103 := kb BK103 hb
         replace BK104 := kb BK104 hb
         replace BK112 := kb BK112 hb
         replace BK113 := kb BK113 hb
         replace HB := Aside0.mk (below_step bh hb)
         (try clear hb); (try clear hb2); (try clear hk); (try clear hi)
         refine hK.out _ _ ⟨bc BK103 0, bc BK103 1, bc BK104 0, bc BK104 1, (hc HB hw106_0), (hc HB hw106_1), (hc HB hw109_0), (hc HB hw109_1)⟩ (fun hHeld => ?_)
         clear hK K
         refine nm 49 ?_
         exact norm_ pa (hJ5_11_12_13 (gb112, gb113) _ ⟨hHeld, bk BK103, bk BK104, bk BK112, bk BK113, GW112.out, GE112.out, NB103_112.out, NB112_103.out, NB104_112.out, NB112_104.out, NB113_112.out, NB112_113.out, GW113.out, GE113.out, NB103_113.out, NB113_103.out, NB104_113.out, NB113_104.out, bh⟩)
       ·skip
        rintro gb113 w40 ⟨hS_, h0_, h1_, h2_, h3_, h4_, h5_, h6_, h7_, h8_, h9_⟩
        have BK113 := Aside0.mk h2_
        have GW113 := Aside0.mk h3_
        have GE113 := Aside0.mk h4_
        have NB103_113 := Aside0.mk h5_
        have NB113_103 := Aside0.mk h6_
        have NB104_113 := Aside0.mk h7_
        have NB113_104 := Aside0.mk h8_
        replace BK103 := Aside0.mk h0_
        replace BK104 := Aside0.mk h1_
        replace HB := Aside0.mk h9_
        clear h0_ h1_ h2_ h3_ h4_ h5_ h6_ h7_ h8_ h9_
        have hHeld := hS_
        refine nn ?_
        refine one_ (i := 12) (N := some 7) #[T,T,T,T,T,T,T,T,T,T,T,T,T,T,N,N] rfl rfl (on1 HT_) (by decide) (fun K hK => ?_)
        refine bxs 7 #[.int .i64 0, .int .i64 0] 29 ?_
        intro gb112 hg w41 hbox hb
        have BK112 := Aside0.mk (hbox)
        have GW112 := Aside0.mk (gs hg : w.heap.size ≤ gb112)
        have GE112 := Aside0.mk (gs hg : w.heap.size ≤ gb112)
        have NB103_112 := Aside0.mk ((by rw [hg]; exact Nat.ne_of_lt (kl BK103) : gb103 ≠ gb112))
        have NB112_103 := Aside0.mk ((by rw [hg]; exact Nat.ne_of_gt (kl BK103) : gb112 ≠ gb103))
        have NB104_112 := Aside0.mk ((by rw [hg]; exact Nat.ne_of_lt (kl BK104) : gb104 ≠ gb112))
        have NB112_104 := Aside0.mk ((by rw [hg]; exact Nat.ne_of_gt (kl BK104) : gb112 ≠ gb104))
        have NB113_112 := Aside0.mk ((by rw [hg]; exact Nat.ne_of_lt (kl BK113) : gb113 ≠ gb112))
        have NB112_113 := Aside0.mk ((by rw [hg]; exact Nat.ne_of_gt (kl BK113) : gb112 ≠ gb113))
        replace BK103 := kb BK103 hb
        replace BK104 := kb BK104 hb
        replace BK113 := kb BK113 hb
        replace HB := Aside0.mk (below_step bh hb)
        clear hb hbox hg
        refine hK.out _ _ ⟨bc BK103 0, bc BK103 1, bc BK104 0, bc BK104 1, (hc HB hw106_0), (hc HB hw106_1), (hc HB hw109_0), (hc HB hw109_1)⟩ (fun hHeld => ?_)
        clear hK K
        refine nm 7 ?_
        exact norm_ pa (hJ5_11_12_13 (gb112, gb113) _ ⟨hHeld, bk BK103, bk BK104, bk BK112, bk BK113, GW112.out, GE112.out, NB103_112.out, NB112_103.out, NB104_112.out, NB112_104.out, NB113_112.out, NB112_113.out, GW113.out, GE113.out, NB103_113.out, NB113_103.out, NB104_113.out, NB113_104.out, bh⟩)
      ·skip
       rintro gb112 w40 ⟨hS_, h0_, h1_, h2_, h3_, h4_, h5_, h6_, h7_, h8_, h9_⟩
       have BK112 := Aside0.mk h2_
       have GW112 := Aside0.mk h3_
       have GE112 := Aside0.mk h4_
       have NB103_112 := Aside0.mk h5_
       have NB112_103 := Aside0.mk h6_
       have NB104_112 := Aside0.mk h7_
       have NB112_104 := Aside0.mk h8_
       replace BK103 := Aside0.mk h0_
       replace BK104 := Aside0.mk h1_
       replace HB := Aside0.mk h9_
       clear h0_ h1_ h2_ h3_ h4_ h5_ h6_ h7_ h8_ h9_
       have hHeld := hS_
       refine nn ?_
       refine one_ (i := 13) (N := some 8) #[T,T,T,T,T,T,T,T,T,T,T,T,T,T,N,N] rfl rfl (on1 HT_) (by decide) (fun K hK => ?_)
       refine bxs 8 #[.int .i64 0, .int .i64 0] 29 ?_
       intro gb113 hg w41 hbox hb
       have BK113 := Aside0.mk (hbox)
       have GW113 := Aside0.mk (gs hg : w.heap.size ≤ gb113)
       have GE113 := Aside0.mk (gs hg : w.heap.size ≤ gb113)
       have NB103_113 := Aside0.mk ((by rw [hg]; exact Nat.ne_of_lt (kl BK103) : gb103 ≠ gb113))
       have NB113_103 := Aside0.mk ((by rw [hg]; exact Nat.ne_of_gt (kl BK103) : gb113 ≠ gb103))
       have NB104_113 := Aside0.mk ((by rw [hg]; exact Nat.ne_of_lt (kl BK104) : gb104 ≠ gb113))
       have NB113_104 := Aside0.mk ((by rw [hg]; exact Nat.ne_of_gt (kl BK104) : gb113 ≠ gb104))
       have NB112_113 := Aside0.mk ((by rw [hg]; exact Nat.ne_of_lt (kl BK112) : gb112 ≠ gb113))
       have NB113_112 := Aside0.mk ((by rw [hg]; exact Nat.ne_of_gt (kl BK112) : gb113 ≠ gb112))
       replace BK103 := kb BK103 hb
       replace BK104 := kb BK104 hb
       replace BK112 := kb BK112 hb
       replace HB := Aside0.mk (below_step bh hb)
       clear hb hbox hg
       refine hK.out _ _ ⟨bc BK103 0, bc BK103 1, bc BK104 0, bc BK104 1, (hc HB hw106_0), (hc HB hw106_1), (hc HB hw109_0), (hc HB hw109_1)⟩ (fun hHeld => ?_)
       clear hK K
       refine nm 8 ?_
       exact norm_ pa (hJ5_11_12_13 (gb112, gb113) _ ⟨hHeld, bk BK103, bk BK104, bk BK112, bk BK113, GW112.out, GE112.out, NB103_112.out, NB112_103.out, NB104_112.out, NB112_104.out, NB113_112.out, NB112_113.out, GW113.out, GE113.out, NB103_113.out, NB113_103.out, NB104_113.out, NB113_104.out, bh⟩)
     rintro ⟨gb112, gb113⟩ w41 ⟨hS_, h0_, h1_, h2_, h3_, h4_, h5_, h6_, h7_, h8_, h9_, h10_, h11_, h12_, h13_, h14_, h15_, h16_, h17_, h18_⟩
     have BK112 := Aside0.mk h2_
     have BK113 := Aside0.mk h3_
     have GW112 := Aside0.mk h4_
     have GE112 := Aside0.mk h5_
     have NB103_112 := Aside0.mk h6_
     have NB112_103 := Aside0.mk h7_
     have NB104_112 := Aside0.mk h8_
     have NB112_104 := Aside0.mk h9_
     have NB113_112 := Aside0.mk h10_
     have NB112_113 := Aside0.mk h11_
     have GW113 := Aside0.mk h12_
     have GE113 := Aside0.mk h13_
     have NB103_113 := Aside0.mk h14_
     have NB113_103 := Aside0.mk h15_
     have NB104_113 := Aside0.mk h16_
     have NB113_104 := Aside0.mk h17_
     replace BK103 := Aside0.mk h0_
     replace BK104 := Aside0.mk h1_
     replace HB := Aside0.mk h18_
     clear h0_ h1_ h2_ h3_ h4_ h5_ h6_ h7_ h8_ h9_ h10_ h11_ h12_ h13_ h14_ h15_ h16_ h17_ h18_
     have hHeld := hS_
     refine nn ?_
     refine one_ (i := 14) (N := none) #[T,T,T,T,T,T,T,T,T,T,T,T,T,T,T,N] rfl rfl (on1 HT_) (by decide) (fun K hK => ?_)
     have hs42 : w41.cell? ⟨gb112, 0, none⟩ = some (.int .i64 0) := bc BK112 0
     have hfs42 := blk_frozen BK112.out 0
     have hns42_0 := NB103_112.out
     have hns42_1 := NB104_112.out
     have hns42_3 := NB113_112.out
     have hms42_0 := NB112_103.out
     have hms42_1 := NB112_104.out
     have hms42_3 := NB112_113.out
     have hs43 : w41.cell? ⟨gb112, 1, none⟩ = some (.int .i64 0) := bc BK112 1
     have hfs43 := blk_frozen BK112.out 1
     have hns43_0 := NB103_112.out
     have hns43_1 := NB104_112.out
     have hns43_3 := NB113_112.out
     have hms43_0 := NB112_103.out
     have hms43_1 := NB112_104.out
     have hms43_3 := NB112_113.out
     refine skip_ (w1 := ?_) (by rfl) rfl ?_ ?_
     rotate_left
     ·go_simp
      rfl
     refine hK.out _ _ ⟨((cell_far (p := ⟨gb112, _, none⟩) NB103_112.out _).trans (((cell_far (p := ⟨gb112, _, none⟩) NB103_112.out _).trans (hHeld.1)))), ((cell_far (p := ⟨gb112, _, none⟩) NB103_112.out _).trans (((cell_far (p := ⟨gb112, _, none⟩) NB103_112.out _).trans (hHeld.2.1)))), ((cell_far (p := ⟨gb112, _, none⟩) NB104_112.out _).trans (((cell_far (p := ⟨gb112, _, none⟩) NB104_112.out _).trans (hHeld.2.2.1)))), ((cell_far (p := ⟨gb112, _, none⟩) NB104_112.out _).trans (((cell_far (p := ⟨gb112, _, none⟩) NB104_112.out _).trans (hHeld.2.2.2.1)))), ((cell_far (p := ⟨gb112, _, none⟩) (fr hw106_0 GW112) _).trans (((cell_far (p := ⟨gb112, _, none⟩) (fr hw106_0 GW112) _).trans (hHeld.2.2.2.2.1)))), ((cell_far (p := ⟨gb112, _, none⟩) (fr hw106_1 GW112) _).trans (((cell_far (p := ⟨gb112, _, none⟩) (fr hw106_1 GW112) _).trans (hHeld.2.2.2.2.2.1)))), ((cell_far (p := ⟨gb112, _, none⟩) (fr hw109_0 GW112) _).trans (((cell_far (p := ⟨gb112, _, none⟩) (fr hw109_0 GW112) _).trans (hHeld.2.2.2.2.2.2.1)))), ((cell_far (p := ⟨gb112, _, none⟩) (fr hw109_1 GW112) _).trans (((cell_far (p := ⟨gb112, _, none⟩) (fr hw109_1 GW112) _).trans (hHeld.2.2.2.2.2.2.2))))⟩ (fun hHeld => ?_)
     clear hK K
     refine one_ (i := 15) (N := none) #[T,T,T,T,T,T,T,T,T,T,T,T,T,T,T,T] rfl rfl (on1 HT_) (by decide) (fun K hK => ?_)
     have hs44 : w41.cell? ⟨gb113, 0, none⟩ = some (.int .i64 0) := bc BK113 0
     have hfs44 := blk_frozen BK113.out 0
     have hns44_0 := NB103_113.out
     have hns44_1 := NB104_113.out
     have hns44_2 := NB112_113.out
     have hms44_0 := NB113_103.out
     have hms44_1 := NB113_104.out
     have hms44_2 := NB113_112.out
     have hs45 : w41.cell? ⟨gb113, 1, none⟩ = some (.int .i64 0) := bc BK113 1
     have hfs45 := blk_frozen BK113.out 1
     have hns45_0 := NB103_113.out
     have hns45_1 := NB104_113.out
     have hns45_2 := NB112_113.out
     have hms45_0 := NB113_103.out
     have hms45_1 := NB113_104.out
     have hms45_2 := NB113_112.out
     refine skip_ (w1 := ?_) (by rfl) rfl ?_ ?_
     rotate_left
     ·go_simp
      rfl
     refine hK.out _ _ ⟨((cell_far (p := ⟨gb113, _, none⟩) NB103_113.out _).trans (((cell_far (p := ⟨gb113, _, none⟩) NB103_113.out _).trans (hHeld.1)))), ((cell_far (p := ⟨gb113, _, none⟩) NB103_113.out _).trans (((cell_far (p := ⟨gb113, _, none⟩) NB103_113.out _).trans (hHeld.2.1)))), ((cell_far (p := ⟨gb113, _, none⟩) NB104_113.out _).trans (((cell_far (p := ⟨gb113, _, none⟩) NB104_113.out _).trans (hHeld.2.2.1)))), ((cell_far (p := ⟨gb113, _, none⟩) NB104_113.out _).trans (((cell_far (p := ⟨gb113, _, none⟩) NB104_113.out _).trans (hHeld.2.2.2.1)))), ((cell_far (p := ⟨gb113, _, none⟩) (fr hw106_0 GW113) _).trans (((cell_far (p := ⟨gb113, _, none⟩) (fr hw106_0 GW113) _).trans (hHeld.2.2.2.2.1)))), ((cell_far (p := ⟨gb113, _, none⟩) (fr hw106_1 GW113) _).trans (((cell_far (p := ⟨gb113, _, none⟩) (fr hw106_1 GW113) _).trans (hHeld.2.2.2.2.2.1)))), ((cell_far (p := ⟨gb113, _, none⟩) (fr hw109_0 GW113) _).trans (((cell_far (p := ⟨gb113, _, none⟩) (fr hw109_0 GW113) _).trans (hHeld.2.2.2.2.2.2.1)))), ((cell_far (p := ⟨gb113, _, none⟩) (fr hw109_1 GW113) _).trans (((cell_far (p := ⟨gb113, _, none⟩) (fr hw109_1 GW113) _).trans (hHeld.2.2.2.2.2.2.2))))⟩ (fun hHeld => ?_)
     clear hK K
     refine done_ (done_of HT_.out (by kernel_rfl)) ?_
     go_upto_region 9 with (fail)
     go_cut [59] (fun v59 wc => ∃ (kq : Nat) (x59_24 : Bool), v59 = .bool x59_24 ∧ Aside0 (shape_simple.j1 kq l0 (l0.length : Int) x13_1 (l0.length : Int) x13_1 x59_24 ((rd_T29 l0 (ji7)).f0) ((rd_T29 l0 (ji7)).f1) = some r) ∧ Aside0 (kq ≤ k1) ∧ Aside0 (wc.heap[gb103]? = some (.cells #[.int .i64 ((rd_T29 l0 (ji4)).f0), .int .i64 ((rd_T29 l0 (ji4)).f1)] 29 (0, 0))) ∧ Aside0 (wc.heap[gb104]? = some (.cells #[.int .i64 ((rd_T29 l0 (ji7)).f0), .int .i64 ((rd_T29 l0 (ji7)).f1)] 29 (0, 0))) ∧ Aside0 (wc.heap[gb112]? = some (.cells #[.int .i64 t107, .int .i64 t108] 29 (0, 0))) ∧ Aside0 (wc.heap[gb113]? = some (.cells #[.int .i64 t110, .int .i64 t111] 29 (0, 0))) ∧ Aside0 (Below w.heap.size w wc))
     case first =>
      have H := HC25.out
      clear HC25
      replace H := Option.bind_eq_some_iff.mp H
      obtain ⟨t114, A460, H⟩ := H
      try dsimp only at H
      have A46 := Aside0.mk A460
      clear A460
      by_cases c47 : t114 = 0
      ·rw [if_pos c47] at H
       have c47b0 : (t114 == 0) = true := beq_iff_eq.mpr c47
       have c47b1 : (t114 != 0) = false := bne_eq_false_iff_eq.mpr c47
       clear c47
       (first | rw [c47b0] | (simp only [i64_w, i32_w]; rw [c47b0]) | skip)
       replace H := Option.bind_eq_some_iff.mp H
       obtain ⟨t115, A480, H⟩ := H
       try dsimp only at H
       have A48 := Aside0.mk A480
       clear A480
       have H' := Aside0.mk H
       clear H
       have hnb49 := NB112_103.out
       have hnc49 := NB103_112.out
       have hnb50 := NB112_104.out
       have hnc50 := NB104_112.out
       have hnb51 := NB112_113.out
       have hnc51 := NB113_112.out
       obtain ⟨hcz52_0, hcz52_1, hfz52_0, hfz52_1⟩ := b2 BK112
       have hnb53 := NB113_103.out
       have hnc53 := NB103_113.out
       have hnb54 := NB113_104.out
       have hnc54 := NB104_113.out
       obtain ⟨hcz55_0, hcz55_1, hfz55_0, hfz55_1⟩ := b2 BK113
       go_wp2_with (first | ((with_reducible refine gc 79 rfl ?_); refine goesL_ (some 52) rfl rfl Try.func79 (by kernel_rfl) rfl #[.agg #[.int .i64 t107, .int .i64 t108], .agg #[.int .i64 t110, .int .i64 t111]] rfl sg ?_; (with_reducible refine (shape_cross.calls t107 t108 t110 t111 t114 _ A46.out).mono ?_); rintro e w56 ⟨rfl, hb⟩; refine ⟨_, rfl, ?_⟩; replace BK103 := Aside0.mk (blk_below (g := gb103) (o := .cells #[.int .i64 ((rd_T29 l0 (ji4)).f0), .int .i64 ((rd_T29 l0 (ji4)).f1)] 29 (0, 0)) (by refine bd ?_; refine blk_far ?_ NB103_113.out _; refine bd ?_; refine blk_far ?_ NB103_113.out _; refine bd ?_; refine blk_far ?_ NB103_112.out _; refine bd ?_; refine blk_far ?_ NB103_112.out _; refine bd ?_; exact BK103.out) hb); replace BK104 := Aside0.mk (blk_below (g := gb104) (o := .cells #[.int .i64 ((rd_T29 l0 (ji7)).f0), .int .i64 ((rd_T29 l0 (ji7)).f1)] 29 (0, 0)) (by refine bd ?_; refine blk_far ?_ NB104_113.out _; refine bd ?_; refine blk_far ?_ NB104_113.out _; refine bd ?_; refine blk_far ?_ NB104_112.out _; refine bd ?_; refine blk_far ?_ NB104_112.out _; refine bd ?_; exact BK104.out) hb); replace BK112 := Aside0.mk (blk_below (g := gb112) (o := .cells #[.int .i64 t107, .int .i64 t108] 29 (0, 0)) (by refine bd ?_; refine blk_far ?_ NB112_113.out _; refine bd ?_; refine blk_far ?_ NB112_113.out _; refine bd ?_; refine blk_put (cs := #[.int .i64 t107, .int .i64 0]) ?_ 1 _ rfl; refine bd ?_; refine blk_put (cs := #[.int .i64 0, .int .i64 0]) ?_ 0 _ rfl; refine bd ?_; exact BK112.out) hb); replace BK113 := Aside0.mk (blk_below (g := gb113) (o := .cells #[.int .i64 t110, .int .i64 t111] 29 (0, 0)) (by refine bd ?_; refine blk_put (cs := #[.int .i64 t110, .int .i64 0]) ?_ 1 _ rfl; refine bd ?_; refine blk_put (cs := #[.int .i64 0, .int .i64 0]) ?_ 0 _ rfl; refine bd ?_; refine blk_far ?_ NB113_112.out _; refine bd ?_; refine blk_far ?_ NB113_112.out _; refine bd ?_; exact BK113.out) hb); replace HB := Aside0.mk (below_step bh hb); (try clear hb); (try clear hb2); (try clear hk); (try clear hi); have hcz57_0 : w56.cell? ⟨gb112, 0, none⟩ = some (.int .i64 t107) := bc BK112 0; have hcz57_1 : w56.cell? ⟨gb112, 1, none⟩ = some (.int .i64 t108) := bc BK112 1; have hfz57_0 := blk_frozen BK112.out 0; have hfz57_1 := blk_frozen BK112.out 1; have hcz58_0 : w56.cell? ⟨gb113, 0, none⟩ = some (.int .i64 t110) := bc BK113 0; have hcz58_1 : w56.cell? ⟨gb113, 1, none⟩ = some (.int .i64 t111) := bc BK113 1; have hfz58_0 := blk_frozen BK113.out 0; have hfz58_1 := blk_frozen BK113.out 1) | (go_at_call 98; (with_reducible refine (shape_dot.calls t107 t108 t110 t111 t115 _ A48.out).mono ?_); rintro e w59 ⟨rfl, hb⟩; replace BK103 := kb BK103 hb; replace BK104 := kb BK104 hb; replace BK112 := kb BK112 hb; replace BK113 := kb BK113 hb; replace HB := Aside0.mk (below_step bh hb); (try clear hb); (try clear hb2); (try clear hk); (try clear hi)))
       go_meet
       case rel => exact ⟨_, (decide (t115 > 0)), sd, H', ⟨by have := HK1.out; first | omega | exact Nat.le_refl _⟩, ⟨bk BK103⟩, ⟨bk BK104⟩, ⟨bk BK112⟩, ⟨bk BK113⟩, ⟨bh⟩⟩
      ·rw [if_neg c47] at H
       have c47b0 : (t114 == 0) = false := beq_eq_false_iff_ne.mpr c47
       have c47b1 : (t114 != 0) = true := bne_iff_ne.mpr c47
       (first | rw [c47b0] | (simp only [i64_w, i32_w]; rw [c47b0]) | skip)
       have H' := Aside0.mk H
       clear H
       have hnb60 := NB112_103.out
       have hnc60 := NB103_112.out
       have hnb61 := NB112_104.out
       have hnc61 := NB104_112.out
       have hnb62 := NB112_113.out
       have hnc62 := NB113_112.out
       obtain ⟨hcz63_0, hcz63_1, hfz63_0, hfz63_1⟩ := b2 BK112
       have hnb64 := NB113_103.out
       have hnc64 := NB103_113.out
       have hnb65 := NB113_104.out
       have hnc65 := NB104_113.out
       obtain ⟨hcz66_0, hcz66_1, hfz66_0, hfz66_1⟩ := b2 BK113
       go_wp2_with (first | ((with_reducible refine gc 79 rfl ?_); refine goesL_ (some 52) rfl rfl Try.func79 (by kernel_rfl) rfl #[.agg #[.int .i64 t107, .int .i64 t108], .agg #[.int .i64 t110, .int .i64 t111]] rfl sg ?_; (with_reducible refine (shape_cross.calls t107 t108 t110 t111 t114 _ A46.out).mono ?_); rintro e w67 ⟨rfl, hb⟩; refine ⟨_, rfl, ?_⟩; replace BK103 := Aside0.mk (blk_below (g := gb103) (o := .cells #[.int .i64 ((rd_T29 l0 (ji4)).f0), .int .i64 ((rd_T29 l0 (ji4)).f1)] 29 (0, 0)) (by refine bd ?_; refine blk_far ?_ NB103_113.out _; refine bd ?_; refine blk_far ?_ NB103_113.out _; refine bd ?_; refine blk_far ?_ NB103_112.out _; refine bd ?_; refine blk_far ?_ NB103_112.out _; refine bd ?_; exact BK103.out) hb); replace BK104 := Aside0.mk (blk_below (g := gb104) (o := .cells #[.int .i64 ((rd_T29 l0 (ji7)).f0), .int .i64 ((rd_T29 l0 (ji7)).f1)] 29 (0, 0)) (by refine bd ?_; refine blk_far ?_ NB104_113.out _; refine bd ?_; refine blk_far ?_ NB104_113.out _; refine bd ?_; refine blk_far ?_ NB104_112.out _; refine bd ?_; refine blk_far ?_ NB104_112.out _; refine bd ?_; exact BK104.out) hb); replace BK112 := Aside0.mk (blk_below (g := gb112) (o := .cells #[.int .i64 t107, .int .i64 t108] 29 (0, 0)) (by refine bd ?_; refine blk_far ?_ NB112_113.out _; refine bd ?_; refine blk_far ?_ NB112_113.out _; refine bd ?_; refine blk_put (cs := #[.int .i64 t107, .int .i64 0]) ?_ 1 _ rfl; refine bd ?_; refine blk_put (cs := #[.int .i64 0, .int .i64 0]) ?_ 0 _ rfl; refine bd ?_; exact BK112.out) hb); replace BK113 := Aside0.mk (blk_below (g := gb113) (o := .cells #[.int .i64 t110, .int .i64 t111] 29 (0, 0)) (by refine bd ?_; refine blk_put (cs := #[.int .i64 t110, .int .i64 0]) ?_ 1 _ rfl; refine bd ?_; refine blk_put (cs := #[.int .i64 0, .int .i64 0]) ?_ 0 _ rfl; refine bd ?_; refine blk_far ?_ NB113_112.out _; refine bd ?_; refine blk_far ?_ NB113_112.out _; refine bd ?_; exact BK113.out) hb); replace HB := Aside0.mk (below_step bh hb); (try clear hb); (try clear hb2); (try clear hk); (try clear hi)))
       go_meet
       case rel => exact ⟨_, (false), sd, H', ⟨by have := HK1.out; first | omega | exact Nat.le_refl _⟩, ⟨bk BK103⟩, ⟨bk BK104⟩, ⟨bk BK112⟩, ⟨bk BK113⟩, ⟨bh⟩⟩
     case rest =>
      clear HC25
      (try clear p2); (try clear c4); (try clear c5); (try clear c6); (try clear c7); (try clear c47); (try clear c47b0); (try clear c47b1); (try clear c49); (try clear c50); (try clear c51); (try clear c53); (try clear c54); (try clear c60); (try clear c61); (try clear c62); (try clear c64); (try clear c65); (try clear hcz52_0); (try clear hcz52_1); (try clear hcz55_0); (try clear hcz55_1); (try clear hcz57_0); (try clear hcz57_1); (try clear hcz58_0); (try clear hcz58_1); (try clear hcz63_0); (try clear hcz63_1); (try clear hcz66_0); (try clear hcz66_1); (try clear hfz52_0); (try clear hfz52_1); (try clear hfz55_0); (try clear hfz55_1); (try clear hfz57_0); (try clear hfz57_1); (try clear hfz58_0); (try clear hfz58_1); (try clear hfz63_0); (try clear hfz63_1); (try clear hfz66_0); (try clear hfz66_1)
      obtain ⟨kq, x59_24, rfl, HA, HJ24, BK103, BK104, BK112, BK113, HB⟩ := hcut
      cases kq with
      | zero => exact absurd HA.out (by simp [shape_simple.j1])
      | succ kj24 =>
       have H := HA.out
       clear HA
       simp only [shape_simple.j1] at H
       by_cases c68 : x59_24 = true
       ·subst c68
        rw [if_pos rfl] at H
        obtain rfl := Option.some.inj H
        go_wp2
        go_ret
        exact ⟨by first | rfl | (simp [errW_none, errW_some] <;> rfl) | (simp only [← hji4, ← hji7]; first | rfl | (simp [errW_none, errW_some] <;> rfl)) | (simp [*, errW_none, errW_some] <;> rfl), bh⟩
       ·replace c68 := Bool.eq_false_iff.mpr c68
        subst c68
        rw [if_neg (show ¬ (false = true) by decide)] at H
        have H' := Aside0.mk H
        clear H
        go_wp2
        go_loopg [61] kj24 (fun kq v61 w' => ∃ (x61_3 : Int), v61 = .int .i64 x61_3 ∧ Aside0 (shape_simple.l1 kq l0 (l0.length : Int) x13_1 (l0.length : Int) x13_1 x13_1 x61_3 ((rd_T29 l0 (ji7)).f0) ((rd_T29 l0 (ji7)).f1) = some r) ∧ Aside0 (kq ≤ kj24) ∧ Aside0 (w'.heap[gb103]? = some (.cells #[.int .i64 ((rd_T29 l0 (ji4)).f0), .int .i64 ((rd_T29 l0 (ji4)).f1)] 29 (0, 0))) ∧ Aside0 (w'.heap[gb104]? = some (.cells #[.int .i64 ((rd_T29 l0 (ji7)).f0), .int .i64 ((rd_T29 l0 (ji7)).f1)] 29 (0, 0))) ∧ Aside0 (w'.heap[gb112]? = some (.cells #[.int .i64 t107, .int .i64 t108] 29 (0, 0))) ∧ Aside0 (w'.heap[gb113]? = some (.cells #[.int .i64 t110, .int .i64 t111] 29 (0, 0))) ∧ Aside0 (Below w.heap.size w w'))
        case atStart => exact ⟨(0), sd, H', ⟨Nat.le_refl _⟩, ⟨bk BK103⟩, ⟨bk BK104⟩, ⟨bk BK112⟩, ⟨bk BK113⟩, ⟨bh⟩⟩
        case round =>
         clear H'
         (try clear p2); (try clear c4); (try clear c5); (try clear c6); (try clear c7); (try clear c47); (try clear c47b0); (try clear c47b1); (try clear c49); (try clear c50); (try clear c51); (try clear c53); (try clear c54); (try clear c60); (try clear c61); (try clear c62); (try clear c64); (try clear c65); (try clear c68); (try clear hcz52_0); (try clear hcz52_1); (try clear hcz55_0); (try clear hcz55_1); (try clear hcz57_0); (try clear hcz57_1); (try clear hcz58_0); (try clear hcz58_1); (try clear hcz63_0); (try clear hcz63_1); (try clear hcz66_0); (try clear hcz66_1); (try clear hfz52_0); (try clear hfz52_1); (try clear hfz55_0); (try clear hfz55_1); (try clear hfz57_0); (try clear hfz57_1); (try clear hfz58_0); (try clear hfz58_1); (try clear hfz63_0); (try clear hfz63_1); (try clear hfz66_0); (try clear hfz66_1); (try clear p2)
         obtain ⟨x61_3, rfl, HA, HK3, BK103, BK104, BK112, BK113, HB⟩ := hrel
         cases gk with
         | zero => exact absurd HA.out (by simp [shape_simple.l1])
         | succ k3 =>
          have H := HA.out
          clear HA
          simp only [shape_simple.l1] at H
          by_cases c69 : x61_3 < x13_1
          ·rw [if_pos c69] at H
           have c69b0 := decide_eq_true c69
           clear c69
           have HC70 := Aside0.mk H
           clear H
           go_upto_region 14 with (fail)
           go_cut [94] (fun v94 wc => ∃ (kq : Nat) (x94_69 : Bool), v94 = .bool x94_69 ∧ Aside0 (shape_simple.j3 kq l0 (l0.length : Int) x13_1 (l0.length : Int) x13_1 x13_1 x61_3 x94_69 ((rd_T29 l0 (ji7)).f0) ((rd_T29 l0 (ji7)).f1) = some r) ∧ Aside0 (kq ≤ k3) ∧ Aside0 (wc.heap[gb103]? = some (.cells #[.int .i64 ((rd_T29 l0 (ji4)).f0), .int .i64 ((rd_T29 l0 (ji4)).f1)] 29 (0, 0))) ∧ Aside0 (wc.heap[gb104]? = some (.cells #[.int .i64 ((rd_T29 l0 (ji7)).f0), .int .i64 ((rd_T29 l0 (ji7)).f1)] 29 (0, 0))) ∧ Aside0 (wc.heap[gb112]? = some (.cells #[.int .i64 t107, .int .i64 t108] 29 (0, 0))) ∧ Aside0 (wc.heap[gb113]? = some (.cells #[.int .i64 t110, .int .i64 t111] 29 (0, 0))) ∧ Aside0 (Below w.heap.size w wc))
           case first =>
            have H := HC70.out
            clear HC70
            by_cases c71 : (wrap64 (x61_3 + 1)) = x13_1
            ·rw [if_pos c71] at H
             have c71b0 : ((wrap64 (x61_3 + 1)) == x13_1) = true := beq_iff_eq.mpr c71
             have c71b1 : ((wrap64 (x61_3 + 1)) != x13_1) = false := bne_eq_false_iff_eq.mpr c71
             clear c71
             (first | rw [c71b0] | (simp only [i64_w, i32_w]; rw [c71b0]) | skip)
             have H' := Aside0.mk H
             clear H
             try go_wp2
             replace BK103 := Aside0.mk (blk_drew BK103.out)
             replace BK104 := Aside0.mk (blk_drew BK104.out)
             replace BK112 := Aside0.mk (blk_drew BK112.out)
             replace BK113 := Aside0.mk (blk_drew BK113.out)
             replace HB := Aside0.mk (below_drew1 HB.out)
             refine start_ (n := 31) (S := fun w' => True) (ds := []) #[N,N,N,N,N,N,N,N,N,N,N,N,N,N,N,N,N,N,N,N,N,N,N,N,N,N,N,N,N,N,N] (by kernel_rfl) rfl rfl trivial (fun hHeld => ?_); refine with_tabW shape_simple.tab14 shape_simple.bits14 (fun HT_ HW_ => ?_)
             generalize wr.drew = w72 at BK103 BK104 BK112 BK113 HB hHeld ⊢
             refine pu 0 64 HT_ ?_
             refine pu 1 65 HT_ ?_
             refine pu 2 66 HT_ ?_
             refine pu 3 67 HT_ ?_
             refine pu 4 68 HT_ ?_
             refine pz 5 69 HT_ ?_
             refine pz 6 70 HT_ ?_
             refine pz 7 71 HT_ ?_
             refine pz 8 72 HT_ ?_
             refine pz 9 73 HT_ ?_
             refine pz 10 74 HT_ ?_
             refine pz 11 75 HT_ ?_
             refine pz 12 76 HT_ ?_
             refine pu 13 77 HT_ ?_
             refine pu 14 78 HT_ ?_
             refine pz 15 79 HT_ ?_
             refine pz 16 80 HT_ ?_
             refine pz 17 81 HT_ ?_
             refine pz 18 82 HT_ ?_
             refine pz 19 83 HT_ ?_
             refine pz 20 84 HT_ ?_
             refine pz 21 85 HT_ ?_
             refine pz 22 86 HT_ ?_
             refine pz 23 87 HT_ ?_
             refine pz 24 88 HT_ ?_
             refine pz 25 89 HT_ ?_
             refine pz 26 90 HT_ ?_
             refine pz 27 91 HT_ ?_
             refine pz 28 92 HT_ ?_
             refine pz 29 93 HT_ ?_
             refine pu 30 94 HT_ ?_
             refine done_ (done_of HT_.out (by kernel_rfl)) ?_
             try go_wp2
             go_meet
             case rel => exact ⟨_, (false), sd, H', ⟨by have := HK1.out; have := HJ24.out; have := HK3.out; first | omega | exact Nat.le_refl _⟩, ⟨bk BK103⟩, ⟨bk BK104⟩, ⟨bk BK112⟩, ⟨bk BK113⟩, ⟨bh⟩⟩
            ·rw [if_neg c71] at H
             have c71b0 : ((wrap64 (x61_3 + 1)) == x13_1) = false := beq_eq_false_iff_ne.mpr c71
             have c71b1 : ((wrap64 (x61_3 + 1)) != x13_1) = true := bne_iff_ne.mpr c71
             (first | rw [c71b0] | (simp only [i64_w, i32_w]; rw [c71b0]) | skip)
             by_cases c73 : x61_3 = 0
             ·rw [if_pos c73] at H
              have c73b0 : (x61_3 == 0) = true := beq_iff_eq.mpr c73
              have c73b1 : (x61_3 != 0) = false := bne_eq_false_iff_eq.mpr c73
              clear c73
              by_cases c74 : x13_1 = (wrap64 ((l0.length : Int) - 1))
              ·rw [if_pos c74] at H
               have c74b0 : (x13_1 == (wrap64 ((l0.length : Int) - 1))) = true := beq_iff_eq.mpr c74
               have c74b1 : (x13_1 != (wrap64 ((l0.length : Int) - 1))) = false := bne_eq_false_iff_eq.mpr c74
               clear c74
               have H' := Aside0.mk H
               clear H
               try go_wp2
               replace BK103 := Aside0.mk (blk_drew BK103.out)
               replace BK104 := Aside0.mk (blk_drew BK104.out)
               replace BK112 := Aside0.mk (blk_drew BK112.out)
               replace BK113 := Aside0.mk (blk_drew BK113.out)
               replace HB := Aside0.mk (below_drew1 HB.out)
               refine start_ (n := 31) (S := fun w' => True) (ds := []) #[N,N,N,N,N,N,N,N,N,N,N,N,N,N,N,N,N,N,N,N,N,N,N,N,N,N,N,N,N,N,N] (by kernel_rfl) rfl rfl trivial (fun hHeld => ?_); refine with_tabW shape_simple.tab14 shape_simple.bits14 (fun HT_ HW_ => ?_)
               generalize wr.drew = w75 at BK103 BK104 BK112 BK113 HB hHeld ⊢
               refine pu 0 64 HT_ ?_
               refine pu 1 65 HT_ ?_
               refine pu 2 66 HT_ ?_
               refine pu 3 67 HT_ ?_
               refine pu 4 68 HT_ ?_
               refine pu 5 69 HT_ ?_
               refine pu 6 70 HT_ ?_
               refine pu 7 71 HT_ ?_
               refine pu 8 72 HT_ ?_
               refine pu 9 73 HT_ ?_
               refine pu 10 74 HT_ ?_
               refine pu 11 75 HT_ ?_
               refine pu 12 76 HT_ ?_
               refine pu 13 77 HT_ ?_
               refine pu 14 78 HT_ ?_
               refine pz 15 79 HT_ ?_
               refine pz 16 80 HT_ ?_
               refine pz 17 81 HT_ ?_
               refine pz 18 82 HT_ ?_
               refine pz 19 83 HT_ ?_
               refine pz 20 84 HT_ ?_
               refine pz 21 85 HT_ ?_
               refine pz 22 86 HT_ ?_
               refine pz 23 87 HT_ ?_
               refine pz 24 88 HT_ ?_
               refine pz 25 89 HT_ ?_
               refine pz 26 90 HT_ ?_
               refine pz 27 91 HT_ ?_
               refine pz 28 92 HT_ ?_
               refine pz 29 93 HT_ ?_
               refine pu 30 94 HT_ ?_
               refine done_ (done_of HT_.out (by kernel_rfl)) ?_
               try go_wp2
               go_meet
               case rel => exact ⟨_, (false), sd, H', ⟨by have := HK1.out; have := HJ24.out; have := HK3.out; first | omega | exact Nat.le_refl _⟩, ⟨bk BK103⟩, ⟨bk BK104⟩, ⟨bk BK112⟩, ⟨bk BK113⟩, ⟨bh⟩⟩
              ·rw [if_neg c74] at H
               have c74b0 : (x13_1 == (wrap64 ((l0.length : Int) - 1))) = false := beq_eq_false_iff_ne.mpr c74
               have c74b1 : (x13_1 != (wrap64 ((l0.length : Int) - 1))) = true := bne_iff_ne.mpr c74
               replace H := oi H
               obtain ⟨c76, H⟩ := H
               have c76b0 := decide_eq_true c76
               clear c76
               replace H := oi H
               obtain ⟨c77, H⟩ := H
               have c77b0 := decide_eq_true c77
               clear c77
               replace H := oi H
               obtain ⟨c78, H⟩ := H
               have c78b0 := decide_eq_true c78
               clear c78
               replace H := oi H
               obtain ⟨c79, H⟩ := H
               have c79b0 := decide_eq_true c79
               clear c79
               obtain ⟨ji80, hji80⟩ : ∃ j_ : Int, (wrap64 (x61_3 + 1)) = j_ := ⟨_, rfl⟩
               first | rw [hji80] at H | simp only [hji80] at H
               (try rw [hji80] at c71b0)
               (try rw [hji80] at c71b1)
               have hji80w : (IntKind.i64.wrap (x61_3 + 1)) = ji80 := (i64_w _).trans hji80
               replace H := oi H
               obtain ⟨c81, H⟩ := H
               have c81b0 := decide_eq_true c81
               clear c81
               replace H := oi H
               obtain ⟨c82, H⟩ := H
               have c82b0 := decide_eq_true c82
               clear c82
               replace H := Option.bind_eq_some_iff.mp H
               obtain ⟨t119, A830, H⟩ := H
               try dsimp only at H
               have A83 := Aside0.mk A830
               clear A830
               have H' := Aside0.mk H
               clear H
               try go_wp2
               replace BK103 := Aside0.mk (blk_drew BK103.out)
               replace BK104 := Aside0.mk (blk_drew BK104.out)
               replace BK112 := Aside0.mk (blk_drew BK112.out)
               replace BK113 := Aside0.mk (blk_drew BK113.out)
               replace HB := Aside0.mk (below_drew1 HB.out)
               have p116 : 0 ≤ (x13_1 : Int) := dt
               have q116 : x13_1 < (l0.length : Int) := dt
               obtain ⟨ad116, e116, hx116_0, hx116_1⟩ := at_T29 HR0.out x13_1 p116 q116
               have hw116_1 := hx116_1
               have hw116_0 := hx116_0
               obtain rfl : ad101 = ad116 := (by injection e116)
               replace hx116_0 := hc HB hx116_0
               replace hx116_1 := hc HB hx116_1
               replace p116 := eq_true p116
               replace q116 := eq_true q116
               have p117 : 0 ≤ (x61_3 : Int) := dt
               have q117 : x61_3 < (l0.length : Int) := dt
               obtain ⟨ad117, e117, hx117_0, hx117_1⟩ := at_T29 HR0.out x61_3 p117 q117
               have hw117_1 := hx117_1
               have hw117_0 := hx117_0
               obtain rfl : ad101 = ad117 := (by injection e117)
               replace hx117_0 := hc HB hx117_0
               replace hx117_1 := hc HB hx117_1
               replace p117 := eq_true p117
               replace q117 := eq_true q117
               have p118 : 0 ≤ ((ji80) : Int) := dt
               have q118 : (ji80) < (l0.length : Int) := dt
               obtain ⟨ad118, e118, hx118_0, hx118_1⟩ := at_T29 HR0.out (ji80) p118 q118
               have hw118_1 := hx118_1
               have hw118_0 := hx118_0
               obtain rfl : ad101 = ad118 := (by injection e118)
               replace hx118_0 := hc HB hx118_0
               replace hx118_1 := hc HB hx118_1
               replace p118 := eq_true p118
               replace q118 := eq_true q118
               refine start_ (n := 31) (S := fun w' => w'.cell? ⟨gb104, 0, none⟩ = some (.int .i64 ((rd_T29 l0 (ji7)).f0)) ∧ w'.cell? ⟨gb104, 1, none⟩ = some (.int .i64 ((rd_T29 l0 (ji7)).f1)) ∧ w'.cell? (ad101.add ((x13_1).toNat * 2)) = some (.int .i64 ((rd_T29 l0 x13_1).f0)) ∧ w'.cell? ⟨(ad101.add ((x13_1).toNat * 2)).block, (ad101.add ((x13_1).toNat * 2)).off + 1, none⟩ = some (.int .i64 ((rd_T29 l0 x13_1).f1)) ∧ w'.cell? (ad101.add ((x61_3).toNat * 2)) = some (.int .i64 ((rd_T29 l0 x61_3).f0)) ∧ w'.cell? ⟨(ad101.add ((x61_3).toNat * 2)).block, (ad101.add ((x61_3).toNat * 2)).off + 1, none⟩ = some (.int .i64 ((rd_T29 l0 x61_3).f1)) ∧ w'.cell? (ad101.add (((ji80)).toNat * 2)) = some (.int .i64 ((rd_T29 l0 (ji80)).f0)) ∧ w'.cell? ⟨(ad101.add (((ji80)).toNat * 2)).block, (ad101.add (((ji80)).toNat * 2)).off + 1, none⟩ = some (.int .i64 ((rd_T29 l0 (ji80)).f1))) (ds := []) #[N,N,N,N,N,N,N,N,N,N,N,N,N,N,N,N,N,N,N,N,N,N,N,N,N,N,N,N,N,N,N] (by kernel_rfl) rfl rfl ⟨bc BK104 0, bc BK104 1, (hc HB hw116_0), (hc HB hw116_1), (hc HB hw117_0), (hc HB hw117_1), (hc HB hw118_0), (hc HB hw118_1)⟩ (fun hHeld => ?_); refine with_tabW shape_simple.tab14 shape_simple.bits14 (fun HT_ HW_ => ?_)
               generalize wr.drew = w84 at BK103 BK104 BK112 BK113 HB hx116_0 hx116_1 hx117_0 hx117_1 hx118_0 hx118_1 hHeld ⊢
               refine pu 0 64 HT_ ?_
               refine pu 1 65 HT_ ?_
               refine pu 2 66 HT_ ?_
               refine pu 3 67 HT_ ?_
               refine pu 4 68 HT_ ?_
               refine pu 5 69 HT_ ?_
               refine pu 6 70 HT_ ?_
               refine pu 7 71 HT_ ?_
               refine pu 8 72 HT_ ?_
               refine pu 9 73 HT_ ?_
               refine pu 10 74 HT_ ?_
               refine pu 11 75 HT_ ?_
               refine pu 12 76 HT_ ?_
               refine pu 13 77 HT_ ?_
               refine pu 14 78 HT_ ?_
               refine pu 15 79 HT_ ?_
               refine pu 16 80 HT_ ?_
               refine pu 17 81 HT_ ?_
               refine pu 20 84 HT_ ?_
               refine pu 21 85 HT_ ?_
               refine pu 22 86 HT_ ?_
               refine pu 24 88 HT_ ?_
               refine pu 25 89 HT_ ?_
               refine pu 26 90 HT_ ?_
               refine pu 27 91 HT_ ?_
               refine tk8 18 82 hHeld HT_ HW_ ?_
               refine tk8 19 83 hHeld HT_ HW_ ?_
               refine tk8 23 87 hHeld HT_ HW_ ?_
               refine tk8 28 92 hHeld HT_ HW_ ?_
               refine one_ (i := 29) (N := some 93) #[T,T,T,T,T,T,T,T,T,T,T,T,T,T,T,T,T,T,T,T,T,T,T,T,T,T,T,T,T,T,N] rfl rfl (on1 HT_) (by decide) (fun K hK => ?_)
               refine goes_ Try.func99 (by kernel_rfl) rfl #[.agg #[.int .i64 ((rd_T29 l0 x13_1).f0), .int .i64 ((rd_T29 l0 x13_1).f1)], .agg #[.int .i64 ((rd_T29 l0 (ji7)).f0), .int .i64 ((rd_T29 l0 (ji7)).f1)], .agg #[.int .i64 ((rd_T29 l0 x61_3).f0), .int .i64 ((rd_T29 l0 x61_3).f1)], .agg #[.int .i64 ((rd_T29 l0 (ji80)).f0), .int .i64 ((rd_T29 l0 (ji80)).f1)]] (by rfl) rfl rfl (by (try simp only [List.map_toArray, List.map_cons, List.map_nil]); first | done | (simp only [hji7, hji80]; rfl) | rfl | (simp only [List.length_drop, List.length_take]; rfl)) ?_
               with_reducible refine (shape_meet.calls k3 ((rd_T29 l0 x13_1).f0) ((rd_T29 l0 x13_1).f1) ((rd_T29 l0 (ji7)).f0) ((rd_T29 l0 (ji7)).f1) ((rd_T29 l0 x61_3).f0) ((rd_T29 l0 x61_3).f1) ((rd_T29 l0 (ji80)).f0) ((rd_T29 l0 (ji80)).f1) t119 _ A83.out).mono ?_
               rintro e w85 ⟨rfl, hb⟩
               refine ⟨_, rfl, ?_⟩
               replace BK103 := kb BK103 hb
               replace BK104 := kb BK104 hb
               replace BK112 := kb BK112 hb
               replace BK113 := kb BK113 hb
               replace HB := Aside0.mk (below_step bh hb)
               (try clear hb); (try clear hb2); (try clear hk); (try clear hi)
               refine hK.out _ _ ⟨bc BK104 0, bc BK104 1, (hc HB hw116_0), (hc HB hw116_1), (hc HB hw117_0), (hc HB hw117_1), (hc HB hw118_0), (hc HB hw118_1)⟩ (fun hHeld => ?_)
               clear hK K
               refine nm 93 ?_
               refine pu 30 94 HT_ ?_
               refine done_ (done_of HT_.out (by kernel_rfl)) ?_
               try go_wp2
               go_meet
               case rel => exact ⟨_, (t119), sd, H', ⟨by have := HK1.out; have := HJ24.out; have := HK3.out; first | omega | exact Nat.le_refl _⟩, ⟨bk BK103⟩, ⟨bk BK104⟩, ⟨bk BK112⟩, ⟨bk BK113⟩, ⟨bh⟩⟩
             ·rw [if_neg c73] at H
              have c73b0 : (x61_3 == 0) = false := beq_eq_false_iff_ne.mpr c73
              have c73b1 : (x61_3 != 0) = true := bne_iff_ne.mpr c73
              replace H := oi H
              obtain ⟨c86, H⟩ := H
              have c86b0 := decide_eq_true c86
              clear c86
              replace H := oi H
              obtain ⟨c87, H⟩ := H
              have c87b0 := decide_eq_true c87
              clear c87
              replace H := oi H
              obtain ⟨c88, H⟩ := H
              have c88b0 := decide_eq_true c88
              clear c88
              replace H := oi H
              obtain ⟨c89, H⟩ := H
              have c89b0 := decide_eq_true c89
              clear c89
              obtain ⟨ji90, hji90⟩ : ∃ j_ : Int, (wrap64 (x61_3 + 1)) = j_ := ⟨_, rfl⟩
              first | rw [hji90] at H | simp only [hji90] at H
              (try rw [hji90] at c71b0)
              (try rw [hji90] at c71b1)
              have hji90w : (IntKind.i64.wrap (x61_3 + 1)) = ji90 := (i64_w _).trans hji90
              replace H := oi H
              obtain ⟨c91, H⟩ := H
              have c91b0 := decide_eq_true c91
              clear c91
              replace H := oi H
              obtain ⟨c92, H⟩ := H
              have c92b0 := decide_eq_true c92
              clear c92
              replace H := Option.bind_eq_some_iff.mp H
              obtain ⟨t123, A930, H⟩ := H
              try dsimp only at H
              have A93 := Aside0.mk A930
              clear A930
              have H' := Aside0.mk H
              clear H
              try go_wp2
              replace BK103 := Aside0.mk (blk_drew BK103.out)
              replace BK104 := Aside0.mk (blk_drew BK104.out)
              replace BK112 := Aside0.mk (blk_drew BK112.out)
              replace BK113 := Aside0.mk (blk_drew BK113.out)
              replace HB := Aside0.mk (below_drew1 HB.out)
              have p120 : 0 ≤ (x13_1 : Int) := dt
              have q120 : x13_1 < (l0.length : Int) := dt
              obtain ⟨ad120, e120, hx120_0, hx120_1⟩ := at_T29 HR0.out x13_1 p120 q120
              have hw120_1 := hx120_1
              have hw120_0 := hx120_0
              obtain rfl : ad101 = ad120 := (by injection e120)
              replace hx120_0 := hc HB hx120_0
              replace hx120_1 := hc HB hx120_1
              replace p120 := eq_true p120
              replace q120 := eq_true q120
              have p121 : 0 ≤ (x61_3 : Int) := dt
              have q121 : x61_3 < (l0.length : Int) := dt
              obtain ⟨ad121, e121, hx121_0, hx121_1⟩ := at_T29 HR0.out x61_3 p121 q121
              have hw121_1 := hx121_1
              have hw121_0 := hx121_0
              obtain rfl : ad101 = ad121 := (by injection e121)
              replace hx121_0 := hc HB hx121_0
              replace hx121_1 := hc HB hx121_1
              replace p121 := eq_true p121
              replace q121 := eq_true q121
              have p122 : 0 ≤ ((ji90) : Int) := dt
              have q122 : (ji90) < (l0.length : Int) := dt
              obtain ⟨ad122, e122, hx122_0, hx122_1⟩ := at_T29 HR0.out (ji90) p122 q122
              have hw122_1 := hx122_1
              have hw122_0 := hx122_0
              obtain rfl : ad101 = ad122 := (by injection e122)
              replace hx122_0 := hc HB hx122_0
              replace hx122_1 := hc HB hx122_1
              replace p122 := eq_true p122
              replace q122 := eq_true q122
              refine start_ (n := 31) (S := fun w' => w'.cell? ⟨gb104, 0, none⟩ = some (.int .i64 ((rd_T29 l0 (ji7)).f0)) ∧ w'.cell? ⟨gb104, 1, none⟩ = some (.int .i64 ((rd_T29 l0 (ji7)).f1)) ∧ w'.cell? (ad101.add ((x13_1).toNat * 2)) = some (.int .i64 ((rd_T29 l0 x13_1).f0)) ∧ w'.cell? ⟨(ad101.add ((x13_1).toNat * 2)).block, (ad101.add ((x13_1).toNat * 2)).off + 1, none⟩ = some (.int .i64 ((rd_T29 l0 x13_1).f1)) ∧ w'.cell? (ad101.add ((x61_3).toNat * 2)) = some (.int .i64 ((rd_T29 l0 x61_3).f0)) ∧ w'.cell? ⟨(ad101.add ((x61_3).toNat * 2)).block, (ad101.add ((x61_3).toNat * 2)).off + 1, none⟩ = some (.int .i64 ((rd_T29 l0 x61_3).f1)) ∧ w'.cell? (ad101.add (((ji90)).toNat * 2)) = some (.int .i64 ((rd_T29 l0 (ji90)).f0)) ∧ w'.cell? ⟨(ad101.add (((ji90)).toNat * 2)).block, (ad101.add (((ji90)).toNat * 2)).off + 1, none⟩ = some (.int .i64 ((rd_T29 l0 (ji90)).f1))) (ds := []) #[N,N,N,N,N,N,N,N,N,N,N,N,N,N,N,N,N,N,N,N,N,N,N,N,N,N,N,N,N,N,N] (by kernel_rfl) rfl rfl ⟨bc BK104 0, bc BK104 1, (hc HB hw120_0), (hc HB hw120_1), (hc HB hw121_0), (hc HB hw121_1), (hc HB hw122_0), (hc HB hw122_1)⟩ (fun hHeld => ?_); refine with_tabW shape_simple.tab14 shape_simple.bits14 (fun HT_ HW_ => ?_)
              generalize wr.drew = w94 at BK103 BK104 BK112 BK113 HB hx120_0 hx120_1 hx121_0 hx121_1 hx122_0 hx122_1 hHeld ⊢
              refine pu 0 64 HT_ ?_
              refine pu 1 65 HT_ ?_
              refine pu 2 66 HT_ ?_
              refine pu 3 67 HT_ ?_
              refine pu 4 68 HT_ ?_
              refine pu 5 69 HT_ ?_
              refine pu 6 70 HT_ ?_
              refine pu 7 71 HT_ ?_
              refine pz 8 72 HT_ ?_
              refine pz 9 73 HT_ ?_
              refine pz 10 74 HT_ ?_
              refine pz 11 75 HT_ ?_
              refine pu 12 76 HT_ ?_
              refine pu 13 77 HT_ ?_
              refine pu 14 78 HT_ ?_
              refine pu 15 79 HT_ ?_
              refine pu 16 80 HT_ ?_
              refine pu 17 81 HT_ ?_
              refine pu 20 84 HT_ ?_
              refine pu 21 85 HT_ ?_
              refine pu 22 86 HT_ ?_
              refine pu 24 88 HT_ ?_
              refine pu 25 89 HT_ ?_
              refine pu 26 90 HT_ ?_
              refine pu 27 91 HT_ ?_
              refine tk8 18 82 hHeld HT_ HW_ ?_
              refine tk8 19 83 hHeld HT_ HW_ ?_
              refine tk8 23 87 hHeld HT_ HW_ ?_
              refine tk8 28 92 hHeld HT_ HW_ ?_
              refine one_ (i := 29) (N := some 93) #[T,T,T,T,T,T,T,T,T,T,T,T,T,T,T,T,T,T,T,T,T,T,T,T,T,T,T,T,T,T,N] rfl rfl (on1 HT_) (by decide) (fun K hK => ?_)
              refine goes_ Try.func99 (by kernel_rfl) rfl #[.agg #[.int .i64 ((rd_T29 l0 x13_1).f0), .int .i64 ((rd_T29 l0 x13_1).f1)], .agg #[.int .i64 ((rd_T29 l0 (ji7)).f0), .int .i64 ((rd_T29 l0 (ji7)).f1)], .agg #[.int .i64 ((rd_T29 l0 x61_3).f0), .int .i64 ((rd_T29 l0 x61_3).f1)], .agg #[.int .i64 ((rd_T29 l0 (ji90)).f0), .int .i64 ((rd_T29 l0 (ji90)).f1)]] (by rfl) rfl rfl (by (try simp only [List.map_toArray, List.map_cons, List.map_nil]); first | done | (simp only [hji7, hji90]; rfl) | rfl | (simp only [List.length_drop, List.length_take]; rfl)) ?_
              with_reducible refine (shape_meet.calls k3 ((rd_T29 l0 x13_1).f0) ((rd_T29 l0 x13_1).f1) ((rd_T29 l0 (ji7)).f0) ((rd_T29 l0 (ji7)).f1) ((rd_T29 l0 x61_3).f0) ((rd_T29 l0 x61_3).f1) ((rd_T29 l0 (ji90)).f0) ((rd_T29 l0 (ji90)).f1) t123 _ A93.out).mono ?_
              rintro e w95 ⟨rfl, hb⟩
              refine ⟨_, rfl, ?_⟩
              replace BK103 := kb BK103 hb
              replace BK104 := kb BK104 hb
              replace BK112 := kb BK112 hb
              replace BK113 := kb BK113 hb
              replace HB := Aside0.mk (below_step bh hb)
              (try clear hb); (try clear hb2); (try clear hk); (try clear hi)
              refine hK.out _ _ ⟨bc BK104 0, bc BK104 1, (hc HB hw120_0), (hc HB hw120_1), (hc HB hw121_0), (hc HB hw121_1), (hc HB hw122_0), (hc HB hw122_1)⟩ (fun hHeld => ?_)
              clear hK K
              refine nm 93 ?_
              refine pu 30 94 HT_ ?_
              refine done_ (done_of HT_.out (by kernel_rfl)) ?_
              try go_wp2
              go_meet
              case rel => exact ⟨_, (t123), sd, H', ⟨by have := HK1.out; have := HJ24.out; have := HK3.out; first | omega | exact Nat.le_refl _⟩, ⟨bk BK103⟩, ⟨bk BK104⟩, ⟨bk BK112⟩, ⟨bk BK113⟩, ⟨bh⟩⟩
           case rest =>
            clear HC70
            (try clear p1); (try clear q1); (try clear hx1); (try clear p2); (try clear p6); (try clear c7); (try clear c8); (try clear c9); (try clear p12); (try clear q12); (try clear hx12); (try clear p64); (try clear c71); (try clear c71b0); (try clear c71b1); (try clear c73); (try clear c73b0); (try clear c73b1); (try clear c76); (try clear c77); (try clear c78); (try clear c79); (try clear c81); (try clear c82); (try clear c86); (try clear c86b0); (try clear c87); (try clear c87b0); (try clear c88); (try clear c88b0); (try clear c89); (try clear c89b0); (try clear c91); (try clear c91b0); (try clear c92); (try clear c92b0); (try clear hx120_0); (try clear hx120_1); (try clear hx121_0); (try clear hx121_1); (try clear hx122_0); (try clear hx122_1); (try clear p120); (try clear p121); (try clear p122); (try clear q120); (try clear q121); (try clear q122)
            obtain ⟨kq, x94_69, rfl, HA, HJ69, BK103, BK104, BK112, BK113, HB⟩ := hcut
            cases kq with
            | zero => exact absurd HA.out (by simp [shape_simple.j3])
            | succ kj69 =>
             have H := HA.out
             clear HA
             simp only [shape_simple.j3] at H
             by_cases c96 : x94_69 = true
             ·subst c96
              rw [if_pos rfl] at H
              obtain rfl := Option.some.inj H
              go_wp2
              go_ret
              exact ⟨by first | rfl | (simp [errW_none, errW_some] <;> rfl) | (simp only [← hji4, ← hji7]; first | rfl | (simp [errW_none, errW_some] <;> rfl)) | (simp [*, errW_none, errW_some] <;> rfl), bh⟩
             ·replace c96 := Bool.eq_false_iff.mpr c96
              subst c96
              rw [if_neg (show ¬ (false = true) by decide)] at H
              have H' := Aside0.mk H
              clear H
              go_wp2
              go_roundg kj69
              case measure => have := HK1.out; have := HJ24.out; have := HK3.out; have := HJ69.out; omega
              case rel => exact ⟨(wrap64 (x61_3 + 1)), sd, H', ⟨by have := HK1.out; have := HJ24.out; have := HK3.out; have := HJ69.out; omega⟩, ⟨bk BK103⟩, ⟨bk BK104⟩, ⟨bk BK112⟩, ⟨bk BK113⟩, ⟨bh⟩⟩
          ·rw [if_neg c69] at H
           have c69b0 := decide_eq_false c69
           clear c69
           have H' := Aside0.mk H
           clear H
           go_wp2
           go_roundg k3
           case measure => have := HK1.out; have := HJ24.out; have := HK3.out; omega
           case rel => exact ⟨(wrap64 (x13_1 + 1)), sd, H', ⟨by have := HK1.out; have := HJ24.out; have := HK3.out; omega⟩, ⟨bh⟩⟩
   ·rw [if_neg c2] at H
    have c2b0 := decide_eq_false c2
    clear c2
    obtain rfl := Option.some.inj H
    go_wp2
    go_ret
    exact ⟨by exact er, bh⟩
/-! ### shape_refused_simple: function 1068 -/
def shape_refused_simple.f (k : Nat) (l0 : List (S29))  : Option (Int) := (shape_polygon.f l0).bind fun t101 => (if t101 = true then ((shape_simple.f k l0).bind fun t102 => (if t102 = true then (some 0) else (some 2))) else (some 1))
set_option maxHeartbeats 8000000 in
set_option maxRecDepth 100000 in
theorem shape_refused_simple.calls (k : Nat) (A0 : Option Addr) (c0 : Nat) (l0 : List (S29))  (r : Int) (w : World) (hr0 : Kd.C k29 w A0 l0.length l0) (hc0 : l0.length ≤ c0) (h : shape_refused_simple.f k l0 = some r) :
  Calls Try.prog 68 #[.slice A0 l0.length c0, .func (.func 69) #[] #[]] w fun e w' => e = .returned (.int .i64 r) ∧ Below w.heap.size w w' := by
 have HR0 := Aside0.mk hr0
 have HC0 := Aside0.mk hc0
 clear hr0 hc0
 have HB := Aside0.mk (Below.refl w.heap.size w)
 have H : ((shape_polygon.f l0).bind fun t101 => (if t101 = true then ((shape_simple.f k l0).bind fun t102 => (if t102 = true then (some 0) else (some 2))) else (some 1))) = some r := h
 clear h
 replace H := Option.bind_eq_some_iff.mp H
 obtain ⟨t101, A30, H⟩ := H
 try dsimp only at H
 have A3 := Aside0.mk A30
 clear A30
 by_cases c4 : t101 = true
 ·subst c4
  rw [if_pos rfl] at H
  replace H := Option.bind_eq_some_iff.mp H
  obtain ⟨t102, A50, H⟩ := H
  try dsimp only at H
  have A5 := Aside0.mk A50
  clear A50
  by_cases c6 : t102 = true
  ·subst c6
   rw [if_pos rfl] at H
   obtain rfl := Option.some.inj H
   go_enter Try.func68, Try.ntmps68
   go_wp2_with (first | ((first | ((with_reducible refine gc 66 rfl ?_); refine goesL_ (some 7) rfl rfl Try.func66 (by kernel_rfl) rfl #[.slice A0 l0.length c0] rfl sg ?_) | ((with_reducible refine gate_value 66 rfl rfl ?_); refine goesLV_ (some 7) rfl rfl Try.func66 (by kernel_rfl) rfl #[.slice A0 l0.length c0] rfl sg rfl ?_)); (with_reducible refine (shape_polygon.calls _ _ l0 true _ ?side1 ?side2 A3.out).mono ?_); (case side1 => repeat (first | exact HR0.out | (with_reducible refine Kd.C_alloc ?_ _) | (with_reducible refine Kd.C_drewN ?_ _) | (with_reducible refine Kd.C_drew ?_))); (case side2 => exact HC0.out); rintro e w7 ⟨rfl, hb⟩; refine ⟨_, rfl, ?_⟩; replace HB := Aside0.mk (below_step bh hb); (try clear hb); (try clear hb2); (try clear hk); (try clear hi)) | ((first | ((with_reducible refine gc 69 rfl ?_); refine goesL_ (some 12) rfl rfl Try.func69 (by kernel_rfl) rfl #[.slice A0 l0.length c0] rfl sg ?_) | ((with_reducible refine gate_value 69 rfl rfl ?_); refine goesLV_ (some 12) rfl rfl Try.func69 (by kernel_rfl) rfl #[.slice A0 l0.length c0] rfl sg rfl ?_)); (with_reducible refine (shape_simple.calls k _ _ l0 true _ ?side1 ?side2 A5.out).mono ?_); (case side1 => exact cs (Kd.C_below HR0.out HB.out)); (case side2 => exact HC0.out); rintro e w8 ⟨rfl, hb⟩; refine ⟨_, rfl, ?_⟩; replace HB := Aside0.mk (below_step bh hb); (try clear hb); (try clear hb2); (try clear hk); (try clear hi)))
   go_ret
   exact ⟨by exact er, bh⟩
  ·replace c6 := Bool.eq_false_iff.mpr c6
   subst c6
   rw [if_neg (show ¬ (false = true) by decide)] at H
   obtain rfl := Option.some.inj H
   go_enter Try.func68, Try.ntmps68
   go_wp2_with (first | ((first | ((with_reducible refine gc 66 rfl ?_); refine goesL_ (some 7) rfl rfl Try.func66 (by kernel_rfl) rfl #[.slice A0 l0.length c0] rfl sg ?_) | ((with_reducible refine gate_value 66 rfl rfl ?_); refine goesLV_ (some 7) rfl rfl Try.func66 (by kernel_rfl) rfl #[.slice A0 l0.length c0] rfl sg rfl ?_)); (with_reducible refine (shape_polygon.calls _ _ l0 true _ ?side1 ?side2 A3.out).mono ?_); (case side1 => repeat (first | exact HR0.out | (with_reducible refine Kd.C_alloc ?_ _) | (with_reducible refine Kd.C_drewN ?_ _) | (with_reducible refine Kd.C_drew ?_))); (case side2 => exact HC0.out); rintro e w9 ⟨rfl, hb⟩; refine ⟨_, rfl, ?_⟩; replace HB := Aside0.mk (below_step bh hb); (try clear hb); (try clear hb2); (try clear hk); (try clear hi)) | ((first | ((with_reducible refine gc 69 rfl ?_); refine goesL_ (some 12) rfl rfl Try.func69 (by kernel_rfl) rfl #[.slice A0 l0.length c0] rfl sg ?_) | ((with_reducible refine gate_value 69 rfl rfl ?_); refine goesLV_ (some 12) rfl rfl Try.func69 (by kernel_rfl) rfl #[.slice A0 l0.length c0] rfl sg rfl ?_)); (with_reducible refine (shape_simple.calls k _ _ l0 false _ ?side1 ?side2 A5.out).mono ?_); (case side1 => exact cs (Kd.C_below HR0.out HB.out)); (case side2 => exact HC0.out); rintro e w10 ⟨rfl, hb⟩; refine ⟨_, rfl, ?_⟩; replace HB := Aside0.mk (below_step bh hb); (try clear hb); (try clear hb2); (try clear hk); (try clear hi)))
   go_ret
   exact ⟨by exact er, bh⟩
 ·replace c4 := Bool.eq_false_iff.mpr c4
  subst c4
  rw [if_neg (show ¬ (false = true) by decide)] at H
  obtain rfl := Option.some.inj H
  go_enter Try.func68, Try.ntmps68
  go_wp2_with (first | ((first | ((with_reducible refine gc 66 rfl ?_); refine goesL_ (some 7) rfl rfl Try.func66 (by kernel_rfl) rfl #[.slice A0 l0.length c0] rfl sg ?_) | ((with_reducible refine gate_value 66 rfl rfl ?_); refine goesLV_ (some 7) rfl rfl Try.func66 (by kernel_rfl) rfl #[.slice A0 l0.length c0] rfl sg rfl ?_)); (with_reducible refine (shape_polygon.calls _ _ l0 false _ ?side1 ?side2 A3.out).mono ?_); (case side1 => repeat (first | exact HR0.out | (with_reducible refine Kd.C_alloc ?_ _) | (with_reducible refine Kd.C_drewN ?_ _) | (with_reducible refine Kd.C_drew ?_))); (case side2 => exact HC0.out); rintro e w11 ⟨rfl, hb⟩; refine ⟨_, rfl, ?_⟩; replace HB := Aside0.mk (below_step bh hb); (try clear hb); (try clear hb2); (try clear hk); (try clear hi)))
  go_ret
  exact ⟨by exact er, bh⟩
/-! ### shape_Lattice: function 25 -/
def shape_Lattice.l0 : Nat → List (S29) → Int → Int → Int → Option (Int × Int × Int)
 | 0, _, _, _, _ => none
 | k + 1, x0, x6, x16, x17 => if x17 < x16 then (if (x0.length : Int) = 0 then (none) else (if 0 ≤ (Int.tmod (wrap64 (x17 + 1)) (x0.length : Int)) then (if (Int.tmod (wrap64 (x17 + 1)) (x0.length : Int)) < (x0.length : Int) then (if 0 ≤ x17 then (if x17 < (x0.length : Int) then ((shape_sub.f ((rd_T29 x0 (Int.tmod (wrap64 (x17 + 1)) (x0.length : Int))).f0) ((rd_T29 x0 (Int.tmod (wrap64 (x17 + 1)) (x0.length : Int))).f1) ((rd_T29 x0 x17).f0) ((rd_T29 x0 x17).f1)).bind fun bt105 => ((shape_gcd.f k bt105.1 bt105.2).bind fun t108 => (shape_Lattice.l0 k x0 (wrap64 (x6 + t108)) x16 (wrap64 (x17 + 1))))) else (none)) else (none)) else (none)) else (none))) else ((shape_area2.f k x0).bind fun t102 => (some (wrap64 (Int.tdiv (wrap64 ((wrap64 ((mx t102 (wrap64 (-t102))) - x6)) + 2)) 2), x6, 0)))
def shape_Lattice.f (k : Nat) (l0 : List (S29)) : Option (Int × Int × Int) := (shape_refused_simple.f k l0).bind fun t101 => (if t101 = 0 then (shape_Lattice.l0 k l0 0 (l0.length : Int) 0) else (some (0, 0, t101)))
def shape_Lattice.T8 : Bool × List (List Nat × List Nat) := (true, [([], []), ([], []), ([1], [1]), ([], []), ([3], [3]), ([2, 4], [2, 4]), ([0, 5], [0, 5]), ([6], [6]), ([], []), ([], []), ([8, 9], [8, 9]), ([10], [10]), ([7, 11], [7, 11]), ([], []), ([13, 12, 12, 0, 1, 2, 3, 4, 5, 6, 7, 8, 9, 10, 11, 12, 13], [12, 13])])
def shape_Lattice.B8 : List Nat := [0, 0, 2, 0, 8, 30, 63, 127, 0, 0, 768, 1792, 4095, 0, 16383]
theorem shape_Lattice.tab8 : rtab .any (opsOf Try.f25 8) = shape_Lattice.T8 := by kernel_rfl
theorem shape_Lattice.bits8 : waitsOk shape_Lattice.T8.2 shape_Lattice.B8 = true := by kernel_rfl
set_option maxHeartbeats 8000000 in
set_option maxRecDepth 100000 in
theorem shape_Lattice.calls (k : Nat) (A0 : Option Addr) (c0 : Nat) (l0 : List (S29)) (r1 : Int) (r2 : Int) (r3 : Int) (w : World) (hr0 : Kd.C k29 w A0 l0.length l0) (hc0 : l0.length ≤ c0) (h : shape_Lattice.f k l0 = some (r1, r2, r3)) :
  Calls Try.prog 25 #[.slice A0 l0.length c0] w fun e w' => e = .returned (.tuple #[.int .i64 r1, .int .i64 r2, .int .i64 r3]) ∧ Below w.heap.size w w' := by
 have hu29 := Try.underlying29
 have HR0 := Aside0.mk hr0
 have HC0 := Aside0.mk hc0
 clear hr0 hc0
 have HB := Aside0.mk (Below.refl w.heap.size w)
 have H : ((shape_refused_simple.f k l0).bind fun t101 => (if t101 = 0 then (shape_Lattice.l0 k l0 0 (l0.length : Int) 0) else (some (0, 0, t101)))) = some (r1, r2, r3) := h
 clear h
 replace H := Option.bind_eq_some_iff.mp H
 obtain ⟨t101, A20, H⟩ := H
 replace H : (if t101 = 0 then (shape_Lattice.l0 k l0 0 (l0.length : Int) 0) else (some (0, 0, t101))) = some (r1, r2, r3) := H
 have A2 := Aside0.mk A20
 clear A20
 by_cases c3 : t101 = 0
 ·rw [if_pos c3] at H
  have c3b0 : (t101 == 0) = true := beq_iff_eq.mpr c3
  have c3b1 : (t101 != 0) = false := bne_eq_false_iff_eq.mpr c3
  clear c3
  have H' := Aside0.mk H
  clear H
  go_enter Try.func25, Try.ntmps25
  go_wp2_with (first | ((with_reducible refine gc 68 rfl ?_); refine goesL_ (some 11) rfl rfl Try.func68 (by kernel_rfl) rfl #[.slice A0 l0.length c0, .func (.func 69) #[] #[]] rfl sg ?_; (with_reducible refine (shape_refused_simple.calls k _ _ l0  t101 _ ?side1 ?side2 A2.out).mono ?_); (case side1 => repeat (first | exact HR0.out | (with_reducible refine Kd.C_alloc ?_ _) | (with_reducible refine Kd.C_drewN ?_ _) | (with_reducible refine Kd.C_drew ?_))); (case side2 => exact HC0.out); rintro e w4 ⟨rfl, hb⟩; refine ⟨_, rfl, ?_⟩; replace HB := Aside0.mk (below_step bh hb); (try clear hb); (try clear hb2); (try clear hk); (try clear hi)))
  go_loopg [6, 17] k (fun kq v6 v17 w' => ∃ (x6_1 : Int) (x17_1 : Int), v6 = .int .i64 x6_1 ∧ v17 = .int .i64 x17_1 ∧ Aside0 (shape_Lattice.l0 kq l0 x6_1 (l0.length : Int) x17_1 = some (r1, r2, r3)) ∧ Aside0 (kq ≤ k) ∧ Aside0 (Below w.heap.size w w'))
  case atStart => exact ⟨(0), (0), sd, sd, H', ⟨Nat.le_refl _⟩, ⟨bh⟩⟩
  case round =>
   clear H'
   (try clear c1); (try clear c2); (try clear p2); (try clear c3); (try clear c3b0); (try clear c3b1)
   obtain ⟨x6_1, x17_1, rfl, rfl, HA, HK1, HB⟩ := hrel
   cases gk with
   | zero => exact absurd HA.out (by simp [shape_Lattice.l0])
   | succ k1 =>
    have H := HA.out
    clear HA
    simp only [shape_Lattice.l0] at H
    by_cases c5 : x17_1 < (l0.length : Int)
    ·rw [if_pos c5] at H
     have c5b0 := decide_eq_true c5
     clear c5
     replace H := oj H
     obtain ⟨c6, H⟩ := H
     have c6b0 : ((l0.length : Int) == 0) = false := beq_eq_false_iff_ne.mpr c6
     have c6b1 : ((l0.length : Int) != 0) = true := bne_iff_ne.mpr c6
     have c6b2 : ¬ (l0 = []) := fun h_ => c6 (by rw [h_]; rfl)
     obtain ⟨ji7, hji7⟩ : ∃ j_ : Int, (Int.tmod (wrap64 (x17_1 + 1)) (l0.length : Int)) = j_ := ⟨_, rfl⟩
     replace H : (if 0 ≤ (ji7) then (if (ji7) < (l0.length : Int) then (if 0 ≤ x17_1 then (if x17_1 < (l0.length : Int) then ((shape_sub.f ((rd_T29 l0 (ji7)).f0) ((rd_T29 l0 (ji7)).f1) ((rd_T29 l0 x17_1).f0) ((rd_T29 l0 x17_1).f1)).bind fun bt105 => ((shape_gcd.f k1 bt105.1 bt105.2).bind fun t108 => (shape_Lattice.l0 k1 l0 (wrap64 (x6_1 + t108)) (l0.length : Int) (wrap64 (x17_1 + 1))))) else (none)) else (none)) else (none)) else (none)) = some (r1, r2, r3) := by first | (rw [hji7] at H; exact H) | (simp only [hji7] at H ⊢; exact H)
     replace H := oi H
     obtain ⟨c8, H⟩ := H
     have c8b0 := decide_eq_true c8
     clear c8
     replace H := oi H
     obtain ⟨c9, H⟩ := H
     have c9b0 := decide_eq_true c9
     clear c9
     replace H := oi H
     obtain ⟨c10, H⟩ := H
     have c10b0 := decide_eq_true c10
     clear c10
     replace H := oi H
     obtain ⟨c11, H⟩ := H
     have c11b0 := decide_eq_true c11
     clear c11
     replace H := Option.bind_eq_some_iff.mp H
     obtain ⟨⟨t105, t106⟩, A120, H⟩ := H
     replace H : ((shape_gcd.f k1 t105 t106).bind fun t108 => (shape_Lattice.l0 k1 l0 (wrap64 (x6_1 + t108)) (l0.length : Int) (wrap64 (x17_1 + 1)))) = some (r1, r2, r3) := H
     have A12 := Aside0.mk A120
     clear A120
     replace H := Option.bind_eq_some_iff.mp H
     obtain ⟨t108, A130, H⟩ := H
     replace H : (shape_Lattice.l0 k1 l0 (wrap64 (x6_1 + t108)) (l0.length : Int) (wrap64 (x17_1 + 1))) = some (r1, r2, r3) := H
     have A13 := Aside0.mk A130
     clear A130
     have H' := Aside0.mk H
     clear H
     try go_wp2
     replace HB := Aside0.mk (below_drew1 HB.out)
     have p103 : 0 ≤ ((ji7) : Int) := dt
     have q103 : (ji7) < (l0.length : Int) := dt
     obtain ⟨ad103, e103, hx103_0, hx103_1⟩ := at_T29 HR0.out (ji7) p103 q103
     have hw103_1 := hx103_1
     have hw103_0 := hx103_0
     cases e103
     replace hx103_0 := hc HB hx103_0
     replace hx103_1 := hc HB hx103_1
     replace p103 := eq_true p103
     replace q103 := eq_true q103
     have p104 : 0 ≤ (x17_1 : Int) := dt
     have q104 : x17_1 < (l0.length : Int) := dt
     obtain ⟨ad104, e104, hx104_0, hx104_1⟩ := at_T29 HR0.out x17_1 p104 q104
     have hw104_1 := hx104_1
     have hw104_0 := hx104_0
     obtain rfl : ad103 = ad104 := (by injection e104)
     replace hx104_0 := hc HB hx104_0
     replace hx104_1 := hc HB hx104_1
     replace p104 := eq_true p104
     replace q104 := eq_true q104
     refine start_ (n := 15) (S := fun w' => w'.cell? (ad103.add (((ji7)).toNat * 2)) = some (.int .i64 ((rd_T29 l0 (ji7)).f0)) ∧ w'.cell? ⟨(ad103.add (((ji7)).toNat * 2)).block, (ad103.add (((ji7)).toNat * 2)).off + 1, none⟩ = some (.int .i64 ((rd_T29 l0 (ji7)).f1)) ∧ w'.cell? (ad103.add ((x17_1).toNat * 2)) = some (.int .i64 ((rd_T29 l0 x17_1).f0)) ∧ w'.cell? ⟨(ad103.add ((x17_1).toNat * 2)).block, (ad103.add ((x17_1).toNat * 2)).off + 1, none⟩ = some (.int .i64 ((rd_T29 l0 x17_1).f1))) (ds := []) #[N,N,N,N,N,N,N,N,N,N,N,N,N,N,N] (by kernel_rfl) rfl rfl ⟨(hc HB hw103_0), (hc HB hw103_1), (hc HB hw104_0), (hc HB hw104_1)⟩ (fun hHeld => ?_); refine with_tabW shape_Lattice.tab8 shape_Lattice.bits8 (fun HT_ HW_ => ?_)
     generalize wr.drew = w14 at HB hx103_0 hx103_1 hx104_0 hx104_1 hHeld ⊢
     refine pu 0 20 HT_ ?_
     refine pu 1 21 HT_ ?_
     refine pu 2 22 HT_ ?_
     refine pu 3 23 HT_ ?_
     refine pu 4 24 HT_ ?_
     refine pu 5 25 HT_ ?_
     refine pu 6 26 HT_ ?_
     refine pu 8 28 HT_ ?_
     refine pu 9 29 HT_ ?_
     refine pu 10 30 HT_ ?_
     refine tk4 7 27 hHeld HT_ HW_ ?_
     refine tk4 11 31 hHeld HT_ HW_ ?_
     refine join_ (σ := Nat) 1 #[T,T,T,T,T,T,T,T,T,T,T,T,T,T,N] (fun s_ => [(32, .agg #[.int .i64 t105, .int .i64 t106]), (8, .pointer (some ⟨s_, 0, none⟩))]) (fun s_ w' => (w'.cell? (ad103.add (((ji7)).toNat * 2)) = some (.int .i64 ((rd_T29 l0 (ji7)).f0)) ∧ w'.cell? ⟨(ad103.add (((ji7)).toNat * 2)).block, (ad103.add (((ji7)).toNat * 2)).off + 1, none⟩ = some (.int .i64 ((rd_T29 l0 (ji7)).f1)) ∧ w'.cell? (ad103.add ((x17_1).toNat * 2)) = some (.int .i64 ((rd_T29 l0 x17_1).f0)) ∧ w'.cell? ⟨(ad103.add ((x17_1).toNat * 2)).block, (ad103.add ((x17_1).toNat * 2)).off + 1, none⟩ = some (.int .i64 ((rd_T29 l0 x17_1).f1))) ∧ (w'.heap[s_]? = some (.cells #[.int .i64 0, .int .i64 0] 29 (0, 0))) ∧ (w.heap.size ≤ s_) ∧ (w.heap.size ≤ s_) ∧ (Below w.heap.size w w')) ?_ ?_
     rotate_left
     ·intro hCont
      refine two_ (i := 12) (j := 13) (Ni := some 32) (Nj := some 8) #[T,T,T,T,T,T,T,T,T,T,T,T,T,N,N] #[T,T,T,T,T,T,T,T,T,T,T,T,N,T,N] rfl rfl rfl rfl (on2 HT_) (by decide) (by decide) (fun K hK => ?_) (fun K hK => ?_)
      ·skip
       refine goes_ Try.func70 (by kernel_rfl) rfl #[.agg #[.int .i64 ((rd_T29 l0 (ji7)).f0), .int .i64 ((rd_T29 l0 (ji7)).f1)], .agg #[.int .i64 ((rd_T29 l0 x17_1).f0), .int .i64 ((rd_T29 l0 x17_1).f1)]] (by rfl) rfl rfl (by (try simp only [List.map_toArray, List.map_cons, List.map_nil]); first | done | (simp only [hji7]; rfl) | rfl | (simp only [List.length_drop, List.length_take]; rfl)) ?_
       with_reducible refine (shape_sub.calls ((rd_T29 l0 (ji7)).f0) ((rd_T29 l0 (ji7)).f1) ((rd_T29 l0 x17_1).f0) ((rd_T29 l0 x17_1).f1) t105 t106 _ A12.out).mono ?_
       rintro e w15 ⟨rfl, hb⟩
       refine ⟨_, rfl, ?_⟩
       replace HB := Aside0.mk (below_step bh hb)
       (try clear hb); (try clear hb2); (try clear hk); (try clear hi)
       refine hK.out _ _ ⟨(hc HB hw103_0), (hc HB hw103_1), (hc HB hw104_0), (hc HB hw104_1)⟩ (fun hHeld => ?_)
       clear hK K
       refine nm 32 ?_
       refine one_ (i := 13) (N := some 8) #[T,T,T,T,T,T,T,T,T,T,T,T,T,T,N] rfl rfl (on1 HT_) (by decide) (fun K hK => ?_)
       refine bxs 8 #[.int .i64 0, .int .i64 0] 29 ?_
       intro gb107 hg w16 hbox hb
       have BK107 := Aside0.mk (hbox)
       have GW107 := Aside0.mk (gs hg : w.heap.size ≤ gb107)
       have GE107 := Aside0.mk (gs hg : w.heap.size ≤ gb107)
       replace HB := Aside0.mk (below_step bh hb)
       clear hb hbox hg
       refine hK.out _ _ ⟨(hc HB hw103_0), (hc HB hw103_1), (hc HB hw104_0), (hc HB hw104_1)⟩ (fun hHeld => ?_)
       clear hK K
       refine nm 8 ?_
       exact norm_ pa (hCont (gb107) _ ⟨hHeld, bk BK107, GW107.out, GE107.out, bh⟩)
      ·skip
       refine bxs 8 #[.int .i64 0, .int .i64 0] 29 ?_
       intro gb107 hg w15 hbox hb
       have BK107 := Aside0.mk (hbox)
       have GW107 := Aside0.mk (gs hg : w.heap.size ≤ gb107)
       have GE107 := Aside0.mk (gs hg : w.heap.size ≤ gb107)
       replace HB := Aside0.mk (below_step bh hb)
       clear hb hbox hg
       refine hK.out _ _ ⟨(hc HB hw103_0), (hc HB hw103_1), (hc HB hw104_0), (hc HB hw104_1)⟩ (fun hHeld => ?_)
       clear hK K
       refine nm 8 ?_
       refine one_ (i := 12) (N := some 32) #[T,T,T,T,T,T,T,T,T,T,T,T,T,T,N] rfl rfl (on1 HT_) (by decide) (fun K hK => ?_)
       refine goes_ Try.func70 (by kernel_rfl) rfl #[.agg #[.int .i64 ((rd_T29 l0 (ji7)).f0), .int .i64 ((rd_T29 l0 (ji7)).f1)], .agg #[.int .i64 ((rd_T29 l0 x17_1).f0), .int .i64 ((rd_T29 l0 x17_1).f1)]] (by rfl) rfl rfl (by (try simp only [List.map_toArray, List.map_cons, List.map_nil]); first | done | (simp only [hji7]; rfl) | rfl | (simp only [List.length_drop, List.length_take]; rfl)) ?_
       with_reducible refine (shape_sub.calls ((rd_T29 l0 (ji7)).f0) ((rd_T29 l0 (ji7)).f1) ((rd_T29 l0 x17_1).f0) ((rd_T29 l0 x17_1).f1) t105 t106 _ A12.out).mono ?_
       rintro e w16 ⟨rfl, hb⟩
       refine ⟨_, rfl, ?_⟩
       replace BK107 := kb BK107 hb
       replace HB := Aside0.mk (below_step bh hb)
       (try clear hb); (try clear hb2); (try clear hk); (try clear hi)
       refine hK.out _ _ ⟨(hc HB hw103_0), (hc HB hw103_1), (hc HB hw104_0), (hc HB hw104_1)⟩ (fun hHeld => ?_)
       clear hK K
       refine nm 32 ?_
       exact norm_ pa (hCont (gb107) _ ⟨hHeld, bk BK107, GW107.out, GE107.out, bh⟩)
     rintro gb107 w17 ⟨hS_, h0_, h1_, h2_, h3_⟩
     have BK107 := Aside0.mk h0_
     have GW107 := Aside0.mk h1_
     have GE107 := Aside0.mk h2_
     replace HB := Aside0.mk h3_
     clear h0_ h1_ h2_ h3_
     have hHeld := hS_
     refine nn ?_
     refine one_ (i := 14) (N := none) #[T,T,T,T,T,T,T,T,T,T,T,T,T,T,T] rfl rfl (on1 HT_) (by decide) (fun K hK => ?_)
     have hs18 : w17.cell? ⟨gb107, 0, none⟩ = some (.int .i64 0) := bc BK107 0
     have hfs18 := blk_frozen BK107.out 0
     have hs19 : w17.cell? ⟨gb107, 1, none⟩ = some (.int .i64 0) := bc BK107 1
     have hfs19 := blk_frozen BK107.out 1
     refine skip_ (w1 := ?_) (by rfl) rfl ?_ ?_
     rotate_left
     ·go_simp
      rfl
     refine hK.out _ _ ⟨((cell_far (p := ⟨gb107, _, none⟩) (fr hw103_0 GW107) _).trans (((cell_far (p := ⟨gb107, _, none⟩) (fr hw103_0 GW107) _).trans (hHeld.1)))), ((cell_far (p := ⟨gb107, _, none⟩) (fr hw103_1 GW107) _).trans (((cell_far (p := ⟨gb107, _, none⟩) (fr hw103_1 GW107) _).trans (hHeld.2.1)))), ((cell_far (p := ⟨gb107, _, none⟩) (fr hw104_0 GW107) _).trans (((cell_far (p := ⟨gb107, _, none⟩) (fr hw104_0 GW107) _).trans (hHeld.2.2.1)))), ((cell_far (p := ⟨gb107, _, none⟩) (fr hw104_1 GW107) _).trans (((cell_far (p := ⟨gb107, _, none⟩) (fr hw104_1 GW107) _).trans (hHeld.2.2.2))))⟩ (fun hHeld => ?_)
     clear hK K
     refine done_ (done_of HT_.out (by kernel_rfl)) ?_
     obtain ⟨hcz20_0, hcz20_1, hfz20_0, hfz20_1⟩ := b2 BK107
     try go_wp2_with (first | ((with_reducible refine gc 71 rfl ?_); refine goesL_ (some 38) rfl rfl Try.func71 (by kernel_rfl) rfl #[.int .i64 t105, .int .i64 t106] rfl sg ?_; (with_reducible refine (shape_gcd.calls k1 t105 t106 t108 _ A13.out).mono ?_); rintro e w21 ⟨rfl, hb⟩; refine ⟨_, rfl, ?_⟩; replace BK107 := Aside0.mk (blk_below (g := gb107) (o := .cells #[.int .i64 t105, .int .i64 t106] 29 (0, 0)) (by refine bd ?_; refine blk_put (cs := #[.int .i64 t105, .int .i64 0]) ?_ 1 _ rfl; refine bd ?_; refine blk_put (cs := #[.int .i64 0, .int .i64 0]) ?_ 0 _ rfl; refine bd ?_; exact BK107.out) hb); replace HB := Aside0.mk (below_step bh hb); (try clear hb); (try clear hb2); (try clear hk); (try clear hi)))
     go_roundg k1
     case measure => have := HK1.out; omega
     case rel => exact ⟨(wrap64 (x6_1 + t108)), (wrap64 (x17_1 + 1)), sd, sd, H', ⟨by have := HK1.out; omega⟩, ⟨bh⟩⟩
    ·rw [if_neg c5] at H
     have c5b0 := decide_eq_false c5
     clear c5
     replace H := Option.bind_eq_some_iff.mp H
     obtain ⟨t102, A220, H⟩ := H
     replace H : (some (wrap64 (Int.tdiv (wrap64 ((wrap64 ((mx t102 (wrap64 (-t102))) - x6_1)) + 2)) 2), x6_1, 0)) = some (r1, r2, r3) := H
     have A22 := Aside0.mk A220
     clear A220
     obtain ⟨ji23, hji23⟩ : ∃ j_ : Int, (mx t102 (wrap64 (-t102))) = j_ := ⟨_, rfl⟩
     replace H : (some (wrap64 (Int.tdiv (wrap64 ((wrap64 ((ji23) - x6_1)) + 2)) 2), x6_1, 0)) = some (r1, r2, r3) := by first | (rw [hji23] at H; exact H) | (simp only [hji23] at H ⊢; exact H)
     (try rw [hji23] at A22)
     have hji23_ : (if t102 < (wrap64 (-t102)) then (wrap64 (-t102)) else t102) = ji23 := hji23
     simp only [Option.some.injEq, Prod.mk.injEq] at H
     obtain ⟨rfl, rfl, rfl⟩ := H
     go_wp2_with (first | ((with_reducible refine gc 67 rfl ?_); refine goesL_ (some 42) rfl rfl Try.func67 (by kernel_rfl) rfl #[.slice A0 l0.length c0] rfl sg ?_; (with_reducible refine (shape_area2.calls k1 _ _ l0 t102 _ ?side1 ?side2 A22.out).mono ?_); (case side1 => exact cs (Kd.C_below HR0.out HB.out)); (case side2 => exact HC0.out); rintro e w24 ⟨rfl, hb⟩; refine ⟨_, rfl, ?_⟩; replace HB := Aside0.mk (below_step bh hb); (try clear hb); (try clear hb2); (try clear hk); (try clear hi)))
     go_ret3
     exact ⟨by first | rfl | (simp [errW_none, errW_some] <;> rfl) | (simp only [← hji23]; first | rfl | (simp [errW_none, errW_some] <;> rfl)) | (simp [*, errW_none, errW_some] <;> rfl), bh⟩
 ·rw [if_neg c3] at H
  have c3b0 : (t101 == 0) = false := beq_eq_false_iff_ne.mpr c3
  have c3b1 : (t101 != 0) = true := bne_iff_ne.mpr c3
  simp only [Option.some.injEq, Prod.mk.injEq] at H
  obtain ⟨rfl, rfl, rfl⟩ := H
  go_enter Try.func25, Try.ntmps25
  go_wp2_with (first | ((with_reducible refine gc 68 rfl ?_); refine goesL_ (some 11) rfl rfl Try.func68 (by kernel_rfl) rfl #[.slice A0 l0.length c0, .func (.func 69) #[] #[]] rfl sg ?_; (with_reducible refine (shape_refused_simple.calls k _ _ l0  t101 _ ?side1 ?side2 A2.out).mono ?_); (case side1 => repeat (first | exact HR0.out | (with_reducible refine Kd.C_alloc ?_ _) | (with_reducible refine Kd.C_drewN ?_ _) | (with_reducible refine Kd.C_drew ?_))); (case side2 => exact HC0.out); rintro e w25 ⟨rfl, hb⟩; refine ⟨_, rfl, ?_⟩; replace HB := Aside0.mk (below_step bh hb); (try clear hb); (try clear hb2); (try clear hk); (try clear hi)))
  go_ret3
  exact ⟨by exact er, bh⟩
/-! ### cracknellaw04_lives: function 18 -/
def cracknellaw04_lives.f (k : Nat)  : Option (Bool) := (some (([(⟨0, 0⟩ : S29), (⟨2, 0⟩ : S29), (⟨2, 2⟩ : S29), (⟨0, 2⟩ : S29)] : List (S29)) : List (S29))).bind fun y101 => ((shape_Area2.f k y101).bind fun bt104 => ((shape_Lattice.f k y101).bind fun bt106 => ((shape_Hull.f k (([(⟨0, 0⟩ : S29), (⟨1, 0⟩ : S29), (⟨2, 0⟩ : S29), (⟨0, 2⟩ : S29), (⟨1, 1⟩ : S29)] : List (S29)))).bind fun bt112 => (if bt104.1 = 8 then (if bt104.2 = 0 then (if bt106.1 = 1 then (if bt106.2.1 = 8 then (if bt106.2.2 = 0 then (if bt112.2 = 0 then ((cracknelref04_Same.f k bt112.1 (([(⟨0, 0⟩ : S29), (⟨2, 0⟩ : S29), (⟨0, 2⟩ : S29)] : List (S29)))).bind fun t119 => (some t119)) else (some false)) else (some false)) else (some false)) else (some false)) else (some false)) else (some false)))))
set_option maxHeartbeats 8000000 in
set_option maxRecDepth 100000 in
theorem cracknellaw04_lives.calls (k : Nat)  (r : Bool) (w : World) (h : cracknellaw04_lives.f k  = some r) (hr : r = true) :
  Calls Try.prog 18 #[] w fun e w' => e = .returned (.bool r) ∧ Below w.heap.size w w' := by
 have hu29 := Try.underlying29
 have HB := Aside0.mk (Below.refl w.heap.size w)
 have H : ((some (([(⟨0, 0⟩ : S29), (⟨2, 0⟩ : S29), (⟨2, 2⟩ : S29), (⟨0, 2⟩ : S29)] : List (S29)) : List (S29))).bind fun y101 => ((shape_Area2.f k y101).bind fun bt104 => ((shape_Lattice.f k y101).bind fun bt106 => ((shape_Hull.f k (([(⟨0, 0⟩ : S29), (⟨1, 0⟩ : S29), (⟨2, 0⟩ : S29), (⟨0, 2⟩ : S29), (⟨1, 1⟩ : S29)] : List (S29)))).bind fun bt112 => (if bt104.1 = 8 then (if bt104.2 = 0 then (if bt106.1 = 1 then (if bt106.2.1 = 8 then (if bt106.2.2 = 0 then (if bt112.2 = 0 then ((cracknelref04_Same.f k bt112.1 (([(⟨0, 0⟩ : S29), (⟨2, 0⟩ : S29), (⟨0, 2⟩ : S29)] : List (S29)))).bind fun t119 => (some t119)) else (some false)) else (some false)) else (some false)) else (some false)) else (some false)) else (some false)))))) = some r := h
 clear h
 obtain ⟨y101, hy101⟩ : ∃ y_ : List (S29), y_ = (([(⟨0, 0⟩ : S29), (⟨2, 0⟩ : S29), (⟨2, 2⟩ : S29), (⟨0, 2⟩ : S29)] : List (S29))) := ⟨_, rfl⟩
 replace H : ((shape_Area2.f k y101).bind fun bt104 => ((shape_Lattice.f k y101).bind fun bt106 => ((shape_Hull.f k (([(⟨0, 0⟩ : S29), (⟨1, 0⟩ : S29), (⟨2, 0⟩ : S29), (⟨0, 2⟩ : S29), (⟨1, 1⟩ : S29)] : List (S29)))).bind fun bt112 => (if bt104.1 = 8 then (if bt104.2 = 0 then (if bt106.1 = 1 then (if bt106.2.1 = 8 then (if bt106.2.2 = 0 then (if bt112.2 = 0 then ((cracknelref04_Same.f k bt112.1 (([(⟨0, 0⟩ : S29), (⟨2, 0⟩ : S29), (⟨0, 2⟩ : S29)] : List (S29)))).bind fun t119 => (some t119)) else (some false)) else (some false)) else (some false)) else (some false)) else (some false)) else (some false))))) = some r := by first | (rw [hy101]; with_reducible exact H) | (have H2_ := (Option.bind_some _ _).symm.trans H; rw [hy101]; with_reducible exact H2_) | (have H2_ := (Option.bind_some _ _).symm.trans H; with_reducible exact H2_) | with_reducible exact H | (rw [hy101]; exact H) | exact H
 have Ny101 := Aside0.mk hy101
 clear hy101
 replace H := Option.bind_eq_some_iff.mp H
 obtain ⟨⟨t104, t105⟩, A10, H⟩ := H
 try dsimp only at H
 have A1 := Aside0.mk A10
 clear A10
 replace H := Option.bind_eq_some_iff.mp H
 obtain ⟨⟨t106, t107, t108⟩, A20, H⟩ := H
 try dsimp only at H
 have A2 := Aside0.mk A20
 clear A20
 obtain ⟨y109, hy109⟩ : ∃ y_ : List (S29), y_ = (([(⟨0, 0⟩ : S29), (⟨1, 0⟩ : S29), (⟨2, 0⟩ : S29), (⟨0, 2⟩ : S29), (⟨1, 1⟩ : S29)] : List (S29))) := ⟨_, rfl⟩
 replace H : ((shape_Hull.f k y109).bind fun bt112 => (if t104 = 8 then (if t105 = 0 then (if t106 = 1 then (if t107 = 8 then (if t108 = 0 then (if bt112.2 = 0 then ((cracknelref04_Same.f k bt112.1 (([(⟨0, 0⟩ : S29), (⟨2, 0⟩ : S29), (⟨0, 2⟩ : S29)] : List (S29)))).bind fun t119 => (some t119)) else (some false)) else (some false)) else (some false)) else (some false)) else (some false)) else (some false))) = some r := by first | (rw [hy109]; with_reducible exact H) | (have H2_ := (Option.bind_some _ _).symm.trans H; rw [hy109]; with_reducible exact H2_) | (have H2_ := (Option.bind_some _ _).symm.trans H; with_reducible exact H2_) | with_reducible exact H | (rw [hy109]; exact H) | exact H
 have Ny109 := Aside0.mk hy109
 clear hy109
 replace H := Option.bind_eq_some_iff.mp H
 obtain ⟨⟨t112, t113⟩, A30, H⟩ := H
 try dsimp only at H
 have A3 := Aside0.mk A30
 clear A30
 by_cases c4 : t104 = 8
 ·rw [if_pos c4] at H
  have c4b0 : (t104 == 8) = true := beq_iff_eq.mpr c4
  have c4b1 : (t104 != 8) = false := bne_eq_false_iff_eq.mpr c4
  clear c4
  by_cases c5 : t105 = 0
  ·rw [if_pos c5] at H
   have c5b0 : (t105 == 0) = true := beq_iff_eq.mpr c5
   have c5b1 : (t105 != 0) = false := bne_eq_false_iff_eq.mpr c5
   clear c5
   by_cases c6 : t106 = 1
   ·rw [if_pos c6] at H
    have c6b0 : (t106 == 1) = true := beq_iff_eq.mpr c6
    have c6b1 : (t106 != 1) = false := bne_eq_false_iff_eq.mpr c6
    clear c6
    by_cases c7 : t107 = 8
    ·rw [if_pos c7] at H
     have c7b0 : (t107 == 8) = true := beq_iff_eq.mpr c7
     have c7b1 : (t107 != 8) = false := bne_eq_false_iff_eq.mpr c7
     clear c7
     by_cases c8 : t108 = 0
     ·rw [if_pos c8] at H
      have c8b0 : (t108 == 0) = true := beq_iff_eq.mpr c8
      have c8b1 : (t108 != 0) = false := bne_eq_false_iff_eq.mpr c8
      clear c8
      by_cases c9 : t113 = 0
      ·rw [if_pos c9] at H
       have c9b0 : (t113 == 0) = true := beq_iff_eq.mpr c9
       have c9b1 : (t113 != 0) = false := bne_eq_false_iff_eq.mpr c9
       clear c9
       obtain ⟨y116, hy116⟩ : ∃ y_ : List (S29), y_ = (([(⟨0, 0⟩ : S29), (⟨2, 0⟩ : S29), (⟨0, 2⟩ : S29)] : List (S29))) := ⟨_, rfl⟩
       replace H : ((cracknelref04_Same.f k t112 y116).bind fun t119 => (some t119)) = some r := by first | (rw [hy116]; with_reducible exact H) | (have H2_ := (Option.bind_some _ _).symm.trans H; rw [hy116]; with_reducible exact H2_) | (have H2_ := (Option.bind_some _ _).symm.trans H; with_reducible exact H2_) | with_reducible exact H | (rw [hy116]; exact H) | exact H
       have Ny116 := Aside0.mk hy116
       clear hy116
       replace H := Option.bind_eq_some_iff.mp H
       obtain ⟨t119, A100, H⟩ := H
       try dsimp only at H
       have A10 := Aside0.mk A100
       clear A100
       obtain rfl := Option.some.inj H
       go_enter Try.func18, Try.ntmps18
       go_wp2_with (first | ((with_reducible refine gate_dst (N := 13) rfl ?_); (try (refine gate_guard (by rfl) ?_; dsimp only)); refine Kd.R_lit k29 _ 29 ?hg (N := 13) ?hd (xs := ([(⟨0, 0⟩ : S29), (⟨2, 0⟩ : S29), (⟨2, 2⟩ : S29), (⟨0, 2⟩ : S29)] : List (S29))) (inner := [.int .i64 0, .int .i64 0, .int .i64 2, .int .i64 0, .int .i64 2, .int .i64 2, .int .i64 0, .int .i64 2]) (ok := fun _ => True) (okp := fun _ => True) ?hr ?hp (fun _ hk => hk) trivial (Below.refl _ _) (Nat.le_refl _) (by simp) ?_; (case hd => rfl); (case hg => rfl); (case hr => first | (go_simp; done) | (go_simp; rfl)); (case hp => exact (Reps.c2 (k29_mkM _ _ _ (⟨0, 0⟩ : S29)) (Reps.c2 (k29_mkM _ _ _ (⟨2, 0⟩ : S29)) (Reps.c2 (k29_mkM _ _ _ (⟨2, 2⟩ : S29)) (Reps.c2 (k29_mkM _ _ _ (⟨0, 2⟩ : S29)) (Reps.none _ _)))))); intro v102 w11 ho12 hb hg_ hnew_; clear hg_ hnew_; (first | rw [← Ny101.out] at ho12 | (simp only [Int.reduceToNat] at ho12; rw [← Ny101.out] at ho12)); have HO103 := Aside0.mk (Kd.R_lower ho12 (below_size bh)); replace HB := Aside0.mk (below_step bh hb); clear hb ho12; obtain ⟨Ao13, co13, eo13⟩ := Kd.R_slice HO103.out; subst eo13) | ((with_reducible refine gc 24 rfl ?_); refine goesL_ (some 16) rfl rfl Try.func24 (by kernel_rfl) rfl #[.slice Ao13 y101.length co13] rfl sg ?_; (with_reducible refine (shape_Area2.calls k _ _ y101 t104 t105 _ ?side1 ?side2 A1.out).mono ?_); (case side1 => exact cs (Kd.R_reads' HO103.out).2.2); (case side2 => exact (Kd.R_reads' HO103.out).2.1); rintro e w14 ⟨rfl, hb⟩; refine ⟨_, rfl, ?_⟩; replace HO103 := Aside0.mk (Kd.R_below (ro HO103) hb); replace HB := Aside0.mk (below_step bh hb); (try clear hb); (try clear hb2); (try clear hk); (try clear hi)) | ((with_reducible refine gc 25 rfl ?_); refine goesL_ (some 21) rfl rfl Try.func25 (by kernel_rfl) rfl #[.slice Ao13 y101.length co13] rfl sg ?_; (with_reducible refine (shape_Lattice.calls k _ _ y101 t106 t107 t108 _ ?side1 ?side2 A2.out).mono ?_); (case side1 => exact cs (Kd.R_reads' HO103.out).2.2); (case side2 => exact (Kd.R_reads' HO103.out).2.1); rintro e w15 ⟨rfl, hb⟩; refine ⟨_, rfl, ?_⟩; replace HO103 := Aside0.mk (Kd.R_below (ro HO103) hb); replace HB := Aside0.mk (below_step bh hb); (try clear hb); (try clear hb2); (try clear hk); (try clear hi)) | ((with_reducible refine gate_dst (N := 31) rfl ?_); (try (refine gate_guard (by rfl) ?_; dsimp only)); refine Kd.R_lit k29 _ 29 ?hg (N := 31) ?hd (xs := ([(⟨0, 0⟩ : S29), (⟨1, 0⟩ : S29), (⟨2, 0⟩ : S29), (⟨0, 2⟩ : S29), (⟨1, 1⟩ : S29)] : List (S29))) (inner := [.int .i64 0, .int .i64 0, .int .i64 1, .int .i64 0, .int .i64 2, .int .i64 0, .int .i64 0, .int .i64 2, .int .i64 1, .int .i64 1]) (ok := fun _ => True) (okp := fun _ => True) ?hr ?hp (fun _ hk => hk) trivial (Below.refl _ _) (Nat.le_refl _) (by simp) ?_; (case hd => rfl); (case hg => rfl); (case hr => first | (go_simp; done) | (go_simp; rfl)); (case hp => exact (Reps.c2 (k29_mkM _ _ _ (⟨0, 0⟩ : S29)) (Reps.c2 (k29_mkM _ _ _ (⟨1, 0⟩ : S29)) (Reps.c2 (k29_mkM _ _ _ (⟨2, 0⟩ : S29)) (Reps.c2 (k29_mkM _ _ _ (⟨0, 2⟩ : S29)) (Reps.c2 (k29_mkM _ _ _ (⟨1, 1⟩ : S29)) (Reps.none _ _))))))); intro v110 w16 ho17 hb hg_ hnew_; clear hg_ hnew_; (first | rw [← Ny109.out] at ho17 | (simp only [Int.reduceToNat] at ho17; rw [← Ny109.out] at ho17)); have HO111 := Aside0.mk (Kd.R_lower (Kd.R_new' ho17 (Kd.R_lt (ro HO103))) (below_size bh)); replace HO103 := Aside0.mk (Kd.R_elder' (ro HO103) (Kd.R_base ho17) hb); replace HB := Aside0.mk (below_step bh hb); clear hb ho17; obtain ⟨Ao18, co18, eo18⟩ := Kd.R_slice HO111.out; subst eo18) | ((with_reducible refine gc 16 rfl ?_); refine goesL_ (some 32) rfl rfl Try.func16 (by kernel_rfl) rfl #[.slice Ao18 y109.length co18] rfl sg ?_; (with_reducible refine (shape_Hull.calls k _ _ y109 t112 t113 _ ?side1 ?side2 A3.out).mono ?_); (case side1 => exact cs (Kd.R_reads' HO111.out).2.2); (case side2 => exact (Kd.R_reads' HO111.out).2.1); rintro e w19 ⟨v114, rfl, ho0, hb⟩; refine ⟨_, rfl, ?_⟩; have HO115 := Aside0.mk (Kd.R_lower (Kd.R_new' (Kd.R_new' ho0 (Kd.R_lt (ro HO103))) (Kd.R_lt (ro HO111))) (below_size bh)); replace HO103 := Aside0.mk (Kd.R_elder' (ro HO103) (Kd.R_base ho0) hb); replace HO111 := Aside0.mk (Kd.R_elder' (ro HO111) (Kd.R_base ho0) hb); replace HB := Aside0.mk (below_step bh hb); (try clear hb); (try clear hb2); (try clear hk); (try clear hi); (try clear ho0)) | ((with_reducible refine gate_dst (N := 62) rfl ?_); (try (refine gate_guard (by rfl) ?_; dsimp only)); refine Kd.R_lit k29 _ 29 ?hg (N := 62) ?hd (xs := ([(⟨0, 0⟩ : S29), (⟨2, 0⟩ : S29), (⟨0, 2⟩ : S29)] : List (S29))) (inner := [.int .i64 0, .int .i64 0, .int .i64 2, .int .i64 0, .int .i64 0, .int .i64 2]) (ok := fun _ => True) (okp := fun _ => True) ?hr ?hp (fun _ hk => hk) trivial (Below.refl _ _) (Nat.le_refl _) (by simp) ?_; (case hd => rfl); (case hg => rfl); (case hr => first | (go_simp; done) | (go_simp; rfl)); (case hp => exact (Reps.c2 (k29_mkM _ _ _ (⟨0, 0⟩ : S29)) (Reps.c2 (k29_mkM _ _ _ (⟨2, 0⟩ : S29)) (Reps.c2 (k29_mkM _ _ _ (⟨0, 2⟩ : S29)) (Reps.none _ _))))); intro v117 w20 ho21 hb hg_ hnew_; clear hg_ hnew_; (first | rw [← Ny116.out] at ho21 | (simp only [Int.reduceToNat] at ho21; rw [← Ny116.out] at ho21)); have HO118 := Aside0.mk (Kd.R_lower (Kd.R_new' (Kd.R_new' (Kd.R_new' ho21 (Kd.R_lt (ro HO103))) (Kd.R_lt (ro HO111))) (Kd.R_lt (ro HO115))) (below_size bh)); replace HO103 := Aside0.mk (Kd.R_elder' (ro HO103) (Kd.R_base ho21) hb); replace HO111 := Aside0.mk (Kd.R_elder' (ro HO111) (Kd.R_base ho21) hb); replace HO115 := Aside0.mk (Kd.R_elder' (ro HO115) (Kd.R_base ho21) hb); replace HB := Aside0.mk (below_step bh hb); clear hb ho21; obtain ⟨Ao22, co22, eo22⟩ := Kd.R_slice HO115.out; subst eo22; obtain ⟨Ao23, co23, eo23⟩ := Kd.R_slice HO118.out; subst eo23) | (go_at_call 20; (with_reducible refine (cracknelref04_Same.calls k _ _ t112 _ _ y116 t119 _ ?side1 ?side2 ?side3 ?side4 A10.out).mono ?_); (case side1 => exact cs (Kd.R_reads' HO115.out).2.2); (case side2 => exact (Kd.R_reads' HO115.out).2.1); (case side3 => exact cs (Kd.R_reads' HO118.out).2.2); (case side4 => exact (Kd.R_reads' HO118.out).2.1); rintro e w' ⟨rfl, ⟨nd, rfl⟩⟩))
       go_ret
       exact ⟨by exact er, bh⟩
      ·rw [if_neg c9] at H
       have c9b0 : (t113 == 0) = false := beq_eq_false_iff_ne.mpr c9
       have c9b1 : (t113 != 0) = true := bne_iff_ne.mpr c9
       obtain rfl := Option.some.inj H
       cases hr
     ·rw [if_neg c8] at H
      have c8b0 : (t108 == 0) = false := beq_eq_false_iff_ne.mpr c8
      have c8b1 : (t108 != 0) = true := bne_iff_ne.mpr c8
      obtain rfl := Option.some.inj H
      cases hr
    ·rw [if_neg c7] at H
     have c7b0 : (t107 == 8) = false := beq_eq_false_iff_ne.mpr c7
     have c7b1 : (t107 != 8) = true := bne_iff_ne.mpr c7
     obtain rfl := Option.some.inj H
     cases hr
   ·rw [if_neg c6] at H
    have c6b0 : (t106 == 1) = false := beq_eq_false_iff_ne.mpr c6
    have c6b1 : (t106 != 1) = true := bne_iff_ne.mpr c6
    obtain rfl := Option.some.inj H
    cases hr
  ·rw [if_neg c5] at H
   have c5b0 : (t105 == 0) = false := beq_eq_false_iff_ne.mpr c5
   have c5b1 : (t105 != 0) = true := bne_iff_ne.mpr c5
   obtain rfl := Option.some.inj H
   cases hr
 ·rw [if_neg c4] at H
  have c4b0 : (t104 == 8) = false := beq_eq_false_iff_ne.mpr c4
  have c4b1 : (t104 != 8) = true := bne_iff_ne.mpr c4
  obtain rfl := Option.some.inj H
  cases hr
/-! ### shape_add: function 78 -/
def shape_add.f (a0_0 : Int) (a0_1 : Int) (a1_0 : Int) (a1_1 : Int) : Option (Int × Int) := some (wrap64 (a0_0 + a1_0), wrap64 (a0_1 + a1_1))
set_option maxHeartbeats 8000000 in
set_option maxRecDepth 100000 in
theorem shape_add.calls (a0_0 : Int) (a0_1 : Int) (a1_0 : Int) (a1_1 : Int) (r1 : Int) (r2 : Int) (w : World) (h : shape_add.f a0_0 a0_1 a1_0 a1_1 = some (r1, r2)) :
  Calls Try.prog 78 #[.agg #[.int .i64 a0_0, .int .i64 a0_1], .agg #[.int .i64 a1_0, .int .i64 a1_1]] w fun e w' => e = .returned (.agg #[.int .i64 r1, .int .i64 r2]) ∧ Below w.heap.size w w' := by
 have hu29 := Try.underlying29
 have HB := Aside0.mk (Below.refl w.heap.size w)
 have H : (some (wrap64 (a0_0 + a1_0), wrap64 (a0_1 + a1_1))) = some (r1, r2) := h
 clear h
 simp only [Option.some.injEq, Prod.mk.injEq] at H
 obtain ⟨rfl, rfl⟩ := H
 go_enter Try.func78, Try.ntmps78
 go_wp2_with (first | ((with_reducible refine gate_dst (N := 2) rfl ?_); refine bxe 2 #[.int .i64 a0_0, .int .i64 a0_1] 29 ?_; intro gb101 hg w3 hbox hb; have BK101 := Aside0.mk (hbox); have GW101 := Aside0.mk (gs hg : w.heap.size ≤ gb101); have GE101 := Aside0.mk (gs hg : w.heap.size ≤ gb101); replace HB := Aside0.mk (below_step bh hb); clear hb hbox hg) | ((with_reducible refine gate_dst (N := 3) rfl ?_); refine bxe 3 #[.int .i64 a1_0, .int .i64 a1_1] 29 ?_; intro gb102 hg w4 hbox hb; have BK102 := Aside0.mk (hbox); have GW102 := Aside0.mk (gs hg : w.heap.size ≤ gb102); have GE102 := Aside0.mk (gs hg : w.heap.size ≤ gb102); have NB101_102 := Aside0.mk ((by rw [hg]; exact Nat.ne_of_lt (kl BK101) : gb101 ≠ gb102)); have NB102_101 := Aside0.mk ((by rw [hg]; exact Nat.ne_of_gt (kl BK101) : gb102 ≠ gb101)); replace BK101 := kb BK101 hb; replace HB := Aside0.mk (below_step bh hb); clear hb hbox hg) | ((with_reducible refine gate_dst (N := 4) rfl ?_); refine bxe 4 #[.int .i64 0, .int .i64 0] 29 ?_; intro gb103 hg w5 hbox hb; have BK103 := Aside0.mk (hbox); have GW103 := Aside0.mk (gs hg : w.heap.size ≤ gb103); have GE103 := Aside0.mk (gs hg : w.heap.size ≤ gb103); have NB101_103 := Aside0.mk ((by rw [hg]; exact Nat.ne_of_lt (kl BK101) : gb101 ≠ gb103)); have NB103_101 := Aside0.mk ((by rw [hg]; exact Nat.ne_of_gt (kl BK101) : gb103 ≠ gb101)); have NB102_103 := Aside0.mk ((by rw [hg]; exact Nat.ne_of_lt (kl BK102) : gb102 ≠ gb103)); have NB103_102 := Aside0.mk ((by rw [hg]; exact Nat.ne_of_gt (kl BK102) : gb103 ≠ gb102)); replace BK101 := kb BK101 hb; replace BK102 := kb BK102 hb; replace HB := Aside0.mk (below_step bh hb); clear hb hbox hg; have hnb6 := NB101_102.out; have hnc6 := NB102_101.out; have hnb7 := NB101_103.out; have hnc7 := NB103_101.out; have hcz8_0 : w5.cell? ⟨gb101, 0, none⟩ = some (.int .i64 a0_0) := bc BK101 0; have hcz8_1 : w5.cell? ⟨gb101, 1, none⟩ = some (.int .i64 a0_1) := bc BK101 1; have hfz8_0 := blk_frozen BK101.out 0; have hfz8_1 := blk_frozen BK101.out 1; have hnb9 := NB102_103.out; have hnc9 := NB103_102.out; have hcz10_0 : w5.cell? ⟨gb102, 0, none⟩ = some (.int .i64 a1_0) := bc BK102 0; have hcz10_1 : w5.cell? ⟨gb102, 1, none⟩ = some (.int .i64 a1_1) := bc BK102 1; have hfz10_0 := blk_frozen BK102.out 0; have hfz10_1 := blk_frozen BK102.out 1; have hcz11_0 : w5.cell? ⟨gb103, 0, none⟩ = some (.int .i64 0) := bc BK103 0; have hcz11_1 : w5.cell? ⟨gb103, 1, none⟩ = some (.int .i64 0) := bc BK103 1; have hfz11_0 := blk_frozen BK103.out 0; have hfz11_1 := blk_frozen BK103.out 1))
 refine bodyPost_ret (results_cell_row rfl _ _ gb103 29 #[.int .i64 (wrap64 (a0_0 + a1_0)), .int .i64 (wrap64 (a0_1 + a1_1))] (0, 0) _ rfl (by refine bd ?_; refine blk_put (cs := #[.int .i64 (wrap64 (a0_0 + a1_0)), .int .i64 0]) ?_ 1 _ rfl; refine bd ?_; refine blk_put (cs := #[.int .i64 0, .int .i64 0]) ?_ 0 _ rfl; refine bd ?_; exact BK103.out) Try.underlying29 rfl (by kernel_rfl)) rfl ?_
 exact ⟨by exact er, bh⟩
/-! ### shape_Sum_1: function 77 -/
def shape_Sum_1.f (l0 : List (S29)) (a1 : Int) : Option (Int × Int) := if (l0.length : Int) = 0 then (none) else (if 0 ≤ (Int.tmod (wrap64 (a1 + 1)) (l0.length : Int)) then (if (Int.tmod (wrap64 (a1 + 1)) (l0.length : Int)) < (l0.length : Int) then (if 0 ≤ a1 then (if a1 < (l0.length : Int) then ((shape_sub.f ((rd_T29 l0 (Int.tmod (wrap64 (a1 + 1)) (l0.length : Int))).f0) ((rd_T29 l0 (Int.tmod (wrap64 (a1 + 1)) (l0.length : Int))).f1) ((rd_T29 l0 a1).f0) ((rd_T29 l0 a1).f1)).bind fun bt104 => (some (bt104.1, bt104.2))) else (none)) else (none)) else (none)) else (none))
def shape_Sum_1.T1 : Bool × List (List Nat × List Nat) := (true, [([], []), ([], []), ([1], [1]), ([], []), ([3], [3]), ([2, 4], [2, 4]), ([0, 5], [0, 5]), ([6], [6]), ([], []), ([], []), ([8, 9], [8, 9]), ([10], [10]), ([7, 11], [7, 11]), ([12, 12, 0, 1, 2, 3, 4, 5, 6, 7, 8, 9, 10, 11, 12], [12])])
def shape_Sum_1.B1 : List Nat := [0, 0, 2, 0, 8, 30, 63, 127, 0, 0, 768, 1792, 4095, 8191]
theorem shape_Sum_1.tab1 : rtab .any (opsOf Try.f77 1) = shape_Sum_1.T1 := by kernel_rfl
theorem shape_Sum_1.bits1 : waitsOk shape_Sum_1.T1.2 shape_Sum_1.B1 = true := by kernel_rfl
set_option maxHeartbeats 8000000 in
set_option maxRecDepth 100000 in
theorem shape_Sum_1.calls (A0 : Option Addr) (c0 : Nat) (l0 : List (S29)) (a1 : Int) (r1 : Int) (r2 : Int) (w : World) (hr0 : Kd.C k29 w A0 l0.length l0) (hc0 : l0.length ≤ c0) (h : shape_Sum_1.f l0 a1 = some (r1, r2)) :
  Calls Try.prog 77 #[.slice A0 l0.length c0, .int .i64 a1] w fun e w' => e = .returned (.agg #[.int .i64 r1, .int .i64 r2]) ∧ Below w.heap.size w w' := by
 have hu29 := Try.underlying29
 have HR0 := Aside0.mk hr0
 have HC0 := Aside0.mk hc0
 clear hr0 hc0
 have HB := Aside0.mk (Below.refl w.heap.size w)
 have H : (if (l0.length : Int) = 0 then (none) else (if 0 ≤ (Int.tmod (wrap64 (a1 + 1)) (l0.length : Int)) then (if (Int.tmod (wrap64 (a1 + 1)) (l0.length : Int)) < (l0.length : Int) then (if 0 ≤ a1 then (if a1 < (l0.length : Int) then ((shape_sub.f ((rd_T29 l0 (Int.tmod (wrap64 (a1 + 1)) (l0.length : Int))).f0) ((rd_T29 l0 (Int.tmod (wrap64 (a1 + 1)) (l0.length : Int))).f1) ((rd_T29 l0 a1).f0) ((rd_T29 l0 a1).f1)).bind fun bt104 => (some (bt104.1, bt104.2))) else (none)) else (none)) else (none)) else (none))) = some (r1, r2) := h
 clear h
 replace H := oj H
 obtain ⟨c3, H⟩ := H
 have c3b0 : ((l0.length : Int) == 0) = false := beq_eq_false_iff_ne.mpr c3
 have c3b1 : ((l0.length : Int) != 0) = true := bne_iff_ne.mpr c3
 have c3b2 : ¬ (l0 = []) := fun h_ => c3 (by rw [h_]; rfl)
 obtain ⟨ji4, hji4⟩ : ∃ j_ : Int, (Int.tmod (wrap64 (a1 + 1)) (l0.length : Int)) = j_ := ⟨_, rfl⟩
 replace H : (if 0 ≤ (ji4) then (if (ji4) < (l0.length : Int) then (if 0 ≤ a1 then (if a1 < (l0.length : Int) then ((shape_sub.f ((rd_T29 l0 (ji4)).f0) ((rd_T29 l0 (ji4)).f1) ((rd_T29 l0 a1).f0) ((rd_T29 l0 a1).f1)).bind fun bt104 => (some (bt104.1, bt104.2))) else (none)) else (none)) else (none)) else (none)) = some (r1, r2) := by first | (rw [hji4] at H; exact H) | (simp only [hji4] at H ⊢; exact H)
 replace H := oi H
 obtain ⟨c5, H⟩ := H
 have c5b0 := decide_eq_true c5
 clear c5
 replace H := oi H
 obtain ⟨c6, H⟩ := H
 have c6b0 := decide_eq_true c6
 clear c6
 replace H := oi H
 obtain ⟨c7, H⟩ := H
 have c7b0 := decide_eq_true c7
 clear c7
 replace H := oi H
 obtain ⟨c8, H⟩ := H
 have c8b0 := decide_eq_true c8
 clear c8
 replace H := Option.bind_eq_some_iff.mp H
 obtain ⟨⟨t104, t105⟩, A90, H⟩ := H
 replace H : (some (t104, t105)) = some (r1, r2) := H
 have A9 := Aside0.mk A90
 clear A90
 simp only [Option.some.injEq, Prod.mk.injEq] at H
 obtain ⟨rfl, rfl⟩ := H
 go_enter Try.func77, Try.ntmps77
 try go_wp2_with (first | ((with_reducible refine gate_dst (N := 4) rfl ?_); refine bxe 4 #[.int .i64 0, .int .i64 0] 29 ?_; intro gb101 hg w10 hbox hb; have BK101 := Aside0.mk (hbox); have GW101 := Aside0.mk (gs hg : w.heap.size ≤ gb101); have GE101 := Aside0.mk (gs hg : w.heap.size ≤ gb101); replace HB := Aside0.mk (below_step bh hb); clear hb hbox hg))
 replace BK101 := Aside0.mk (blk_drew BK101.out)
 replace HB := Aside0.mk (below_drew1 HB.out)
 have p102 : 0 ≤ ((ji4) : Int) := dt
 have q102 : (ji4) < (l0.length : Int) := dt
 obtain ⟨ad102, e102, hx102_0, hx102_1⟩ := at_T29 HR0.out (ji4) p102 q102
 have hw102_1 := hx102_1
 have hw102_0 := hx102_0
 cases e102
 replace hx102_0 := hc HB hx102_0
 replace hx102_1 := hc HB hx102_1
 replace p102 := eq_true p102
 replace q102 := eq_true q102
 have p103 : 0 ≤ (a1 : Int) := dt
 have q103 : a1 < (l0.length : Int) := dt
 obtain ⟨ad103, e103, hx103_0, hx103_1⟩ := at_T29 HR0.out a1 p103 q103
 have hw103_1 := hx103_1
 have hw103_0 := hx103_0
 obtain rfl : ad102 = ad103 := (by injection e103)
 replace hx103_0 := hc HB hx103_0
 replace hx103_1 := hc HB hx103_1
 replace p103 := eq_true p103
 replace q103 := eq_true q103
 refine start_ (n := 14) (S := fun w' => w'.cell? (ad102.add (((ji4)).toNat * 2)) = some (.int .i64 ((rd_T29 l0 (ji4)).f0)) ∧ w'.cell? ⟨(ad102.add (((ji4)).toNat * 2)).block, (ad102.add (((ji4)).toNat * 2)).off + 1, none⟩ = some (.int .i64 ((rd_T29 l0 (ji4)).f1)) ∧ w'.cell? (ad102.add ((a1).toNat * 2)) = some (.int .i64 ((rd_T29 l0 a1).f0)) ∧ w'.cell? ⟨(ad102.add ((a1).toNat * 2)).block, (ad102.add ((a1).toNat * 2)).off + 1, none⟩ = some (.int .i64 ((rd_T29 l0 a1).f1))) (ds := []) #[N,N,N,N,N,N,N,N,N,N,N,N,N,N] (by kernel_rfl) rfl rfl ⟨(hc HB hw102_0), (hc HB hw102_1), (hc HB hw103_0), (hc HB hw103_1)⟩ (fun hHeld => ?_); refine with_tabW shape_Sum_1.tab1 shape_Sum_1.bits1 (fun HT_ HW_ => ?_)
 generalize w10.drew = w11 at BK101 HB hx102_0 hx102_1 hx103_0 hx103_1 hHeld ⊢
 refine pu 0 5 HT_ ?_
 refine pu 1 6 HT_ ?_
 refine pu 2 7 HT_ ?_
 refine pu 3 8 HT_ ?_
 refine pu 4 9 HT_ ?_
 refine pu 5 10 HT_ ?_
 refine pu 6 11 HT_ ?_
 refine pu 8 13 HT_ ?_
 refine pu 9 14 HT_ ?_
 refine pu 10 15 HT_ ?_
 refine tk4 7 12 hHeld HT_ HW_ ?_
 refine tk4 11 16 hHeld HT_ HW_ ?_
 refine one_ (i := 12) (N := some 17) #[T,T,T,T,T,T,T,T,T,T,T,T,T,N] rfl rfl (on1 HT_) (by decide) (fun K hK => ?_)
 refine goes_ Try.func70 (by kernel_rfl) rfl #[.agg #[.int .i64 ((rd_T29 l0 (ji4)).f0), .int .i64 ((rd_T29 l0 (ji4)).f1)], .agg #[.int .i64 ((rd_T29 l0 a1).f0), .int .i64 ((rd_T29 l0 a1).f1)]] (by rfl) rfl rfl (by (try simp only [List.map_toArray, List.map_cons, List.map_nil]); first | done | (simp only [hji4]; rfl) | rfl | (simp only [List.length_drop, List.length_take]; rfl)) ?_
 with_reducible refine (shape_sub.calls ((rd_T29 l0 (ji4)).f0) ((rd_T29 l0 (ji4)).f1) ((rd_T29 l0 a1).f0) ((rd_T29 l0 a1).f1) t104 t105 _ A9.out).mono ?_
 rintro e w12 ⟨rfl, hb⟩
 refine ⟨_, rfl, ?_⟩
 replace BK101 := kb BK101 hb
 replace HB := Aside0.mk (below_step bh hb)
 (try clear hb); (try clear hb2); (try clear hk); (try clear hi)
 refine hK.out _ _ ⟨(hc HB hw102_0), (hc HB hw102_1), (hc HB hw103_0), (hc HB hw103_1)⟩ (fun hHeld => ?_)
 clear hK K
 refine nm 17 ?_
 refine one_ (i := 13) (N := none) #[T,T,T,T,T,T,T,T,T,T,T,T,T,T] rfl rfl (on1 HT_) (by decide) (fun K hK => ?_)
 have hs13 : w12.cell? ⟨gb101, 0, none⟩ = some (.int .i64 0) := bc BK101 0
 have hfs13 := blk_frozen BK101.out 0
 have hs14 : w12.cell? ⟨gb101, 1, none⟩ = some (.int .i64 0) := bc BK101 1
 have hfs14 := blk_frozen BK101.out 1
 refine skip_ (w1 := ?_) (by rfl) rfl ?_ ?_
 rotate_left
 ·go_simp
  rfl
 refine hK.out _ _ ⟨((cell_far (p := ⟨gb101, _, none⟩) (fr hw102_0 GW101) _).trans (((cell_far (p := ⟨gb101, _, none⟩) (fr hw102_0 GW101) _).trans (hHeld.1)))), ((cell_far (p := ⟨gb101, _, none⟩) (fr hw102_1 GW101) _).trans (((cell_far (p := ⟨gb101, _, none⟩) (fr hw102_1 GW101) _).trans (hHeld.2.1)))), ((cell_far (p := ⟨gb101, _, none⟩) (fr hw103_0 GW101) _).trans (((cell_far (p := ⟨gb101, _, none⟩) (fr hw103_0 GW101) _).trans (hHeld.2.2.1)))), ((cell_far (p := ⟨gb101, _, none⟩) (fr hw103_1 GW101) _).trans (((cell_far (p := ⟨gb101, _, none⟩) (fr hw103_1 GW101) _).trans (hHeld.2.2.2))))⟩ (fun hHeld => ?_)
 clear hK K
 refine done_ (done_of HT_.out (by kernel_rfl)) ?_
 try go_wp2
 refine bodyPost_ret (results_cell_row rfl _ _ gb101 29 #[.int .i64 t104, .int .i64 t105] (0, 0) _ rfl (by refine bd ?_; refine blk_put (cs := #[.int .i64 t104, .int .i64 0]) ?_ 1 _ rfl; refine bd ?_; refine blk_put (cs := #[.int .i64 0, .int .i64 0]) ?_ 0 _ rfl; refine bd ?_; exact BK101.out) Try.underlying29 rfl (by kernel_rfl)) rfl ?_
 exact ⟨by first | rfl | (simp [errW_none, errW_some] <;> rfl) | (simp only [← hji4]; first | rfl | (simp [errW_none, errW_some] <;> rfl)) | (simp [*, errW_none, errW_some] <;> rfl), bh⟩
attribute [local go_sem high] eqA29
/-! ### shape_normal: function 72 -/
def shape_normal.l0 : Nat → List (S29) → Int → Int → Option (Bool)
 | 0, _, _, _ => none
 | k + 1, x0, x5, x6 => if x6 < x5 then (if 0 ≤ x6 then (if x6 < (x0.length : Int) then (if (x0.length : Int) = 0 then (none) else (if 0 ≤ (Int.tmod (wrap64 (x6 + 1)) (x0.length : Int)) then (if (Int.tmod (wrap64 (x6 + 1)) (x0.length : Int)) < (x0.length : Int) then (if 0 ≤ (Int.tmod (wrap64 (x6 + 2)) (x0.length : Int)) then (if (Int.tmod (wrap64 (x6 + 2)) (x0.length : Int)) < (x0.length : Int) then ((shape_side.f ((rd_T29 x0 x6).f0) ((rd_T29 x0 x6).f1) ((rd_T29 x0 (Int.tmod (wrap64 (x6 + 1)) (x0.length : Int))).f0) ((rd_T29 x0 (Int.tmod (wrap64 (x6 + 1)) (x0.length : Int))).f1) ((rd_T29 x0 (Int.tmod (wrap64 (x6 + 2)) (x0.length : Int))).f0) ((rd_T29 x0 (Int.tmod (wrap64 (x6 + 2)) (x0.length : Int))).f1)).bind fun t104 => (if t104 ≤ 0 then (some false) else (shape_normal.l0 k x0 x5 (wrap64 (x6 + 1))))) else (none)) else (none)) else (none)) else (none))) else (none)) else (none)) else (if 0 < (x0.length : Int) then ((slices_MinFunc_lower.f k x0).bind fun bt106 => (if (((rd_T29 x0 0).f0) == bt106.1 && (((rd_T29 x0 0).f1) == bt106.2)) = true then ((shape_simple.f k x0).bind fun t108 => (some t108)) else (some false))) else (none))
def shape_normal.f (k : Nat) (l0 : List (S29)) : Option (Bool) := shape_normal.l0 k l0 (l0.length : Int) 0
def shape_normal.T4 : Bool × List (List Nat × List Nat) := (true, [([], []), ([], []), ([0, 1], [0, 1]), ([2], [2]), ([], []), ([], []), ([5], [5]), ([], []), ([7], [7]), ([6, 8], [6, 8]), ([4, 9], [4, 9]), ([10], [10]), ([], []), ([], []), ([13], [13]), ([], []), ([15], [15]), ([14, 16], [14, 16]), ([12, 17], [12, 17]), ([18], [18]), ([3, 11, 19], [3, 11, 19]), ([20], [20])])
def shape_normal.B4 : List Nat := [0, 0, 3, 7, 0, 0, 32, 0, 128, 480, 1008, 2032, 0, 0, 8192, 0, 32768, 122880, 258048, 520192, 1048575, 2097151]
theorem shape_normal.tab4 : rtab .any (opsOf Try.f72 4) = shape_normal.T4 := by kernel_rfl
theorem shape_normal.bits4 : waitsOk shape_normal.T4.2 shape_normal.B4 = true := by kernel_rfl
def shape_normal.T7 : Bool × List (List Nat × List Nat) := (true, [([], []), ([0], [0]), ([1], [1]), ([], []), ([3], [3]), ([2, 4], [2, 4]), ([5, 4], [5]), ([6], [6]), ([7, 6, 6], [6, 7]), ([6, 8], [6, 8]), ([9, 8, 0, 1, 2, 3, 4, 5, 6, 7, 8, 9], [9])])
def shape_normal.B7 : List Nat := [0, 1, 3, 0, 8, 31, 63, 127, 255, 511, 1023]
theorem shape_normal.tab7 : rtab .any (opsOf Try.f72 7) = shape_normal.T7 := by kernel_rfl
theorem shape_normal.bits7 : waitsOk shape_normal.T7.2 shape_normal.B7 = true := by kernel_rfl
set_option maxHeartbeats 8000000 in
set_option maxRecDepth 100000 in
theorem shape_normal.calls (k : Nat) (A0 : Option Addr) (c0 : Nat) (l0 : List (S29)) (r : Bool) (w : World) (hr0 : Kd.C k29 w A0 l0.length l0) (hc0 : l0.length ≤ c0) (h : shape_normal.f k l0 = some r) :
  Calls Try.prog 72 #[.slice A0 l0.length c0] w fun e w' => e = .returned (.bool r) ∧ Below w.heap.size w w' := by
 have hu29 := Try.underlying29
 have HR0 := Aside0.mk hr0
 have HC0 := Aside0.mk hc0
 clear hr0 hc0
 have HB := Aside0.mk (Below.refl w.heap.size w)
 have H : (shape_normal.l0 k l0 (l0.length : Int) 0) = some r := h
 clear h
 have H' := Aside0.mk H
 clear H
 go_enter Try.func72, Try.ntmps72
 go_wp2
 go_loopg [6] k (fun kq v6 w' => ∃ (x6_1 : Int), v6 = .int .i64 x6_1 ∧ Aside0 (shape_normal.l0 kq l0 (l0.length : Int) x6_1 = some r) ∧ Aside0 (kq ≤ k) ∧ Aside0 (Below w.heap.size w w'))
 case atStart => exact ⟨(0), sd, H', ⟨Nat.le_refl _⟩, ⟨bh⟩⟩
 case round =>
  clear H'
  obtain ⟨x6_1, rfl, HA, HK1, HB⟩ := hrel
  cases gk with
  | zero => exact absurd HA.out (by simp [shape_normal.l0])
  | succ k1 =>
   have H := HA.out
   clear HA
   simp only [shape_normal.l0] at H
   by_cases c2 : x6_1 < (l0.length : Int)
   ·rw [if_pos c2] at H
    have c2b0 := decide_eq_true c2
    clear c2
    replace H := oi H
    obtain ⟨c3, H⟩ := H
    have c3b0 := decide_eq_true c3
    clear c3
    replace H := oi H
    obtain ⟨c4, H⟩ := H
    have c4b0 := decide_eq_true c4
    clear c4
    replace H := oj H
    obtain ⟨c5, H⟩ := H
    have c5b0 : ((l0.length : Int) == 0) = false := beq_eq_false_iff_ne.mpr c5
    have c5b1 : ((l0.length : Int) != 0) = true := bne_iff_ne.mpr c5
    have c5b2 : ¬ (l0 = []) := fun h_ => c5 (by rw [h_]; rfl)
    obtain ⟨ji6, hji6⟩ : ∃ j_ : Int, (Int.tmod (wrap64 (x6_1 + 1)) (l0.length : Int)) = j_ := ⟨_, rfl⟩
    first | rw [hji6] at H | simp only [hji6] at H
    replace H := oi H
    obtain ⟨c7, H⟩ := H
    have c7b0 := decide_eq_true c7
    clear c7
    replace H := oi H
    obtain ⟨c8, H⟩ := H
    have c8b0 := decide_eq_true c8
    clear c8
    obtain ⟨ji9, hji9⟩ : ∃ j_ : Int, (Int.tmod (wrap64 (x6_1 + 2)) (l0.length : Int)) = j_ := ⟨_, rfl⟩
    first | rw [hji9] at H | simp only [hji9] at H
    replace H := oi H
    obtain ⟨c10, H⟩ := H
    have c10b0 := decide_eq_true c10
    clear c10
    replace H := oi H
    obtain ⟨c11, H⟩ := H
    have c11b0 := decide_eq_true c11
    clear c11
    replace H := Option.bind_eq_some_iff.mp H
    obtain ⟨t104, A120, H⟩ := H
    try dsimp only at H
    have A12 := Aside0.mk A120
    clear A120
    by_cases c13 : t104 ≤ 0
    ·rw [if_pos c13] at H
     have c13b0 := decide_eq_true c13
     clear c13
     obtain rfl := Option.some.inj H
     try go_wp2
     replace HB := Aside0.mk (below_drew1 HB.out)
     have p101 : 0 ≤ (x6_1 : Int) := dt
     have q101 : x6_1 < (l0.length : Int) := dt
     obtain ⟨ad101, e101, hx101_0, hx101_1⟩ := at_T29 HR0.out x6_1 p101 q101
     have hw101_1 := hx101_1
     have hw101_0 := hx101_0
     cases e101
     replace hx101_0 := hc HB hx101_0
     replace hx101_1 := hc HB hx101_1
     replace p101 := eq_true p101
     replace q101 := eq_true q101
     have p102 : 0 ≤ ((ji6) : Int) := dt
     have q102 : (ji6) < (l0.length : Int) := dt
     obtain ⟨ad102, e102, hx102_0, hx102_1⟩ := at_T29 HR0.out (ji6) p102 q102
     have hw102_1 := hx102_1
     have hw102_0 := hx102_0
     obtain rfl : ad101 = ad102 := (by injection e102)
     replace hx102_0 := hc HB hx102_0
     replace hx102_1 := hc HB hx102_1
     replace p102 := eq_true p102
     replace q102 := eq_true q102
     have p103 : 0 ≤ ((ji9) : Int) := dt
     have q103 : (ji9) < (l0.length : Int) := dt
     obtain ⟨ad103, e103, hx103_0, hx103_1⟩ := at_T29 HR0.out (ji9) p103 q103
     have hw103_1 := hx103_1
     have hw103_0 := hx103_0
     obtain rfl : ad101 = ad103 := (by injection e103)
     replace hx103_0 := hc HB hx103_0
     replace hx103_1 := hc HB hx103_1
     replace p103 := eq_true p103
     replace q103 := eq_true q103
     refine start_ (n := 22) (S := fun w' => w'.cell? (ad101.add ((x6_1).toNat * 2)) = some (.int .i64 ((rd_T29 l0 x6_1).f0)) ∧ w'.cell? ⟨(ad101.add ((x6_1).toNat * 2)).block, (ad101.add ((x6_1).toNat * 2)).off + 1, none⟩ = some (.int .i64 ((rd_T29 l0 x6_1).f1)) ∧ w'.cell? (ad101.add (((ji6)).toNat * 2)) = some (.int .i64 ((rd_T29 l0 (ji6)).f0)) ∧ w'.cell? ⟨(ad101.add (((ji6)).toNat * 2)).block, (ad101.add (((ji6)).toNat * 2)).off + 1, none⟩ = some (.int .i64 ((rd_T29 l0 (ji6)).f1)) ∧ w'.cell? (ad101.add (((ji9)).toNat * 2)) = some (.int .i64 ((rd_T29 l0 (ji9)).f0)) ∧ w'.cell? ⟨(ad101.add (((ji9)).toNat * 2)).block, (ad101.add (((ji9)).toNat * 2)).off + 1, none⟩ = some (.int .i64 ((rd_T29 l0 (ji9)).f1))) (ds := []) #[N,N,N,N,N,N,N,N,N,N,N,N,N,N,N,N,N,N,N,N,N,N] (by kernel_rfl) rfl rfl ⟨(hc HB hw101_0), (hc HB hw101_1), (hc HB hw102_0), (hc HB hw102_1), (hc HB hw103_0), (hc HB hw103_1)⟩ (fun hHeld => ?_); refine with_tabW shape_normal.tab4 shape_normal.bits4 (fun HT_ HW_ => ?_)
     generalize wr.drew = w14 at HB hx101_0 hx101_1 hx102_0 hx102_1 hx103_0 hx103_1 hHeld ⊢
     refine pu 0 9 HT_ ?_
     refine pu 1 10 HT_ ?_
     refine pu 2 11 HT_ ?_
     refine pu 4 13 HT_ ?_
     refine pu 5 14 HT_ ?_
     refine pu 6 15 HT_ ?_
     refine pu 7 16 HT_ ?_
     refine pu 8 17 HT_ ?_
     refine pu 9 18 HT_ ?_
     refine pu 10 19 HT_ ?_
     refine pu 12 21 HT_ ?_
     refine pu 13 22 HT_ ?_
     refine pu 14 23 HT_ ?_
     refine pu 15 24 HT_ ?_
     refine pu 16 25 HT_ ?_
     refine pu 17 26 HT_ ?_
     refine pu 18 27 HT_ ?_
     refine tk6 3 12 hHeld HT_ HW_ ?_
     refine tk6 11 20 hHeld HT_ HW_ ?_
     refine tk6 19 28 hHeld HT_ HW_ ?_
     refine one_ (i := 20) (N := some 29) #[T,T,T,T,T,T,T,T,T,T,T,T,T,T,T,T,T,T,T,T,T,N] rfl rfl (on1 HT_) (by decide) (fun K hK => ?_)
     refine goes_ Try.func91 (by kernel_rfl) rfl #[.agg #[.int .i64 ((rd_T29 l0 x6_1).f0), .int .i64 ((rd_T29 l0 x6_1).f1)], .agg #[.int .i64 ((rd_T29 l0 (ji6)).f0), .int .i64 ((rd_T29 l0 (ji6)).f1)], .agg #[.int .i64 ((rd_T29 l0 (ji9)).f0), .int .i64 ((rd_T29 l0 (ji9)).f1)]] (by rfl) rfl rfl (by (try simp only [List.map_toArray, List.map_cons, List.map_nil]); first | done | (simp only [hji6, hji9]; rfl) | rfl | (simp only [List.length_drop, List.length_take]; rfl)) ?_
     with_reducible refine (shape_side.calls ((rd_T29 l0 x6_1).f0) ((rd_T29 l0 x6_1).f1) ((rd_T29 l0 (ji6)).f0) ((rd_T29 l0 (ji6)).f1) ((rd_T29 l0 (ji9)).f0) ((rd_T29 l0 (ji9)).f1) t104 _ A12.out).mono ?_
     rintro e w15 ⟨rfl, hb⟩
     refine ⟨_, rfl, ?_⟩
     replace HB := Aside0.mk (below_step bh hb)
     (try clear hb); (try clear hb2); (try clear hk); (try clear hi)
     refine hK.out _ _ ⟨(hc HB hw101_0), (hc HB hw101_1), (hc HB hw102_0), (hc HB hw102_1), (hc HB hw103_0), (hc HB hw103_1)⟩ (fun hHeld => ?_)
     clear hK K
     refine nm 29 ?_
     refine pu 21 30 HT_ ?_
     refine done_ (done_of HT_.out (by kernel_rfl)) ?_
     try go_wp2
     go_ret
     exact ⟨by first | rfl | (simp [errW_none, errW_some] <;> rfl) | (simp only [← hji6, ← hji9]; first | rfl | (simp [errW_none, errW_some] <;> rfl)) | (simp [*, errW_none, errW_some] <;> rfl), bh⟩
    ·rw [if_neg c13] at H
     have c13b0 := decide_eq_false c13
     clear c13
     have H' := Aside0.mk H
     clear H
     try go_wp2
     replace HB := Aside0.mk (below_drew1 HB.out)
     have p101 : 0 ≤ (x6_1 : Int) := dt
     have q101 : x6_1 < (l0.length : Int) := dt
     obtain ⟨ad101, e101, hx101_0, hx101_1⟩ := at_T29 HR0.out x6_1 p101 q101
     have hw101_1 := hx101_1
     have hw101_0 := hx101_0
     cases e101
     replace hx101_0 := hc HB hx101_0
     replace hx101_1 := hc HB hx101_1
     replace p101 := eq_true p101
     replace q101 := eq_true q101
     have p102 : 0 ≤ ((ji6) : Int) := dt
     have q102 : (ji6) < (l0.length : Int) := dt
     obtain ⟨ad102, e102, hx102_0, hx102_1⟩ := at_T29 HR0.out (ji6) p102 q102
     have hw102_1 := hx102_1
     have hw102_0 := hx102_0
     obtain rfl : ad101 = ad102 := (by injection e102)
     replace hx102_0 := hc HB hx102_0
     replace hx102_1 := hc HB hx102_1
     replace p102 := eq_true p102
     replace q102 := eq_true q102
     have p103 : 0 ≤ ((ji9) : Int) := dt
     have q103 : (ji9) < (l0.length : Int) := dt
     obtain ⟨ad103, e103, hx103_0, hx103_1⟩ := at_T29 HR0.out (ji9) p103 q103
     have hw103_1 := hx103_1
     have hw103_0 := hx103_0
     obtain rfl : ad101 = ad103 := (by injection e103)
     replace hx103_0 := hc HB hx103_0
     replace hx103_1 := hc HB hx103_1
     replace p103 := eq_true p103
     replace q103 := eq_true q103
     refine start_ (n := 22) (S := fun w' => w'.cell? (ad101.add ((x6_1).toNat * 2)) = some (.int .i64 ((rd_T29 l0 x6_1).f0)) ∧ w'.cell? ⟨(ad101.add ((x6_1).toNat * 2)).block, (ad101.add ((x6_1).toNat * 2)).off + 1, none⟩ = some (.int .i64 ((rd_T29 l0 x6_1).f1)) ∧ w'.cell? (ad101.add (((ji6)).toNat * 2)) = some (.int .i64 ((rd_T29 l0 (ji6)).f0)) ∧ w'.cell? ⟨(ad101.add (((ji6)).toNat * 2)).block, (ad101.add (((ji6)).toNat * 2)).off + 1, none⟩ = some (.int .i64 ((rd_T29 l0 (ji6)).f1)) ∧ w'.cell? (ad101.add (((ji9)).toNat * 2)) = some (.int .i64 ((rd_T29 l0 (ji9)).f0)) ∧ w'.cell? ⟨(ad101.add (((ji9)).toNat * 2)).block, (ad101.add (((ji9)).toNat * 2)).off + 1, none⟩ = some (.int .i64 ((rd_T29 l0 (ji9)).f1))) (ds := []) #[N,N,N,N,N,N,N,N,N,N,N,N,N,N,N,N,N,N,N,N,N,N] (by kernel_rfl) rfl rfl ⟨(hc HB hw101_0), (hc HB hw101_1), (hc HB hw102_0), (hc HB hw102_1), (hc HB hw103_0), (hc HB hw103_1)⟩ (fun hHeld => ?_); refine with_tabW shape_normal.tab4 shape_normal.bits4 (fun HT_ HW_ => ?_)
     generalize wr.drew = w16 at HB hx101_0 hx101_1 hx102_0 hx102_1 hx103_0 hx103_1 hHeld ⊢
     refine pu 0 9 HT_ ?_
     refine pu 1 10 HT_ ?_
     refine pu 2 11 HT_ ?_
     refine pu 4 13 HT_ ?_
     refine pu 5 14 HT_ ?_
     refine pu 6 15 HT_ ?_
     refine pu 7 16 HT_ ?_
     refine pu 8 17 HT_ ?_
     refine pu 9 18 HT_ ?_
     refine pu 10 19 HT_ ?_
     refine pu 12 21 HT_ ?_
     refine pu 13 22 HT_ ?_
     refine pu 14 23 HT_ ?_
     refine pu 15 24 HT_ ?_
     refine pu 16 25 HT_ ?_
     refine pu 17 26 HT_ ?_
     refine pu 18 27 HT_ ?_
     refine tk6 3 12 hHeld HT_ HW_ ?_
     refine tk6 11 20 hHeld HT_ HW_ ?_
     refine tk6 19 28 hHeld HT_ HW_ ?_
     refine one_ (i := 20) (N := some 29) #[T,T,T,T,T,T,T,T,T,T,T,T,T,T,T,T,T,T,T,T,T,N] rfl rfl (on1 HT_) (by decide) (fun K hK => ?_)
     refine goes_ Try.func91 (by kernel_rfl) rfl #[.agg #[.int .i64 ((rd_T29 l0 x6_1).f0), .int .i64 ((rd_T29 l0 x6_1).f1)], .agg #[.int .i64 ((rd_T29 l0 (ji6)).f0), .int .i64 ((rd_T29 l0 (ji6)).f1)], .agg #[.int .i64 ((rd_T29 l0 (ji9)).f0), .int .i64 ((rd_T29 l0 (ji9)).f1)]] (by rfl) rfl rfl (by (try simp only [List.map_toArray, List.map_cons, List.map_nil]); first | done | (simp only [hji6, hji9]; rfl) | rfl | (simp only [List.length_drop, List.length_take]; rfl)) ?_
     with_reducible refine (shape_side.calls ((rd_T29 l0 x6_1).f0) ((rd_T29 l0 x6_1).f1) ((rd_T29 l0 (ji6)).f0) ((rd_T29 l0 (ji6)).f1) ((rd_T29 l0 (ji9)).f0) ((rd_T29 l0 (ji9)).f1) t104 _ A12.out).mono ?_
     rintro e w17 ⟨rfl, hb⟩
     refine ⟨_, rfl, ?_⟩
     replace HB := Aside0.mk (below_step bh hb)
     (try clear hb); (try clear hb2); (try clear hk); (try clear hi)
     refine hK.out _ _ ⟨(hc HB hw101_0), (hc HB hw101_1), (hc HB hw102_0), (hc HB hw102_1), (hc HB hw103_0), (hc HB hw103_1)⟩ (fun hHeld => ?_)
     clear hK K
     refine nm 29 ?_
     refine pu 21 30 HT_ ?_
     refine done_ (done_of HT_.out (by kernel_rfl)) ?_
     try go_wp2
     go_roundg k1
     case measure => have := HK1.out; omega
     case rel => exact ⟨(wrap64 (x6_1 + 1)), sd, H', ⟨by have := HK1.out; omega⟩, ⟨bh⟩⟩
   ·rw [if_neg c2] at H
    have c2b0 := decide_eq_false c2
    clear c2
    replace H := oi H
    obtain ⟨c18, H⟩ := H
    have c18b0 := decide_eq_true c18
    have c18b1 : decide (0 < l0.length) = true := decide_eq_true (by omega)
    clear c18
    replace H := Option.bind_eq_some_iff.mp H
    obtain ⟨⟨t106, t107⟩, A190, H⟩ := H
    try dsimp only at H
    have A19 := Aside0.mk A190
    clear A190
    by_cases c20 : (((rd_T29 l0 0).f0) == t106 && (((rd_T29 l0 0).f1) == t107)) = true
    ·rw [if_pos c20] at H
     have c20b0 : (((rd_T29 l0 0).f0) == t106 && (((rd_T29 l0 0).f1) == t107)) = true := c20
     (try (have c20b1 : decide (((rd_T29 l0 0).f0) = t106 && (((rd_T29 l0 0).f1) == t107)) = true := by simpa using c20))
     (try (have c20b2 : (((rd_T29 l0 0).f0) == t106 && (((rd_T29 l0 0).f1) == t107)) = true := by simpa using c20))
     clear c20
     replace H := Option.bind_eq_some_iff.mp H
     obtain ⟨t108, A210, H⟩ := H
     try dsimp only at H
     have A21 := Aside0.mk A210
     clear A210
     obtain rfl := Option.some.inj H
     try go_wp2
     replace HB := Aside0.mk (below_drew1 HB.out)
     have p105 : 0 ≤ (0 : Int) := (by omega)
     have q105 : 0 < (l0.length : Int) := dt
     obtain ⟨ad105, e105, hx105_0, hx105_1⟩ := at_T29 HR0.out 0 p105 q105
     have hw105_1 := hx105_1
     (try rw [show ((0 : Int)).toNat = 0 from rfl] at hw105_1)
     (try rw [show 0 * 2 = 0 from rfl] at hw105_1)
     (try rw [Addr.add_zero'] at hw105_1)
     have hw105_0 := hx105_0
     (try rw [show ((0 : Int)).toNat = 0 from rfl] at hw105_0)
     (try rw [show 0 * 2 = 0 from rfl] at hw105_0)
     (try rw [Addr.add_zero'] at hw105_0)
     cases e105
     have qi105 : (0 < l0.length) = True := eq_true (by omega)
     (try rw [show ((0 : Int)).toNat = 0 from rfl] at hx105_0)
     (try rw [show 0 * 2 = 0 from rfl] at hx105_0)
     (try rw [Addr.add_zero'] at hx105_0)
     (try rw [show ((0 : Int)).toNat = 0 from rfl] at hx105_1)
     (try rw [show 0 * 2 = 0 from rfl] at hx105_1)
     (try rw [Addr.add_zero'] at hx105_1)
     replace hx105_0 := hc HB hx105_0
     replace hx105_1 := hc HB hx105_1
     replace p105 := eq_true p105
     replace q105 := eq_true q105
     refine start_ (n := 11) (S := fun w' => w'.cell? ad105 = some (.int .i64 ((rd_T29 l0 0).f0)) ∧ w'.cell? ⟨ad105.block, ad105.off + 1, none⟩ = some (.int .i64 ((rd_T29 l0 0).f1))) (ds := []) #[N,N,N,N,N,N,N,N,N,N,N] (by kernel_rfl) rfl rfl ⟨(hc HB hw105_0), (hc HB hw105_1)⟩ (fun hHeld => ?_); refine with_tabW shape_normal.tab7 shape_normal.bits7 (fun HT_ HW_ => ?_)
     generalize wr.drew = w22 at HB hx105_0 hx105_1 hHeld ⊢
     refine pu 0 32 HT_ ?_
     refine pu 1 33 HT_ ?_
     refine pu 3 35 HT_ ?_
     refine tk2 2 34 hHeld HT_ HW_ ?_
     refine one_ (i := 4) (N := some 36) #[T,T,T,T,T,N,N,N,N,N,N] rfl rfl (on1 HT_) (by decide) (fun K hK => ?_)
     refine goes_ Try.func94 (by kernel_rfl) rfl #[.slice (some ad105) l0.length c0, .func (.func 95) #[] #[]] (by rfl) rfl rfl sg ?_
     with_reducible refine (slices_MinFunc_lower.calls k1 _ _ l0  t106 t107 _ ?side1 ?side2 A19.out).mono ?_
     (case side1 => exact cs (Kd.C_below HR0.out HB.out))
     (case side2 => exact HC0.out)
     rintro e w23 ⟨rfl, hb⟩
     refine ⟨_, rfl, ?_⟩
     replace HB := Aside0.mk (below_step bh hb)
     (try clear hb); (try clear hb2); (try clear hk); (try clear hi)
     refine hK.out _ _ ⟨(hc HB hw105_0), (hc HB hw105_1)⟩ (fun hHeld => ?_)
     clear hK K
     refine nm 36 ?_
     refine pu 5 37 HT_ ?_
     refine pu 6 38 HT_ ?_
     refine pu 7 39 HT_ ?_
     refine one_ (i := 8) (N := some 40) #[T,T,T,T,T,T,T,T,T,N,N] rfl rfl (on1 HT_) (by decide) (fun K hK => ?_)
     refine goes_ Try.func69 (by kernel_rfl) rfl #[.slice (some ad105) l0.length c0] (by rfl) rfl rfl sg ?_
     with_reducible refine (shape_simple.calls k1 _ _ l0 t108 _ ?side1 ?side2 A21.out).mono ?_
     (case side1 => exact cs (Kd.C_below HR0.out HB.out))
     (case side2 => exact HC0.out)
     rintro e w24 ⟨rfl, hb⟩
     refine ⟨_, rfl, ?_⟩
     replace HB := Aside0.mk (below_step bh hb)
     (try clear hb); (try clear hb2); (try clear hk); (try clear hi)
     refine hK.out _ _ ⟨(hc HB hw105_0), (hc HB hw105_1)⟩ (fun hHeld => ?_)
     clear hK K
     refine nm 40 ?_
     refine pu 9 41 HT_ ?_
     refine pu 10 2 HT_ ?_
     refine done_ (done_of HT_.out (by kernel_rfl)) ?_
     try go_wp2
     go_ret
     exact ⟨by exact er, bh⟩
    ·rw [if_neg c20] at H
     have c20b0 : (((rd_T29 l0 0).f0) == t106 && (((rd_T29 l0 0).f1) == t107)) = false := by simpa using c20
     (try (have c20b1 : decide (((rd_T29 l0 0).f0) = t106 && (((rd_T29 l0 0).f1) == t107)) = false := by simpa using c20))
     (try (have c20b2 : (((rd_T29 l0 0).f0) == t106 && (((rd_T29 l0 0).f1) == t107)) = false := by simpa using c20))
     (try (have c20b3 : ¬ (((rd_T29 l0 0).f0) = t106 && (((rd_T29 l0 0).f1) == t107)) := by simpa using c20))
     clear c20
     obtain rfl := Option.some.inj H
     try go_wp2
     replace HB := Aside0.mk (below_drew1 HB.out)
     have p105 : 0 ≤ (0 : Int) := (by omega)
     have q105 : 0 < (l0.length : Int) := dt
     obtain ⟨ad105, e105, hx105_0, hx105_1⟩ := at_T29 HR0.out 0 p105 q105
     have hw105_1 := hx105_1
     (try rw [show ((0 : Int)).toNat = 0 from rfl] at hw105_1)
     (try rw [show 0 * 2 = 0 from rfl] at hw105_1)
     (try rw [Addr.add_zero'] at hw105_1)
     have hw105_0 := hx105_0
     (try rw [show ((0 : Int)).toNat = 0 from rfl] at hw105_0)
     (try rw [show 0 * 2 = 0 from rfl] at hw105_0)
     (try rw [Addr.add_zero'] at hw105_0)
     cases e105
     have qi105 : (0 < l0.length) = True := eq_true (by omega)
     (try rw [show ((0 : Int)).toNat = 0 from rfl] at hx105_0)
     (try rw [show 0 * 2 = 0 from rfl] at hx105_0)
     (try rw [Addr.add_zero'] at hx105_0)
     (try rw [show ((0 : Int)).toNat = 0 from rfl] at hx105_1)
     (try rw [show 0 * 2 = 0 from rfl] at hx105_1)
     (try rw [Addr.add_zero'] at hx105_1)
     replace hx105_0 := hc HB hx105_0
     replace hx105_1 := hc HB hx105_1
     replace p105 := eq_true p105
     replace q105 := eq_true q105
     refine start_ (n := 11) (S := fun w' => w'.cell? ad105 = some (.int .i64 ((rd_T29 l0 0).f0)) ∧ w'.cell? ⟨ad105.block, ad105.off + 1, none⟩ = some (.int .i64 ((rd_T29 l0 0).f1))) (ds := []) #[N,N,N,N,N,N,N,N,N,N,N] (by kernel_rfl) rfl rfl ⟨(hc HB hw105_0), (hc HB hw105_1)⟩ (fun hHeld => ?_); refine with_tabW shape_normal.tab7 shape_normal.bits7 (fun HT_ HW_ => ?_)
     generalize wr.drew = w25 at HB hx105_0 hx105_1 hHeld ⊢
     refine pu 0 32 HT_ ?_
     refine pu 1 33 HT_ ?_
     refine pu 3 35 HT_ ?_
     refine tk2 2 34 hHeld HT_ HW_ ?_
     refine one_ (i := 4) (N := some 36) #[T,T,T,T,T,N,N,N,N,N,N] rfl rfl (on1 HT_) (by decide) (fun K hK => ?_)
     refine goes_ Try.func94 (by kernel_rfl) rfl #[.slice (some ad105) l0.length c0, .func (.func 95) #[] #[]] (by rfl) rfl rfl sg ?_
     with_reducible refine (slices_MinFunc_lower.calls k1 _ _ l0  t106 t107 _ ?side1 ?side2 A19.out).mono ?_
     (case side1 => exact cs (Kd.C_below HR0.out HB.out))
     (case side2 => exact HC0.out)
     rintro e w26 ⟨rfl, hb⟩
     refine ⟨_, rfl, ?_⟩
     replace HB := Aside0.mk (below_step bh hb)
     (try clear hb); (try clear hb2); (try clear hk); (try clear hi)
     refine hK.out _ _ ⟨(hc HB hw105_0), (hc HB hw105_1)⟩ (fun hHeld => ?_)
     clear hK K
     refine nm 36 ?_
     refine pu 5 37 HT_ ?_
     refine pu 6 38 HT_ ?_
     refine pz 7 39 HT_ ?_
     refine pz 8 40 HT_ ?_
     refine pu 9 41 HT_ ?_
     refine pu 10 2 HT_ ?_
     refine done_ (done_of HT_.out (by kernel_rfl)) ?_
     try go_wp2
     go_ret
     exact ⟨by exact er, bh⟩
/-! ### shape_refused_normal: function 2068 -/
def shape_refused_normal.f (k : Nat) (l0 : List (S29))  : Option (Int) := (shape_polygon.f l0).bind fun t101 => (if t101 = true then ((shape_normal.f k l0).bind fun t102 => (if t102 = true then (some 0) else (some 2))) else (some 1))
set_option maxHeartbeats 8000000 in
set_option maxRecDepth 100000 in
theorem shape_refused_normal.calls (k : Nat) (A0 : Option Addr) (c0 : Nat) (l0 : List (S29))  (r : Int) (w : World) (hr0 : Kd.C k29 w A0 l0.length l0) (hc0 : l0.length ≤ c0) (h : shape_refused_normal.f k l0 = some r) :
  Calls Try.prog 68 #[.slice A0 l0.length c0, .func (.func 72) #[] #[]] w fun e w' => e = .returned (.int .i64 r) ∧ Below w.heap.size w w' := by
 have HR0 := Aside0.mk hr0
 have HC0 := Aside0.mk hc0
 clear hr0 hc0
 have HB := Aside0.mk (Below.refl w.heap.size w)
 have H : ((shape_polygon.f l0).bind fun t101 => (if t101 = true then ((shape_normal.f k l0).bind fun t102 => (if t102 = true then (some 0) else (some 2))) else (some 1))) = some r := h
 clear h
 replace H := Option.bind_eq_some_iff.mp H
 obtain ⟨t101, A30, H⟩ := H
 try dsimp only at H
 have A3 := Aside0.mk A30
 clear A30
 by_cases c4 : t101 = true
 ·subst c4
  rw [if_pos rfl] at H
  replace H := Option.bind_eq_some_iff.mp H
  obtain ⟨t102, A50, H⟩ := H
  try dsimp only at H
  have A5 := Aside0.mk A50
  clear A50
  by_cases c6 : t102 = true
  ·subst c6
   rw [if_pos rfl] at H
   obtain rfl := Option.some.inj H
   go_enter Try.func68, Try.ntmps68
   go_wp2_with (first | ((first | ((with_reducible refine gc 66 rfl ?_); refine goesL_ (some 7) rfl rfl Try.func66 (by kernel_rfl) rfl #[.slice A0 l0.length c0] rfl sg ?_) | ((with_reducible refine gate_value 66 rfl rfl ?_); refine goesLV_ (some 7) rfl rfl Try.func66 (by kernel_rfl) rfl #[.slice A0 l0.length c0] rfl sg rfl ?_)); (with_reducible refine (shape_polygon.calls _ _ l0 true _ ?side1 ?side2 A3.out).mono ?_); (case side1 => repeat (first | exact HR0.out | (with_reducible refine Kd.C_alloc ?_ _) | (with_reducible refine Kd.C_drewN ?_ _) | (with_reducible refine Kd.C_drew ?_))); (case side2 => exact HC0.out); rintro e w7 ⟨rfl, hb⟩; refine ⟨_, rfl, ?_⟩; replace HB := Aside0.mk (below_step bh hb); (try clear hb); (try clear hb2); (try clear hk); (try clear hi)) | ((first | ((with_reducible refine gc 72 rfl ?_); refine goesL_ (some 12) rfl rfl Try.func72 (by kernel_rfl) rfl #[.slice A0 l0.length c0] rfl sg ?_) | ((with_reducible refine gate_value 72 rfl rfl ?_); refine goesLV_ (some 12) rfl rfl Try.func72 (by kernel_rfl) rfl #[.slice A0 l0.length c0] rfl sg rfl ?_)); (with_reducible refine (shape_normal.calls k _ _ l0 true _ ?side1 ?side2 A5.out).mono ?_); (case side1 => exact cs (Kd.C_below HR0.out HB.out)); (case side2 => exact HC0.out); rintro e w8 ⟨rfl, hb⟩; refine ⟨_, rfl, ?_⟩; replace HB := Aside0.mk (below_step bh hb); (try clear hb); (try clear hb2); (try clear hk); (try clear hi)))
   go_ret
   exact ⟨by exact er, bh⟩
  ·replace c6 := Bool.eq_false_iff.mpr c6
   subst c6
   rw [if_neg (show ¬ (false = true) by decide)] at H
   obtain rfl := Option.some.inj H
   go_enter Try.func68, Try.ntmps68
   go_wp2_with (first | ((first | ((with_reducible refine gc 66 rfl ?_); refine goesL_ (some 7) rfl rfl Try.func66 (by kernel_rfl) rfl #[.slice A0 l0.length c0] rfl sg ?_) | ((with_reducible refine gate_value 66 rfl rfl ?_); refine goesLV_ (some 7) rfl rfl Try.func66 (by kernel_rfl) rfl #[.slice A0 l0.length c0] rfl sg rfl ?_)); (with_reducible refine (shape_polygon.calls _ _ l0 true _ ?side1 ?side2 A3.out).mono ?_); (case side1 => repeat (first | exact HR0.out | (with_reducible refine Kd.C_alloc ?_ _) | (with_reducible refine Kd.C_drewN ?_ _) | (with_reducible refine Kd.C_drew ?_))); (case side2 => exact HC0.out); rintro e w9 ⟨rfl, hb⟩; refine ⟨_, rfl, ?_⟩; replace HB := Aside0.mk (below_step bh hb); (try clear hb); (try clear hb2); (try clear hk); (try clear hi)) | ((first | ((with_reducible refine gc 72 rfl ?_); refine goesL_ (some 12) rfl rfl Try.func72 (by kernel_rfl) rfl #[.slice A0 l0.length c0] rfl sg ?_) | ((with_reducible refine gate_value 72 rfl rfl ?_); refine goesLV_ (some 12) rfl rfl Try.func72 (by kernel_rfl) rfl #[.slice A0 l0.length c0] rfl sg rfl ?_)); (with_reducible refine (shape_normal.calls k _ _ l0 false _ ?side1 ?side2 A5.out).mono ?_); (case side1 => exact cs (Kd.C_below HR0.out HB.out)); (case side2 => exact HC0.out); rintro e w10 ⟨rfl, hb⟩; refine ⟨_, rfl, ?_⟩; replace HB := Aside0.mk (below_step bh hb); (try clear hb); (try clear hb2); (try clear hk); (try clear hi)))
   go_ret
   exact ⟨by exact er, bh⟩
 ·replace c4 := Bool.eq_false_iff.mpr c4
  subst c4
  rw [if_neg (show ¬ (false = true) by decide)] at H
  obtain rfl := Option.some.inj H
  go_enter Try.func68, Try.ntmps68
  go_wp2_with (first | ((first | ((with_reducible refine gc 66 rfl ?_); refine goesL_ (some 7) rfl rfl Try.func66 (by kernel_rfl) rfl #[.slice A0 l0.length c0] rfl sg ?_) | ((with_reducible refine gate_value 66 rfl rfl ?_); refine goesLV_ (some 7) rfl rfl Try.func66 (by kernel_rfl) rfl #[.slice A0 l0.length c0] rfl sg rfl ?_)); (with_reducible refine (shape_polygon.calls _ _ l0 false _ ?side1 ?side2 A3.out).mono ?_); (case side1 => repeat (first | exact HR0.out | (with_reducible refine Kd.C_alloc ?_ _) | (with_reducible refine Kd.C_drewN ?_ _) | (with_reducible refine Kd.C_drew ?_))); (case side2 => exact HC0.out); rintro e w11 ⟨rfl, hb⟩; refine ⟨_, rfl, ?_⟩; replace HB := Aside0.mk (below_step bh hb); (try clear hb); (try clear hb2); (try clear hk); (try clear hi)))
  go_ret
  exact ⟨by exact er, bh⟩
end Go.Proofs.Ytoffmpkgickfhaa.PG
end
