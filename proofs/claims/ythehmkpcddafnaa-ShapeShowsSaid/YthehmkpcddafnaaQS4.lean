/- Parts of the proof of YthehmkpcddafnaaLawShapeShows: printed walks, their words, and plain laws. -/
import Derived.Test.YthehmkpcddafnaaQS1
import Derived.Test.YthehmkpcddafnaaQS3
section
namespace Go.Proofs.Ythehmkpcddafnaa.PG
open Go.RowKit Go.Proofs.YthehmkpcddafnaaW.PrintWords Go.Proofs.YthehmkpcddafnaaW.PrintLast Go.Proofs.YthehmkpcddafnaaW.PrintMore
attribute [local go_sem] max2_int min2_int max_two min_two max_three min_three max_four min_four
set_option linter.unusedVariables false
set_option linter.unusedSimpArgs false
attribute [local go_sem high] eqA41
/-! ### shape_simple: function 37 -/
mutual
def shape_simple.l0 : Nat → List (S41) → Int → Int → Int → Option (Bool)
 | 0, _, _, _, _ => none
 | k + 1, x0, x3, x12, x13 => if x13 < x12 then (if x3 = 0 then (none) else (if 0 ≤ (Int.tmod (wrap64 ((wrap64 (x13 + x3)) - 1)) x3) then (if (Int.tmod (wrap64 ((wrap64 (x13 + x3)) - 1)) x3) < (x0.length : Int) then (if 0 ≤ (Int.tmod (wrap64 (x13 + 1)) x3) then (if (Int.tmod (wrap64 (x13 + 1)) x3) < (x0.length : Int) then (if 0 ≤ x13 then (if x13 < (x0.length : Int) then (if (((rd_T41 x0 x13).f0) == ((rd_T41 x0 (Int.tmod (wrap64 (x13 + 1)) x3)).f0) && (((rd_T41 x0 x13).f1) == ((rd_T41 x0 (Int.tmod (wrap64 (x13 + 1)) x3)).f1))) = true then (some false) else ((shape_sub.f ((rd_T41 x0 (Int.tmod (wrap64 ((wrap64 (x13 + x3)) - 1)) x3)).f0) ((rd_T41 x0 (Int.tmod (wrap64 ((wrap64 (x13 + x3)) - 1)) x3)).f1) ((rd_T41 x0 x13).f0) ((rd_T41 x0 x13).f1)).bind fun bt107 => ((shape_sub.f ((rd_T41 x0 (Int.tmod (wrap64 (x13 + 1)) x3)).f0) ((rd_T41 x0 (Int.tmod (wrap64 (x13 + 1)) x3)).f1) ((rd_T41 x0 x13).f0) ((rd_T41 x0 x13).f1)).bind fun bt110 => ((shape_cross.f bt107.1 bt107.2 bt110.1 bt110.2).bind fun t114 => (if t114 = 0 then ((shape_dot.f bt107.1 bt107.2 bt110.1 bt110.2).bind fun t115 => (shape_simple.j1 k x0 x3 x13 x12 x13 (decide (t115 > 0)) ((rd_T41 x0 (Int.tmod (wrap64 (x13 + 1)) x3)).f0) ((rd_T41 x0 (Int.tmod (wrap64 (x13 + 1)) x3)).f1))) else (shape_simple.j1 k x0 x3 x13 x12 x13 false ((rd_T41 x0 (Int.tmod (wrap64 (x13 + 1)) x3)).f0) ((rd_T41 x0 (Int.tmod (wrap64 (x13 + 1)) x3)).f1))))))) else (none)) else (none)) else (none)) else (none)) else (none)) else (none))) else (some true)
def shape_simple.j1 : Nat → List (S41) → Int → Int → Int → Int → Bool → Int → Int → Option (Bool)
 | 0, _, _, _, _, _, _, _, _ => none
 | k + 1, x0, x3, x4, x12, x13, x59, x105000, x105001 => if x59 = true then (some false) else (shape_simple.l1 k x0 x3 x4 x12 x13 x4 0 x105000 x105001)
def shape_simple.l1 : Nat → List (S41) → Int → Int → Int → Int → Int → Int → Int → Int → Option (Bool)
 | 0, _, _, _, _, _, _, _, _, _ => none
 | k + 1, x0, x3, x4, x12, x13, x60, x61, x105000, x105001 => if x61 < x60 then (if (wrap64 (x61 + 1)) = x4 then (shape_simple.j3 k x0 x3 x4 x12 x13 x60 x61 false x105000 x105001) else (if x61 = 0 then (if x4 = (wrap64 (x3 - 1)) then (shape_simple.j3 k x0 x3 x4 x12 x13 x60 x61 false x105000 x105001) else (if 0 ≤ x4 then (if x4 < (x0.length : Int) then (if 0 ≤ x61 then (if x61 < (x0.length : Int) then (if 0 ≤ (wrap64 (x61 + 1)) then (if (wrap64 (x61 + 1)) < (x0.length : Int) then ((shape_meet.f k ((rd_T41 x0 x4).f0) ((rd_T41 x0 x4).f1) x105000 x105001 ((rd_T41 x0 x61).f0) ((rd_T41 x0 x61).f1) ((rd_T41 x0 (wrap64 (x61 + 1))).f0) ((rd_T41 x0 (wrap64 (x61 + 1))).f1)).bind fun t119 => (shape_simple.j3 k x0 x3 x4 x12 x13 x60 x61 t119 x105000 x105001)) else (none)) else (none)) else (none)) else (none)) else (none)) else (none))) else (if 0 ≤ x4 then (if x4 < (x0.length : Int) then (if 0 ≤ x61 then (if x61 < (x0.length : Int) then (if 0 ≤ (wrap64 (x61 + 1)) then (if (wrap64 (x61 + 1)) < (x0.length : Int) then ((shape_meet.f k ((rd_T41 x0 x4).f0) ((rd_T41 x0 x4).f1) x105000 x105001 ((rd_T41 x0 x61).f0) ((rd_T41 x0 x61).f1) ((rd_T41 x0 (wrap64 (x61 + 1))).f0) ((rd_T41 x0 (wrap64 (x61 + 1))).f1)).bind fun t123 => (shape_simple.j3 k x0 x3 x4 x12 x13 x60 x61 t123 x105000 x105001)) else (none)) else (none)) else (none)) else (none)) else (none)) else (none)))) else (shape_simple.l0 k x0 x3 x12 (wrap64 (x13 + 1)))
def shape_simple.j3 : Nat → List (S41) → Int → Int → Int → Int → Int → Int → Bool → Int → Int → Option (Bool)
 | 0, _, _, _, _, _, _, _, _, _, _ => none
 | k + 1, x0, x3, x4, x12, x13, x60, x61, x94, x105000, x105001 => if x94 = true then (some false) else (shape_simple.l1 k x0 x3 x4 x12 x13 x60 (wrap64 (x61 + 1)) x105000 x105001)
end
def shape_simple.f (k : Nat) (l0 : List (S41)) : Option (Bool) := shape_simple.l0 k l0 (l0.length : Int) (l0.length : Int) 0
def shape_simple.T5 : Bool × List (List Nat × List Nat) := (true, [([], []), ([], []), ([], []), ([1, 2], [1, 2]), ([3], [3]), ([], []), ([4, 5], [4, 5]), ([0, 6], [0, 6]), ([7], [7]), ([], []), ([], []), ([10], [10]), ([], []), ([11, 12], [11, 12]), ([9, 13], [9, 13]), ([14], [14]), ([], []), ([], []), ([16, 8, 0, 1, 2, 3, 4, 5, 6, 7, 8, 16, 17], [8, 16]), ([17, 15, 18, 0, 1, 2, 3, 4, 5, 6, 7, 8, 9, 10, 11, 12, 13, 14, 15, 16, 17, 18], [15, 17])])
def shape_simple.B5 : List Nat := [0, 0, 0, 6, 14, 0, 62, 127, 255, 0, 0, 1024, 0, 7168, 15872, 32256, 0, 0, 197119, 524287]
theorem shape_simple.tab5 : rtab .any (opsOf Try.f37 5) = shape_simple.T5 := by kernel_rfl
theorem shape_simple.bits5 : waitsOk shape_simple.T5.2 shape_simple.B5 = true := by kernel_rfl
def shape_simple.T8 : Bool × List (List Nat × List Nat) := (true, [([], []), ([], []), ([], []), ([1, 2], [1, 2]), ([3], [3]), ([0, 4], [0, 4]), ([], []), ([], []), ([], []), ([7, 8], [7, 8]), ([9], [9]), ([6, 10, 5], [6, 10]), ([], []), ([], []), ([12, 5, 11, 0, 1, 2, 3, 4, 5, 12, 13], [5, 12]), ([13, 11, 14, 0, 1, 2, 3, 4, 5, 6, 7, 8, 9, 10, 11, 12, 13, 14], [11, 13])])
def shape_simple.B8 : List Nat := [0, 0, 0, 6, 14, 31, 0, 0, 0, 384, 896, 2047, 0, 0, 16383, 32767]
theorem shape_simple.tab8 : rtab .any (opsOf Try.f37 8) = shape_simple.T8 := by kernel_rfl
theorem shape_simple.bits8 : waitsOk shape_simple.T8.2 shape_simple.B8 = true := by kernel_rfl
def shape_simple.T14 : Bool × List (List Nat × List Nat) := (true, [([], []), ([0], [0]), ([], []), ([1, 2], [1, 2]), ([3], [3]), ([4], [4]), ([5, 4], [4, 5]), ([6, 4, 4], [4, 6]), ([7], [7]), ([7], [7]), ([9, 7], [7, 9]), ([8, 10, 7], [7, 8, 10]), ([7, 11, 4], [4, 7, 11]), ([4, 12], [4, 12]), ([13, 7], [13]), ([14], [14]), ([14], [14]), ([15, 16, 14], [14, 15, 16]), ([17, 14], [14, 17]), ([14], [14]), ([14], [14]), ([14], [14]), ([20, 21, 14], [14, 20, 21]), ([22, 14], [14, 22]), ([14], [14]), ([14], [14]), ([25, 14], [14, 25]), ([24, 26, 14], [14, 24, 26]), ([27, 14], [14, 27]), ([18, 19, 23, 28, 14, 14], [14, 18, 19, 23, 28]), ([14, 29], [14, 29])])
def shape_simple.B14 : List Nat := [0, 1, 0, 7, 15, 31, 63, 127, 255, 255, 767, 2047, 4095, 8191, 16383, 32767, 32767, 131071, 262143, 32767, 32767, 32767, 3178495, 7372799, 32767, 32767, 33587199, 117473279, 251691007, 536870911, 1073741823]
theorem shape_simple.tab14 : rtab .any (opsOf Try.f37 14) = shape_simple.T14 := by kernel_rfl
theorem shape_simple.bits14 : waitsOk shape_simple.T14.2 shape_simple.B14 = true := by kernel_rfl
set_option maxHeartbeats 8000000 in
set_option maxRecDepth 100000 in
theorem shape_simple.calls (k : Nat) (A0 : Option Addr) (c0 : Nat) (l0 : List (S41)) (r : Bool) (w : World) (hr0 : Kd.C k41 w A0 l0.length l0) (hc0 : l0.length ≤ c0) (h : shape_simple.f k l0 = some r) :
  Calls Try.prog 37 #[.slice A0 l0.length c0] w fun e w' => e = .returned (.bool r) ∧ Below w.heap.size w w' := by
 have hu41 := Try.underlying41
 have HR0 := Aside0.mk hr0
 have HC0 := Aside0.mk hc0
 clear hr0 hc0
 have HB := Aside0.mk (Below.refl w.heap.size w)
 have H : (shape_simple.l0 k l0 (l0.length : Int) (l0.length : Int) 0) = some r := h
 clear h
 have H' := Aside0.mk H
 clear H
 go_enter Try.func37, Try.ntmps37
 go_wp2
 go_loopg [13] k (fun kq v13 w' => ∃ (x13_1 : Int), v13 = .int .i64 x13_1 ∧ Aside0 (shape_simple.l0 kq l0 (l0.length : Int) (l0.length : Int) x13_1 = some r) ∧ Aside0 (kq ≤ k) ∧ Aside0 (Below w.heap.size w w'))
 case atStart => exact ⟨(0), sd, H', ⟨Nat.le_refl _⟩, ⟨bh⟩⟩
 case round =>
  clear H'
  obtain ⟨x13_1, rfl, HA, HK1, HB⟩ := hrel
  cases gk with
  | zero => exact absurd HA.out (by simp [shape_simple.l0])
  | succ k1 =>
   have H := HA.out
   clear HA
   simp only [shape_simple.l0] at H
   by_cases c2 : x13_1 < (l0.length : Int)
   ·rw [if_pos c2] at H
    have c2b0 := decide_eq_true c2
    clear c2
    obtain ⟨c3, H⟩ := oj H
    have c3b0 : ((l0.length : Int) == 0) = false := beq_eq_false_iff_ne.mpr c3
    have c3b1 : ((l0.length : Int) != 0) = true := bne_iff_ne.mpr c3
    have c3b2 : ¬ (l0 = []) := fun h_ => c3 (by rw [h_]; rfl)
    obtain ⟨ji4, hji4⟩ : ∃ j_ : Int, (Int.tmod (wrap64 ((wrap64 (x13_1 + (l0.length : Int))) - 1)) (l0.length : Int)) = j_ := ⟨_, rfl⟩
    first | rw [hji4] at H | simp only [hji4] at H
    obtain ⟨c5, H⟩ := oi H
    have c5b0 := decide_eq_true c5
    clear c5
    obtain ⟨c6, H⟩ := oi H
    have c6b0 := decide_eq_true c6
    clear c6
    obtain ⟨ji7, hji7⟩ : ∃ j_ : Int, (Int.tmod (wrap64 (x13_1 + 1)) (l0.length : Int)) = j_ := ⟨_, rfl⟩
    first | rw [hji7] at H | simp only [hji7] at H
    obtain ⟨c8, H⟩ := oi H
    have c8b0 := decide_eq_true c8
    clear c8
    obtain ⟨c9, H⟩ := oi H
    have c9b0 := decide_eq_true c9
    clear c9
    obtain ⟨c10, H⟩ := oi H
    have c10b0 := decide_eq_true c10
    clear c10
    obtain ⟨c11, H⟩ := oi H
    have c11b0 := decide_eq_true c11
    clear c11
    by_cases c12 : (((rd_T41 l0 x13_1).f0) == ((rd_T41 l0 (ji7)).f0) && (((rd_T41 l0 x13_1).f1) == ((rd_T41 l0 (ji7)).f1))) = true
    ·rw [if_pos c12] at H
     have c12b0 : (((rd_T41 l0 x13_1).f0) == ((rd_T41 l0 (ji7)).f0) && (((rd_T41 l0 x13_1).f1) == ((rd_T41 l0 (ji7)).f1))) = true := c12
     (try (have c12b1 : decide (((rd_T41 l0 x13_1).f0) = ((rd_T41 l0 (ji7)).f0) && (((rd_T41 l0 x13_1).f1) == ((rd_T41 l0 (ji7)).f1))) = true := by simpa using c12))
     (try (have c12b2 : (((rd_T41 l0 x13_1).f0) == ((rd_T41 l0 (ji7)).f0) && (((rd_T41 l0 x13_1).f1) == ((rd_T41 l0 (ji7)).f1))) = true := by simpa using c12))
     clear c12
     obtain rfl := Option.some.inj H
     try go_wp2
     replace HB := Aside0.mk (below_drew1 HB.out)
     have p101 : 0 ≤ ((ji4) : Int) := dt
     have q101 : (ji4) < (l0.length : Int) := dt
     obtain ⟨ad101, e101, hx101_0, hx101_1⟩ := at_T41 HR0.out (ji4) p101 q101
     have hw101_1 := hx101_1
     have hw101_0 := hx101_0
     cases e101
     replace hx101_0 := hc HB hx101_0
     replace hx101_1 := hc HB hx101_1
     replace p101 := eq_true p101
     replace q101 := eq_true q101
     have p102 : 0 ≤ ((ji7) : Int) := dt
     have q102 : (ji7) < (l0.length : Int) := dt
     obtain ⟨ad102, e102, hx102_0, hx102_1⟩ := at_T41 HR0.out (ji7) p102 q102
     have hw102_1 := hx102_1
     have hw102_0 := hx102_0
     obtain rfl : ad101 = ad102 := (by injection e102)
     replace hx102_0 := hc HB hx102_0
     replace hx102_1 := hc HB hx102_1
     replace p102 := eq_true p102
     replace q102 := eq_true q102
     refine start_ (n := 20) (S := fun w' => w'.cell? (ad101.add (((ji4)).toNat * 2)) = some (.int .i64 ((rd_T41 l0 (ji4)).f0)) ∧ w'.cell? ⟨(ad101.add (((ji4)).toNat * 2)).block, (ad101.add (((ji4)).toNat * 2)).off + 1, none⟩ = some (.int .i64 ((rd_T41 l0 (ji4)).f1)) ∧ w'.cell? (ad101.add (((ji7)).toNat * 2)) = some (.int .i64 ((rd_T41 l0 (ji7)).f0)) ∧ w'.cell? ⟨(ad101.add (((ji7)).toNat * 2)).block, (ad101.add (((ji7)).toNat * 2)).off + 1, none⟩ = some (.int .i64 ((rd_T41 l0 (ji7)).f1))) (ds := []) #[N,N,N,N,N,N,N,N,N,N,N,N,N,N,N,N,N,N,N,N] (by kernel_rfl) rfl rfl ⟨(hc HB hw101_0), (hc HB hw101_1), (hc HB hw102_0), (hc HB hw102_1)⟩ (fun hHeld => ?_); refine with_tabW shape_simple.tab5 shape_simple.bits5 (fun HT_ HW_ => ?_)
     generalize wr.drew = w13 at HB hx101_0 hx101_1 hx102_0 hx102_1 hHeld ⊢
     refine pu 0 16 HT_ ?_
     refine pu 1 17 HT_ ?_
     refine pu 2 18 HT_ ?_
     refine pu 3 19 HT_ ?_
     refine pu 4 20 HT_ ?_
     refine pu 5 21 HT_ ?_
     refine pu 6 22 HT_ ?_
     refine pu 7 23 HT_ ?_
     refine pu 9 25 HT_ ?_
     refine pu 10 26 HT_ ?_
     refine pu 11 27 HT_ ?_
     refine pu 12 28 HT_ ?_
     refine pu 13 29 HT_ ?_
     refine pu 14 30 HT_ ?_
     refine tk4 8 24 hHeld HT_ HW_ ?_
     refine tk4 15 31 hHeld HT_ HW_ ?_
     refine join_ (σ := Nat × Nat) 2 #[T,T,T,T,T,T,T,T,T,T,T,T,T,T,T,T,T,T,N,N] (fun s_ => [(5, .pointer (some ⟨s_.1, 0, none⟩)), (6, .pointer (some ⟨s_.2, 0, none⟩))]) (fun s_ w' => (w'.cell? (ad101.add (((ji4)).toNat * 2)) = some (.int .i64 ((rd_T41 l0 (ji4)).f0)) ∧ w'.cell? ⟨(ad101.add (((ji4)).toNat * 2)).block, (ad101.add (((ji4)).toNat * 2)).off + 1, none⟩ = some (.int .i64 ((rd_T41 l0 (ji4)).f1)) ∧ w'.cell? (ad101.add (((ji7)).toNat * 2)) = some (.int .i64 ((rd_T41 l0 (ji7)).f0)) ∧ w'.cell? ⟨(ad101.add (((ji7)).toNat * 2)).block, (ad101.add (((ji7)).toNat * 2)).off + 1, none⟩ = some (.int .i64 ((rd_T41 l0 (ji7)).f1))) ∧ (w'.heap[s_.1]? = some (.cells #[.int .i64 0, .int .i64 0] 41 (0, 0))) ∧ (w'.heap[s_.2]? = some (.cells #[.int .i64 0, .int .i64 0] 41 (0, 0))) ∧ (w.heap.size ≤ s_.1) ∧ (w.heap.size ≤ s_.1) ∧ (s_.2 ≠ s_.1) ∧ (s_.1 ≠ s_.2) ∧ (w.heap.size ≤ s_.2) ∧ (w.heap.size ≤ s_.2) ∧ (Below w.heap.size w w')) ?_ ?_
     rotate_left
     ·intro hCont
      refine two_ (i := 16) (j := 17) (Ni := some 5) (Nj := some 6) #[T,T,T,T,T,T,T,T,T,T,T,T,T,T,T,T,T,N,N,N] #[T,T,T,T,T,T,T,T,T,T,T,T,T,T,T,T,N,T,N,N] rfl rfl rfl rfl (on2 HT_) (by decide) (by decide) (fun K hK => ?_) (fun K hK => ?_)
      ·skip
       refine bxs 5 #[.int .i64 0, .int .i64 0] 41 ?_
       intro gb103 hg w14 hbox hb
       have BK103 := Aside0.mk (hbox)
       have GW103 := ga w hg
       have GE103 := GW103
       replace HB := bz hb
       clear hb hbox hg
       refine hK.out _ _ ⟨(hc HB hw101_0), (hc HB hw101_1), (hc HB hw102_0), (hc HB hw102_1)⟩ (fun hHeld => ?_)
       clear hK K
       refine nm 5 ?_
       refine one_ (i := 17) (N := some 6) #[T,T,T,T,T,T,T,T,T,T,T,T,T,T,T,T,T,T,N,N] rfl rfl (on1 HT_) (by decide) (fun K hK => ?_)
       refine bxs 6 #[.int .i64 0, .int .i64 0] 41 ?_
       intro gb104 hg w15 hbox hb
       have BK104 := Aside0.mk (hbox)
       have GW104 := ga w hg
       have GE104 := GW104
       have NB103_104 := nb hg (kl BK103)
       have NB104_103 := bn NB103_104
       replace BK103 := kb BK103 hb
       replace HB := bz hb
       clear hb hbox hg
       refine hK.out _ _ ⟨(hc HB hw101_0), (hc HB hw101_1), (hc HB hw102_0), (hc HB hw102_1)⟩ (fun hHeld => ?_)
       clear hK K
       refine nm 6 ?_
       exact norm_ pa (hCont (gb103, gb104) _ ⟨hHeld, bk BK103, bk BK104, GW103.out, GE103.out, NB104_103.out, NB103_104.out, GW104.out, GE104.out, bh⟩)
      ·skip
       refine bxs 6 #[.int .i64 0, .int .i64 0] 41 ?_
       intro gb104 hg w14 hbox hb
       have BK104 := Aside0.mk (hbox)
       have GW104 := ga w hg
       have GE104 := GW104
       replace HB := bz hb
       clear hb hbox hg
       refine hK.out _ _ ⟨(hc HB hw101_0), (hc HB hw101_1), (hc HB hw102_0), (hc HB hw102_1)⟩ (fun hHeld => ?_)
       clear hK K
       refine nm 6 ?_
       refine one_ (i := 16) (N := some 5) #[T,T,T,T,T,T,T,T,T,T,T,T,T,T,T,T,T,T,N,N] rfl rfl (on1 HT_) (by decide) (fun K hK => ?_)
       refine bxs 5 #[.int .i64 0, .int .i64 0] 41 ?_
       intro gb103 hg w15 hbox hb
       have BK103 := Aside0.mk (hbox)
       have GW103 := ga w hg
       have GE103 := GW103
       have NB104_103 := nb hg (kl BK104)
       have NB103_104 := bn NB104_103
       replace BK104 := kb BK104 hb
       replace HB := bz hb
       clear hb hbox hg
       refine hK.out _ _ ⟨(hc HB hw101_0), (hc HB hw101_1), (hc HB hw102_0), (hc HB hw102_1)⟩ (fun hHeld => ?_)
       clear hK K
       refine nm 5 ?_
       exact norm_ pa (hCont (gb103, gb104) _ ⟨hHeld, bk BK103, bk BK104, GW103.out, GE103.out, NB104_103.out, NB103_104.out, GW104.out, GE104.out, bh⟩)
     rintro ⟨gb103, gb104⟩ w16 ⟨hS_, h0_, h1_, h2_, h3_, h4_, h5_, h6_, h7_, h8_⟩
     have BK103 := Aside0.mk h0_
     have BK104 := Aside0.mk h1_
     have GW103 := Aside0.mk h2_
     have GE103 := Aside0.mk h3_
     have NB104_103 := Aside0.mk h4_
     have NB103_104 := Aside0.mk h5_
     have GW104 := Aside0.mk h6_
     have GE104 := Aside0.mk h7_
     replace HB := Aside0.mk h8_
     clear h0_ h1_ h2_ h3_ h4_ h5_ h6_ h7_ h8_
     have hHeld := hS_
     refine nn ?_
     refine one_ (i := 18) (N := none) #[T,T,T,T,T,T,T,T,T,T,T,T,T,T,T,T,T,T,T,N] rfl rfl (on1 HT_) (by decide) (fun K hK => ?_)
     have hs17 : w16.cell? ⟨gb103, 0, none⟩ = some (.int .i64 0) := bc BK103 0
     have hfs17 := blk_frozen BK103.out 0
     have hns17_1 := NB104_103.out
     have hms17_1 := NB103_104.out
     have hs18 : w16.cell? ⟨gb103, 1, none⟩ = some (.int .i64 0) := bc BK103 1
     have hfs18 := blk_frozen BK103.out 1
     have hns18_1 := NB104_103.out
     have hms18_1 := NB103_104.out
     refine skip_ (w1 := ?_) (by rfl) rfl ?_ ?_
     rotate_left
     ·go_simp
      rfl
     refine hK.out _ _ ⟨((cell_far (p := ⟨gb103, _, none⟩) (fr hw101_0 GW103) _).trans (((cell_far (p := ⟨gb103, _, none⟩) (fr hw101_0 GW103) _).trans (hHeld.1)))), ((cell_far (p := ⟨gb103, _, none⟩) (fr hw101_1 GW103) _).trans (((cell_far (p := ⟨gb103, _, none⟩) (fr hw101_1 GW103) _).trans (hHeld.2.1)))), ((cell_far (p := ⟨gb103, _, none⟩) (fr hw102_0 GW103) _).trans (((cell_far (p := ⟨gb103, _, none⟩) (fr hw102_0 GW103) _).trans (hHeld.2.2.1)))), ((cell_far (p := ⟨gb103, _, none⟩) (fr hw102_1 GW103) _).trans (((cell_far (p := ⟨gb103, _, none⟩) (fr hw102_1 GW103) _).trans (hHeld.2.2.2))))⟩ (fun hHeld => ?_)
     clear hK K
     refine one_ (i := 19) (N := none) #[T,T,T,T,T,T,T,T,T,T,T,T,T,T,T,T,T,T,T,T] rfl rfl (on1 HT_) (by decide) (fun K hK => ?_)
     have hs19 : w16.cell? ⟨gb104, 0, none⟩ = some (.int .i64 0) := bc BK104 0
     have hfs19 := blk_frozen BK104.out 0
     have hns19_0 := NB103_104.out
     have hms19_0 := NB104_103.out
     have hs20 : w16.cell? ⟨gb104, 1, none⟩ = some (.int .i64 0) := bc BK104 1
     have hfs20 := blk_frozen BK104.out 1
     have hns20_0 := NB103_104.out
     have hms20_0 := NB104_103.out
     refine skip_ (w1 := ?_) (by rfl) rfl ?_ ?_
     rotate_left
     ·go_simp
      rfl
     refine hK.out _ _ ⟨((cell_far (p := ⟨gb104, _, none⟩) (fr hw101_0 GW104) _).trans (((cell_far (p := ⟨gb104, _, none⟩) (fr hw101_0 GW104) _).trans (hHeld.1)))), ((cell_far (p := ⟨gb104, _, none⟩) (fr hw101_1 GW104) _).trans (((cell_far (p := ⟨gb104, _, none⟩) (fr hw101_1 GW104) _).trans (hHeld.2.1)))), ((cell_far (p := ⟨gb104, _, none⟩) (fr hw102_0 GW104) _).trans (((cell_far (p := ⟨gb104, _, none⟩) (fr hw102_0 GW104) _).trans (hHeld.2.2.1)))), ((cell_far (p := ⟨gb104, _, none⟩) (fr hw102_1 GW104) _).trans (((cell_far (p := ⟨gb104, _, none⟩) (fr hw102_1 GW104) _).trans (hHeld.2.2.2))))⟩ (fun hHeld => ?_)
     clear hK K
     refine done_ (done_of HT_.out (by kernel_rfl)) ?_
     try go_wp2
     have n0_ : Aside0 (((((w16.setCell ⟨gb103, 0, none⟩ (.int .i64 ((rd_T41 l0 (ji4)).f0))).setCell ⟨gb103, 1, none⟩ (.int .i64 ((rd_T41 l0 (ji4)).f1))).setCell ⟨gb104, 0, none⟩ (.int .i64 ((rd_T41 l0 (ji7)).f0))).setCell ⟨gb104, 1, none⟩ (.int .i64 ((rd_T41 l0 (ji7)).f1))).heap[gb103]? = some (.cells #[.int .i64 ((rd_T41 l0 (ji4)).f0), .int .i64 ((rd_T41 l0 (ji4)).f1)] 41 (0, 0))) := ⟨by refine bf NB103_104 ?_; refine bf NB103_104 ?_; refine bd ?_; refine blk_put (cs := #[.int .i64 ((rd_T41 l0 (ji4)).f0), .int .i64 0]) ?_ 1 _ rfl; refine bd ?_; refine blk_put (cs := #[.int .i64 0, .int .i64 0]) ?_ 0 _ rfl; refine bd ?_; exact BK103.out⟩
     have n1_ : Aside0 (((((w16.setCell ⟨gb103, 0, none⟩ (.int .i64 ((rd_T41 l0 (ji4)).f0))).setCell ⟨gb103, 1, none⟩ (.int .i64 ((rd_T41 l0 (ji4)).f1))).setCell ⟨gb104, 0, none⟩ (.int .i64 ((rd_T41 l0 (ji7)).f0))).setCell ⟨gb104, 1, none⟩ (.int .i64 ((rd_T41 l0 (ji7)).f1))).heap[gb104]? = some (.cells #[.int .i64 ((rd_T41 l0 (ji7)).f0), .int .i64 ((rd_T41 l0 (ji7)).f1)] 41 (0, 0))) := ⟨by refine bd ?_; refine blk_put (cs := #[.int .i64 ((rd_T41 l0 (ji7)).f0), .int .i64 0]) ?_ 1 _ rfl; refine bd ?_; refine blk_put (cs := #[.int .i64 0, .int .i64 0]) ?_ 0 _ rfl; refine bf NB104_103 ?_; refine bf NB104_103 ?_; refine bd ?_; exact BK104.out⟩
     have n2_ : Aside0 (Below w.heap.size w ((((w16.setCell ⟨gb103, 0, none⟩ (.int .i64 ((rd_T41 l0 (ji4)).f0))).setCell ⟨gb103, 1, none⟩ (.int .i64 ((rd_T41 l0 (ji4)).f1))).setCell ⟨gb104, 0, none⟩ (.int .i64 ((rd_T41 l0 (ji7)).f0))).setCell ⟨gb104, 1, none⟩ (.int .i64 ((rd_T41 l0 (ji7)).f1)))) := ⟨bh⟩
     (try clear BK103); (try clear BK104); (try clear HB)
     generalize ((((w16.setCell ⟨gb103, 0, none⟩ (.int .i64 ((rd_T41 l0 (ji4)).f0))).setCell ⟨gb103, 1, none⟩ (.int .i64 ((rd_T41 l0 (ji4)).f1))).setCell ⟨gb104, 0, none⟩ (.int .i64 ((rd_T41 l0 (ji7)).f0))).setCell ⟨gb104, 1, none⟩ (.int .i64 ((rd_T41 l0 (ji7)).f1))) = w21 at n0_ n1_ n2_ ⊢
     have BK103 := n0_
     have BK104 := n1_
     have HB := n2_
     clear n0_ n1_ n2_
     replace BK103 := Aside0.mk (blk_drew BK103.out)
     replace BK104 := Aside0.mk (blk_drew BK104.out)
     replace HB := Aside0.mk (below_drew1 HB.out)
     have p105 : 0 ≤ (x13_1 : Int) := dt
     have q105 : x13_1 < (l0.length : Int) := dt
     obtain ⟨ad105, e105, hx105_0, hx105_1⟩ := at_T41 HR0.out x13_1 p105 q105
     have hw105_1 := hx105_1
     have hw105_0 := hx105_0
     obtain rfl : ad101 = ad105 := (by injection e105)
     replace hx105_0 := hc HB hx105_0
     replace hx105_1 := hc HB hx105_1
     replace p105 := eq_true p105
     replace q105 := eq_true q105
     refine start_ (n := 6) (S := fun w' => w'.cell? ⟨gb104, 0, none⟩ = some (.int .i64 ((rd_T41 l0 (ji7)).f0)) ∧ w'.cell? ⟨gb104, 1, none⟩ = some (.int .i64 ((rd_T41 l0 (ji7)).f1)) ∧ w'.cell? (ad101.add ((x13_1).toNat * 2)) = some (.int .i64 ((rd_T41 l0 x13_1).f0)) ∧ w'.cell? ⟨(ad101.add ((x13_1).toNat * 2)).block, (ad101.add ((x13_1).toNat * 2)).off + 1, none⟩ = some (.int .i64 ((rd_T41 l0 x13_1).f1))) (ds := []) #[N,N,N,N,N,N] (by kernel_rfl) rfl rfl ⟨bc BK104 0, bc BK104 1, (hc HB hw105_0), (hc HB hw105_1)⟩ (fun hHeld => ?_)
     generalize w21.drew = w22 at BK103 BK104 HB hx105_0 hx105_1 hHeld ⊢
     refine pure_ (i := 0) (N := some 32) (v := ?_) (a' := ?_) #[T,N,N,N,N,N] rfl rfl (by kernel_rfl) (fun _ _ _ h => h) (Or.inl ⟨by rfl, ?_⟩) ?_ ?_
     rotate_left
     ·intro w'
      go_simp
      with_reducible rfl
     rotate_left
     ·simp only [Act.put, List.setIfInBounds_toArray, List.set_cons_zero, List.set_cons_succ, i64_w, i32_w]
      rfl
     refine pure_ (i := 1) (N := some 33) (v := ?_) (a' := ?_) #[T,T,N,N,N,N] rfl rfl (by kernel_rfl) (fun _ _ _ h => h) (Or.inl ⟨by rfl, ?_⟩) ?_ ?_
     rotate_left
     ·intro w'
      go_simp
      with_reducible rfl
     rotate_left
     ·simp only [Act.put, List.setIfInBounds_toArray, List.set_cons_zero, List.set_cons_succ, i64_w, i32_w]
      rfl
     refine pure_ (i := 2) (N := some 34) (v := ?_) (a' := ?_) #[T,T,T,N,N,N] rfl rfl (by kernel_rfl) (fun _ _ _ h => h) (Or.inl ⟨by rfl, ?_⟩) ?_ ?_
     rotate_left
     ·intro w'
      go_simp
      with_reducible rfl
     rotate_left
     ·simp only [Act.put, List.setIfInBounds_toArray, List.set_cons_zero, List.set_cons_succ, i64_w, i32_w]
      rfl
     refine take_ (i := 3) (N := some 35) (v := ?_) (a' := ?_) #[T,T,T,T,N,N] rfl rfl (by kernel_rfl) (fun _ _ _ h => h) (Or.inl ⟨by rfl, ?_⟩) hHeld ?_ ?_
     rotate_left
     ·rintro w' ⟨s0, s1, s2, s3⟩
      go_simp
      with_reducible rfl
     rotate_left
     ·simp only [Act.put, List.setIfInBounds_toArray, List.set_cons_zero, List.set_cons_succ, i64_w, i32_w]
      rfl
     refine take_ (i := 4) (N := some 36) (v := ?_) (a' := ?_) #[T,T,T,T,T,N] rfl rfl (by kernel_rfl) (fun _ _ _ h => h) (Or.inl ⟨by rfl, ?_⟩) hHeld ?_ ?_
     rotate_left
     ·rintro w' ⟨s0, s1, s2, s3⟩
      go_simp
      with_reducible rfl
     rotate_left
     ·simp only [Act.put, List.setIfInBounds_toArray, List.set_cons_zero, List.set_cons_succ, i64_w, i32_w]
      rfl
     refine pure_ (i := 5) (N := some 37) (v := ?_) (a' := ?_) #[T,T,T,T,T,T] rfl rfl (by kernel_rfl) (fun _ _ _ h => h) (Or.inl ⟨by rfl, ?_⟩) ?_ ?_
     rotate_left
     ·intro w'
      go_simp
      with_reducible rfl
     rotate_left
     ·simp only [Act.put, List.setIfInBounds_toArray, List.set_cons_zero, List.set_cons_succ, i64_w, i32_w]
      rfl
     refine done_ (by kernel_rfl) ?_
     try go_wp2
     go_ret
     exact ⟨by first | rfl | (simp [errW_none, errW_some] <;> rfl) | (simp only [← hji4, ← hji7]; first | rfl | (simp [errW_none, errW_some] <;> rfl)) | (simp [*, errW_none, errW_some] <;> rfl), bh⟩
    ·rw [if_neg c12] at H
     have c12b0 : (((rd_T41 l0 x13_1).f0) == ((rd_T41 l0 (ji7)).f0) && (((rd_T41 l0 x13_1).f1) == ((rd_T41 l0 (ji7)).f1))) = false := by simpa using c12
     (try (have c12b1 : decide (((rd_T41 l0 x13_1).f0) = ((rd_T41 l0 (ji7)).f0) && (((rd_T41 l0 x13_1).f1) == ((rd_T41 l0 (ji7)).f1))) = false := by simpa using c12))
     (try (have c12b2 : (((rd_T41 l0 x13_1).f0) == ((rd_T41 l0 (ji7)).f0) && (((rd_T41 l0 x13_1).f1) == ((rd_T41 l0 (ji7)).f1))) = false := by simpa using c12))
     (try (have c12b3 : ¬ (((rd_T41 l0 x13_1).f0) = ((rd_T41 l0 (ji7)).f0) && (((rd_T41 l0 x13_1).f1) == ((rd_T41 l0 (ji7)).f1))) := by simpa using c12))
     clear c12
     replace H := Option.bind_eq_some_iff.mp H
     obtain ⟨⟨t107, t108⟩, A230, H⟩ := H
     try dsimp only at H
     have A23 := Aside0.mk A230
     clear A230
     replace H := Option.bind_eq_some_iff.mp H
     obtain ⟨⟨t110, t111⟩, A240, H⟩ := H
     try dsimp only at H
     have A24 := Aside0.mk A240
     clear A240
     have HC25 := Aside0.mk H
     clear H
     try go_wp2
     replace HB := Aside0.mk (below_drew1 HB.out)
     have p101 : 0 ≤ ((ji4) : Int) := dt
     have q101 : (ji4) < (l0.length : Int) := dt
     obtain ⟨ad101, e101, hx101_0, hx101_1⟩ := at_T41 HR0.out (ji4) p101 q101
     have hw101_1 := hx101_1
     have hw101_0 := hx101_0
     cases e101
     replace hx101_0 := hc HB hx101_0
     replace hx101_1 := hc HB hx101_1
     replace p101 := eq_true p101
     replace q101 := eq_true q101
     have p102 : 0 ≤ ((ji7) : Int) := dt
     have q102 : (ji7) < (l0.length : Int) := dt
     obtain ⟨ad102, e102, hx102_0, hx102_1⟩ := at_T41 HR0.out (ji7) p102 q102
     have hw102_1 := hx102_1
     have hw102_0 := hx102_0
     obtain rfl : ad101 = ad102 := (by injection e102)
     replace hx102_0 := hc HB hx102_0
     replace hx102_1 := hc HB hx102_1
     replace p102 := eq_true p102
     replace q102 := eq_true q102
     refine start_ (n := 20) (S := fun w' => w'.cell? (ad101.add (((ji4)).toNat * 2)) = some (.int .i64 ((rd_T41 l0 (ji4)).f0)) ∧ w'.cell? ⟨(ad101.add (((ji4)).toNat * 2)).block, (ad101.add (((ji4)).toNat * 2)).off + 1, none⟩ = some (.int .i64 ((rd_T41 l0 (ji4)).f1)) ∧ w'.cell? (ad101.add (((ji7)).toNat * 2)) = some (.int .i64 ((rd_T41 l0 (ji7)).f0)) ∧ w'.cell? ⟨(ad101.add (((ji7)).toNat * 2)).block, (ad101.add (((ji7)).toNat * 2)).off + 1, none⟩ = some (.int .i64 ((rd_T41 l0 (ji7)).f1))) (ds := []) #[N,N,N,N,N,N,N,N,N,N,N,N,N,N,N,N,N,N,N,N] (by kernel_rfl) rfl rfl ⟨(hc HB hw101_0), (hc HB hw101_1), (hc HB hw102_0), (hc HB hw102_1)⟩ (fun hHeld => ?_); refine with_tabW shape_simple.tab5 shape_simple.bits5 (fun HT_ HW_ => ?_)
     generalize wr.drew = w26 at HB hx101_0 hx101_1 hx102_0 hx102_1 hHeld ⊢
     refine pu 0 16 HT_ ?_
     refine pu 1 17 HT_ ?_
     refine pu 2 18 HT_ ?_
     refine pu 3 19 HT_ ?_
     refine pu 4 20 HT_ ?_
     refine pu 5 21 HT_ ?_
     refine pu 6 22 HT_ ?_
     refine pu 7 23 HT_ ?_
     refine pu 9 25 HT_ ?_
     refine pu 10 26 HT_ ?_
     refine pu 11 27 HT_ ?_
     refine pu 12 28 HT_ ?_
     refine pu 13 29 HT_ ?_
     refine pu 14 30 HT_ ?_
     refine tk4 8 24 hHeld HT_ HW_ ?_
     refine tk4 15 31 hHeld HT_ HW_ ?_
     refine join_ (σ := Nat × Nat) 2 #[T,T,T,T,T,T,T,T,T,T,T,T,T,T,T,T,T,T,N,N] (fun s_ => [(5, .pointer (some ⟨s_.1, 0, none⟩)), (6, .pointer (some ⟨s_.2, 0, none⟩))]) (fun s_ w' => (w'.cell? (ad101.add (((ji4)).toNat * 2)) = some (.int .i64 ((rd_T41 l0 (ji4)).f0)) ∧ w'.cell? ⟨(ad101.add (((ji4)).toNat * 2)).block, (ad101.add (((ji4)).toNat * 2)).off + 1, none⟩ = some (.int .i64 ((rd_T41 l0 (ji4)).f1)) ∧ w'.cell? (ad101.add (((ji7)).toNat * 2)) = some (.int .i64 ((rd_T41 l0 (ji7)).f0)) ∧ w'.cell? ⟨(ad101.add (((ji7)).toNat * 2)).block, (ad101.add (((ji7)).toNat * 2)).off + 1, none⟩ = some (.int .i64 ((rd_T41 l0 (ji7)).f1))) ∧ (w'.heap[s_.1]? = some (.cells #[.int .i64 0, .int .i64 0] 41 (0, 0))) ∧ (w'.heap[s_.2]? = some (.cells #[.int .i64 0, .int .i64 0] 41 (0, 0))) ∧ (w.heap.size ≤ s_.1) ∧ (w.heap.size ≤ s_.1) ∧ (s_.2 ≠ s_.1) ∧ (s_.1 ≠ s_.2) ∧ (w.heap.size ≤ s_.2) ∧ (w.heap.size ≤ s_.2) ∧ (Below w.heap.size w w')) ?_ ?_
     rotate_left
     ·intro hCont
      refine two_ (i := 16) (j := 17) (Ni := some 5) (Nj := some 6) #[T,T,T,T,T,T,T,T,T,T,T,T,T,T,T,T,T,N,N,N] #[T,T,T,T,T,T,T,T,T,T,T,T,T,T,T,T,N,T,N,N] rfl rfl rfl rfl (on2 HT_) (by decide) (by decide) (fun K hK => ?_) (fun K hK => ?_)
      ·skip
       refine bxs 5 #[.int .i64 0, .int .i64 0] 41 ?_
       intro gb103 hg w27 hbox hb
       have BK103 := Aside0.mk (hbox)
       have GW103 := ga w hg
       have GE103 := GW103
       replace HB := bz hb
       clear hb hbox hg
       refine hK.out _ _ ⟨(hc HB hw101_0), (hc HB hw101_1), (hc HB hw102_0), (hc HB hw102_1)⟩ (fun hHeld => ?_)
       clear hK K
       refine nm 5 ?_
       refine one_ (i := 17) (N := some 6) #[T,T,T,T,T,T,T,T,T,T,T,T,T,T,T,T,T,T,N,N] rfl rfl (on1 HT_) (by decide) (fun K hK => ?_)
       refine bxs 6 #[.int .i64 0, .int .i64 0] 41 ?_
       intro gb104 hg w28 hbox hb
       have BK104 := Aside0.mk (hbox)
       have GW104 := ga w hg
       have GE104 := GW104
       have NB103_104 := nb hg (kl BK103)
       have NB104_103 := bn NB103_104
       replace BK103 := kb BK103 hb
       replace HB := bz hb
       clear hb hbox hg
       refine hK.out _ _ ⟨(hc HB hw101_0), (hc HB hw101_1), (hc HB hw102_0), (hc HB hw102_1)⟩ (fun hHeld => ?_)
       clear hK K
       refine nm 6 ?_
       exact norm_ pa (hCont (gb103, gb104) _ ⟨hHeld, bk BK103, bk BK104, GW103.out, GE103.out, NB104_103.out, NB103_104.out, GW104.out, GE104.out, bh⟩)
      ·skip
       refine bxs 6 #[.int .i64 0, .int .i64 0] 41 ?_
       intro gb104 hg w27 hbox hb
       have BK104 := Aside0.mk (hbox)
       have GW104 := ga w hg
       have GE104 := GW104
       replace HB := bz hb
       clear hb hbox hg
       refine hK.out _ _ ⟨(hc HB hw101_0), (hc HB hw101_1), (hc HB hw102_0), (hc HB hw102_1)⟩ (fun hHeld => ?_)
       clear hK K
       refine nm 6 ?_
       refine one_ (i := 16) (N := some 5) #[T,T,T,T,T,T,T,T,T,T,T,T,T,T,T,T,T,T,N,N] rfl rfl (on1 HT_) (by decide) (fun K hK => ?_)
       refine bxs 5 #[.int .i64 0, .int .i64 0] 41 ?_
       intro gb103 hg w28 hbox hb
       have BK103 := Aside0.mk (hbox)
       have GW103 := ga w hg
       have GE103 := GW103
       have NB104_103 := nb hg (kl BK104)
       have NB103_104 := bn NB104_103
       replace BK104 := kb BK104 hb
       replace HB := bz hb
       clear hb hbox hg
       refine hK.out _ _ ⟨(hc HB hw101_0), (hc HB hw101_1), (hc HB hw102_0), (hc HB hw102_1)⟩ (fun hHeld => ?_)
       clear hK K
       refine nm 5 ?_
       exact norm_ pa (hCont (gb103, gb104) _ ⟨hHeld, bk BK103, bk BK104, GW103.out, GE103.out, NB104_103.out, NB103_104.out, GW104.out, GE104.out, bh⟩)
     rintro ⟨gb103, gb104⟩ w29 ⟨hS_, h0_, h1_, h2_, h3_, h4_, h5_, h6_, h7_, h8_⟩
     have BK103 := Aside0.mk h0_
     have BK104 := Aside0.mk h1_
     have GW103 := Aside0.mk h2_
     have GE103 := Aside0.mk h3_
     have NB104_103 := Aside0.mk h4_
     have NB103_104 := Aside0.mk h5_
     have GW104 := Aside0.mk h6_
     have GE104 := Aside0.mk h7_
     replace HB := Aside0.mk h8_
     clear h0_ h1_ h2_ h3_ h4_ h5_ h6_ h7_ h8_
     have hHeld := hS_
     refine nn ?_
     refine one_ (i := 18) (N := none) #[T,T,T,T,T,T,T,T,T,T,T,T,T,T,T,T,T,T,T,N] rfl rfl (on1 HT_) (by decide) (fun K hK => ?_)
     have hs30 : w29.cell? ⟨gb103, 0, none⟩ = some (.int .i64 0) := bc BK103 0
     have hfs30 := blk_frozen BK103.out 0
     have hns30_1 := NB104_103.out
     have hms30_1 := NB103_104.out
     have hs31 : w29.cell? ⟨gb103, 1, none⟩ = some (.int .i64 0) := bc BK103 1
     have hfs31 := blk_frozen BK103.out 1
     have hns31_1 := NB104_103.out
     have hms31_1 := NB103_104.out
     refine skip_ (w1 := ?_) (by rfl) rfl ?_ ?_
     rotate_left
     ·go_simp
      rfl
     refine hK.out _ _ ⟨((cell_far (p := ⟨gb103, _, none⟩) (fr hw101_0 GW103) _).trans (((cell_far (p := ⟨gb103, _, none⟩) (fr hw101_0 GW103) _).trans (hHeld.1)))), ((cell_far (p := ⟨gb103, _, none⟩) (fr hw101_1 GW103) _).trans (((cell_far (p := ⟨gb103, _, none⟩) (fr hw101_1 GW103) _).trans (hHeld.2.1)))), ((cell_far (p := ⟨gb103, _, none⟩) (fr hw102_0 GW103) _).trans (((cell_far (p := ⟨gb103, _, none⟩) (fr hw102_0 GW103) _).trans (hHeld.2.2.1)))), ((cell_far (p := ⟨gb103, _, none⟩) (fr hw102_1 GW103) _).trans (((cell_far (p := ⟨gb103, _, none⟩) (fr hw102_1 GW103) _).trans (hHeld.2.2.2))))⟩ (fun hHeld => ?_)
     clear hK K
     refine one_ (i := 19) (N := none) #[T,T,T,T,T,T,T,T,T,T,T,T,T,T,T,T,T,T,T,T] rfl rfl (on1 HT_) (by decide) (fun K hK => ?_)
     have hs32 : w29.cell? ⟨gb104, 0, none⟩ = some (.int .i64 0) := bc BK104 0
     have hfs32 := blk_frozen BK104.out 0
     have hns32_0 := NB103_104.out
     have hms32_0 := NB104_103.out
     have hs33 : w29.cell? ⟨gb104, 1, none⟩ = some (.int .i64 0) := bc BK104 1
     have hfs33 := blk_frozen BK104.out 1
     have hns33_0 := NB103_104.out
     have hms33_0 := NB104_103.out
     refine skip_ (w1 := ?_) (by rfl) rfl ?_ ?_
     rotate_left
     ·go_simp
      rfl
     refine hK.out _ _ ⟨((cell_far (p := ⟨gb104, _, none⟩) (fr hw101_0 GW104) _).trans (((cell_far (p := ⟨gb104, _, none⟩) (fr hw101_0 GW104) _).trans (hHeld.1)))), ((cell_far (p := ⟨gb104, _, none⟩) (fr hw101_1 GW104) _).trans (((cell_far (p := ⟨gb104, _, none⟩) (fr hw101_1 GW104) _).trans (hHeld.2.1)))), ((cell_far (p := ⟨gb104, _, none⟩) (fr hw102_0 GW104) _).trans (((cell_far (p := ⟨gb104, _, none⟩) (fr hw102_0 GW104) _).trans (hHeld.2.2.1)))), ((cell_far (p := ⟨gb104, _, none⟩) (fr hw102_1 GW104) _).trans (((cell_far (p := ⟨gb104, _, none⟩) (fr hw102_1 GW104) _).trans (hHeld.2.2.2))))⟩ (fun hHeld => ?_)
     clear hK K
     refine done_ (done_of HT_.out (by kernel_rfl)) ?_
     try go_wp2
     have n0_ : Aside0 (((((w29.setCell ⟨gb103, 0, none⟩ (.int .i64 ((rd_T41 l0 (ji4)).f0))).setCell ⟨gb103, 1, none⟩ (.int .i64 ((rd_T41 l0 (ji4)).f1))).setCell ⟨gb104, 0, none⟩ (.int .i64 ((rd_T41 l0 (ji7)).f0))).setCell ⟨gb104, 1, none⟩ (.int .i64 ((rd_T41 l0 (ji7)).f1))).heap[gb103]? = some (.cells #[.int .i64 ((rd_T41 l0 (ji4)).f0), .int .i64 ((rd_T41 l0 (ji4)).f1)] 41 (0, 0))) := ⟨by refine bf NB103_104 ?_; refine bf NB103_104 ?_; refine bd ?_; refine blk_put (cs := #[.int .i64 ((rd_T41 l0 (ji4)).f0), .int .i64 0]) ?_ 1 _ rfl; refine bd ?_; refine blk_put (cs := #[.int .i64 0, .int .i64 0]) ?_ 0 _ rfl; refine bd ?_; exact BK103.out⟩
     have n1_ : Aside0 (((((w29.setCell ⟨gb103, 0, none⟩ (.int .i64 ((rd_T41 l0 (ji4)).f0))).setCell ⟨gb103, 1, none⟩ (.int .i64 ((rd_T41 l0 (ji4)).f1))).setCell ⟨gb104, 0, none⟩ (.int .i64 ((rd_T41 l0 (ji7)).f0))).setCell ⟨gb104, 1, none⟩ (.int .i64 ((rd_T41 l0 (ji7)).f1))).heap[gb104]? = some (.cells #[.int .i64 ((rd_T41 l0 (ji7)).f0), .int .i64 ((rd_T41 l0 (ji7)).f1)] 41 (0, 0))) := ⟨by refine bd ?_; refine blk_put (cs := #[.int .i64 ((rd_T41 l0 (ji7)).f0), .int .i64 0]) ?_ 1 _ rfl; refine bd ?_; refine blk_put (cs := #[.int .i64 0, .int .i64 0]) ?_ 0 _ rfl; refine bf NB104_103 ?_; refine bf NB104_103 ?_; refine bd ?_; exact BK104.out⟩
     have n2_ : Aside0 (Below w.heap.size w ((((w29.setCell ⟨gb103, 0, none⟩ (.int .i64 ((rd_T41 l0 (ji4)).f0))).setCell ⟨gb103, 1, none⟩ (.int .i64 ((rd_T41 l0 (ji4)).f1))).setCell ⟨gb104, 0, none⟩ (.int .i64 ((rd_T41 l0 (ji7)).f0))).setCell ⟨gb104, 1, none⟩ (.int .i64 ((rd_T41 l0 (ji7)).f1)))) := ⟨bh⟩
     (try clear BK103); (try clear BK104); (try clear HB)
     generalize ((((w29.setCell ⟨gb103, 0, none⟩ (.int .i64 ((rd_T41 l0 (ji4)).f0))).setCell ⟨gb103, 1, none⟩ (.int .i64 ((rd_T41 l0 (ji4)).f1))).setCell ⟨gb104, 0, none⟩ (.int .i64 ((rd_T41 l0 (ji7)).f0))).setCell ⟨gb104, 1, none⟩ (.int .i64 ((rd_T41 l0 (ji7)).f1))) = w34 at n0_ n1_ n2_ ⊢
     have BK103 := n0_
     have BK104 := n1_
     have HB := n2_
     clear n0_ n1_ n2_
     replace BK103 := Aside0.mk (blk_drew BK103.out)
     replace BK104 := Aside0.mk (blk_drew BK104.out)
     replace HB := Aside0.mk (below_drew1 HB.out)
     have p105 : 0 ≤ (x13_1 : Int) := dt
     have q105 : x13_1 < (l0.length : Int) := dt
     obtain ⟨ad105, e105, hx105_0, hx105_1⟩ := at_T41 HR0.out x13_1 p105 q105
     have hw105_1 := hx105_1
     have hw105_0 := hx105_0
     obtain rfl : ad101 = ad105 := (by injection e105)
     replace hx105_0 := hc HB hx105_0
     replace hx105_1 := hc HB hx105_1
     replace p105 := eq_true p105
     replace q105 := eq_true q105
     refine start_ (n := 6) (S := fun w' => w'.cell? ⟨gb104, 0, none⟩ = some (.int .i64 ((rd_T41 l0 (ji7)).f0)) ∧ w'.cell? ⟨gb104, 1, none⟩ = some (.int .i64 ((rd_T41 l0 (ji7)).f1)) ∧ w'.cell? (ad101.add ((x13_1).toNat * 2)) = some (.int .i64 ((rd_T41 l0 x13_1).f0)) ∧ w'.cell? ⟨(ad101.add ((x13_1).toNat * 2)).block, (ad101.add ((x13_1).toNat * 2)).off + 1, none⟩ = some (.int .i64 ((rd_T41 l0 x13_1).f1))) (ds := []) #[N,N,N,N,N,N] (by kernel_rfl) rfl rfl ⟨bc BK104 0, bc BK104 1, (hc HB hw105_0), (hc HB hw105_1)⟩ (fun hHeld => ?_)
     generalize w34.drew = w35 at BK103 BK104 HB hx105_0 hx105_1 hHeld ⊢
     refine pure_ (i := 0) (N := some 32) (v := ?_) (a' := ?_) #[T,N,N,N,N,N] rfl rfl (by kernel_rfl) (fun _ _ _ h => h) (Or.inl ⟨by rfl, ?_⟩) ?_ ?_
     rotate_left
     ·intro w'
      go_simp
      with_reducible rfl
     rotate_left
     ·simp only [Act.put, List.setIfInBounds_toArray, List.set_cons_zero, List.set_cons_succ, i64_w, i32_w]
      rfl
     refine pure_ (i := 1) (N := some 33) (v := ?_) (a' := ?_) #[T,T,N,N,N,N] rfl rfl (by kernel_rfl) (fun _ _ _ h => h) (Or.inl ⟨by rfl, ?_⟩) ?_ ?_
     rotate_left
     ·intro w'
      go_simp
      with_reducible rfl
     rotate_left
     ·simp only [Act.put, List.setIfInBounds_toArray, List.set_cons_zero, List.set_cons_succ, i64_w, i32_w]
      rfl
     refine pure_ (i := 2) (N := some 34) (v := ?_) (a' := ?_) #[T,T,T,N,N,N] rfl rfl (by kernel_rfl) (fun _ _ _ h => h) (Or.inl ⟨by rfl, ?_⟩) ?_ ?_
     rotate_left
     ·intro w'
      go_simp
      with_reducible rfl
     rotate_left
     ·simp only [Act.put, List.setIfInBounds_toArray, List.set_cons_zero, List.set_cons_succ, i64_w, i32_w]
      rfl
     refine take_ (i := 3) (N := some 35) (v := ?_) (a' := ?_) #[T,T,T,T,N,N] rfl rfl (by kernel_rfl) (fun _ _ _ h => h) (Or.inl ⟨by rfl, ?_⟩) hHeld ?_ ?_
     rotate_left
     ·rintro w' ⟨s0, s1, s2, s3⟩
      go_simp
      with_reducible rfl
     rotate_left
     ·simp only [Act.put, List.setIfInBounds_toArray, List.set_cons_zero, List.set_cons_succ, i64_w, i32_w]
      rfl
     refine take_ (i := 4) (N := some 36) (v := ?_) (a' := ?_) #[T,T,T,T,T,N] rfl rfl (by kernel_rfl) (fun _ _ _ h => h) (Or.inl ⟨by rfl, ?_⟩) hHeld ?_ ?_
     rotate_left
     ·rintro w' ⟨s0, s1, s2, s3⟩
      go_simp
      with_reducible rfl
     rotate_left
     ·simp only [Act.put, List.setIfInBounds_toArray, List.set_cons_zero, List.set_cons_succ, i64_w, i32_w]
      rfl
     refine pure_ (i := 5) (N := some 37) (v := ?_) (a' := ?_) #[T,T,T,T,T,T] rfl rfl (by kernel_rfl) (fun _ _ _ h => h) (Or.inl ⟨by rfl, ?_⟩) ?_ ?_
     rotate_left
     ·intro w'
      go_simp
      with_reducible rfl
     rotate_left
     ·simp only [Act.put, List.setIfInBounds_toArray, List.set_cons_zero, List.set_cons_succ, i64_w, i32_w]
      rfl
     refine done_ (by kernel_rfl) ?_
     try go_wp2
     replace BK103 := Aside0.mk (blk_drew BK103.out)
     replace BK104 := Aside0.mk (blk_drew BK104.out)
     replace HB := Aside0.mk (below_drew1 HB.out)
     have p106 : 0 ≤ (x13_1 : Int) := dt
     have q106 : x13_1 < (l0.length : Int) := dt
     obtain ⟨ad106, e106, hx106_0, hx106_1⟩ := at_T41 HR0.out x13_1 p106 q106
     have hw106_1 := hx106_1
     have hw106_0 := hx106_0
     obtain rfl : ad101 = ad106 := (by injection e106)
     replace hx106_0 := hc HB hx106_0
     replace hx106_1 := hc HB hx106_1
     replace p106 := eq_true p106
     replace q106 := eq_true q106
     have p109 : 0 ≤ (x13_1 : Int) := dt
     have q109 : x13_1 < (l0.length : Int) := dt
     obtain ⟨ad109, e109, hx109_0, hx109_1⟩ := at_T41 HR0.out x13_1 p109 q109
     have hw109_1 := hx109_1
     have hw109_0 := hx109_0
     obtain rfl : ad101 = ad109 := (by injection e109)
     replace hx109_0 := hc HB hx109_0
     replace hx109_1 := hc HB hx109_1
     replace p109 := eq_true p109
     replace q109 := eq_true q109
     refine start_ (n := 16) (S := fun w' => w'.cell? ⟨gb103, 0, none⟩ = some (.int .i64 ((rd_T41 l0 (ji4)).f0)) ∧ w'.cell? ⟨gb103, 1, none⟩ = some (.int .i64 ((rd_T41 l0 (ji4)).f1)) ∧ w'.cell? ⟨gb104, 0, none⟩ = some (.int .i64 ((rd_T41 l0 (ji7)).f0)) ∧ w'.cell? ⟨gb104, 1, none⟩ = some (.int .i64 ((rd_T41 l0 (ji7)).f1)) ∧ w'.cell? (ad101.add ((x13_1).toNat * 2)) = some (.int .i64 ((rd_T41 l0 x13_1).f0)) ∧ w'.cell? ⟨(ad101.add ((x13_1).toNat * 2)).block, (ad101.add ((x13_1).toNat * 2)).off + 1, none⟩ = some (.int .i64 ((rd_T41 l0 x13_1).f1)) ∧ w'.cell? (ad101.add ((x13_1).toNat * 2)) = some (.int .i64 ((rd_T41 l0 x13_1).f0)) ∧ w'.cell? ⟨(ad101.add ((x13_1).toNat * 2)).block, (ad101.add ((x13_1).toNat * 2)).off + 1, none⟩ = some (.int .i64 ((rd_T41 l0 x13_1).f1))) (ds := []) #[N,N,N,N,N,N,N,N,N,N,N,N,N,N,N,N] (by kernel_rfl) rfl rfl ⟨bc BK103 0, bc BK103 1, bc BK104 0, bc BK104 1, (hc HB hw106_0), (hc HB hw106_1), (hc HB hw109_0), (hc HB hw109_1)⟩ (fun hHeld => ?_); refine with_tabW shape_simple.tab8 shape_simple.bits8 (fun HT_ HW_ => ?_)
     generalize w35.drew = w36 at BK103 BK104 HB hx106_0 hx106_1 hx109_0 hx109_1 hHeld ⊢
     refine pu 1 39 HT_ ?_
     refine pu 2 40 HT_ ?_
     refine pu 3 41 HT_ ?_
     refine pu 7 45 HT_ ?_
     refine pu 8 46 HT_ ?_
     refine pu 9 47 HT_ ?_
     refine tk8 0 38 hHeld HT_ HW_ ?_
     refine tk8 4 42 hHeld HT_ HW_ ?_
     refine tk8 6 44 hHeld HT_ HW_ ?_
     refine tk8 10 48 hHeld HT_ HW_ ?_
     refine join_ (σ := Nat × Nat) 2 #[T,T,T,T,T,T,T,T,T,T,T,T,T,T,N,N] (fun s_ => [(43, .agg #[.int .i64 t107, .int .i64 t108]), (49, .agg #[.int .i64 t110, .int .i64 t111]), (7, .pointer (some ⟨s_.1, 0, none⟩)), (8, .pointer (some ⟨s_.2, 0, none⟩))]) (fun s_ w' => (w'.cell? ⟨gb103, 0, none⟩ = some (.int .i64 ((rd_T41 l0 (ji4)).f0)) ∧ w'.cell? ⟨gb103, 1, none⟩ = some (.int .i64 ((rd_T41 l0 (ji4)).f1)) ∧ w'.cell? ⟨gb104, 0, none⟩ = some (.int .i64 ((rd_T41 l0 (ji7)).f0)) ∧ w'.cell? ⟨gb104, 1, none⟩ = some (.int .i64 ((rd_T41 l0 (ji7)).f1)) ∧ w'.cell? (ad101.add ((x13_1).toNat * 2)) = some (.int .i64 ((rd_T41 l0 x13_1).f0)) ∧ w'.cell? ⟨(ad101.add ((x13_1).toNat * 2)).block, (ad101.add ((x13_1).toNat * 2)).off + 1, none⟩ = some (.int .i64 ((rd_T41 l0 x13_1).f1)) ∧ w'.cell? (ad101.add ((x13_1).toNat * 2)) = some (.int .i64 ((rd_T41 l0 x13_1).f0)) ∧ w'.cell? ⟨(ad101.add ((x13_1).toNat * 2)).block, (ad101.add ((x13_1).toNat * 2)).off + 1, none⟩ = some (.int .i64 ((rd_T41 l0 x13_1).f1))) ∧ (w'.heap[gb103]? = some (.cells #[.int .i64 ((rd_T41 l0 (ji4)).f0), .int .i64 ((rd_T41 l0 (ji4)).f1)] 41 (0, 0))) ∧ (w'.heap[gb104]? = some (.cells #[.int .i64 ((rd_T41 l0 (ji7)).f0), .int .i64 ((rd_T41 l0 (ji7)).f1)] 41 (0, 0))) ∧ (w'.heap[s_.1]? = some (.cells #[.int .i64 0, .int .i64 0] 41 (0, 0))) ∧ (w'.heap[s_.2]? = some (.cells #[.int .i64 0, .int .i64 0] 41 (0, 0))) ∧ (w.heap.size ≤ s_.1) ∧ (w.heap.size ≤ s_.1) ∧ (gb103 ≠ s_.1) ∧ (s_.1 ≠ gb103) ∧ (gb104 ≠ s_.1) ∧ (s_.1 ≠ gb104) ∧ (s_.2 ≠ s_.1) ∧ (s_.1 ≠ s_.2) ∧ (w.heap.size ≤ s_.2) ∧ (w.heap.size ≤ s_.2) ∧ (gb103 ≠ s_.2) ∧ (s_.2 ≠ gb103) ∧ (gb104 ≠ s_.2) ∧ (s_.2 ≠ gb104) ∧ (Below w.heap.size w w')) ?_ ?_
     rotate_left
     ·intro hJ5_11_12_13
      refine join_ (σ := Nat) 3 #[T,T,T,T,T,T,T,T,T,T,T,T,T,N,N,N] (fun s_ => [(43, .agg #[.int .i64 t107, .int .i64 t108]), (49, .agg #[.int .i64 t110, .int .i64 t111]), (7, .pointer (some ⟨s_, 0, none⟩))]) (fun s_ w' => (w'.cell? ⟨gb103, 0, none⟩ = some (.int .i64 ((rd_T41 l0 (ji4)).f0)) ∧ w'.cell? ⟨gb103, 1, none⟩ = some (.int .i64 ((rd_T41 l0 (ji4)).f1)) ∧ w'.cell? ⟨gb104, 0, none⟩ = some (.int .i64 ((rd_T41 l0 (ji7)).f0)) ∧ w'.cell? ⟨gb104, 1, none⟩ = some (.int .i64 ((rd_T41 l0 (ji7)).f1)) ∧ w'.cell? (ad101.add ((x13_1).toNat * 2)) = some (.int .i64 ((rd_T41 l0 x13_1).f0)) ∧ w'.cell? ⟨(ad101.add ((x13_1).toNat * 2)).block, (ad101.add ((x13_1).toNat * 2)).off + 1, none⟩ = some (.int .i64 ((rd_T41 l0 x13_1).f1)) ∧ w'.cell? (ad101.add ((x13_1).toNat * 2)) = some (.int .i64 ((rd_T41 l0 x13_1).f0)) ∧ w'.cell? ⟨(ad101.add ((x13_1).toNat * 2)).block, (ad101.add ((x13_1).toNat * 2)).off + 1, none⟩ = some (.int .i64 ((rd_T41 l0 x13_1).f1))) ∧ (w'.heap[gb103]? = some (.cells #[.int .i64 ((rd_T41 l0 (ji4)).f0), .int .i64 ((rd_T41 l0 (ji4)).f1)] 41 (0, 0))) ∧ (w'.heap[gb104]? = some (.cells #[.int .i64 ((rd_T41 l0 (ji7)).f0), .int .i64 ((rd_T41 l0 (ji7)).f1)] 41 (0, 0))) ∧ (w'.heap[s_]? = some (.cells #[.int .i64 0, .int .i64 0] 41 (0, 0))) ∧ (w.heap.size ≤ s_) ∧ (w.heap.size ≤ s_) ∧ (gb103 ≠ s_) ∧ (s_ ≠ gb103) ∧ (gb104 ≠ s_) ∧ (s_ ≠ gb104) ∧ (Below w.heap.size w w')) ?_ ?_
      rotate_left
      ·intro hJ5_11_12
       refine join_ (σ := Nat) 3 #[T,T,T,T,T,T,T,T,T,T,T,T,N,T,N,N] (fun s_ => [(43, .agg #[.int .i64 t107, .int .i64 t108]), (49, .agg #[.int .i64 t110, .int .i64 t111]), (8, .pointer (some ⟨s_, 0, none⟩))]) (fun s_ w' => (w'.cell? ⟨gb103, 0, none⟩ = some (.int .i64 ((rd_T41 l0 (ji4)).f0)) ∧ w'.cell? ⟨gb103, 1, none⟩ = some (.int .i64 ((rd_T41 l0 (ji4)).f1)) ∧ w'.cell? ⟨gb104, 0, none⟩ = some (.int .i64 ((rd_T41 l0 (ji7)).f0)) ∧ w'.cell? ⟨gb104, 1, none⟩ = some (.int .i64 ((rd_T41 l0 (ji7)).f1)) ∧ w'.cell? (ad101.add ((x13_1).toNat * 2)) = some (.int .i64 ((rd_T41 l0 x13_1).f0)) ∧ w'.cell? ⟨(ad101.add ((x13_1).toNat * 2)).block, (ad101.add ((x13_1).toNat * 2)).off + 1, none⟩ = some (.int .i64 ((rd_T41 l0 x13_1).f1)) ∧ w'.cell? (ad101.add ((x13_1).toNat * 2)) = some (.int .i64 ((rd_T41 l0 x13_1).f0)) ∧ w'.cell? ⟨(ad101.add ((x13_1).toNat * 2)).block, (ad101.add ((x13_1).toNat * 2)).off + 1, none⟩ = some (.int .i64 ((rd_T41 l0 x13_1).f1))) ∧ (w'.heap[gb103]? = some (.cells #[.int .i64 ((rd_T41 l0 (ji4)).f0), .int .i64 ((rd_T41 l0 (ji4)).f1)] 41 (0, 0))) ∧ (w'.heap[gb104]? = some (.cells #[.int .i64 ((rd_T41 l0 (ji7)).f0), .int .i64 ((rd_T41 l0 (ji7)).f1)] 41 (0, 0))) ∧ (w'.heap[s_]? = some (.cells #[.int .i64 0, .int .i64 0] 41 (0, 0))) ∧ (w.heap.size ≤ s_) ∧ (w.heap.size ≤ s_) ∧ (gb103 ≠ s_) ∧ (s_ ≠ gb103) ∧ (gb104 ≠ s_) ∧ (s_ ≠ gb104) ∧ (Below w.heap.size w w')) ?_ ?_
       rotate_left
       ·intro hJ5_11_13
        refine join_ (σ := Nat × Nat) 3 #[T,T,T,T,T,T,T,T,T,T,T,N,T,T,N,N] (fun s_ => [(43, .agg #[.int .i64 t107, .int .i64 t108]), (7, .pointer (some ⟨s_.1, 0, none⟩)), (8, .pointer (some ⟨s_.2, 0, none⟩))]) (fun s_ w' => (w'.cell? ⟨gb103, 0, none⟩ = some (.int .i64 ((rd_T41 l0 (ji4)).f0)) ∧ w'.cell? ⟨gb103, 1, none⟩ = some (.int .i64 ((rd_T41 l0 (ji4)).f1)) ∧ w'.cell? ⟨gb104, 0, none⟩ = some (.int .i64 ((rd_T41 l0 (ji7)).f0)) ∧ w'.cell? ⟨gb104, 1, none⟩ = some (.int .i64 ((rd_T41 l0 (ji7)).f1)) ∧ w'.cell? (ad101.add ((x13_1).toNat * 2)) = some (.int .i64 ((rd_T41 l0 x13_1).f0)) ∧ w'.cell? ⟨(ad101.add ((x13_1).toNat * 2)).block, (ad101.add ((x13_1).toNat * 2)).off + 1, none⟩ = some (.int .i64 ((rd_T41 l0 x13_1).f1)) ∧ w'.cell? (ad101.add ((x13_1).toNat * 2)) = some (.int .i64 ((rd_T41 l0 x13_1).f0)) ∧ w'.cell? ⟨(ad101.add ((x13_1).toNat * 2)).block, (ad101.add ((x13_1).toNat * 2)).off + 1, none⟩ = some (.int .i64 ((rd_T41 l0 x13_1).f1))) ∧ (w'.heap[gb103]? = some (.cells #[.int .i64 ((rd_T41 l0 (ji4)).f0), .int .i64 ((rd_T41 l0 (ji4)).f1)] 41 (0, 0))) ∧ (w'.heap[gb104]? = some (.cells #[.int .i64 ((rd_T41 l0 (ji7)).f0), .int .i64 ((rd_T41 l0 (ji7)).f1)] 41 (0, 0))) ∧ (w'.heap[s_.1]? = some (.cells #[.int .i64 0, .int .i64 0] 41 (0, 0))) ∧ (w'.heap[s_.2]? = some (.cells #[.int .i64 0, .int .i64 0] 41 (0, 0))) ∧ (w.heap.size ≤ s_.1) ∧ (w.heap.size ≤ s_.1) ∧ (gb103 ≠ s_.1) ∧ (s_.1 ≠ gb103) ∧ (gb104 ≠ s_.1) ∧ (s_.1 ≠ gb104) ∧ (s_.2 ≠ s_.1) ∧ (s_.1 ≠ s_.2) ∧ (w.heap.size ≤ s_.2) ∧ (w.heap.size ≤ s_.2) ∧ (gb103 ≠ s_.2) ∧ (s_.2 ≠ gb103) ∧ (gb104 ≠ s_.2) ∧ (s_.2 ≠ gb104) ∧ (Below w.heap.size w w')) ?_ ?_
        rotate_left
        ·intro hJ5_12_13
         refine join_ (σ := Unit) 4 #[T,T,T,T,T,T,T,T,T,T,T,T,N,N,N,N] (fun s_ => [(43, .agg #[.int .i64 t107, .int .i64 t108]), (49, .agg #[.int .i64 t110, .int .i64 t111])]) (fun s_ w' => (w'.cell? ⟨gb103, 0, none⟩ = some (.int .i64 ((rd_T41 l0 (ji4)).f0)) ∧ w'.cell? ⟨gb103, 1, none⟩ = some (.int .i64 ((rd_T41 l0 (ji4)).f1)) ∧ w'.cell? ⟨gb104, 0, none⟩ = some (.int .i64 ((rd_T41 l0 (ji7)).f0)) ∧ w'.cell? ⟨gb104, 1, none⟩ = some (.int .i64 ((rd_T41 l0 (ji7)).f1)) ∧ w'.cell? (ad101.add ((x13_1).toNat * 2)) = some (.int .i64 ((rd_T41 l0 x13_1).f0)) ∧ w'.cell? ⟨(ad101.add ((x13_1).toNat * 2)).block, (ad101.add ((x13_1).toNat * 2)).off + 1, none⟩ = some (.int .i64 ((rd_T41 l0 x13_1).f1)) ∧ w'.cell? (ad101.add ((x13_1).toNat * 2)) = some (.int .i64 ((rd_T41 l0 x13_1).f0)) ∧ w'.cell? ⟨(ad101.add ((x13_1).toNat * 2)).block, (ad101.add ((x13_1).toNat * 2)).off + 1, none⟩ = some (.int .i64 ((rd_T41 l0 x13_1).f1))) ∧ (w'.heap[gb103]? = some (.cells #[.int .i64 ((rd_T41 l0 (ji4)).f0), .int .i64 ((rd_T41 l0 (ji4)).f1)] 41 (0, 0))) ∧ (w'.heap[gb104]? = some (.cells #[.int .i64 ((rd_T41 l0 (ji7)).f0), .int .i64 ((rd_T41 l0 (ji7)).f1)] 41 (0, 0))) ∧ (Below w.heap.size w w')) ?_ ?_
         rotate_left
         ·intro hJ5_11
          refine join_ (σ := Nat) 4 #[T,T,T,T,T,T,T,T,T,T,T,N,T,N,N,N] (fun s_ => [(43, .agg #[.int .i64 t107, .int .i64 t108]), (7, .pointer (some ⟨s_, 0, none⟩))]) (fun s_ w' => (w'.cell? ⟨gb103, 0, none⟩ = some (.int .i64 ((rd_T41 l0 (ji4)).f0)) ∧ w'.cell? ⟨gb103, 1, none⟩ = some (.int .i64 ((rd_T41 l0 (ji4)).f1)) ∧ w'.cell? ⟨gb104, 0, none⟩ = some (.int .i64 ((rd_T41 l0 (ji7)).f0)) ∧ w'.cell? ⟨gb104, 1, none⟩ = some (.int .i64 ((rd_T41 l0 (ji7)).f1)) ∧ w'.cell? (ad101.add ((x13_1).toNat * 2)) = some (.int .i64 ((rd_T41 l0 x13_1).f0)) ∧ w'.cell? ⟨(ad101.add ((x13_1).toNat * 2)).block, (ad101.add ((x13_1).toNat * 2)).off + 1, none⟩ = some (.int .i64 ((rd_T41 l0 x13_1).f1)) ∧ w'.cell? (ad101.add ((x13_1).toNat * 2)) = some (.int .i64 ((rd_T41 l0 x13_1).f0)) ∧ w'.cell? ⟨(ad101.add ((x13_1).toNat * 2)).block, (ad101.add ((x13_1).toNat * 2)).off + 1, none⟩ = some (.int .i64 ((rd_T41 l0 x13_1).f1))) ∧ (w'.heap[gb103]? = some (.cells #[.int .i64 ((rd_T41 l0 (ji4)).f0), .int .i64 ((rd_T41 l0 (ji4)).f1)] 41 (0, 0))) ∧ (w'.heap[gb104]? = some (.cells #[.int .i64 ((rd_T41 l0 (ji7)).f0), .int .i64 ((rd_T41 l0 (ji7)).f1)] 41 (0, 0))) ∧ (w'.heap[s_]? = some (.cells #[.int .i64 0, .int .i64 0] 41 (0, 0))) ∧ (w.heap.size ≤ s_) ∧ (w.heap.size ≤ s_) ∧ (gb103 ≠ s_) ∧ (s_ ≠ gb103) ∧ (gb104 ≠ s_) ∧ (s_ ≠ gb104) ∧ (Below w.heap.size w w')) ?_ ?_
          rotate_left
          ·intro hJ5_12
           refine join_ (σ := Nat) 4 #[T,T,T,T,T,T,T,T,T,T,T,N,N,T,N,N] (fun s_ => [(43, .agg #[.int .i64 t107, .int .i64 t108]), (8, .pointer (some ⟨s_, 0, none⟩))]) (fun s_ w' => (w'.cell? ⟨gb103, 0, none⟩ = some (.int .i64 ((rd_T41 l0 (ji4)).f0)) ∧ w'.cell? ⟨gb103, 1, none⟩ = some (.int .i64 ((rd_T41 l0 (ji4)).f1)) ∧ w'.cell? ⟨gb104, 0, none⟩ = some (.int .i64 ((rd_T41 l0 (ji7)).f0)) ∧ w'.cell? ⟨gb104, 1, none⟩ = some (.int .i64 ((rd_T41 l0 (ji7)).f1)) ∧ w'.cell? (ad101.add ((x13_1).toNat * 2)) = some (.int .i64 ((rd_T41 l0 x13_1).f0)) ∧ w'.cell? ⟨(ad101.add ((x13_1).toNat * 2)).block, (ad101.add ((x13_1).toNat * 2)).off + 1, none⟩ = some (.int .i64 ((rd_T41 l0 x13_1).f1)) ∧ w'.cell? (ad101.add ((x13_1).toNat * 2)) = some (.int .i64 ((rd_T41 l0 x13_1).f0)) ∧ w'.cell? ⟨(ad101.add ((x13_1).toNat * 2)).block, (ad101.add ((x13_1).toNat * 2)).off + 1, none⟩ = some (.int .i64 ((rd_T41 l0 x13_1).f1))) ∧ (w'.heap[gb103]? = some (.cells #[.int .i64 ((rd_T41 l0 (ji4)).f0), .int .i64 ((rd_T41 l0 (ji4)).f1)] 41 (0, 0))) ∧ (w'.heap[gb104]? = some (.cells #[.int .i64 ((rd_T41 l0 (ji7)).f0), .int .i64 ((rd_T41 l0 (ji7)).f1)] 41 (0, 0))) ∧ (w'.heap[s_]? = some (.cells #[.int .i64 0, .int .i64 0] 41 (0, 0))) ∧ (w.heap.size ≤ s_) ∧ (w.heap.size ≤ s_) ∧ (gb103 ≠ s_) ∧ (s_ ≠ gb103) ∧ (gb104 ≠ s_) ∧ (s_ ≠ gb104) ∧ (Below w.heap.size w w')) ?_ ?_
           rotate_left
           ·intro hJ5_13
            refine join_ (σ := Nat × Nat) 4 #[T,T,T,T,T,N,T,T,T,T,T,N,T,T,N,N] (fun s_ => [(7, .pointer (some ⟨s_.1, 0, none⟩)), (8, .pointer (some ⟨s_.2, 0, none⟩))]) (fun s_ w' => (w'.cell? ⟨gb103, 0, none⟩ = some (.int .i64 ((rd_T41 l0 (ji4)).f0)) ∧ w'.cell? ⟨gb103, 1, none⟩ = some (.int .i64 ((rd_T41 l0 (ji4)).f1)) ∧ w'.cell? ⟨gb104, 0, none⟩ = some (.int .i64 ((rd_T41 l0 (ji7)).f0)) ∧ w'.cell? ⟨gb104, 1, none⟩ = some (.int .i64 ((rd_T41 l0 (ji7)).f1)) ∧ w'.cell? (ad101.add ((x13_1).toNat * 2)) = some (.int .i64 ((rd_T41 l0 x13_1).f0)) ∧ w'.cell? ⟨(ad101.add ((x13_1).toNat * 2)).block, (ad101.add ((x13_1).toNat * 2)).off + 1, none⟩ = some (.int .i64 ((rd_T41 l0 x13_1).f1)) ∧ w'.cell? (ad101.add ((x13_1).toNat * 2)) = some (.int .i64 ((rd_T41 l0 x13_1).f0)) ∧ w'.cell? ⟨(ad101.add ((x13_1).toNat * 2)).block, (ad101.add ((x13_1).toNat * 2)).off + 1, none⟩ = some (.int .i64 ((rd_T41 l0 x13_1).f1))) ∧ (w'.heap[gb103]? = some (.cells #[.int .i64 ((rd_T41 l0 (ji4)).f0), .int .i64 ((rd_T41 l0 (ji4)).f1)] 41 (0, 0))) ∧ (w'.heap[gb104]? = some (.cells #[.int .i64 ((rd_T41 l0 (ji7)).f0), .int .i64 ((rd_T41 l0 (ji7)).f1)] 41 (0, 0))) ∧ (w'.heap[s_.1]? = some (.cells #[.int .i64 0, .int .i64 0] 41 (0, 0))) ∧ (w'.heap[s_.2]? = some (.cells #[.int .i64 0, .int .i64 0] 41 (0, 0))) ∧ (w.heap.size ≤ s_.1) ∧ (w.heap.size ≤ s_.1) ∧ (gb103 ≠ s_.1) ∧ (s_.1 ≠ gb103) ∧ (gb104 ≠ s_.1) ∧ (s_.1 ≠ gb104) ∧ (s_.2 ≠ s_.1) ∧ (s_.1 ≠ s_.2) ∧ (w.heap.size ≤ s_.2) ∧ (w.heap.size ≤ s_.2) ∧ (gb103 ≠ s_.2) ∧ (s_.2 ≠ gb103) ∧ (gb104 ≠ s_.2) ∧ (s_.2 ≠ gb104) ∧ (Below w.heap.size w w')) ?_ ?_
            rotate_left
            ·intro hJ12_13
             refine join_ (σ := Unit) 5 #[T,T,T,T,T,T,T,T,T,T,T,N,N,N,N,N] (fun s_ => [(43, .agg #[.int .i64 t107, .int .i64 t108])]) (fun s_ w' => (w'.cell? ⟨gb103, 0, none⟩ = some (.int .i64 ((rd_T41 l0 (ji4)).f0)) ∧ w'.cell? ⟨gb103, 1, none⟩ = some (.int .i64 ((rd_T41 l0 (ji4)).f1)) ∧ w'.cell? ⟨gb104, 0, none⟩ = some (.int .i64 ((rd_T41 l0 (ji7)).f0)) ∧ w'.cell? ⟨gb104, 1, none⟩ = some (.int .i64 ((rd_T41 l0 (ji7)).f1)) ∧ w'.cell? (ad101.add ((x13_1).toNat * 2)) = some (.int .i64 ((rd_T41 l0 x13_1).f0)) ∧ w'.cell? ⟨(ad101.add ((x13_1).toNat * 2)).block, (ad101.add ((x13_1).toNat * 2)).off + 1, none⟩ = some (.int .i64 ((rd_T41 l0 x13_1).f1)) ∧ w'.cell? (ad101.add ((x13_1).toNat * 2)) = some (.int .i64 ((rd_T41 l0 x13_1).f0)) ∧ w'.cell? ⟨(ad101.add ((x13_1).toNat * 2)).block, (ad101.add ((x13_1).toNat * 2)).off + 1, none⟩ = some (.int .i64 ((rd_T41 l0 x13_1).f1))) ∧ (w'.heap[gb103]? = some (.cells #[.int .i64 ((rd_T41 l0 (ji4)).f0), .int .i64 ((rd_T41 l0 (ji4)).f1)] 41 (0, 0))) ∧ (w'.heap[gb104]? = some (.cells #[.int .i64 ((rd_T41 l0 (ji7)).f0), .int .i64 ((rd_T41 l0 (ji7)).f1)] 41 (0, 0))) ∧ (Below w.heap.size w w')) ?_ ?_
             rotate_left
             ·intro hJ5
              refine join_ (σ := Nat) 5 #[T,T,T,T,T,N,T,T,T,T,T,N,T,N,N,N] (fun s_ => [(7, .pointer (some ⟨s_, 0, none⟩))]) (fun s_ w' => (w'.cell? ⟨gb103, 0, none⟩ = some (.int .i64 ((rd_T41 l0 (ji4)).f0)) ∧ w'.cell? ⟨gb103, 1, none⟩ = some (.int .i64 ((rd_T41 l0 (ji4)).f1)) ∧ w'.cell? ⟨gb104, 0, none⟩ = some (.int .i64 ((rd_T41 l0 (ji7)).f0)) ∧ w'.cell? ⟨gb104, 1, none⟩ = some (.int .i64 ((rd_T41 l0 (ji7)).f1)) ∧ w'.cell? (ad101.add ((x13_1).toNat * 2)) = some (.int .i64 ((rd_T41 l0 x13_1).f0)) ∧ w'.cell? ⟨(ad101.add ((x13_1).toNat * 2)).block, (ad101.add ((x13_1).toNat * 2)).off + 1, none⟩ = some (.int .i64 ((rd_T41 l0 x13_1).f1)) ∧ w'.cell? (ad101.add ((x13_1).toNat * 2)) = some (.int .i64 ((rd_T41 l0 x13_1).f0)) ∧ w'.cell? ⟨(ad101.add ((x13_1).toNat * 2)).block, (ad101.add ((x13_1).toNat * 2)).off + 1, none⟩ = some (.int .i64 ((rd_T41 l0 x13_1).f1))) ∧ (w'.heap[gb103]? = some (.cells #[.int .i64 ((rd_T41 l0 (ji4)).f0), .int .i64 ((rd_T41 l0 (ji4)).f1)] 41 (0, 0))) ∧ (w'.heap[gb104]? = some (.cells #[.int .i64 ((rd_T41 l0 (ji7)).f0), .int .i64 ((rd_T41 l0 (ji7)).f1)] 41 (0, 0))) ∧ (w'.heap[s_]? = some (.cells #[.int .i64 0, .int .i64 0] 41 (0, 0))) ∧ (w.heap.size ≤ s_) ∧ (w.heap.size ≤ s_) ∧ (gb103 ≠ s_) ∧ (s_ ≠ gb103) ∧ (gb104 ≠ s_) ∧ (s_ ≠ gb104) ∧ (Below w.heap.size w w')) ?_ ?_
              rotate_left
              ·intro hJ12
               refine join_ (σ := Nat) 5 #[T,T,T,T,T,N,T,T,T,T,T,N,N,T,N,N] (fun s_ => [(8, .pointer (some ⟨s_, 0, none⟩))]) (fun s_ w' => (w'.cell? ⟨gb103, 0, none⟩ = some (.int .i64 ((rd_T41 l0 (ji4)).f0)) ∧ w'.cell? ⟨gb103, 1, none⟩ = some (.int .i64 ((rd_T41 l0 (ji4)).f1)) ∧ w'.cell? ⟨gb104, 0, none⟩ = some (.int .i64 ((rd_T41 l0 (ji7)).f0)) ∧ w'.cell? ⟨gb104, 1, none⟩ = some (.int .i64 ((rd_T41 l0 (ji7)).f1)) ∧ w'.cell? (ad101.add ((x13_1).toNat * 2)) = some (.int .i64 ((rd_T41 l0 x13_1).f0)) ∧ w'.cell? ⟨(ad101.add ((x13_1).toNat * 2)).block, (ad101.add ((x13_1).toNat * 2)).off + 1, none⟩ = some (.int .i64 ((rd_T41 l0 x13_1).f1)) ∧ w'.cell? (ad101.add ((x13_1).toNat * 2)) = some (.int .i64 ((rd_T41 l0 x13_1).f0)) ∧ w'.cell? ⟨(ad101.add ((x13_1).toNat * 2)).block, (ad101.add ((x13_1).toNat * 2)).off + 1, none⟩ = some (.int .i64 ((rd_T41 l0 x13_1).f1))) ∧ (w'.heap[gb103]? = some (.cells #[.int .i64 ((rd_T41 l0 (ji4)).f0), .int .i64 ((rd_T41 l0 (ji4)).f1)] 41 (0, 0))) ∧ (w'.heap[gb104]? = some (.cells #[.int .i64 ((rd_T41 l0 (ji7)).f0), .int .i64 ((rd_T41 l0 (ji7)).f1)] 41 (0, 0))) ∧ (w'.heap[s_]? = some (.cells #[.int .i64 0, .int .i64 0] 41 (0, 0))) ∧ (w.heap.size ≤ s_) ∧ (w.heap.size ≤ s_) ∧ (gb103 ≠ s_) ∧ (s_ ≠ gb103) ∧ (gb104 ≠ s_) ∧ (s_ ≠ gb104) ∧ (Below w.heap.size w w')) ?_ ?_
               rotate_left
               ·intro hJ13
                refine three_ (i := 5) (j := 12) (k := 13) (Ni := some 43) (Nj := some 7) (Nk := some 8) #[T,T,T,T,T,T,T,T,T,T,T,N,N,N,N,N] #[T,T,T,T,T,N,T,T,T,T,T,N,T,N,N,N] #[T,T,T,T,T,N,T,T,T,T,T,N,N,T,N,N] rfl rfl rfl rfl rfl rfl (on3 HT_) (by decide) (by decide) (by decide) (fun K hK => ?_) (fun K hK => ?_) (fun K hK => ?_)
                ·skip
                 refine goes_ Try.func53 (by kernel_rfl) rfl #[.agg #[.int .i64 ((rd_T41 l0 (ji4)).f0), .int .i64 ((rd_T41 l0 (ji4)).f1)], .agg #[.int .i64 ((rd_T41 l0 x13_1).f0), .int .i64 ((rd_T41 l0 x13_1).f1)]] (by rfl) rfl rfl (by (try simp only [List.map_toArray, List.map_cons, List.map_nil]); first | done | (simp only [hji4]; rfl) | rfl | (simp only [List.length_drop, List.length_take]; rfl)) ?_
                 with_reducible refine (shape_sub.calls ((rd_T41 l0 (ji4)).f0) ((rd_T41 l0 (ji4)).f1) ((rd_T41 l0 x13_1).f0) ((rd_T41 l0 x13_1).f1) t107 t108 _ A23.out).mono ?_
                 rintro e w37 ⟨rfl, hb⟩
                 refine ⟨_, rfl, ?_⟩
                 replace BK103 := kb BK103 hb
                 replace BK104 := kb BK104 hb
                 replace HB := bz hb
                 (try clear hb)
                 refine hK.out _ _ ⟨bc BK103 0, bc BK103 1, bc BK104 0, bc BK104 1, (hc HB hw106_0), (hc HB hw106_1), (hc HB hw109_0), (hc HB hw109_1)⟩ (fun hHeld => ?_)
                 clear hK K
                 refine nm 43 ?_
                 exact norm_ pa (hJ5 () _ ⟨hHeld, bk BK103, bk BK104, bh⟩)
                ·skip
                 refine bxs 7 #[.int .i64 0, .int .i64 0] 41 ?_
                 intro gb112 hg w37 hbox hb
                 have BK112 := Aside0.mk (hbox)
                 have GW112 := ga w hg
                 have GE112 := GW112
                 have NB103_112 := nb hg (kl BK103)
                 have NB112_103 := bn NB103_112
                 have NB104_112 := nb hg (kl BK104)
                 have NB112_104 := bn NB104_112
                 replace BK103 := kb BK103 hb
                 replace BK104 := kb BK104 hb
                 replace HB := bz hb
                 clear hb hbox hg
                 refine hK.out _ _ ⟨bc BK103 0, bc BK103 1, bc BK104 0, bc BK104 1, (hc HB hw106_0), (hc HB hw106_1), (hc HB hw109_0), (hc HB hw109_1)⟩ (fun hHeld => ?_)
                 clear hK K
                 refine nm 7 ?_
                 exact norm_ pa (hJ12 (gb112) _ ⟨hHeld, bk BK103, bk BK104, bk BK112, GW112.out, GE112.out, NB103_112.out, NB112_103.out, NB104_112.out, NB112_104.out, bh⟩)
                ·skip
                 refine bxs 8 #[.int .i64 0, .int .i64 0] 41 ?_
                 intro gb113 hg w37 hbox hb
                 have BK113 := Aside0.mk (hbox)
                 have GW113 := ga w hg
                 have GE113 := GW113
                 have NB103_113 := nb hg (kl BK103)
                 have NB113_103 := bn NB103_113
                 have NB104_113 := nb hg (kl BK104)
                 have NB113_104 := bn NB104_113
                 replace BK103 := kb BK103 hb
                 replace BK104 := kb BK104 hb
                 replace HB := bz hb
                 clear hb hbox hg
                 refine hK.out _ _ ⟨bc BK103 0, bc BK103 1, bc BK104 0, bc BK104 1, (hc HB hw106_0), (hc HB hw106_1), (hc HB hw109_0), (hc HB hw109_1)⟩ (fun hHeld => ?_)
                 clear hK K
                 refine nm 8 ?_
                 exact norm_ pa (hJ13 (gb113) _ ⟨hHeld, bk BK103, bk BK104, bk BK113, GW113.out, GE113.out, NB103_113.out, NB113_103.out, NB104_113.out, NB113_104.out, bh⟩)
               ·skip
                rintro gb113 w38 ⟨hS_, h0_, h1_, h2_, h3_, h4_, h5_, h6_, h7_, h8_, h9_⟩
                have BK113 := Aside0.mk h2_
                have GW113 := Aside0.mk h3_
                have GE113 := Aside0.mk h4_
                have NB103_113 := Aside0.mk h5_
                have NB113_103 := Aside0.mk h6_
                have NB104_113 := Aside0.mk h7_
                have NB113_104 := Aside0.mk h8_
                replace BK103 := Aside0.mk h0_
                replace BK104 := Aside0.mk h1_
                replace HB := Aside0.mk h9_
                clear h0_ h1_ h2_ h3_ h4_ h5_ h6_ h7_ h8_ h9_
                have hHeld := hS_
                refine nn ?_
                refine two_ (i := 5) (j := 12) (Ni := some 43) (Nj := some 7) #[T,T,T,T,T,T,T,T,T,T,T,N,N,T,N,N] #[T,T,T,T,T,N,T,T,T,T,T,N,T,T,N,N] rfl rfl rfl rfl (on2 HT_) (by decide) (by decide) (fun K hK => ?_) (fun K hK => ?_)
                ·skip
                 refine goes_ Try.func53 (by kernel_rfl) rfl #[.agg #[.int .i64 ((rd_T41 l0 (ji4)).f0), .int .i64 ((rd_T41 l0 (ji4)).f1)], .agg #[.int .i64 ((rd_T41 l0 x13_1).f0), .int .i64 ((rd_T41 l0 x13_1).f1)]] (by rfl) rfl rfl (by (try simp only [List.map_toArray, List.map_cons, List.map_nil]); first | done | (simp only [hji4]; rfl) | rfl | (simp only [List.length_drop, List.length_take]; rfl)) ?_
                 with_reducible refine (shape_sub.calls ((rd_T41 l0 (ji4)).f0) ((rd_T41 l0 (ji4)).f1) ((rd_T41 l0 x13_1).f0) ((rd_T41 l0 x13_1).f1) t107 t108 _ A23.out).mono ?_
                 rintro e w39 ⟨rfl, hb⟩
                 refine ⟨_, rfl, ?_⟩
                 replace BK103 := kb BK103 hb
                 replace BK104 := kb BK104 hb
                 replace BK113 := kb BK113 hb
                 replace HB := bz hb
                 (try clear hb)
                 refine hK.out _ _ ⟨bc BK103 0, bc BK103 1, bc BK104 0, bc BK104 1, (hc HB hw106_0), (hc HB hw106_1), (hc HB hw109_0), (hc HB hw109_1)⟩ (fun hHeld => ?_)
                 clear hK K
                 refine nm 43 ?_
                 exact norm_ pa (hJ5_13 (gb113) _ ⟨hHeld, bk BK103, bk BK104, bk BK113, GW113.out, GE113.out, NB103_113.out, NB113_103.out, NB104_113.out, NB113_104.out, bh⟩)
                ·skip
                 refine bxs 7 #[.int .i64 0, .int .i64 0] 41 ?_
                 intro gb112 hg w39 hbox hb
                 have BK112 := Aside0.mk (hbox)
                 have GW112 := ga w hg
                 have GE112 := GW112
                 have NB103_112 := nb hg (kl BK103)
                 have NB112_103 := bn NB103_112
                 have NB104_112 := nb hg (kl BK104)
                 have NB112_104 := bn NB104_112
                 have NB113_112 := nb hg (kl BK113)
                 have NB112_113 := bn NB113_112
                 replace BK103 := kb BK103 hb
                 replace BK104 := kb BK104 hb
                 replace BK113 := kb BK113 hb
                 replace HB := bz hb
                 clear hb hbox hg
                 refine hK.out _ _ ⟨bc BK103 0, bc BK103 1, bc BK104 0, bc BK104 1, (hc HB hw106_0), (hc HB hw106_1), (hc HB hw109_0), (hc HB hw109_1)⟩ (fun hHeld => ?_)
                 clear hK K
                 refine nm 7 ?_
                 exact norm_ pa (hJ12_13 (gb112, gb113) _ ⟨hHeld, bk BK103, bk BK104, bk BK112, bk BK113, GW112.out, GE112.out, NB103_112.out, NB112_103.out, NB104_112.out, NB112_104.out, NB113_112.out, NB112_113.out, GW113.out, GE113.out, NB103_113.out, NB113_103.out, NB104_113.out, NB113_104.out, bh⟩)
              ·skip
               rintro gb112 w38 ⟨hS_, h0_, h1_, h2_, h3_, h4_, h5_, h6_, h7_, h8_, h9_⟩
               have BK112 := Aside0.mk h2_
               have GW112 := Aside0.mk h3_
               have GE112 := Aside0.mk h4_
               have NB103_112 := Aside0.mk h5_
               have NB112_103 := Aside0.mk h6_
               have NB104_112 := Aside0.mk h7_
               have NB112_104 := Aside0.mk h8_
               replace BK103 := Aside0.mk h0_
               replace BK104 := Aside0.mk h1_
               replace HB := Aside0.mk h9_
               clear h0_ h1_ h2_ h3_ h4_ h5_ h6_ h7_ h8_ h9_
               have hHeld := hS_
               refine nn ?_
               refine two_ (i := 5) (j := 13) (Ni := some 43) (Nj := some 8) #[T,T,T,T,T,T,T,T,T,T,T,N,T,N,N,N] #[T,T,T,T,T,N,T,T,T,T,T,N,T,T,N,N] rfl rfl rfl rfl (on2 HT_) (by decide) (by decide) (fun K hK => ?_) (fun K hK => ?_)
               ·skip
                refine goes_ Try.func53 (by kernel_rfl) rfl #[.agg #[.int .i64 ((rd_T41 l0 (ji4)).f0), .int .i64 ((rd_T41 l0 (ji4)).f1)], .agg #[.int .i64 ((rd_T41 l0 x13_1).f0), .int .i64 ((rd_T41 l0 x13_1).f1)]] (by rfl) rfl rfl (by (try simp only [List.map_toArray, List.map_cons, List.map_nil]); first | done | (simp only [hji4]; rfl) | rfl | (simp only [List.length_drop, List.length_take]; rfl)) ?_
                with_reducible refine (shape_sub.calls ((rd_T41 l0 (ji4)).f0) ((rd_T41 l0 (ji4)).f1) ((rd_T41 l0 x13_1).f0) ((rd_T41 l0 x13_1).f1) t107 t108 _ A23.out).mono ?_
                rintro e w39 ⟨rfl, hb⟩
                refine ⟨_, rfl, ?_⟩
                replace BK103 := kb BK103 hb
                replace BK104 := kb BK104 hb
                replace BK112 := kb BK112 hb
                replace HB := bz hb
                (try clear hb)
                refine hK.out _ _ ⟨bc BK103 0, bc BK103 1, bc BK104 0, bc BK104 1, (hc HB hw106_0), (hc HB hw106_1), (hc HB hw109_0), (hc HB hw109_1)⟩ (fun hHeld => ?_)
                clear hK K
                refine nm 43 ?_
                exact norm_ pa (hJ5_12 (gb112) _ ⟨hHeld, bk BK103, bk BK104, bk BK112, GW112.out, GE112.out, NB103_112.out, NB112_103.out, NB104_112.out, NB112_104.out, bh⟩)
               ·skip
                refine bxs 8 #[.int .i64 0, .int .i64 0] 41 ?_
                intro gb113 hg w39 hbox hb
                have BK113 := Aside0.mk (hbox)
                have GW113 := ga w hg
                have GE113 := GW113
                have NB103_113 := nb hg (kl BK103)
                have NB113_103 := bn NB103_113
                have NB104_113 := nb hg (kl BK104)
                have NB113_104 := bn NB104_113
                have NB112_113 := nb hg (kl BK112)
                have NB113_112 := bn NB112_113
                replace BK103 := kb BK103 hb
                replace BK104 := kb BK104 hb
                replace BK112 := kb BK112 hb
                replace HB := bz hb
                clear hb hbox hg
                refine hK.out _ _ ⟨bc BK103 0, bc BK103 1, bc BK104 0, bc BK104 1, (hc HB hw106_0), (hc HB hw106_1), (hc HB hw109_0), (hc HB hw109_1)⟩ (fun hHeld => ?_)
                clear hK K
                refine nm 8 ?_
                exact norm_ pa (hJ12_13 (gb112, gb113) _ ⟨hHeld, bk BK103, bk BK104, bk BK112, bk BK113, GW112.out, GE112.out, NB103_112.out, NB112_103.out, NB104_112.out, NB112_104.out, NB113_112.out, NB112_113.out, GW113.out, GE113.out, NB103_113.out, NB113_103.out, NB104_113.out, NB113_104.out, bh⟩)
             ·skip
              rintro _ w38 ⟨hS_, h0_, h1_, h2_⟩
              replace BK103 := Aside0.mk h0_
              replace BK104 := Aside0.mk h1_
              replace HB := Aside0.mk h2_
              clear h0_ h1_ h2_
              have hHeld := hS_
              refine nn ?_
              refine three_ (i := 11) (j := 12) (k := 13) (Ni := some 49) (Nj := some 7) (Nk := some 8) #[T,T,T,T,T,T,T,T,T,T,T,T,N,N,N,N] #[T,T,T,T,T,T,T,T,T,T,T,N,T,N,N,N] #[T,T,T,T,T,T,T,T,T,T,T,N,N,T,N,N] rfl rfl rfl rfl rfl rfl (on3 HT_) (by decide) (by decide) (by decide) (fun K hK => ?_) (fun K hK => ?_) (fun K hK => ?_)
              ·skip
               refine goes_ Try.func53 (by kernel_rfl) rfl #[.agg #[.int .i64 ((rd_T41 l0 (ji7)).f0), .int .i64 ((rd_T41 l0 (ji7)).f1)], .agg #[.int .i64 ((rd_T41 l0 x13_1).f0), .int .i64 ((rd_T41 l0 x13_1).f1)]] (by rfl) rfl rfl (by (try simp only [List.map_toArray, List.map_cons, List.map_nil]); first | done | (simp only [hji7]; rfl) | rfl | (simp only [List.length_drop, List.length_take]; rfl)) ?_
               with_reducible refine (shape_sub.calls ((rd_T41 l0 (ji7)).f0) ((rd_T41 l0 (ji7)).f1) ((rd_T41 l0 x13_1).f0) ((rd_T41 l0 x13_1).f1) t110 t111 _ A24.out).mono ?_
               rintro e w39 ⟨rfl, hb⟩
               refine ⟨_, rfl, ?_⟩
               replace BK103 := kb BK103 hb
               replace BK104 := kb BK104 hb
               replace HB := bz hb
               (try clear hb)
               refine hK.out _ _ ⟨bc BK103 0, bc BK103 1, bc BK104 0, bc BK104 1, (hc HB hw106_0), (hc HB hw106_1), (hc HB hw109_0), (hc HB hw109_1)⟩ (fun hHeld => ?_)
               clear hK K
               refine nm 49 ?_
               exact norm_ pa (hJ5_11 () _ ⟨hHeld, bk BK103, bk BK104, bh⟩)
              ·skip
               refine bxs 7 #[.int .i64 0, .int .i64 0] 41 ?_
               intro gb112 hg w39 hbox hb
               have BK112 := Aside0.mk (hbox)
               have GW112 := ga w hg
               have GE112 := GW112
               have NB103_112 := nb hg (kl BK103)
               have NB112_103 := bn NB103_112
               have NB104_112 := nb hg (kl BK104)
               have NB112_104 := bn NB104_112
               replace BK103 := kb BK103 hb
               replace BK104 := kb BK104 hb
               replace HB := bz hb
               clear hb hbox hg
               refine hK.out _ _ ⟨bc BK103 0, bc BK103 1, bc BK104 0, bc BK104 1, (hc HB hw106_0), (hc HB hw106_1), (hc HB hw109_0), (hc HB hw109_1)⟩ (fun hHeld => ?_)
               clear hK K
               refine nm 7 ?_
               exact norm_ pa (hJ5_12 (gb112) _ ⟨hHeld, bk BK103, bk BK104, bk BK112, GW112.out, GE112.out, NB103_112.out, NB112_103.out, NB104_112.out, NB112_104.out, bh⟩)
              ·skip
               refine bxs 8 #[.int .i64 0, .int .i64 0] 41 ?_
               intro gb113 hg w39 hbox hb
               have BK113 := Aside0.mk (hbox)
               have GW113 := ga w hg
               have GE113 := GW113
               have NB103_113 := nb hg (kl BK103)
               have NB113_103 := bn NB103_113
               have NB104_113 := nb hg (kl BK104)
               have NB113_104 := bn NB104_113
               replace BK103 := kb BK103 hb
               replace BK104 := kb BK104 hb
               replace HB := bz hb
               clear hb hbox hg
               refine hK.out _ _ ⟨bc BK103 0, bc BK103 1, bc BK104 0, bc BK104 1, (hc HB hw106_0), (hc HB hw106_1), (hc HB hw109_0), (hc HB hw109_1)⟩ (fun hHeld => ?_)
               clear hK K
               refine nm 8 ?_
               exact norm_ pa (hJ5_13 (gb113) _ ⟨hHeld, bk BK103, bk BK104, bk BK113, GW113.out, GE113.out, NB103_113.out, NB113_103.out, NB104_113.out, NB113_104.out, bh⟩)
            ·skip
             rintro ⟨gb112, gb113⟩ w39 ⟨hS_, h0_, h1_, h2_, h3_, h4_, h5_, h6_, h7_, h8_, h9_, h10_, h11_, h12_, h13_, h14_, h15_, h16_, h17_, h18_⟩
             have BK112 := Aside0.mk h2_
             have BK113 := Aside0.mk h3_
             have GW112 := Aside0.mk h4_
             have GE112 := Aside0.mk h5_
             have NB103_112 := Aside0.mk h6_
             have NB112_103 := Aside0.mk h7_
             have NB104_112 := Aside0.mk h8_
             have NB112_104 := Aside0.mk h9_
             have NB113_112 := Aside0.mk h10_
             have NB112_113 := Aside0.mk h11_
             have GW113 := Aside0.mk h12_
             have GE113 := Aside0.mk h13_
             have NB103_113 := Aside0.mk h14_
             have NB113_103 := Aside0.mk h15_
             have NB104_113 := Aside0.mk h16_
             have NB113_104 := Aside0.mk h17_
             replace BK103 := Aside0.mk h0_
             replace BK104 := Aside0.mk h1_
             replace HB := Aside0.mk h18_
             clear h0_ h1_ h2_ h3_ h4_ h5_ h6_ h7_ h8_ h9_ h10_ h11_ h12_ h13_ h14_ h15_ h16_ h17_ h18_
             have hHeld := hS_
             refine nn ?_
             refine one_ (i := 5) (N := some 43) #[T,T,T,T,T,T,T,T,T,T,T,N,T,T,N,N] rfl rfl (on1 HT_) (by decide) (fun K hK => ?_)
             refine goes_ Try.func53 (by kernel_rfl) rfl #[.agg #[.int .i64 ((rd_T41 l0 (ji4)).f0), .int .i64 ((rd_T41 l0 (ji4)).f1)], .agg #[.int .i64 ((rd_T41 l0 x13_1).f0), .int .i64 ((rd_T41 l0 x13_1).f1)]] (by rfl) rfl rfl (by (try simp only [List.map_toArray, List.map_cons, List.map_nil]); first | done | (simp only [hji4]; rfl) | rfl | (simp only [List.length_drop, List.length_take]; rfl)) ?_
             with_reducible refine (shape_sub.calls ((rd_T41 l0 (ji4)).f0) ((rd_T41 l0 (ji4)).f1) ((rd_T41 l0 x13_1).f0) ((rd_T41 l0 x13_1).f1) t107 t108 _ A23.out).mono ?_
             rintro e w40 ⟨rfl, hb⟩
             refine ⟨_, rfl, ?_⟩
             replace BK103 := kb BK103 hb
             replace BK104 := kb BK104 hb
             replace BK112 := kb BK112 hb
             replace BK113 := kb BK113 hb
             replace HB := bz hb
             (try clear hb)
             refine hK.out _ _ ⟨bc BK103 0, bc BK103 1, bc BK104 0, bc BK104 1, (hc HB hw106_0), (hc HB hw106_1), (hc HB hw109_0), (hc HB hw109_1)⟩ (fun hHeld => ?_)
             clear hK K
             refine nm 43 ?_
             exact norm_ pa (hJ5_12_13 (gb112, gb113) _ ⟨hHeld, bk BK103, bk BK104, bk BK112, bk BK113, GW112.out, GE112.out, NB103_112.out, NB112_103.out, NB104_112.out, NB112_104.out, NB113_112.out, NB112_113.out, GW113.out, GE113.out, NB103_113.out, NB113_103.out, NB104_113.out, NB113_104.out, bh⟩)
           ·skip
            rintro gb113 w39 ⟨hS_, h0_, h1_, h2_, h3_, h4_, h5_, h6_, h7_, h8_, h9_⟩
            have BK113 := Aside0.mk h2_
            have GW113 := Aside0.mk h3_
            have GE113 := Aside0.mk h4_
            have NB103_113 := Aside0.mk h5_
            have NB113_103 := Aside0.mk h6_
            have NB104_113 := Aside0.mk h7_
            have NB113_104 := Aside0.mk h8_
            replace BK103 := Aside0.mk h0_
            replace BK104 := Aside0.mk h1_
            replace HB := Aside0.mk h9_
            clear h0_ h1_ h2_ h3_ h4_ h5_ h6_ h7_ h8_ h9_
            have hHeld := hS_
            refine nn ?_
            refine two_ (i := 11) (j := 12) (Ni := some 49) (Nj := some 7) #[T,T,T,T,T,T,T,T,T,T,T,T,N,T,N,N] #[T,T,T,T,T,T,T,T,T,T,T,N,T,T,N,N] rfl rfl rfl rfl (on2 HT_) (by decide) (by decide) (fun K hK => ?_) (fun K hK => ?_)
            ·skip
             refine goes_ Try.func53 (by kernel_rfl) rfl #[.agg #[.int .i64 ((rd_T41 l0 (ji7)).f0), .int .i64 ((rd_T41 l0 (ji7)).f1)], .agg #[.int .i64 ((rd_T41 l0 x13_1).f0), .int .i64 ((rd_T41 l0 x13_1).f1)]] (by rfl) rfl rfl (by (try simp only [List.map_toArray, List.map_cons, List.map_nil]); first | done | (simp only [hji7]; rfl) | rfl | (simp only [List.length_drop, List.length_take]; rfl)) ?_
             with_reducible refine (shape_sub.calls ((rd_T41 l0 (ji7)).f0) ((rd_T41 l0 (ji7)).f1) ((rd_T41 l0 x13_1).f0) ((rd_T41 l0 x13_1).f1) t110 t111 _ A24.out).mono ?_
             rintro e w40 ⟨rfl, hb⟩
             refine ⟨_, rfl, ?_⟩
             replace BK103 := kb BK103 hb
             replace BK104 := kb BK104 hb
             replace BK113 := kb BK113 hb
             replace HB := bz hb
             (try clear hb)
             refine hK.out _ _ ⟨bc BK103 0, bc BK103 1, bc BK104 0, bc BK104 1, (hc HB hw106_0), (hc HB hw106_1), (hc HB hw109_0), (hc HB hw109_1)⟩ (fun hHeld => ?_)
             clear hK K
             refine nm 49 ?_
             exact norm_ pa (hJ5_11_13 (gb113) _ ⟨hHeld, bk BK103, bk BK104, bk BK113, GW113.out, GE113.out, NB103_113.out, NB113_103.out, NB104_113.out, NB113_104.out, bh⟩)
            ·skip
             refine bxs 7 #[.int .i64 0, .int .i64 0] 41 ?_
             intro gb112 hg w40 hbox hb
             have BK112 := Aside0.mk (hbox)
             have GW112 := ga w hg
             have GE112 := GW112
             have NB103_112 := nb hg (kl BK103)
             have NB112_103 := bn NB103_112
             have NB104_112 := nb hg (kl BK104)
             have NB112_104 := bn NB104_112
             have NB113_112 := nb hg (kl BK113)
             have NB112_113 := bn NB113_112
             replace BK103 := kb BK103 hb
             replace BK104 := kb BK104 hb
             replace BK113 := kb BK113 hb
             replace HB := bz hb
             clear hb hbox hg
             refine hK.out _ _ ⟨bc BK103 0, bc BK103 1, bc BK104 0, bc BK104 1, (hc HB hw106_0), (hc HB hw106_1), (hc HB hw109_0), (hc HB hw109_1)⟩ (fun hHeld => ?_)
             clear hK K
             refine nm 7 ?_
             exact norm_ pa (hJ5_12_13 (gb112, gb113) _ ⟨hHeld, bk BK103, bk BK104, bk BK112, bk BK113, GW112.out, GE112.out, NB103_112.out, NB112_103.out, NB104_112.out, NB112_104.out, NB113_112.out, NB112_113.out, GW113.out, GE113.out, NB103_113.out, NB113_103.out, NB104_113.out, NB113_104.out, bh⟩)
          ·skip
           rintro gb112 w39 ⟨hS_, h0_, h1_, h2_, h3_, h4_, h5_, h6_, h7_, h8_, h9_⟩
           have BK112 := Aside0.mk h2_
           have GW112 := Aside0.mk h3_
           have GE112 := Aside0.mk h4_
           have NB103_112 := Aside0.mk h5_
           have NB112_103 := Aside0.mk h6_
           have NB104_112 := Aside0.mk h7_
           have NB112_104 := Aside0.mk h8_
           replace BK103 := Aside0.mk h0_
           replace BK104 := Aside0.mk h1_
           replace HB := Aside0.mk h9_
           clear h0_ h1_ h2_ h3_ h4_ h5_ h6_ h7_ h8_ h9_
           have hHeld := hS_
           refine nn ?_
           refine two_ (i := 11) (j := 13) (Ni := some 49) (Nj := some 8) #[T,T,T,T,T,T,T,T,T,T,T,T,T,N,N,N] #[T,T,T,T,T,T,T,T,T,T,T,N,T,T,N,N] rfl rfl rfl rfl (on2 HT_) (by decide) (by decide) (fun K hK => ?_) (fun K hK => ?_)
           ·skip
            refine goes_ Try.func53 (by kernel_rfl) rfl #[.agg #[.int .i64 ((rd_T41 l0 (ji7)).f0), .int .i64 ((rd_T41 l0 (ji7)).f1)], .agg #[.int .i64 ((rd_T41 l0 x13_1).f0), .int .i64 ((rd_T41 l0 x13_1).f1)]] (by rfl) rfl rfl (by (try simp only [List.map_toArray, List.map_cons, List.map_nil]); first | done | (simp only [hji7]; rfl) | rfl | (simp only [List.length_drop, List.length_take]; rfl)) ?_
            with_reducible refine (shape_sub.calls ((rd_T41 l0 (ji7)).f0) ((rd_T41 l0 (ji7)).f1) ((rd_T41 l0 x13_1).f0) ((rd_T41 l0 x13_1).f1) t110 t111 _ A24.out).mono ?_
            rintro e w40 ⟨rfl, hb⟩
            refine ⟨_, rfl, ?_⟩
            replace BK103 := kb BK103 hb
            replace BK104 := kb BK104 hb
            replace BK112 := kb BK112 hb
            replace HB := bz hb
            (try clear hb)
            refine hK.out _ _ ⟨bc BK103 0, bc BK103 1, bc BK104 0, bc BK104 1, (hc HB hw106_0), (hc HB hw106_1), (hc HB hw109_0), (hc HB hw109_1)⟩ (fun hHeld => ?_)
            clear hK K
            refine nm 49 ?_
            exact norm_ pa (hJ5_11_12 (gb112) _ ⟨hHeld, bk BK103, bk BK104, bk BK112, GW112.out, GE112.out, NB103_112.out, NB112_103.out, NB104_112.out, NB112_104.out, bh⟩)
           ·skip
            refine bxs 8 #[.int .i64 0, .int .i64 0] 41 ?_
            intro gb113 hg w40 hbox hb
            have BK113 := Aside0.mk (hbox)
            have GW113 := ga w hg
            have GE113 := GW113
            have NB103_113 := nb hg (kl BK103)
            have NB113_103 := bn NB103_113
            have NB104_113 := nb hg (kl BK104)
            have NB113_104 := bn NB104_113
            have NB112_113 := nb hg (kl BK112)
            have NB113_112 := bn NB112_113
            replace BK103 := kb BK103 hb
            replace BK104 := kb BK104 hb
            replace BK112 := kb BK112 hb
            replace HB := bz hb
            clear hb hbox hg
            refine hK.out _ _ ⟨bc BK103 0, bc BK103 1, bc BK104 0, bc BK104 1, (hc HB hw106_0), (hc HB hw106_1), (hc HB hw109_0), (hc HB hw109_1)⟩ (fun hHeld => ?_)
            clear hK K
            refine nm 8 ?_
            exact norm_ pa (hJ5_12_13 (gb112, gb113) _ ⟨hHeld, bk BK103, bk BK104, bk BK112, bk BK113, GW112.out, GE112.out, NB103_112.out, NB112_103.out, NB104_112.out, NB112_104.out, NB113_112.out, NB112_113.out, GW113.out, GE113.out, NB103_113.out, NB113_103.out, NB104_113.out, NB113_104.out, bh⟩)
         ·skip
          rintro _ w39 ⟨hS_, h0_, h1_, h2_⟩
          replace BK103 := Aside0.mk h0_
          replace BK104 := Aside0.mk h1_
          replace HB := Aside0.mk h2_
          clear h0_ h1_ h2_
          have hHeld := hS_
          refine nn ?_
          refine two_ (i := 12) (j := 13) (Ni := some 7) (Nj := some 8) #[T,T,T,T,T,T,T,T,T,T,T,T,T,N,N,N] #[T,T,T,T,T,T,T,T,T,T,T,T,N,T,N,N] rfl rfl rfl rfl (on2 HT_) (by decide) (by decide) (fun K hK => ?_) (fun K hK => ?_)
          ·skip
           refine bxs 7 #[.int .i64 0, .int .i64 0] 41 ?_
           intro gb112 hg w40 hbox hb
           have BK112 := Aside0.mk (hbox)
           have GW112 := ga w hg
           have GE112 := GW112
           have NB103_112 := nb hg (kl BK103)
           have NB112_103 := bn NB103_112
           have NB104_112 := nb hg (kl BK104)
           have NB112_104 := bn NB104_112
           replace BK103 := kb BK103 hb
           replace BK104 := kb BK104 hb
           replace HB := bz hb
           clear hb hbox hg
           refine hK.out _ _ ⟨bc BK103 0, bc BK103 1, bc BK104 0, bc BK104 1, (hc HB hw106_0), (hc HB hw106_1), (hc HB hw109_0), (hc HB hw109_1)⟩ (fun hHeld => ?_)
           clear hK K
           refine nm 7 ?_
           exact norm_ pa (hJ5_11_12 (gb112) _ ⟨hHeld, bk BK103, bk BK104, bk BK112, GW112.out, GE112.out, NB103_112.out, NB112_103.out, NB104_112.out, NB112_104.out, bh⟩)
          ·skip
           refine bxs 8 #[.int .i64 0, .int .i64 0] 41 ?_
           intro gb113 hg w40 hbox hb
           have BK113 := Aside0.mk (hbox)
           have GW113 := ga w hg
           have GE113 := GW113
           have NB103_113 := nb hg (kl BK103)
           have NB113_103 := bn NB103_113
           have NB104_113 := nb hg (kl BK104)
           have NB113_104 := bn NB104_113
           replace BK103 := kb BK103 hb
           replace BK104 := kb BK104 hb
           replace HB := bz hb
           clear hb hbox hg
           refine hK.out _ _ ⟨bc BK103 0, bc BK103 1, bc BK104 0, bc BK104 1, (hc HB hw106_0), (hc HB hw106_1), (hc HB hw109_0), (hc HB hw109_1)⟩ (fun hHeld => ?_)
           clear hK K
           refine nm 8 ?_
           exact norm_ pa (hJ5_11_13 (gb113) _ ⟨hHeld, bk BK103, bk BK104, bk BK113, GW113.out, GE113.out, NB103_113.out, NB113_103.out, NB104_113.out, NB113_104.out, bh⟩)
        ·skip
         rintro ⟨gb112, gb113⟩ w40 ⟨hS_, h0_, h1_, h2_, h3_, h4_, h5_, h6_, h7_, h8_, h9_, h10_, h11_, h12_, h13_, h14_, h15_, h16_, h17_, h18_⟩
         have BK112 := Aside0.mk h2_
         have BK113 := Aside0.mk h3_
         have GW112 := Aside0.mk h4_
         have GE112 := Aside0.mk h5_
         have NB103_112 := Aside0.mk h6_
         have NB112_103 := Aside0.mk h7_
         have NB104_112 := Aside0.mk h8_
         have NB112_104 := Aside0.mk h9_
         have NB113_112 := Aside0.mk h10_
         have NB112_113 := Aside0.mk h11_
         have GW113 := Aside0.mk h12_
         have GE113 := Aside0.mk h13_
         have NB103_113 := Aside0.mk h14_
         have NB113_103 := Aside0.mk h15_
         have NB104_113 := Aside0.mk h16_
         have NB113_104 := Aside0.mk h17_
         replace BK103 := Aside0.mk h0_
         replace BK104 := Aside0.mk h1_
         replace HB := Aside0.mk h18_
         clear h0_ h1_ h2_ h3_ h4_ h5_ h6_ h7_ h8_ h9_ h10_ h11_ h12_ h13_ h14_ h15_ h16_ h17_ h18_
         have hHeld := hS_
         refine nn ?_
         refine one_ (i := 11) (N := some 49) #[T,T,T,T,T,T,T,T,T,T,T,T,T,T,N,N] rfl rfl (on1 HT_) (by decide) (fun K hK => ?_)
         refine goes_ Try.func53 (by kernel_rfl) rfl #[.agg #[.int .i64 ((rd_T41 l0 (ji7)).f0), .int .i64 ((rd_T41 l0 (ji7)).f1)], .agg #[.int .i64 ((rd_T41 l0 x13_1).f0), .int .i64 ((rd_T41 l0 x13_1).f1)]] (by rfl) rfl rfl (by (try simp only [List.map_toArray, List.map_cons, List.map_nil]); first | done | (simp only [hji7]; rfl) | rfl | (simp only [List.length_drop, List.length_take]; rfl)) ?_
         with_reducible refine (shape_sub.calls ((rd_T41 l0 (ji7)).f0) ((rd_T41 l0 (ji7)).f1) ((rd_T41 l0 x13_1).f0) ((rd_T41 l0 x13_1).f1) t110 t111 _ A24.out).mono ?_
         rintro e w41 ⟨rfl, hb⟩
         refine ⟨_, rfl, ?_⟩
         replace BK103 := kb BK103 hb
         replace BK104 := kb BK104 hb
         replace BK112 := kb BK112 hb
         replace BK113 := kb BK113 hb
         replace HB := bz hb
         (try clear hb)
         refine hK.out _ _ ⟨bc BK103 0, bc BK103 1, bc BK104 0, bc BK104 1, (hc HB hw106_0), (hc HB hw106_1), (hc HB hw109_0), (hc HB hw109_1)⟩ (fun hHeld => ?_)
         clear hK K
         refine nm 49 ?_
         exact norm_ pa (hJ5_11_12_13 (gb112, gb113) _ ⟨hHeld, bk BK103, bk BK104, bk BK112, bk BK113, GW112.out, GE112.out, NB103_112.out, NB112_103.out, NB104_112.out, NB112_104.out, NB113_112.out, NB112_113.out, GW113.out, GE113.out, NB103_113.out, NB113_103.out, NB104_113.out, NB113_104.out, bh⟩)
       ·skip
        rintro gb113 w40 ⟨hS_, h0_, h1_, h2_, h3_, h4_, h5_, h6_, h7_, h8_, h9_⟩
        have BK113 := Aside0.mk h2_
        have GW113 := Aside0.mk h3_
        have GE113 := Aside0.mk h4_
        have NB103_113 := Aside0.mk h5_
        have NB113_103 := Aside0.mk h6_
        have NB104_113 := Aside0.mk h7_
        have NB113_104 := Aside0.mk h8_
        replace BK103 := Aside0.mk h0_
        replace BK104 := Aside0.mk h1_
        replace HB := Aside0.mk h9_
        clear h0_ h1_ h2_ h3_ h4_ h5_ h6_ h7_ h8_ h9_
        have hHeld := hS_
        refine nn ?_
        refine one_ (i := 12) (N := some 7) #[T,T,T,T,T,T,T,T,T,T,T,T,T,T,N,N] rfl rfl (on1 HT_) (by decide) (fun K hK => ?_)
        refine bxs 7 #[.int .i64 0, .int .i64 0] 41 ?_
        intro gb112 hg w41 hbox hb
        have BK112 := Aside0.mk (hbox)
        have GW112 := ga w hg
        have GE112 := GW112
        have NB103_112 := nb hg (kl BK103)
        have NB112_103 := bn NB103_112
        have NB104_112 := nb hg (kl BK104)
        have NB112_104 := bn NB104_112
        have NB113_112 := nb hg (kl BK113)
        have NB112_113 := bn NB113_112
        replace BK103 := kb BK103 hb
        replace BK104 := kb BK104 hb
        replace BK113 := kb BK113 hb
        replace HB := bz hb
        clear hb hbox hg
        refine hK.out _ _ ⟨bc BK103 0, bc BK103 1, bc BK104 0, bc BK104 1, (hc HB hw106_0), (hc HB hw106_1), (hc HB hw109_0), (hc HB hw109_1)⟩ (fun hHeld => ?_)
        clear hK K
        refine nm 7 ?_
        exact norm_ pa (hJ5_11_12_13 (gb112, gb113) _ ⟨hHeld, bk BK103, bk BK104, bk BK112, bk BK113, GW112.out, GE112.out, NB103_112.out, NB112_103.out, NB104_112.out, NB112_104.out, NB113_112.out, NB112_113.out, GW113.out, GE113.out, NB103_113.out, NB113_103.out, NB104_113.out, NB113_104.out, bh⟩)
      ·skip
       rintro gb112 w40 ⟨hS_, h0_, h1_, h2_, h3_, h4_, h5_, h6_, h7_, h8_, h9_⟩
       have BK112 := Aside0.mk h2_
       have GW112 := Aside0.mk h3_
       have GE112 := Aside0.mk h4_
       have NB103_112 := Aside0.mk h5_
       have NB112_103 := Aside0.mk h6_
       have NB104_112 := Aside0.mk h7_
       have NB112_104 := Aside0.mk h8_
       replace BK103 := Aside0.mk h0_
       replace BK104 := Aside0.mk h1_
       replace HB := Aside0.mk h9_
       clear h0_ h1_ h2_ h3_ h4_ h5_ h6_ h7_ h8_ h9_
       have hHeld := hS_
       refine nn ?_
       refine one_ (i := 13) (N := some 8) #[T,T,T,T,T,T,T,T,T,T,T,T,T,T,N,N] rfl rfl (on1 HT_) (by decide) (fun K hK => ?_)
       refine bxs 8 #[.int .i64 0, .int .i64 0] 41 ?_
       intro gb113 hg w41 hbox hb
       have BK113 := Aside0.mk (hbox)
       have GW113 := ga w hg
       have GE113 := GW113
       have NB103_113 := nb hg (kl BK103)
       have NB113_103 := bn NB103_113
       have NB104_113 := nb hg (kl BK104)
       have NB113_104 := bn NB104_113
       have NB112_113 := nb hg (kl BK112)
       have NB113_112 := bn NB112_113
       replace BK103 := kb BK103 hb
       replace BK104 := kb BK104 hb
       replace BK112 := kb BK112 hb
       replace HB := bz hb
       clear hb hbox hg
       refine hK.out _ _ ⟨bc BK103 0, bc BK103 1, bc BK104 0, bc BK104 1, (hc HB hw106_0), (hc HB hw106_1), (hc HB hw109_0), (hc HB hw109_1)⟩ (fun hHeld => ?_)
       clear hK K
       refine nm 8 ?_
       exact norm_ pa (hJ5_11_12_13 (gb112, gb113) _ ⟨hHeld, bk BK103, bk BK104, bk BK112, bk BK113, GW112.out, GE112.out, NB103_112.out, NB112_103.out, NB104_112.out, NB112_104.out, NB113_112.out, NB112_113.out, GW113.out, GE113.out, NB103_113.out, NB113_103.out, NB104_113.out, NB113_104.out, bh⟩)
     rintro ⟨gb112, gb113⟩ w41 ⟨hS_, h0_, h1_, h2_, h3_, h4_, h5_, h6_, h7_, h8_, h9_, h10_, h11_, h12_, h13_, h14_, h15_, h16_, h17_, h18_⟩
     have BK112 := Aside0.mk h2_
     have BK113 := Aside0.mk h3_
     have GW112 := Aside0.mk h4_
     have GE112 := Aside0.mk h5_
     have NB103_112 := Aside0.mk h6_
     have NB112_103 := Aside0.mk h7_
     have NB104_112 := Aside0.mk h8_
     have NB112_104 := Aside0.mk h9_
     have NB113_112 := Aside0.mk h10_
     have NB112_113 := Aside0.mk h11_
     have GW113 := Aside0.mk h12_
     have GE113 := Aside0.mk h13_
     have NB103_113 := Aside0.mk h14_
     have NB113_103 := Aside0.mk h15_
     have NB104_113 := Aside0.mk h16_
     have NB113_104 := Aside0.mk h17_
     replace BK103 := Aside0.mk h0_
     replace BK104 := Aside0.mk h1_
     replace HB := Aside0.mk h18_
     clear h0_ h1_ h2_ h3_ h4_ h5_ h6_ h7_ h8_ h9_ h10_ h11_ h12_ h13_ h14_ h15_ h16_ h17_ h18_
     have hHeld := hS_
     refine nn ?_
     refine one_ (i := 14) (N := none) #[T,T,T,T,T,T,T,T,T,T,T,T,T,T,T,N] rfl rfl (on1 HT_) (by decide) (fun K hK => ?_)
     have hs42 : w41.cell? ⟨gb112, 0, none⟩ = some (.int .i64 0) := bc BK112 0
     have hfs42 := blk_frozen BK112.out 0
     have hns42_0 := NB103_112.out
     have hns42_1 := NB104_112.out
     have hns42_3 := NB113_112.out
     have hms42_0 := NB112_103.out
     have hms42_1 := NB112_104.out
     have hms42_3 := NB112_113.out
     have hs43 : w41.cell? ⟨gb112, 1, none⟩ = some (.int .i64 0) := bc BK112 1
     have hfs43 := blk_frozen BK112.out 1
     have hns43_0 := NB103_112.out
     have hns43_1 := NB104_112.out
     have hns43_3 := NB113_112.out
     have hms43_0 := NB112_103.out
     have hms43_1 := NB112_104.out
     have hms43_3 := NB112_113.out
     refine skip_ (w1 := ?_) (by rfl) rfl ?_ ?_
     rotate_left
     ·go_simp
      rfl
     refine hK.out _ _ ⟨((cell_far (p := ⟨gb112, _, none⟩) NB103_112.out _).trans (((cell_far (p := ⟨gb112, _, none⟩) NB103_112.out _).trans (hHeld.1)))), ((cell_far (p := ⟨gb112, _, none⟩) NB103_112.out _).trans (((cell_far (p := ⟨gb112, _, none⟩) NB103_112.out _).trans (hHeld.2.1)))), ((cell_far (p := ⟨gb112, _, none⟩) NB104_112.out _).trans (((cell_far (p := ⟨gb112, _, none⟩) NB104_112.out _).trans (hHeld.2.2.1)))), ((cell_far (p := ⟨gb112, _, none⟩) NB104_112.out _).trans (((cell_far (p := ⟨gb112, _, none⟩) NB104_112.out _).trans (hHeld.2.2.2.1)))), ((cell_far (p := ⟨gb112, _, none⟩) (fr hw106_0 GW112) _).trans (((cell_far (p := ⟨gb112, _, none⟩) (fr hw106_0 GW112) _).trans (hHeld.2.2.2.2.1)))), ((cell_far (p := ⟨gb112, _, none⟩) (fr hw106_1 GW112) _).trans (((cell_far (p := ⟨gb112, _, none⟩) (fr hw106_1 GW112) _).trans (hHeld.2.2.2.2.2.1)))), ((cell_far (p := ⟨gb112, _, none⟩) (fr hw109_0 GW112) _).trans (((cell_far (p := ⟨gb112, _, none⟩) (fr hw109_0 GW112) _).trans (hHeld.2.2.2.2.2.2.1)))), ((cell_far (p := ⟨gb112, _, none⟩) (fr hw109_1 GW112) _).trans (((cell_far (p := ⟨gb112, _, none⟩) (fr hw109_1 GW112) _).trans (hHeld.2.2.2.2.2.2.2))))⟩ (fun hHeld => ?_)
     clear hK K
     refine one_ (i := 15) (N := none) #[T,T,T,T,T,T,T,T,T,T,T,T,T,T,T,T] rfl rfl (on1 HT_) (by decide) (fun K hK => ?_)
     have hs44 : w41.cell? ⟨gb113, 0, none⟩ = some (.int .i64 0) := bc BK113 0
     have hfs44 := blk_frozen BK113.out 0
     have hns44_0 := NB103_113.out
     have hns44_1 := NB104_113.out
     have hns44_2 := NB112_113.out
     have hms44_0 := NB113_103.out
     have hms44_1 := NB113_104.out
     have hms44_2 := NB113_112.out
     have hs45 : w41.cell? ⟨gb113, 1, none⟩ = some (.int .i64 0) := bc BK113 1
     have hfs45 := blk_frozen BK113.out 1
     have hns45_0 := NB103_113.out
     have hns45_1 := NB104_113.out
     have hns45_2 := NB112_113.out
     have hms45_0 := NB113_103.out
     have hms45_1 := NB113_104.out
     have hms45_2 := NB113_112.out
     refine skip_ (w1 := ?_) (by rfl) rfl ?_ ?_
     rotate_left
     ·go_simp
      rfl
     refine hK.out _ _ ⟨((cell_far (p := ⟨gb113, _, none⟩) NB103_113.out _).trans (((cell_far (p := ⟨gb113, _, none⟩) NB103_113.out _).trans (hHeld.1)))), ((cell_far (p := ⟨gb113, _, none⟩) NB103_113.out _).trans (((cell_far (p := ⟨gb113, _, none⟩) NB103_113.out _).trans (hHeld.2.1)))), ((cell_far (p := ⟨gb113, _, none⟩) NB104_113.out _).trans (((cell_far (p := ⟨gb113, _, none⟩) NB104_113.out _).trans (hHeld.2.2.1)))), ((cell_far (p := ⟨gb113, _, none⟩) NB104_113.out _).trans (((cell_far (p := ⟨gb113, _, none⟩) NB104_113.out _).trans (hHeld.2.2.2.1)))), ((cell_far (p := ⟨gb113, _, none⟩) (fr hw106_0 GW113) _).trans (((cell_far (p := ⟨gb113, _, none⟩) (fr hw106_0 GW113) _).trans (hHeld.2.2.2.2.1)))), ((cell_far (p := ⟨gb113, _, none⟩) (fr hw106_1 GW113) _).trans (((cell_far (p := ⟨gb113, _, none⟩) (fr hw106_1 GW113) _).trans (hHeld.2.2.2.2.2.1)))), ((cell_far (p := ⟨gb113, _, none⟩) (fr hw109_0 GW113) _).trans (((cell_far (p := ⟨gb113, _, none⟩) (fr hw109_0 GW113) _).trans (hHeld.2.2.2.2.2.2.1)))), ((cell_far (p := ⟨gb113, _, none⟩) (fr hw109_1 GW113) _).trans (((cell_far (p := ⟨gb113, _, none⟩) (fr hw109_1 GW113) _).trans (hHeld.2.2.2.2.2.2.2))))⟩ (fun hHeld => ?_)
     clear hK K
     refine done_ (done_of HT_.out (by kernel_rfl)) ?_
     go_upto_region 9 with (fail)
     go_cut [59] (fun v59 wc => ∃ (kq : Nat) (x59_24 : Bool), v59 = .bool x59_24 ∧ Aside0 (shape_simple.j1 kq l0 (l0.length : Int) x13_1 (l0.length : Int) x13_1 x59_24 ((rd_T41 l0 (ji7)).f0) ((rd_T41 l0 (ji7)).f1) = some r) ∧ Aside0 (kq ≤ k1) ∧ Aside0 (wc.heap[gb103]? = some (.cells #[.int .i64 ((rd_T41 l0 (ji4)).f0), .int .i64 ((rd_T41 l0 (ji4)).f1)] 41 (0, 0))) ∧ Aside0 (wc.heap[gb104]? = some (.cells #[.int .i64 ((rd_T41 l0 (ji7)).f0), .int .i64 ((rd_T41 l0 (ji7)).f1)] 41 (0, 0))) ∧ Aside0 (wc.heap[gb112]? = some (.cells #[.int .i64 t107, .int .i64 t108] 41 (0, 0))) ∧ Aside0 (wc.heap[gb113]? = some (.cells #[.int .i64 t110, .int .i64 t111] 41 (0, 0))) ∧ Aside0 (Below w.heap.size w wc))
     case first =>
      have H := HC25.out
      clear HC25
      replace H := Option.bind_eq_some_iff.mp H
      obtain ⟨t114, A460, H⟩ := H
      try dsimp only at H
      have A46 := Aside0.mk A460
      clear A460
      by_cases c47 : t114 = 0
      ·rw [if_pos c47] at H
       have c47b0 : (t114 == 0) = true := beq_iff_eq.mpr c47
       have c47b1 : (t114 != 0) = false := bne_eq_false_iff_eq.mpr c47
       clear c47
       (first | rw [c47b0] | (simp only [i64_w, i32_w]; rw [c47b0]) | skip)
       replace H := Option.bind_eq_some_iff.mp H
       obtain ⟨t115, A480, H⟩ := H
       try dsimp only at H
       have A48 := Aside0.mk A480
       clear A480
       have H' := Aside0.mk H
       clear H
       have hnb49 := NB112_103.out
       have hnc49 := NB103_112.out
       have hnb50 := NB112_104.out
       have hnc50 := NB104_112.out
       have hnb51 := NB112_113.out
       have hnc51 := NB113_112.out
       obtain ⟨hcz52_0, hcz52_1, hfz52_0, hfz52_1⟩ := b2 BK112
       have hnb53 := NB113_103.out
       have hnc53 := NB103_113.out
       have hnb54 := NB113_104.out
       have hnc54 := NB104_113.out
       obtain ⟨hcz55_0, hcz55_1, hfz55_0, hfz55_1⟩ := b2 BK113
       go_wp2_with (first | ((with_reducible refine gc 77 rfl ?_); refine goesL_ (some 52) rfl rfl Try.func77 (by kernel_rfl) rfl #[.agg #[.int .i64 t107, .int .i64 t108], .agg #[.int .i64 t110, .int .i64 t111]] rfl sg ?_; (with_reducible refine (shape_cross.calls t107 t108 t110 t111 t114 _ A46.out).mono ?_); rintro e w56 ⟨rfl, hb⟩; refine ⟨_, rfl, ?_⟩; replace BK103 := Aside0.mk (blk_below (g := gb103) (o := .cells #[.int .i64 ((rd_T41 l0 (ji4)).f0), .int .i64 ((rd_T41 l0 (ji4)).f1)] 41 (0, 0)) (by refine bf NB103_113 ?_; refine bf NB103_113 ?_; refine bf NB103_112 ?_; refine bf NB103_112 ?_; refine bd ?_; exact BK103.out) hb); replace BK104 := Aside0.mk (blk_below (g := gb104) (o := .cells #[.int .i64 ((rd_T41 l0 (ji7)).f0), .int .i64 ((rd_T41 l0 (ji7)).f1)] 41 (0, 0)) (by refine bf NB104_113 ?_; refine bf NB104_113 ?_; refine bf NB104_112 ?_; refine bf NB104_112 ?_; refine bd ?_; exact BK104.out) hb); replace BK112 := Aside0.mk (blk_below (g := gb112) (o := .cells #[.int .i64 t107, .int .i64 t108] 41 (0, 0)) (by refine bf NB112_113 ?_; refine bf NB112_113 ?_; refine bd ?_; refine blk_put (cs := #[.int .i64 t107, .int .i64 0]) ?_ 1 _ rfl; refine bd ?_; refine blk_put (cs := #[.int .i64 0, .int .i64 0]) ?_ 0 _ rfl; refine bd ?_; exact BK112.out) hb); replace BK113 := Aside0.mk (blk_below (g := gb113) (o := .cells #[.int .i64 t110, .int .i64 t111] 41 (0, 0)) (by refine bd ?_; refine blk_put (cs := #[.int .i64 t110, .int .i64 0]) ?_ 1 _ rfl; refine bd ?_; refine blk_put (cs := #[.int .i64 0, .int .i64 0]) ?_ 0 _ rfl; refine bf NB113_112 ?_; refine bf NB113_112 ?_; refine bd ?_; exact BK113.out) hb); replace HB := bz hb; (try clear hb); obtain ⟨hcz57_0, hcz57_1, hfz57_0, hfz57_1⟩ := b2 BK112; obtain ⟨hcz58_0, hcz58_1, hfz58_0, hfz58_1⟩ := b2 BK113) | (go_at_call 80; (with_reducible refine (shape_dot.calls t107 t108 t110 t111 t115 _ A48.out).mono ?_); rintro e w59 ⟨rfl, hb⟩; replace BK103 := kb BK103 hb; replace BK104 := kb BK104 hb; replace BK112 := kb BK112 hb; replace BK113 := kb BK113 hb; replace HB := bz hb; (try clear hb)))
       go_meet
       case rel => exact ⟨_, (decide (t115 > 0)), sd, H', ⟨by have := HK1.out; first | omega | exact Nat.le_refl _⟩, ⟨bk BK103⟩, ⟨bk BK104⟩, ⟨bk BK112⟩, ⟨bk BK113⟩, ⟨bh⟩⟩
      ·rw [if_neg c47] at H
       have c47b0 : (t114 == 0) = false := beq_eq_false_iff_ne.mpr c47
       have c47b1 : (t114 != 0) = true := bne_iff_ne.mpr c47
       (first | rw [c47b0] | (simp only [i64_w, i32_w]; rw [c47b0]) | skip)
       have H' := Aside0.mk H
       clear H
       have hnb60 := NB112_103.out
       have hnc60 := NB103_112.out
       have hnb61 := NB112_104.out
       have hnc61 := NB104_112.out
       have hnb62 := NB112_113.out
       have hnc62 := NB113_112.out
       obtain ⟨hcz63_0, hcz63_1, hfz63_0, hfz63_1⟩ := b2 BK112
       have hnb64 := NB113_103.out
       have hnc64 := NB103_113.out
       have hnb65 := NB113_104.out
       have hnc65 := NB104_113.out
       obtain ⟨hcz66_0, hcz66_1, hfz66_0, hfz66_1⟩ := b2 BK113
       go_wp2_with (first | ((with_reducible refine gc 77 rfl ?_); refine goesL_ (some 52) rfl rfl Try.func77 (by kernel_rfl) rfl #[.agg #[.int .i64 t107, .int .i64 t108], .agg #[.int .i64 t110, .int .i64 t111]] rfl sg ?_; (with_reducible refine (shape_cross.calls t107 t108 t110 t111 t114 _ A46.out).mono ?_); rintro e w67 ⟨rfl, hb⟩; refine ⟨_, rfl, ?_⟩; replace BK103 := Aside0.mk (blk_below (g := gb103) (o := .cells #[.int .i64 ((rd_T41 l0 (ji4)).f0), .int .i64 ((rd_T41 l0 (ji4)).f1)] 41 (0, 0)) (by refine bf NB103_113 ?_; refine bf NB103_113 ?_; refine bf NB103_112 ?_; refine bf NB103_112 ?_; refine bd ?_; exact BK103.out) hb); replace BK104 := Aside0.mk (blk_below (g := gb104) (o := .cells #[.int .i64 ((rd_T41 l0 (ji7)).f0), .int .i64 ((rd_T41 l0 (ji7)).f1)] 41 (0, 0)) (by refine bf NB104_113 ?_; refine bf NB104_113 ?_; refine bf NB104_112 ?_; refine bf NB104_112 ?_; refine bd ?_; exact BK104.out) hb); replace BK112 := Aside0.mk (blk_below (g := gb112) (o := .cells #[.int .i64 t107, .int .i64 t108] 41 (0, 0)) (by refine bf NB112_113 ?_; refine bf NB112_113 ?_; refine bd ?_; refine blk_put (cs := #[.int .i64 t107, .int .i64 0]) ?_ 1 _ rfl; refine bd ?_; refine blk_put (cs := #[.int .i64 0, .int .i64 0]) ?_ 0 _ rfl; refine bd ?_; exact BK112.out) hb); replace BK113 := Aside0.mk (blk_below (g := gb113) (o := .cells #[.int .i64 t110, .int .i64 t111] 41 (0, 0)) (by refine bd ?_; refine blk_put (cs := #[.int .i64 t110, .int .i64 0]) ?_ 1 _ rfl; refine bd ?_; refine blk_put (cs := #[.int .i64 0, .int .i64 0]) ?_ 0 _ rfl; refine bf NB113_112 ?_; refine bf NB113_112 ?_; refine bd ?_; exact BK113.out) hb); replace HB := bz hb; (try clear hb)))
       go_meet
       case rel => exact ⟨_, (false), sd, H', ⟨by have := HK1.out; first | omega | exact Nat.le_refl _⟩, ⟨bk BK103⟩, ⟨bk BK104⟩, ⟨bk BK112⟩, ⟨bk BK113⟩, ⟨bh⟩⟩
     case rest =>
      clear HC25
      skip
      obtain ⟨kq, x59_24, rfl, HA, HJ24, BK103, BK104, BK112, BK113, HB⟩ := hcut
      cases kq with
      | zero => exact absurd HA.out (by simp [shape_simple.j1])
      | succ kj24 =>
       have H := HA.out
       clear HA
       simp only [shape_simple.j1] at H
       by_cases c68 : x59_24 = true
       ·subst c68
        rw [if_pos rfl] at H
        obtain rfl := Option.some.inj H
        go_wp2
        go_ret
        exact ⟨by first | rfl | (simp [errW_none, errW_some] <;> rfl) | (simp only [← hji4, ← hji7]; first | rfl | (simp [errW_none, errW_some] <;> rfl)) | (simp [*, errW_none, errW_some] <;> rfl), bh⟩
       ·replace c68 := Bool.eq_false_iff.mpr c68
        subst c68
        rw [if_neg (show ¬ (false = true) by decide)] at H
        have H' := Aside0.mk H
        clear H
        go_wp2
        go_loopg [61] kj24 (fun kq v61 w' => ∃ (x61_3 : Int), v61 = .int .i64 x61_3 ∧ Aside0 (shape_simple.l1 kq l0 (l0.length : Int) x13_1 (l0.length : Int) x13_1 x13_1 x61_3 ((rd_T41 l0 (ji7)).f0) ((rd_T41 l0 (ji7)).f1) = some r) ∧ Aside0 (kq ≤ kj24) ∧ Aside0 (w'.heap[gb103]? = some (.cells #[.int .i64 ((rd_T41 l0 (ji4)).f0), .int .i64 ((rd_T41 l0 (ji4)).f1)] 41 (0, 0))) ∧ Aside0 (w'.heap[gb104]? = some (.cells #[.int .i64 ((rd_T41 l0 (ji7)).f0), .int .i64 ((rd_T41 l0 (ji7)).f1)] 41 (0, 0))) ∧ Aside0 (w'.heap[gb112]? = some (.cells #[.int .i64 t107, .int .i64 t108] 41 (0, 0))) ∧ Aside0 (w'.heap[gb113]? = some (.cells #[.int .i64 t110, .int .i64 t111] 41 (0, 0))) ∧ Aside0 (Below w.heap.size w w'))
        case atStart => exact ⟨(0), sd, H', ⟨Nat.le_refl _⟩, ⟨bk BK103⟩, ⟨bk BK104⟩, ⟨bk BK112⟩, ⟨bk BK113⟩, ⟨bh⟩⟩
        case round =>
         clear H'
         (try clear c68)
         obtain ⟨x61_3, rfl, HA, HK3, BK103, BK104, BK112, BK113, HB⟩ := hrel
         cases gk with
         | zero => exact absurd HA.out (by simp [shape_simple.l1])
         | succ k3 =>
          have H := HA.out
          clear HA
          simp only [shape_simple.l1] at H
          by_cases c69 : x61_3 < x13_1
          ·rw [if_pos c69] at H
           have c69b0 := decide_eq_true c69
           clear c69
           have HC70 := Aside0.mk H
           clear H
           go_upto_region 14 with (fail)
           go_cut [94] (fun v94 wc => ∃ (kq : Nat) (x94_69 : Bool), v94 = .bool x94_69 ∧ Aside0 (shape_simple.j3 kq l0 (l0.length : Int) x13_1 (l0.length : Int) x13_1 x13_1 x61_3 x94_69 ((rd_T41 l0 (ji7)).f0) ((rd_T41 l0 (ji7)).f1) = some r) ∧ Aside0 (kq ≤ k3) ∧ Aside0 (wc.heap[gb103]? = some (.cells #[.int .i64 ((rd_T41 l0 (ji4)).f0), .int .i64 ((rd_T41 l0 (ji4)).f1)] 41 (0, 0))) ∧ Aside0 (wc.heap[gb104]? = some (.cells #[.int .i64 ((rd_T41 l0 (ji7)).f0), .int .i64 ((rd_T41 l0 (ji7)).f1)] 41 (0, 0))) ∧ Aside0 (wc.heap[gb112]? = some (.cells #[.int .i64 t107, .int .i64 t108] 41 (0, 0))) ∧ Aside0 (wc.heap[gb113]? = some (.cells #[.int .i64 t110, .int .i64 t111] 41 (0, 0))) ∧ Aside0 (Below w.heap.size w wc))
           case first =>
            have H := HC70.out
            clear HC70
            by_cases c71 : (wrap64 (x61_3 + 1)) = x13_1
            ·rw [if_pos c71] at H
             have c71b0 : ((wrap64 (x61_3 + 1)) == x13_1) = true := beq_iff_eq.mpr c71
             have c71b1 : ((wrap64 (x61_3 + 1)) != x13_1) = false := bne_eq_false_iff_eq.mpr c71
             clear c71
             (first | rw [c71b0] | (simp only [i64_w, i32_w]; rw [c71b0]) | skip)
             have H' := Aside0.mk H
             clear H
             try go_wp2
             replace BK103 := Aside0.mk (blk_drew BK103.out)
             replace BK104 := Aside0.mk (blk_drew BK104.out)
             replace BK112 := Aside0.mk (blk_drew BK112.out)
             replace BK113 := Aside0.mk (blk_drew BK113.out)
             replace HB := Aside0.mk (below_drew1 HB.out)
             refine start_ (n := 31) (S := fun w' => True) (ds := []) #[N,N,N,N,N,N,N,N,N,N,N,N,N,N,N,N,N,N,N,N,N,N,N,N,N,N,N,N,N,N,N] (by kernel_rfl) rfl rfl trivial (fun hHeld => ?_); refine with_tabW shape_simple.tab14 shape_simple.bits14 (fun HT_ HW_ => ?_)
             generalize wr.drew = w72 at BK103 BK104 BK112 BK113 HB hHeld ⊢
             refine pu 0 64 HT_ ?_
             refine pu 1 65 HT_ ?_
             refine pu 2 66 HT_ ?_
             refine pu 3 67 HT_ ?_
             refine pu 4 68 HT_ ?_
             refine pz 5 69 HT_ ?_
             refine pz 6 70 HT_ ?_
             refine pz 7 71 HT_ ?_
             refine pz 8 72 HT_ ?_
             refine pz 9 73 HT_ ?_
             refine pz 10 74 HT_ ?_
             refine pz 11 75 HT_ ?_
             refine pz 12 76 HT_ ?_
             refine pu 13 77 HT_ ?_
             refine pu 14 78 HT_ ?_
             refine pz 15 79 HT_ ?_
             refine pz 16 80 HT_ ?_
             refine pz 17 81 HT_ ?_
             refine pz 18 82 HT_ ?_
             refine pz 19 83 HT_ ?_
             refine pz 20 84 HT_ ?_
             refine pz 21 85 HT_ ?_
             refine pz 22 86 HT_ ?_
             refine pz 23 87 HT_ ?_
             refine pz 24 88 HT_ ?_
             refine pz 25 89 HT_ ?_
             refine pz 26 90 HT_ ?_
             refine pz 27 91 HT_ ?_
             refine pz 28 92 HT_ ?_
             refine pz 29 93 HT_ ?_
             refine pu 30 94 HT_ ?_
             refine done_ (done_of HT_.out (by kernel_rfl)) ?_
             try go_wp2
             go_meet
             case rel => exact ⟨_, (false), sd, H', ⟨by have := HK1.out; have := HJ24.out; have := HK3.out; first | omega | exact Nat.le_refl _⟩, ⟨bk BK103⟩, ⟨bk BK104⟩, ⟨bk BK112⟩, ⟨bk BK113⟩, ⟨bh⟩⟩
            ·rw [if_neg c71] at H
             have c71b0 : ((wrap64 (x61_3 + 1)) == x13_1) = false := beq_eq_false_iff_ne.mpr c71
             have c71b1 : ((wrap64 (x61_3 + 1)) != x13_1) = true := bne_iff_ne.mpr c71
             (first | rw [c71b0] | (simp only [i64_w, i32_w]; rw [c71b0]) | skip)
             by_cases c73 : x61_3 = 0
             ·rw [if_pos c73] at H
              have c73b0 : (x61_3 == 0) = true := beq_iff_eq.mpr c73
              have c73b1 : (x61_3 != 0) = false := bne_eq_false_iff_eq.mpr c73
              clear c73
              by_cases c74 : x13_1 = (wrap64 ((l0.length : Int) - 1))
              ·rw [if_pos c74] at H
               have c74b0 : (x13_1 == (wrap64 ((l0.length : Int) - 1))) = true := beq_iff_eq.mpr c74
               have c74b1 : (x13_1 != (wrap64 ((l0.length : Int) - 1))) = false := bne_eq_false_iff_eq.mpr c74
               clear c74
               have H' := Aside0.mk H
               clear H
               try go_wp2
               replace BK103 := Aside0.mk (blk_drew BK103.out)
               replace BK104 := Aside0.mk (blk_drew BK104.out)
               replace BK112 := Aside0.mk (blk_drew BK112.out)
               replace BK113 := Aside0.mk (blk_drew BK113.out)
               replace HB := Aside0.mk (below_drew1 HB.out)
               refine start_ (n := 31) (S := fun w' => True) (ds := []) #[N,N,N,N,N,N,N,N,N,N,N,N,N,N,N,N,N,N,N,N,N,N,N,N,N,N,N,N,N,N,N] (by kernel_rfl) rfl rfl trivial (fun hHeld => ?_); refine with_tabW shape_simple.tab14 shape_simple.bits14 (fun HT_ HW_ => ?_)
               generalize wr.drew = w75 at BK103 BK104 BK112 BK113 HB hHeld ⊢
               refine pu 0 64 HT_ ?_
               refine pu 1 65 HT_ ?_
               refine pu 2 66 HT_ ?_
               refine pu 3 67 HT_ ?_
               refine pu 4 68 HT_ ?_
               refine pu 5 69 HT_ ?_
               refine pu 6 70 HT_ ?_
               refine pu 7 71 HT_ ?_
               refine pu 8 72 HT_ ?_
               refine pu 9 73 HT_ ?_
               refine pu 10 74 HT_ ?_
               refine pu 11 75 HT_ ?_
               refine pu 12 76 HT_ ?_
               refine pu 13 77 HT_ ?_
               refine pu 14 78 HT_ ?_
               refine pz 15 79 HT_ ?_
               refine pz 16 80 HT_ ?_
               refine pz 17 81 HT_ ?_
               refine pz 18 82 HT_ ?_
               refine pz 19 83 HT_ ?_
               refine pz 20 84 HT_ ?_
               refine pz 21 85 HT_ ?_
               refine pz 22 86 HT_ ?_
               refine pz 23 87 HT_ ?_
               refine pz 24 88 HT_ ?_
               refine pz 25 89 HT_ ?_
               refine pz 26 90 HT_ ?_
               refine pz 27 91 HT_ ?_
               refine pz 28 92 HT_ ?_
               refine pz 29 93 HT_ ?_
               refine pu 30 94 HT_ ?_
               refine done_ (done_of HT_.out (by kernel_rfl)) ?_
               try go_wp2
               go_meet
               case rel => exact ⟨_, (false), sd, H', ⟨by have := HK1.out; have := HJ24.out; have := HK3.out; first | omega | exact Nat.le_refl _⟩, ⟨bk BK103⟩, ⟨bk BK104⟩, ⟨bk BK112⟩, ⟨bk BK113⟩, ⟨bh⟩⟩
              ·rw [if_neg c74] at H
               have c74b0 : (x13_1 == (wrap64 ((l0.length : Int) - 1))) = false := beq_eq_false_iff_ne.mpr c74
               have c74b1 : (x13_1 != (wrap64 ((l0.length : Int) - 1))) = true := bne_iff_ne.mpr c74
               obtain ⟨c76, H⟩ := oi H
               have c76b0 := decide_eq_true c76
               clear c76
               obtain ⟨c77, H⟩ := oi H
               have c77b0 := decide_eq_true c77
               clear c77
               obtain ⟨c78, H⟩ := oi H
               have c78b0 := decide_eq_true c78
               clear c78
               obtain ⟨c79, H⟩ := oi H
               have c79b0 := decide_eq_true c79
               clear c79
               obtain ⟨ji80, hji80⟩ : ∃ j_ : Int, (wrap64 (x61_3 + 1)) = j_ := ⟨_, rfl⟩
               first | rw [hji80] at H | simp only [hji80] at H
               (try rw [hji80] at c71b0)
               (try rw [hji80] at c71b1)
               have hji80w : (IntKind.i64.wrap (x61_3 + 1)) = ji80 := (i64_w _).trans hji80
               obtain ⟨c81, H⟩ := oi H
               have c81b0 := decide_eq_true c81
               clear c81
               obtain ⟨c82, H⟩ := oi H
               have c82b0 := decide_eq_true c82
               clear c82
               replace H := Option.bind_eq_some_iff.mp H
               obtain ⟨t119, A830, H⟩ := H
               try dsimp only at H
               have A83 := Aside0.mk A830
               clear A830
               have H' := Aside0.mk H
               clear H
               try go_wp2
               replace BK103 := Aside0.mk (blk_drew BK103.out)
               replace BK104 := Aside0.mk (blk_drew BK104.out)
               replace BK112 := Aside0.mk (blk_drew BK112.out)
               replace BK113 := Aside0.mk (blk_drew BK113.out)
               replace HB := Aside0.mk (below_drew1 HB.out)
               have p116 : 0 ≤ (x13_1 : Int) := dt
               have q116 : x13_1 < (l0.length : Int) := dt
               obtain ⟨ad116, e116, hx116_0, hx116_1⟩ := at_T41 HR0.out x13_1 p116 q116
               have hw116_1 := hx116_1
               have hw116_0 := hx116_0
               obtain rfl : ad101 = ad116 := (by injection e116)
               replace hx116_0 := hc HB hx116_0
               replace hx116_1 := hc HB hx116_1
               replace p116 := eq_true p116
               replace q116 := eq_true q116
               have p117 : 0 ≤ (x61_3 : Int) := dt
               have q117 : x61_3 < (l0.length : Int) := dt
               obtain ⟨ad117, e117, hx117_0, hx117_1⟩ := at_T41 HR0.out x61_3 p117 q117
               have hw117_1 := hx117_1
               have hw117_0 := hx117_0
               obtain rfl : ad101 = ad117 := (by injection e117)
               replace hx117_0 := hc HB hx117_0
               replace hx117_1 := hc HB hx117_1
               replace p117 := eq_true p117
               replace q117 := eq_true q117
               have p118 : 0 ≤ ((ji80) : Int) := dt
               have q118 : (ji80) < (l0.length : Int) := dt
               obtain ⟨ad118, e118, hx118_0, hx118_1⟩ := at_T41 HR0.out (ji80) p118 q118
               have hw118_1 := hx118_1
               have hw118_0 := hx118_0
               obtain rfl : ad101 = ad118 := (by injection e118)
               replace hx118_0 := hc HB hx118_0
               replace hx118_1 := hc HB hx118_1
               replace p118 := eq_true p118
               replace q118 := eq_true q118
               refine start_ (n := 31) (S := fun w' => w'.cell? ⟨gb104, 0, none⟩ = some (.int .i64 ((rd_T41 l0 (ji7)).f0)) ∧ w'.cell? ⟨gb104, 1, none⟩ = some (.int .i64 ((rd_T41 l0 (ji7)).f1)) ∧ w'.cell? (ad101.add ((x13_1).toNat * 2)) = some (.int .i64 ((rd_T41 l0 x13_1).f0)) ∧ w'.cell? ⟨(ad101.add ((x13_1).toNat * 2)).block, (ad101.add ((x13_1).toNat * 2)).off + 1, none⟩ = some (.int .i64 ((rd_T41 l0 x13_1).f1)) ∧ w'.cell? (ad101.add ((x61_3).toNat * 2)) = some (.int .i64 ((rd_T41 l0 x61_3).f0)) ∧ w'.cell? ⟨(ad101.add ((x61_3).toNat * 2)).block, (ad101.add ((x61_3).toNat * 2)).off + 1, none⟩ = some (.int .i64 ((rd_T41 l0 x61_3).f1)) ∧ w'.cell? (ad101.add (((ji80)).toNat * 2)) = some (.int .i64 ((rd_T41 l0 (ji80)).f0)) ∧ w'.cell? ⟨(ad101.add (((ji80)).toNat * 2)).block, (ad101.add (((ji80)).toNat * 2)).off + 1, none⟩ = some (.int .i64 ((rd_T41 l0 (ji80)).f1))) (ds := []) #[N,N,N,N,N,N,N,N,N,N,N,N,N,N,N,N,N,N,N,N,N,N,N,N,N,N,N,N,N,N,N] (by kernel_rfl) rfl rfl ⟨bc BK104 0, bc BK104 1, (hc HB hw116_0), (hc HB hw116_1), (hc HB hw117_0), (hc HB hw117_1), (hc HB hw118_0), (hc HB hw118_1)⟩ (fun hHeld => ?_); refine with_tabW shape_simple.tab14 shape_simple.bits14 (fun HT_ HW_ => ?_)
               generalize wr.drew = w84 at BK103 BK104 BK112 BK113 HB hx116_0 hx116_1 hx117_0 hx117_1 hx118_0 hx118_1 hHeld ⊢
               refine pu 0 64 HT_ ?_
               refine pu 1 65 HT_ ?_
               refine pu 2 66 HT_ ?_
               refine pu 3 67 HT_ ?_
               refine pu 4 68 HT_ ?_
               refine pu 5 69 HT_ ?_
               refine pu 6 70 HT_ ?_
               refine pu 7 71 HT_ ?_
               refine pu 8 72 HT_ ?_
               refine pu 9 73 HT_ ?_
               refine pu 10 74 HT_ ?_
               refine pu 11 75 HT_ ?_
               refine pu 12 76 HT_ ?_
               refine pu 13 77 HT_ ?_
               refine pu 14 78 HT_ ?_
               refine pu 15 79 HT_ ?_
               refine pu 16 80 HT_ ?_
               refine pu 17 81 HT_ ?_
               refine pu 20 84 HT_ ?_
               refine pu 21 85 HT_ ?_
               refine pu 22 86 HT_ ?_
               refine pu 24 88 HT_ ?_
               refine pu 25 89 HT_ ?_
               refine pu 26 90 HT_ ?_
               refine pu 27 91 HT_ ?_
               refine tk8 18 82 hHeld HT_ HW_ ?_
               refine tk8 19 83 hHeld HT_ HW_ ?_
               refine tk8 23 87 hHeld HT_ HW_ ?_
               refine tk8 28 92 hHeld HT_ HW_ ?_
               refine one_ (i := 29) (N := some 93) #[T,T,T,T,T,T,T,T,T,T,T,T,T,T,T,T,T,T,T,T,T,T,T,T,T,T,T,T,T,T,N] rfl rfl (on1 HT_) (by decide) (fun K hK => ?_)
               refine goes_ Try.func81 (by kernel_rfl) rfl #[.agg #[.int .i64 ((rd_T41 l0 x13_1).f0), .int .i64 ((rd_T41 l0 x13_1).f1)], .agg #[.int .i64 ((rd_T41 l0 (ji7)).f0), .int .i64 ((rd_T41 l0 (ji7)).f1)], .agg #[.int .i64 ((rd_T41 l0 x61_3).f0), .int .i64 ((rd_T41 l0 x61_3).f1)], .agg #[.int .i64 ((rd_T41 l0 (ji80)).f0), .int .i64 ((rd_T41 l0 (ji80)).f1)]] (by rfl) rfl rfl (by (try simp only [List.map_toArray, List.map_cons, List.map_nil]); first | done | (simp only [hji7, hji80]; rfl) | rfl | (simp only [List.length_drop, List.length_take]; rfl)) ?_
               with_reducible refine (shape_meet.calls k3 ((rd_T41 l0 x13_1).f0) ((rd_T41 l0 x13_1).f1) ((rd_T41 l0 (ji7)).f0) ((rd_T41 l0 (ji7)).f1) ((rd_T41 l0 x61_3).f0) ((rd_T41 l0 x61_3).f1) ((rd_T41 l0 (ji80)).f0) ((rd_T41 l0 (ji80)).f1) t119 _ A83.out).mono ?_
               rintro e w85 ⟨rfl, hb⟩
               refine ⟨_, rfl, ?_⟩
               replace BK103 := kb BK103 hb
               replace BK104 := kb BK104 hb
               replace BK112 := kb BK112 hb
               replace BK113 := kb BK113 hb
               replace HB := bz hb
               (try clear hb)
               refine hK.out _ _ ⟨bc BK104 0, bc BK104 1, (hc HB hw116_0), (hc HB hw116_1), (hc HB hw117_0), (hc HB hw117_1), (hc HB hw118_0), (hc HB hw118_1)⟩ (fun hHeld => ?_)
               clear hK K
               refine nm 93 ?_
               refine pu 30 94 HT_ ?_
               refine done_ (done_of HT_.out (by kernel_rfl)) ?_
               try go_wp2
               go_meet
               case rel => exact ⟨_, (t119), sd, H', ⟨by have := HK1.out; have := HJ24.out; have := HK3.out; first | omega | exact Nat.le_refl _⟩, ⟨bk BK103⟩, ⟨bk BK104⟩, ⟨bk BK112⟩, ⟨bk BK113⟩, ⟨bh⟩⟩
             ·rw [if_neg c73] at H
              have c73b0 : (x61_3 == 0) = false := beq_eq_false_iff_ne.mpr c73
              have c73b1 : (x61_3 != 0) = true := bne_iff_ne.mpr c73
              obtain ⟨c86, H⟩ := oi H
              have c86b0 := decide_eq_true c86
              clear c86
              obtain ⟨c87, H⟩ := oi H
              have c87b0 := decide_eq_true c87
              clear c87
              obtain ⟨c88, H⟩ := oi H
              have c88b0 := decide_eq_true c88
              clear c88
              obtain ⟨c89, H⟩ := oi H
              have c89b0 := decide_eq_true c89
              clear c89
              obtain ⟨ji90, hji90⟩ : ∃ j_ : Int, (wrap64 (x61_3 + 1)) = j_ := ⟨_, rfl⟩
              first | rw [hji90] at H | simp only [hji90] at H
              (try rw [hji90] at c71b0)
              (try rw [hji90] at c71b1)
              have hji90w : (IntKind.i64.wrap (x61_3 + 1)) = ji90 := (i64_w _).trans hji90
              obtain ⟨c91, H⟩ := oi H
              have c91b0 := decide_eq_true c91
              clear c91
              obtain ⟨c92, H⟩ := oi H
              have c92b0 := decide_eq_true c92
              clear c92
              replace H := Option.bind_eq_some_iff.mp H
              obtain ⟨t123, A930, H⟩ := H
              try dsimp only at H
              have A93 := Aside0.mk A930
              clear A930
              have H' := Aside0.mk H
              clear H
              try go_wp2
              replace BK103 := Aside0.mk (blk_drew BK103.out)
              replace BK104 := Aside0.mk (blk_drew BK104.out)
              replace BK112 := Aside0.mk (blk_drew BK112.out)
              replace BK113 := Aside0.mk (blk_drew BK113.out)
              replace HB := Aside0.mk (below_drew1 HB.out)
              have p120 : 0 ≤ (x13_1 : Int) := dt
              have q120 : x13_1 < (l0.length : Int) := dt
              obtain ⟨ad120, e120, hx120_0, hx120_1⟩ := at_T41 HR0.out x13_1 p120 q120
              have hw120_1 := hx120_1
              have hw120_0 := hx120_0
              obtain rfl : ad101 = ad120 := (by injection e120)
              replace hx120_0 := hc HB hx120_0
              replace hx120_1 := hc HB hx120_1
              replace p120 := eq_true p120
              replace q120 := eq_true q120
              have p121 : 0 ≤ (x61_3 : Int) := dt
              have q121 : x61_3 < (l0.length : Int) := dt
              obtain ⟨ad121, e121, hx121_0, hx121_1⟩ := at_T41 HR0.out x61_3 p121 q121
              have hw121_1 := hx121_1
              have hw121_0 := hx121_0
              obtain rfl : ad101 = ad121 := (by injection e121)
              replace hx121_0 := hc HB hx121_0
              replace hx121_1 := hc HB hx121_1
              replace p121 := eq_true p121
              replace q121 := eq_true q121
              have p122 : 0 ≤ ((ji90) : Int) := dt
              have q122 : (ji90) < (l0.length : Int) := dt
              obtain ⟨ad122, e122, hx122_0, hx122_1⟩ := at_T41 HR0.out (ji90) p122 q122
              have hw122_1 := hx122_1
              have hw122_0 := hx122_0
              obtain rfl : ad101 = ad122 := (by injection e122)
              replace hx122_0 := hc HB hx122_0
              replace hx122_1 := hc HB hx122_1
              replace p122 := eq_true p122
              replace q122 := eq_true q122
              refine start_ (n := 31) (S := fun w' => w'.cell? ⟨gb104, 0, none⟩ = some (.int .i64 ((rd_T41 l0 (ji7)).f0)) ∧ w'.cell? ⟨gb104, 1, none⟩ = some (.int .i64 ((rd_T41 l0 (ji7)).f1)) ∧ w'.cell? (ad101.add ((x13_1).toNat * 2)) = some (.int .i64 ((rd_T41 l0 x13_1).f0)) ∧ w'.cell? ⟨(ad101.add ((x13_1).toNat * 2)).block, (ad101.add ((x13_1).toNat * 2)).off + 1, none⟩ = some (.int .i64 ((rd_T41 l0 x13_1).f1)) ∧ w'.cell? (ad101.add ((x61_3).toNat * 2)) = some (.int .i64 ((rd_T41 l0 x61_3).f0)) ∧ w'.cell? ⟨(ad101.add ((x61_3).toNat * 2)).block, (ad101.add ((x61_3).toNat * 2)).off + 1, none⟩ = some (.int .i64 ((rd_T41 l0 x61_3).f1)) ∧ w'.cell? (ad101.add (((ji90)).toNat * 2)) = some (.int .i64 ((rd_T41 l0 (ji90)).f0)) ∧ w'.cell? ⟨(ad101.add (((ji90)).toNat * 2)).block, (ad101.add (((ji90)).toNat * 2)).off + 1, none⟩ = some (.int .i64 ((rd_T41 l0 (ji90)).f1))) (ds := []) #[N,N,N,N,N,N,N,N,N,N,N,N,N,N,N,N,N,N,N,N,N,N,N,N,N,N,N,N,N,N,N] (by kernel_rfl) rfl rfl ⟨bc BK104 0, bc BK104 1, (hc HB hw120_0), (hc HB hw120_1), (hc HB hw121_0), (hc HB hw121_1), (hc HB hw122_0), (hc HB hw122_1)⟩ (fun hHeld => ?_); refine with_tabW shape_simple.tab14 shape_simple.bits14 (fun HT_ HW_ => ?_)
              generalize wr.drew = w94 at BK103 BK104 BK112 BK113 HB hx120_0 hx120_1 hx121_0 hx121_1 hx122_0 hx122_1 hHeld ⊢
              refine pu 0 64 HT_ ?_
              refine pu 1 65 HT_ ?_
              refine pu 2 66 HT_ ?_
              refine pu 3 67 HT_ ?_
              refine pu 4 68 HT_ ?_
              refine pu 5 69 HT_ ?_
              refine pu 6 70 HT_ ?_
              refine pu 7 71 HT_ ?_
              refine pz 8 72 HT_ ?_
              refine pz 9 73 HT_ ?_
              refine pz 10 74 HT_ ?_
              refine pz 11 75 HT_ ?_
              refine pu 12 76 HT_ ?_
              refine pu 13 77 HT_ ?_
              refine pu 14 78 HT_ ?_
              refine pu 15 79 HT_ ?_
              refine pu 16 80 HT_ ?_
              refine pu 17 81 HT_ ?_
              refine pu 20 84 HT_ ?_
              refine pu 21 85 HT_ ?_
              refine pu 22 86 HT_ ?_
              refine pu 24 88 HT_ ?_
              refine pu 25 89 HT_ ?_
              refine pu 26 90 HT_ ?_
              refine pu 27 91 HT_ ?_
              refine tk8 18 82 hHeld HT_ HW_ ?_
              refine tk8 19 83 hHeld HT_ HW_ ?_
              refine tk8 23 87 hHeld HT_ HW_ ?_
              refine tk8 28 92 hHeld HT_ HW_ ?_
              refine one_ (i := 29) (N := some 93) #[T,T,T,T,T,T,T,T,T,T,T,T,T,T,T,T,T,T,T,T,T,T,T,T,T,T,T,T,T,T,N] rfl rfl (on1 HT_) (by decide) (fun K hK => ?_)
              refine goes_ Try.func81 (by kernel_rfl) rfl #[.agg #[.int .i64 ((rd_T41 l0 x13_1).f0), .int .i64 ((rd_T41 l0 x13_1).f1)], .agg #[.int .i64 ((rd_T41 l0 (ji7)).f0), .int .i64 ((rd_T41 l0 (ji7)).f1)], .agg #[.int .i64 ((rd_T41 l0 x61_3).f0), .int .i64 ((rd_T41 l0 x61_3).f1)], .agg #[.int .i64 ((rd_T41 l0 (ji90)).f0), .int .i64 ((rd_T41 l0 (ji90)).f1)]] (by rfl) rfl rfl (by (try simp only [List.map_toArray, List.map_cons, List.map_nil]); first | done | (simp only [hji7, hji90]; rfl) | rfl | (simp only [List.length_drop, List.length_take]; rfl)) ?_
              with_reducible refine (shape_meet.calls k3 ((rd_T41 l0 x13_1).f0) ((rd_T41 l0 x13_1).f1) ((rd_T41 l0 (ji7)).f0) ((rd_T41 l0 (ji7)).f1) ((rd_T41 l0 x61_3).f0) ((rd_T41 l0 x61_3).f1) ((rd_T41 l0 (ji90)).f0) ((rd_T41 l0 (ji90)).f1) t123 _ A93.out).mono ?_
              rintro e w95 ⟨rfl, hb⟩
              refine ⟨_, rfl, ?_⟩
              replace BK103 := kb BK103 hb
              replace BK104 := kb BK104 hb
              replace BK112 := kb BK112 hb
              replace BK113 := kb BK113 hb
              replace HB := bz hb
              (try clear hb)
              refine hK.out _ _ ⟨bc BK104 0, bc BK104 1, (hc HB hw120_0), (hc HB hw120_1), (hc HB hw121_0), (hc HB hw121_1), (hc HB hw122_0), (hc HB hw122_1)⟩ (fun hHeld => ?_)
              clear hK K
              refine nm 93 ?_
              refine pu 30 94 HT_ ?_
              refine done_ (done_of HT_.out (by kernel_rfl)) ?_
              try go_wp2
              go_meet
              case rel => exact ⟨_, (t123), sd, H', ⟨by have := HK1.out; have := HJ24.out; have := HK3.out; first | omega | exact Nat.le_refl _⟩, ⟨bk BK103⟩, ⟨bk BK104⟩, ⟨bk BK112⟩, ⟨bk BK113⟩, ⟨bh⟩⟩
           case rest =>
            clear HC70
            skip
            obtain ⟨kq, x94_69, rfl, HA, HJ69, BK103, BK104, BK112, BK113, HB⟩ := hcut
            cases kq with
            | zero => exact absurd HA.out (by simp [shape_simple.j3])
            | succ kj69 =>
             have H := HA.out
             clear HA
             simp only [shape_simple.j3] at H
             by_cases c96 : x94_69 = true
             ·subst c96
              rw [if_pos rfl] at H
              obtain rfl := Option.some.inj H
              go_wp2
              go_ret
              exact ⟨by first | rfl | (simp [errW_none, errW_some] <;> rfl) | (simp only [← hji4, ← hji7]; first | rfl | (simp [errW_none, errW_some] <;> rfl)) | (simp [*, errW_none, errW_some] <;> rfl), bh⟩
             ·replace c96 := Bool.eq_false_iff.mpr c96
              subst c96
              rw [if_neg (show ¬ (false = true) by decide)] at H
              have H' := Aside0.mk H
              clear H
              go_wp2
              go_roundg kj69
              case measure => have := HK1.out; have := HJ24.out; have := HK3.out; have := HJ69.out; omega
              case rel => exact ⟨(wrap64 (x61_3 + 1)), sd, H', ⟨by have := HK1.out; have := HJ24.out; have := HK3.out; have := HJ69.out; omega⟩, ⟨bk BK103⟩, ⟨bk BK104⟩, ⟨bk BK112⟩, ⟨bk BK113⟩, ⟨bh⟩⟩
          ·rw [if_neg c69] at H
           have c69b0 := decide_eq_false c69
           clear c69
           have H' := Aside0.mk H
           clear H
           go_wp2
           go_roundg k3
           case measure => have := HK1.out; have := HJ24.out; have := HK3.out; omega
           case rel => exact ⟨(wrap64 (x13_1 + 1)), sd, H', ⟨by have := HK1.out; have := HJ24.out; have := HK3.out; omega⟩, ⟨bh⟩⟩
   ·rw [if_neg c2] at H
    have c2b0 := decide_eq_false c2
    clear c2
    obtain rfl := Option.some.inj H
    go_wp2
    go_ret
    exact ⟨by exact er, bh⟩
end Go.Proofs.Ythehmkpcddafnaa.PG
end
section
namespace Go.Proofs.Ythehmkpcddafnaa.PG
open Go.RowKit Go.Proofs.YthehmkpcddafnaaW.PrintWords Go.Proofs.YthehmkpcddafnaaW.PrintLast Go.Proofs.YthehmkpcddafnaaW.PrintMore
variable {P : Program} {ops : Array Oper} {Q : Exit → Act → World → Prop}
/-- A call of a function value, by the function's contract, in a region that draws. -/
theorem goesV_ {oi : Oper} {N : Option Tmp} {a : Act} {w : World} {K : Act → World → Prop} {f : FuncId} {fn : Func} {c : Operand} {xs_ : Array Operand} {ts : Array TypeId} (hf : P.funcs[f]? = some fn) (hname : (fn.name == "runtime.NumGoroutine") = false) (hb : fn.body.isSome = true) (args : Array Value)
  (hw : Region.wanted oi (yielded ops a.tmps) = true) (hN : oi.dst = N) (hop : oi.op = .call { callee := .value c, args := xs_, argTypes := ts }) (hargs : xs_.map a.eval = args) (hc : a.eval c = .func (.func f) #[] #[])
  (h : Calls P f args w fun e w' => ∃ v, e = .returned v ∧ K (a.put N v) w') : if Region.wanted oi (yielded ops a.tmps) = true then Oper.wp P oi a w K Q else K (a.put N undef) w := by
 refine call_ f args hw hN ?_ h
 have he := enters_ hf hname hb args w
 unfold execOp
 simp [hop, resolve, Deferred.ofValue, invoke, hargs, he, hc]
/-- .. in a plain region. -/
theorem goesLV_ {rest : List Oper} {oi : Oper} {a : Act} {w : World} (N : Option Tmp) (hd : oi.dst = N) (hg : oi.guard = none) {f : FuncId} {fn : Func} {c : Operand} {xs_ : Array Operand} {ts : Array TypeId} (hf : P.funcs[f]? = some fn) (hname : (fn.name == "runtime.NumGoroutine") = false) (hb : fn.body.isSome = true) (args : Array Value)
  (hop : oi.op = .call { callee := .value c, args := xs_, argTypes := ts }) (hargs : xs_.map a.eval = args) (hc : a.eval c = .func (.func f) #[] #[])
  (h : Calls P f args w fun e w' => ∃ v, e = .returned v ∧ wpList P ops Q rest (a.put N v) w') : wpList P ops Q (oi :: rest) a w := by
 refine wpList_plain hg fun K hK => ?_
 have he := enters_ hf hname hb args w
 have hrun : (execOp a.eval oi).run P w = .ok (.enter f args) w := by
  unfold execOp
  simp [hop, resolve, Deferred.ofValue, invoke, hargs, he, hc]
 unfold Oper.wp
 rw [hrun, Oper.upon_enter]
 refine h.mono fun e w'' hh => ?_
 obtain ⟨v, rfl, hk⟩ := hh
 subst hd
 exact hK _ _ hk
/-- The operation is a call of a value that is this function. -/
theorem gate_value {rest : List Oper} {o : Oper} {a : Act} {W : World} {c : Operand} {xs_ : Array Operand} {ts : Array TypeId} (f : FuncId) (_ho : o.op = .call { callee := .value c, args := xs_, argTypes := ts }) (_hc : a.eval c = .func (.func f) #[] #[]) (h : wpList P ops Q (o :: rest) a W) : wpList P ops Q (o :: rest) a W := h
end Go.Proofs.Ythehmkpcddafnaa.PG
end
section
namespace Go.Proofs.Ythehmkpcddafnaa.PG
open Go.RowKit Go.Proofs.YthehmkpcddafnaaW.PrintWords Go.Proofs.YthehmkpcddafnaaW.PrintLast Go.Proofs.YthehmkpcddafnaaW.PrintMore
attribute [local go_sem] max2_int min2_int max_two min_two max_three min_three max_four min_four
set_option linter.unusedVariables false
set_option linter.unusedSimpArgs false
/-! ### shape_refused_simple: function 1036 -/
def shape_refused_simple.f (k : Nat) (l0 : List (S41))  : Option (Int) := (shape_polygon.f l0).bind fun t101 => (if t101 = true then ((shape_simple.f k l0).bind fun t102 => (if t102 = true then (some 0) else (some 2))) else (some 1))
set_option maxHeartbeats 8000000 in
set_option maxRecDepth 100000 in
theorem shape_refused_simple.calls (k : Nat) (A0 : Option Addr) (c0 : Nat) (l0 : List (S41))  (r : Int) (w : World) (hr0 : Kd.C k41 w A0 l0.length l0) (hc0 : l0.length ≤ c0) (h : shape_refused_simple.f k l0 = some r) :
  Calls Try.prog 36 #[.slice A0 l0.length c0, .func (.func 37) #[] #[]] w fun e w' => e = .returned (.int .i64 r) ∧ Below w.heap.size w w' := by
 have HR0 := Aside0.mk hr0
 have HC0 := Aside0.mk hc0
 clear hr0 hc0
 have HB := Aside0.mk (Below.refl w.heap.size w)
 have H : ((shape_polygon.f l0).bind fun t101 => (if t101 = true then ((shape_simple.f k l0).bind fun t102 => (if t102 = true then (some 0) else (some 2))) else (some 1))) = some r := h
 clear h
 replace H := Option.bind_eq_some_iff.mp H
 obtain ⟨t101, A30, H⟩ := H
 try dsimp only at H
 have A3 := Aside0.mk A30
 clear A30
 by_cases c4 : t101 = true
 ·subst c4
  rw [if_pos rfl] at H
  replace H := Option.bind_eq_some_iff.mp H
  obtain ⟨t102, A50, H⟩ := H
  try dsimp only at H
  have A5 := Aside0.mk A50
  clear A50
  by_cases c6 : t102 = true
  ·subst c6
   rw [if_pos rfl] at H
   obtain rfl := Option.some.inj H
   go_enter Try.func36, Try.ntmps36
   go_wp2_with (first | ((first | ((with_reducible refine gc 71 rfl ?_); refine goesL_ (some 7) rfl rfl Try.func71 (by kernel_rfl) rfl #[.slice A0 l0.length c0] rfl sg ?_) | ((with_reducible refine gate_value 71 rfl rfl ?_); refine goesLV_ (some 7) rfl rfl Try.func71 (by kernel_rfl) rfl #[.slice A0 l0.length c0] rfl sg rfl ?_)); (with_reducible refine (shape_polygon.calls _ _ l0 true _ ?side1 ?side2 A3.out).mono ?_); (case side1 => exact cs HR0.out); (case side2 => exact HC0.out); rintro e w7 ⟨rfl, hb⟩; refine ⟨_, rfl, ?_⟩; replace HB := bz hb; (try clear hb)) | ((first | ((with_reducible refine gc 37 rfl ?_); refine goesL_ (some 12) rfl rfl Try.func37 (by kernel_rfl) rfl #[.slice A0 l0.length c0] rfl sg ?_) | ((with_reducible refine gate_value 37 rfl rfl ?_); refine goesLV_ (some 12) rfl rfl Try.func37 (by kernel_rfl) rfl #[.slice A0 l0.length c0] rfl sg rfl ?_)); (with_reducible refine (shape_simple.calls k _ _ l0 true _ ?side1 ?side2 A5.out).mono ?_); (case side1 => exact cs (Kd.C_below HR0.out HB.out)); (case side2 => exact HC0.out); rintro e w8 ⟨rfl, hb⟩; refine ⟨_, rfl, ?_⟩; replace HB := bz hb; (try clear hb)))
   go_ret
   exact ⟨by exact er, bh⟩
  ·replace c6 := Bool.eq_false_iff.mpr c6
   subst c6
   rw [if_neg (show ¬ (false = true) by decide)] at H
   obtain rfl := Option.some.inj H
   go_enter Try.func36, Try.ntmps36
   go_wp2_with (first | ((first | ((with_reducible refine gc 71 rfl ?_); refine goesL_ (some 7) rfl rfl Try.func71 (by kernel_rfl) rfl #[.slice A0 l0.length c0] rfl sg ?_) | ((with_reducible refine gate_value 71 rfl rfl ?_); refine goesLV_ (some 7) rfl rfl Try.func71 (by kernel_rfl) rfl #[.slice A0 l0.length c0] rfl sg rfl ?_)); (with_reducible refine (shape_polygon.calls _ _ l0 true _ ?side1 ?side2 A3.out).mono ?_); (case side1 => exact cs HR0.out); (case side2 => exact HC0.out); rintro e w9 ⟨rfl, hb⟩; refine ⟨_, rfl, ?_⟩; replace HB := bz hb; (try clear hb)) | ((first | ((with_reducible refine gc 37 rfl ?_); refine goesL_ (some 12) rfl rfl Try.func37 (by kernel_rfl) rfl #[.slice A0 l0.length c0] rfl sg ?_) | ((with_reducible refine gate_value 37 rfl rfl ?_); refine goesLV_ (some 12) rfl rfl Try.func37 (by kernel_rfl) rfl #[.slice A0 l0.length c0] rfl sg rfl ?_)); (with_reducible refine (shape_simple.calls k _ _ l0 false _ ?side1 ?side2 A5.out).mono ?_); (case side1 => exact cs (Kd.C_below HR0.out HB.out)); (case side2 => exact HC0.out); rintro e w10 ⟨rfl, hb⟩; refine ⟨_, rfl, ?_⟩; replace HB := bz hb; (try clear hb)))
   go_ret
   exact ⟨by exact er, bh⟩
 ·replace c4 := Bool.eq_false_iff.mpr c4
  subst c4
  rw [if_neg (show ¬ (false = true) by decide)] at H
  obtain rfl := Option.some.inj H
  go_enter Try.func36, Try.ntmps36
  go_wp2_with (first | ((first | ((with_reducible refine gc 71 rfl ?_); refine goesL_ (some 7) rfl rfl Try.func71 (by kernel_rfl) rfl #[.slice A0 l0.length c0] rfl sg ?_) | ((with_reducible refine gate_value 71 rfl rfl ?_); refine goesLV_ (some 7) rfl rfl Try.func71 (by kernel_rfl) rfl #[.slice A0 l0.length c0] rfl sg rfl ?_)); (with_reducible refine (shape_polygon.calls _ _ l0 false _ ?side1 ?side2 A3.out).mono ?_); (case side1 => exact cs HR0.out); (case side2 => exact HC0.out); rintro e w11 ⟨rfl, hb⟩; refine ⟨_, rfl, ?_⟩; replace HB := bz hb; (try clear hb)))
  go_ret
  exact ⟨by exact er, bh⟩
/-! ### shape_area2: function 55 -/
def shape_area2.l0 : Nat → List (S41) → Int → Int → Int → Option (Int)
 | 0, _, _, _, _ => none
 | k + 1, x0, x3, x6, x7 => if x7 < x6 then (if 0 ≤ x7 then (if x7 < (x0.length : Int) then (if (x0.length : Int) = 0 then (none) else (if 0 ≤ (Int.tmod (wrap64 (x7 + 1)) (x0.length : Int)) then (if (Int.tmod (wrap64 (x7 + 1)) (x0.length : Int)) < (x0.length : Int) then ((shape_cross.f ((rd_T41 x0 x7).f0) ((rd_T41 x0 x7).f1) ((rd_T41 x0 (Int.tmod (wrap64 (x7 + 1)) (x0.length : Int))).f0) ((rd_T41 x0 (Int.tmod (wrap64 (x7 + 1)) (x0.length : Int))).f1)).bind fun t103 => (shape_area2.l0 k x0 (wrap64 (x3 + t103)) x6 (wrap64 (x7 + 1)))) else (none)) else (none))) else (none)) else (none)) else (some x3)
def shape_area2.f (k : Nat) (l0 : List (S41)) : Option (Int) := shape_area2.l0 k l0 0 (l0.length : Int) 0
def shape_area2.T5 : Bool × List (List Nat × List Nat) := (true, [([], []), ([], []), ([], []), ([1, 2], [1, 2]), ([3], [3]), ([], []), ([], []), ([6], [6]), ([], []), ([8], [8]), ([7, 9], [7, 9]), ([5, 10], [5, 10]), ([11], [11]), ([4, 12], [4, 12]), ([0, 13], [0, 13]), ([14, 13, 0, 1, 2, 3, 4, 5, 6, 7, 8, 9, 10, 11, 12, 13, 14], [0, 14])])
def shape_area2.B5 : List Nat := [0, 0, 0, 6, 14, 0, 0, 64, 0, 256, 960, 2016, 4064, 8190, 16383, 32767]
theorem shape_area2.tab5 : rtab .any (opsOf Try.f55 5) = shape_area2.T5 := by kernel_rfl
theorem shape_area2.bits5 : waitsOk shape_area2.T5.2 shape_area2.B5 = true := by kernel_rfl
set_option maxHeartbeats 8000000 in
set_option maxRecDepth 100000 in
theorem shape_area2.calls (k : Nat) (A0 : Option Addr) (c0 : Nat) (l0 : List (S41)) (r : Int) (w : World) (hr0 : Kd.C k41 w A0 l0.length l0) (hc0 : l0.length ≤ c0) (h : shape_area2.f k l0 = some r) :
  Calls Try.prog 55 #[.slice A0 l0.length c0] w fun e w' => e = .returned (.int .i64 r) ∧ Below w.heap.size w w' := by
 have hu41 := Try.underlying41
 have HR0 := Aside0.mk hr0
 have HC0 := Aside0.mk hc0
 clear hr0 hc0
 have HB := Aside0.mk (Below.refl w.heap.size w)
 have H : (shape_area2.l0 k l0 0 (l0.length : Int) 0) = some r := h
 clear h
 have H' := Aside0.mk H
 clear H
 go_enter Try.func55, Try.ntmps55
 go_wp2
 go_loopg [3, 7] k (fun kq v3 v7 w' => ∃ (x3_1 : Int) (x7_1 : Int), v3 = .int .i64 x3_1 ∧ v7 = .int .i64 x7_1 ∧ Aside0 (shape_area2.l0 kq l0 x3_1 (l0.length : Int) x7_1 = some r) ∧ Aside0 (kq ≤ k) ∧ Aside0 (Below w.heap.size w w'))
 case atStart => exact ⟨(0), (0), sd, sd, H', ⟨Nat.le_refl _⟩, ⟨bh⟩⟩
 case round =>
  clear H'
  obtain ⟨x3_1, x7_1, rfl, rfl, HA, HK1, HB⟩ := hrel
  cases gk with
  | zero => exact absurd HA.out (by simp [shape_area2.l0])
  | succ k1 =>
   have H := HA.out
   clear HA
   simp only [shape_area2.l0] at H
   by_cases c2 : x7_1 < (l0.length : Int)
   ·rw [if_pos c2] at H
    have c2b0 := decide_eq_true c2
    clear c2
    obtain ⟨c3, H⟩ := oi H
    have c3b0 := decide_eq_true c3
    clear c3
    obtain ⟨c4, H⟩ := oi H
    have c4b0 := decide_eq_true c4
    clear c4
    obtain ⟨c5, H⟩ := oj H
    have c5b0 : ((l0.length : Int) == 0) = false := beq_eq_false_iff_ne.mpr c5
    have c5b1 : ((l0.length : Int) != 0) = true := bne_iff_ne.mpr c5
    have c5b2 : ¬ (l0 = []) := fun h_ => c5 (by rw [h_]; rfl)
    obtain ⟨ji6, hji6⟩ : ∃ j_ : Int, (Int.tmod (wrap64 (x7_1 + 1)) (l0.length : Int)) = j_ := ⟨_, rfl⟩
    first | rw [hji6] at H | simp only [hji6] at H
    obtain ⟨c7, H⟩ := oi H
    have c7b0 := decide_eq_true c7
    clear c7
    obtain ⟨c8, H⟩ := oi H
    have c8b0 := decide_eq_true c8
    clear c8
    replace H := Option.bind_eq_some_iff.mp H
    obtain ⟨t103, A90, H⟩ := H
    try dsimp only at H
    have A9 := Aside0.mk A90
    clear A90
    have H' := Aside0.mk H
    clear H
    try go_wp2
    replace HB := Aside0.mk (below_drew1 HB.out)
    have p101 : 0 ≤ (x7_1 : Int) := dt
    have q101 : x7_1 < (l0.length : Int) := dt
    obtain ⟨ad101, e101, hx101_0, hx101_1⟩ := at_T41 HR0.out x7_1 p101 q101
    have hw101_1 := hx101_1
    have hw101_0 := hx101_0
    cases e101
    replace hx101_0 := hc HB hx101_0
    replace hx101_1 := hc HB hx101_1
    replace p101 := eq_true p101
    replace q101 := eq_true q101
    have p102 : 0 ≤ ((ji6) : Int) := dt
    have q102 : (ji6) < (l0.length : Int) := dt
    obtain ⟨ad102, e102, hx102_0, hx102_1⟩ := at_T41 HR0.out (ji6) p102 q102
    have hw102_1 := hx102_1
    have hw102_0 := hx102_0
    obtain rfl : ad101 = ad102 := (by injection e102)
    replace hx102_0 := hc HB hx102_0
    replace hx102_1 := hc HB hx102_1
    replace p102 := eq_true p102
    replace q102 := eq_true q102
    refine start_ (n := 16) (S := fun w' => w'.cell? (ad101.add ((x7_1).toNat * 2)) = some (.int .i64 ((rd_T41 l0 x7_1).f0)) ∧ w'.cell? ⟨(ad101.add ((x7_1).toNat * 2)).block, (ad101.add ((x7_1).toNat * 2)).off + 1, none⟩ = some (.int .i64 ((rd_T41 l0 x7_1).f1)) ∧ w'.cell? (ad101.add (((ji6)).toNat * 2)) = some (.int .i64 ((rd_T41 l0 (ji6)).f0)) ∧ w'.cell? ⟨(ad101.add (((ji6)).toNat * 2)).block, (ad101.add (((ji6)).toNat * 2)).off + 1, none⟩ = some (.int .i64 ((rd_T41 l0 (ji6)).f1))) (ds := []) #[N,N,N,N,N,N,N,N,N,N,N,N,N,N,N,N] (by kernel_rfl) rfl rfl ⟨(hc HB hw101_0), (hc HB hw101_1), (hc HB hw102_0), (hc HB hw102_1)⟩ (fun hHeld => ?_); refine with_tabW shape_area2.tab5 shape_area2.bits5 (fun HT_ HW_ => ?_)
    generalize wr.drew = w10 at HB hx101_0 hx101_1 hx102_0 hx102_1 hHeld ⊢
    refine pu 0 10 HT_ ?_
    refine pu 1 11 HT_ ?_
    refine pu 2 12 HT_ ?_
    refine pu 3 13 HT_ ?_
    refine pu 5 15 HT_ ?_
    refine pu 6 16 HT_ ?_
    refine pu 7 17 HT_ ?_
    refine pu 8 18 HT_ ?_
    refine pu 9 19 HT_ ?_
    refine pu 10 20 HT_ ?_
    refine pu 11 21 HT_ ?_
    refine tk4 4 14 hHeld HT_ HW_ ?_
    refine tk4 12 22 hHeld HT_ HW_ ?_
    refine one_ (i := 13) (N := some 23) #[T,T,T,T,T,T,T,T,T,T,T,T,T,T,N,N] rfl rfl (on1 HT_) (by decide) (fun K hK => ?_)
    refine goes_ Try.func77 (by kernel_rfl) rfl #[.agg #[.int .i64 ((rd_T41 l0 x7_1).f0), .int .i64 ((rd_T41 l0 x7_1).f1)], .agg #[.int .i64 ((rd_T41 l0 (ji6)).f0), .int .i64 ((rd_T41 l0 (ji6)).f1)]] (by rfl) rfl rfl (by (try simp only [List.map_toArray, List.map_cons, List.map_nil]); first | done | (simp only [hji6]; rfl) | rfl | (simp only [List.length_drop, List.length_take]; rfl)) ?_
    with_reducible refine (shape_cross.calls ((rd_T41 l0 x7_1).f0) ((rd_T41 l0 x7_1).f1) ((rd_T41 l0 (ji6)).f0) ((rd_T41 l0 (ji6)).f1) t103 _ A9.out).mono ?_
    rintro e w11 ⟨rfl, hb⟩
    refine ⟨_, rfl, ?_⟩
    replace HB := bz hb
    (try clear hb)
    refine hK.out _ _ ⟨(hc HB hw101_0), (hc HB hw101_1), (hc HB hw102_0), (hc HB hw102_1)⟩ (fun hHeld => ?_)
    clear hK K
    refine nm 23 ?_
    refine pu 14 24 HT_ ?_
    refine pu 15 3 HT_ ?_
    refine done_ (done_of HT_.out (by kernel_rfl)) ?_
    try go_wp2
    go_roundg k1
    case measure => have := HK1.out; omega
    case rel => exact ⟨(wrap64 (x3_1 + t103)), (wrap64 (x7_1 + 1)), sd, sd, H', ⟨by have := HK1.out; omega⟩, ⟨bh⟩⟩
   ·rw [if_neg c2] at H
    have c2b0 := decide_eq_false c2
    clear c2
    obtain rfl := Option.some.inj H
    go_wp2
    go_ret
    exact ⟨by exact er, bh⟩
/-! ### shape_where: function 73 -/
mutual
def shape_where.l0 : Nat → List (S41) → Int → Int → Int → Int → Int → Option (Int)
 | 0, _, _, _, _, _, _ => none
 | k + 1, x0, x5, x10, x11, x102000, x102001 => if x11 < x10 then (if 0 ≤ x11 then (if x11 < (x0.length : Int) then (if (x0.length : Int) = 0 then (none) else (if 0 ≤ (Int.tmod (wrap64 (x11 + 1)) (x0.length : Int)) then (if (Int.tmod (wrap64 (x11 + 1)) (x0.length : Int)) < (x0.length : Int) then ((shape_on.f ((rd_T41 x0 x11).f0) ((rd_T41 x0 x11).f1) ((rd_T41 x0 (Int.tmod (wrap64 (x11 + 1)) (x0.length : Int))).f0) ((rd_T41 x0 (Int.tmod (wrap64 (x11 + 1)) (x0.length : Int))).f1) x102000 x102001).bind fun t106 => (if t106 = true then (some 0) else (if ((rd_T41 x0 x11).f1) > ((rd_T41 x0 (Int.tmod (wrap64 (x11 + 1)) (x0.length : Int))).f1) then (shape_where.j1 k x0 x5 x10 x11 x102000 x102001 ((rd_T41 x0 (Int.tmod (wrap64 (x11 + 1)) (x0.length : Int))).f0) ((rd_T41 x0 (Int.tmod (wrap64 (x11 + 1)) (x0.length : Int))).f1) ((rd_T41 x0 x11).f0) ((rd_T41 x0 x11).f1)) else (shape_where.j1 k x0 x5 x10 x11 x102000 x102001 ((rd_T41 x0 x11).f0) ((rd_T41 x0 x11).f1) ((rd_T41 x0 (Int.tmod (wrap64 (x11 + 1)) (x0.length : Int))).f0) ((rd_T41 x0 (Int.tmod (wrap64 (x11 + 1)) (x0.length : Int))).f1))))) else (none)) else (none))) else (none)) else (none)) else (some x5)
def shape_where.j1 : Nat → List (S41) → Int → Int → Int → Int → Int → Int → Int → Int → Int → Option (Int)
 | 0, _, _, _, _, _, _, _, _, _, _ => none
 | k + 1, x0, x5, x10, x11, x102000, x102001, x105000, x105001, x106000, x106001 => if x105001 ≤ x102001 then (if x102001 < x106001 then ((shape_side.f x105000 x105001 x106000 x106001 x102000 x102001).bind fun t107 => (shape_where.j2 k x0 x5 x10 x11 (decide (t107 > 0)) x102000 x102001)) else (shape_where.j2 k x0 x5 x10 x11 false x102000 x102001)) else (shape_where.j2 k x0 x5 x10 x11 false x102000 x102001)
def shape_where.j2 : Nat → List (S41) → Int → Int → Int → Bool → Int → Int → Option (Int)
 | 0, _, _, _, _, _, _, _ => none
 | k + 1, x0, x5, x10, x11, x55, x102000, x102001 => if x55 = true then (shape_where.l0 k x0 (wrap64 (-x5)) x10 (wrap64 (x11 + 1)) x102000 x102001) else (shape_where.l0 k x0 x5 x10 (wrap64 (x11 + 1)) x102000 x102001)
end
def shape_where.f (k : Nat) (l0 : List (S41)) (a1_0 : Int) (a1_1 : Int) : Option (Int) := shape_where.l0 k l0 (-1) (l0.length : Int) 0 a1_0 a1_1
def shape_where.T5 : Bool × List (List Nat × List Nat) := (true, [([], []), ([], []), ([0, 1], [0, 1]), ([2], [2]), ([], []), ([], []), ([5], [5]), ([], []), ([7], [7]), ([6, 8], [6, 8]), ([4, 9], [4, 9]), ([10], [10]), ([], []), ([], []), ([12, 3, 0, 1, 2, 3, 12, 13], [3, 12]), ([13, 11, 14, 0, 1, 2, 3, 4, 5, 6, 7, 8, 9, 10, 11, 12, 13, 14], [11, 13])])
def shape_where.B5 : List Nat := [0, 0, 3, 7, 0, 0, 32, 0, 128, 480, 1008, 2032, 0, 0, 12303, 32767]
theorem shape_where.tab5 : rtab .any (opsOf Try.f73 5) = shape_where.T5 := by kernel_rfl
theorem shape_where.bits5 : waitsOk shape_where.T5.2 shape_where.B5 = true := by kernel_rfl
set_option maxHeartbeats 8000000 in
set_option maxRecDepth 100000 in
theorem shape_where.calls (k : Nat) (A0 : Option Addr) (c0 : Nat) (l0 : List (S41)) (a1_0 : Int) (a1_1 : Int) (r : Int) (w : World) (hr0 : Kd.C k41 w A0 l0.length l0) (hc0 : l0.length ≤ c0) (h : shape_where.f k l0 a1_0 a1_1 = some r) :
  Calls Try.prog 73 #[.slice A0 l0.length c0, .agg #[.int .i64 a1_0, .int .i64 a1_1]] w fun e w' => e = .returned (.int .i64 r) ∧ Below w.heap.size w w' := by
 have hu41 := Try.underlying41
 have HR0 := Aside0.mk hr0
 have HC0 := Aside0.mk hc0
 clear hr0 hc0
 have HB := Aside0.mk (Below.refl w.heap.size w)
 have H : (shape_where.l0 k l0 (-1) (l0.length : Int) 0 a1_0 a1_1) = some r := h
 clear h
 have H' := Aside0.mk H
 clear H
 go_enter Try.func73, Try.ntmps73
 go_wp2_with (first | ((with_reducible refine gate_dst (N := 3) rfl ?_); refine bxe 3 #[.int .i64 a1_0, .int .i64 a1_1] 41 ?_; intro gb101 hg w3 hbox hb; have BK101 := Aside0.mk (hbox); have GW101 := ga w hg; have GE101 := GW101; replace HB := bz hb; clear hb hbox hg))
 go_loopg [5, 11] k (fun kq v5 v11 w' => ∃ (x5_1 : Int) (x11_1 : Int), v5 = .int .i64 x5_1 ∧ v11 = .int .i64 x11_1 ∧ Aside0 (shape_where.l0 kq l0 x5_1 (l0.length : Int) x11_1 a1_0 a1_1 = some r) ∧ Aside0 (kq ≤ k) ∧ Aside0 (w'.heap[gb101]? = some (.cells #[.int .i64 a1_0, .int .i64 a1_1] 41 (0, 0))) ∧ Aside0 (Below w.heap.size w w'))
 case atStart => exact ⟨((-1)), (0), sd, sd, H', ⟨Nat.le_refl _⟩, ⟨bk BK101⟩, ⟨bh⟩⟩
 case round =>
  clear H'
  skip
  obtain ⟨x5_1, x11_1, rfl, rfl, HA, HK1, BK101, HB⟩ := hrel
  cases gk with
  | zero => exact absurd HA.out (by simp [shape_where.l0])
  | succ k1 =>
   have H := HA.out
   clear HA
   simp only [shape_where.l0] at H
   by_cases c4 : x11_1 < (l0.length : Int)
   ·rw [if_pos c4] at H
    have c4b0 := decide_eq_true c4
    clear c4
    obtain ⟨c5, H⟩ := oi H
    have c5b0 := decide_eq_true c5
    clear c5
    obtain ⟨c6, H⟩ := oi H
    have c6b0 := decide_eq_true c6
    clear c6
    obtain ⟨c7, H⟩ := oj H
    have c7b0 : ((l0.length : Int) == 0) = false := beq_eq_false_iff_ne.mpr c7
    have c7b1 : ((l0.length : Int) != 0) = true := bne_iff_ne.mpr c7
    have c7b2 : ¬ (l0 = []) := fun h_ => c7 (by rw [h_]; rfl)
    obtain ⟨ji8, hji8⟩ : ∃ j_ : Int, (Int.tmod (wrap64 (x11_1 + 1)) (l0.length : Int)) = j_ := ⟨_, rfl⟩
    first | rw [hji8] at H | simp only [hji8] at H
    obtain ⟨c9, H⟩ := oi H
    have c9b0 := decide_eq_true c9
    clear c9
    obtain ⟨c10, H⟩ := oi H
    have c10b0 := decide_eq_true c10
    clear c10
    replace H := Option.bind_eq_some_iff.mp H
    obtain ⟨t106, A110, H⟩ := H
    try dsimp only at H
    have A11 := Aside0.mk A110
    clear A110
    by_cases c12 : t106 = true
    ·subst c12
     rw [if_pos rfl] at H
     obtain rfl := Option.some.inj H
     try go_wp2
     replace BK101 := Aside0.mk (blk_drew BK101.out)
     replace HB := Aside0.mk (below_drew1 HB.out)
     have p102 : 0 ≤ (x11_1 : Int) := dt
     have q102 : x11_1 < (l0.length : Int) := dt
     obtain ⟨ad102, e102, hx102_0, hx102_1⟩ := at_T41 HR0.out x11_1 p102 q102
     have hw102_1 := hx102_1
     have hw102_0 := hx102_0
     cases e102
     replace hx102_0 := hc HB hx102_0
     replace hx102_1 := hc HB hx102_1
     replace p102 := eq_true p102
     replace q102 := eq_true q102
     have p103 : 0 ≤ ((ji8) : Int) := dt
     have q103 : (ji8) < (l0.length : Int) := dt
     obtain ⟨ad103, e103, hx103_0, hx103_1⟩ := at_T41 HR0.out (ji8) p103 q103
     have hw103_1 := hx103_1
     have hw103_0 := hx103_0
     obtain rfl : ad102 = ad103 := (by injection e103)
     replace hx103_0 := hc HB hx103_0
     replace hx103_1 := hc HB hx103_1
     replace p103 := eq_true p103
     replace q103 := eq_true q103
     refine start_ (n := 16) (S := fun w' => w'.cell? (ad102.add ((x11_1).toNat * 2)) = some (.int .i64 ((rd_T41 l0 x11_1).f0)) ∧ w'.cell? ⟨(ad102.add ((x11_1).toNat * 2)).block, (ad102.add ((x11_1).toNat * 2)).off + 1, none⟩ = some (.int .i64 ((rd_T41 l0 x11_1).f1)) ∧ w'.cell? (ad102.add (((ji8)).toNat * 2)) = some (.int .i64 ((rd_T41 l0 (ji8)).f0)) ∧ w'.cell? ⟨(ad102.add (((ji8)).toNat * 2)).block, (ad102.add (((ji8)).toNat * 2)).off + 1, none⟩ = some (.int .i64 ((rd_T41 l0 (ji8)).f1))) (ds := []) #[N,N,N,N,N,N,N,N,N,N,N,N,N,N,N,N] (by kernel_rfl) rfl rfl ⟨(hc HB hw102_0), (hc HB hw102_1), (hc HB hw103_0), (hc HB hw103_1)⟩ (fun hHeld => ?_); refine with_tabW shape_where.tab5 shape_where.bits5 (fun HT_ HW_ => ?_)
     generalize wr.drew = w13 at BK101 HB hx102_0 hx102_1 hx103_0 hx103_1 hHeld ⊢
     refine pu 0 14 HT_ ?_
     refine pu 1 15 HT_ ?_
     refine pu 2 16 HT_ ?_
     refine pu 4 18 HT_ ?_
     refine pu 5 19 HT_ ?_
     refine pu 6 20 HT_ ?_
     refine pu 7 21 HT_ ?_
     refine pu 8 22 HT_ ?_
     refine pu 9 23 HT_ ?_
     refine pu 10 24 HT_ ?_
     refine tk4 3 17 hHeld HT_ HW_ ?_
     refine tk4 11 25 hHeld HT_ HW_ ?_
     refine join_ (σ := Nat × Nat) 2 #[T,T,T,T,T,T,T,T,T,T,T,T,T,T,N,N] (fun s_ => [(7, .pointer (some ⟨s_.1, 0, none⟩)), (8, .pointer (some ⟨s_.2, 0, none⟩))]) (fun s_ w' => (w'.cell? (ad102.add ((x11_1).toNat * 2)) = some (.int .i64 ((rd_T41 l0 x11_1).f0)) ∧ w'.cell? ⟨(ad102.add ((x11_1).toNat * 2)).block, (ad102.add ((x11_1).toNat * 2)).off + 1, none⟩ = some (.int .i64 ((rd_T41 l0 x11_1).f1)) ∧ w'.cell? (ad102.add (((ji8)).toNat * 2)) = some (.int .i64 ((rd_T41 l0 (ji8)).f0)) ∧ w'.cell? ⟨(ad102.add (((ji8)).toNat * 2)).block, (ad102.add (((ji8)).toNat * 2)).off + 1, none⟩ = some (.int .i64 ((rd_T41 l0 (ji8)).f1))) ∧ (w'.heap[gb101]? = some (.cells #[.int .i64 a1_0, .int .i64 a1_1] 41 (0, 0))) ∧ (w'.heap[s_.1]? = some (.cells #[.int .i64 0, .int .i64 0] 41 (0, 0))) ∧ (w'.heap[s_.2]? = some (.cells #[.int .i64 0, .int .i64 0] 41 (0, 0))) ∧ (w.heap.size ≤ s_.1) ∧ (w.heap.size ≤ s_.1) ∧ (gb101 ≠ s_.1) ∧ (s_.1 ≠ gb101) ∧ (s_.2 ≠ s_.1) ∧ (s_.1 ≠ s_.2) ∧ (w.heap.size ≤ s_.2) ∧ (w.heap.size ≤ s_.2) ∧ (gb101 ≠ s_.2) ∧ (s_.2 ≠ gb101) ∧ (Below w.heap.size w w')) ?_ ?_
     rotate_left
     ·intro hCont
      refine two_ (i := 12) (j := 13) (Ni := some 7) (Nj := some 8) #[T,T,T,T,T,T,T,T,T,T,T,T,T,N,N,N] #[T,T,T,T,T,T,T,T,T,T,T,T,N,T,N,N] rfl rfl rfl rfl (on2 HT_) (by decide) (by decide) (fun K hK => ?_) (fun K hK => ?_)
      ·skip
       refine bxs 7 #[.int .i64 0, .int .i64 0] 41 ?_
       intro gb104 hg w14 hbox hb
       have BK104 := Aside0.mk (hbox)
       have GW104 := ga w hg
       have GE104 := GW104
       have NB101_104 := nb hg (kl BK101)
       have NB104_101 := bn NB101_104
       replace BK101 := kb BK101 hb
       replace HB := bz hb
       clear hb hbox hg
       refine hK.out _ _ ⟨(hc HB hw102_0), (hc HB hw102_1), (hc HB hw103_0), (hc HB hw103_1)⟩ (fun hHeld => ?_)
       clear hK K
       refine nm 7 ?_
       refine one_ (i := 13) (N := some 8) #[T,T,T,T,T,T,T,T,T,T,T,T,T,T,N,N] rfl rfl (on1 HT_) (by decide) (fun K hK => ?_)
       refine bxs 8 #[.int .i64 0, .int .i64 0] 41 ?_
       intro gb105 hg w15 hbox hb
       have BK105 := Aside0.mk (hbox)
       have GW105 := ga w hg
       have GE105 := GW105
       have NB101_105 := nb hg (kl BK101)
       have NB105_101 := bn NB101_105
       have NB104_105 := nb hg (kl BK104)
       have NB105_104 := bn NB104_105
       replace BK101 := kb BK101 hb
       replace BK104 := kb BK104 hb
       replace HB := bz hb
       clear hb hbox hg
       refine hK.out _ _ ⟨(hc HB hw102_0), (hc HB hw102_1), (hc HB hw103_0), (hc HB hw103_1)⟩ (fun hHeld => ?_)
       clear hK K
       refine nm 8 ?_
       exact norm_ pa (hCont (gb104, gb105) _ ⟨hHeld, bk BK101, bk BK104, bk BK105, GW104.out, GE104.out, NB101_104.out, NB104_101.out, NB105_104.out, NB104_105.out, GW105.out, GE105.out, NB101_105.out, NB105_101.out, bh⟩)
      ·skip
       refine bxs 8 #[.int .i64 0, .int .i64 0] 41 ?_
       intro gb105 hg w14 hbox hb
       have BK105 := Aside0.mk (hbox)
       have GW105 := ga w hg
       have GE105 := GW105
       have NB101_105 := nb hg (kl BK101)
       have NB105_101 := bn NB101_105
       replace BK101 := kb BK101 hb
       replace HB := bz hb
       clear hb hbox hg
       refine hK.out _ _ ⟨(hc HB hw102_0), (hc HB hw102_1), (hc HB hw103_0), (hc HB hw103_1)⟩ (fun hHeld => ?_)
       clear hK K
       refine nm 8 ?_
       refine one_ (i := 12) (N := some 7) #[T,T,T,T,T,T,T,T,T,T,T,T,T,T,N,N] rfl rfl (on1 HT_) (by decide) (fun K hK => ?_)
       refine bxs 7 #[.int .i64 0, .int .i64 0] 41 ?_
       intro gb104 hg w15 hbox hb
       have BK104 := Aside0.mk (hbox)
       have GW104 := ga w hg
       have GE104 := GW104
       have NB101_104 := nb hg (kl BK101)
       have NB104_101 := bn NB101_104
       have NB105_104 := nb hg (kl BK105)
       have NB104_105 := bn NB105_104
       replace BK101 := kb BK101 hb
       replace BK105 := kb BK105 hb
       replace HB := bz hb
       clear hb hbox hg
       refine hK.out _ _ ⟨(hc HB hw102_0), (hc HB hw102_1), (hc HB hw103_0), (hc HB hw103_1)⟩ (fun hHeld => ?_)
       clear hK K
       refine nm 7 ?_
       exact norm_ pa (hCont (gb104, gb105) _ ⟨hHeld, bk BK101, bk BK104, bk BK105, GW104.out, GE104.out, NB101_104.out, NB104_101.out, NB105_104.out, NB104_105.out, GW105.out, GE105.out, NB101_105.out, NB105_101.out, bh⟩)
     rintro ⟨gb104, gb105⟩ w16 ⟨hS_, h0_, h1_, h2_, h3_, h4_, h5_, h6_, h7_, h8_, h9_, h10_, h11_, h12_, h13_⟩
     have BK104 := Aside0.mk h1_
     have BK105 := Aside0.mk h2_
     have GW104 := Aside0.mk h3_
     have GE104 := Aside0.mk h4_
     have NB101_104 := Aside0.mk h5_
     have NB104_101 := Aside0.mk h6_
     have NB105_104 := Aside0.mk h7_
     have NB104_105 := Aside0.mk h8_
     have GW105 := Aside0.mk h9_
     have GE105 := Aside0.mk h10_
     have NB101_105 := Aside0.mk h11_
     have NB105_101 := Aside0.mk h12_
     replace BK101 := Aside0.mk h0_
     replace HB := Aside0.mk h13_
     clear h0_ h1_ h2_ h3_ h4_ h5_ h6_ h7_ h8_ h9_ h10_ h11_ h12_ h13_
     have hHeld := hS_
     refine nn ?_
     refine one_ (i := 14) (N := none) #[T,T,T,T,T,T,T,T,T,T,T,T,T,T,T,N] rfl rfl (on1 HT_) (by decide) (fun K hK => ?_)
     have hs17 : w16.cell? ⟨gb104, 0, none⟩ = some (.int .i64 0) := bc BK104 0
     have hfs17 := blk_frozen BK104.out 0
     have hns17_0 := NB101_104.out
     have hns17_2 := NB105_104.out
     have hms17_0 := NB104_101.out
     have hms17_2 := NB104_105.out
     have hs18 : w16.cell? ⟨gb104, 1, none⟩ = some (.int .i64 0) := bc BK104 1
     have hfs18 := blk_frozen BK104.out 1
     have hns18_0 := NB101_104.out
     have hns18_2 := NB105_104.out
     have hms18_0 := NB104_101.out
     have hms18_2 := NB104_105.out
     refine skip_ (w1 := ?_) (by rfl) rfl ?_ ?_
     rotate_left
     ·go_simp
      rfl
     refine hK.out _ _ ⟨((cell_far (p := ⟨gb104, _, none⟩) (fr hw102_0 GW104) _).trans (((cell_far (p := ⟨gb104, _, none⟩) (fr hw102_0 GW104) _).trans (hHeld.1)))), ((cell_far (p := ⟨gb104, _, none⟩) (fr hw102_1 GW104) _).trans (((cell_far (p := ⟨gb104, _, none⟩) (fr hw102_1 GW104) _).trans (hHeld.2.1)))), ((cell_far (p := ⟨gb104, _, none⟩) (fr hw103_0 GW104) _).trans (((cell_far (p := ⟨gb104, _, none⟩) (fr hw103_0 GW104) _).trans (hHeld.2.2.1)))), ((cell_far (p := ⟨gb104, _, none⟩) (fr hw103_1 GW104) _).trans (((cell_far (p := ⟨gb104, _, none⟩) (fr hw103_1 GW104) _).trans (hHeld.2.2.2))))⟩ (fun hHeld => ?_)
     clear hK K
     refine one_ (i := 15) (N := none) #[T,T,T,T,T,T,T,T,T,T,T,T,T,T,T,T] rfl rfl (on1 HT_) (by decide) (fun K hK => ?_)
     have hs19 : w16.cell? ⟨gb105, 0, none⟩ = some (.int .i64 0) := bc BK105 0
     have hfs19 := blk_frozen BK105.out 0
     have hns19_0 := NB101_105.out
     have hns19_1 := NB104_105.out
     have hms19_0 := NB105_101.out
     have hms19_1 := NB105_104.out
     have hs20 : w16.cell? ⟨gb105, 1, none⟩ = some (.int .i64 0) := bc BK105 1
     have hfs20 := blk_frozen BK105.out 1
     have hns20_0 := NB101_105.out
     have hns20_1 := NB104_105.out
     have hms20_0 := NB105_101.out
     have hms20_1 := NB105_104.out
     refine skip_ (w1 := ?_) (by rfl) rfl ?_ ?_
     rotate_left
     ·go_simp
      rfl
     refine hK.out _ _ ⟨((cell_far (p := ⟨gb105, _, none⟩) (fr hw102_0 GW105) _).trans (((cell_far (p := ⟨gb105, _, none⟩) (fr hw102_0 GW105) _).trans (hHeld.1)))), ((cell_far (p := ⟨gb105, _, none⟩) (fr hw102_1 GW105) _).trans (((cell_far (p := ⟨gb105, _, none⟩) (fr hw102_1 GW105) _).trans (hHeld.2.1)))), ((cell_far (p := ⟨gb105, _, none⟩) (fr hw103_0 GW105) _).trans (((cell_far (p := ⟨gb105, _, none⟩) (fr hw103_0 GW105) _).trans (hHeld.2.2.1)))), ((cell_far (p := ⟨gb105, _, none⟩) (fr hw103_1 GW105) _).trans (((cell_far (p := ⟨gb105, _, none⟩) (fr hw103_1 GW105) _).trans (hHeld.2.2.2))))⟩ (fun hHeld => ?_)
     clear hK K
     refine done_ (done_of HT_.out (by kernel_rfl)) ?_
     have hnb21 := NB104_101.out
     have hnc21 := NB101_104.out
     have hnb22 := NB104_105.out
     have hnc22 := NB105_104.out
     obtain ⟨hcz23_0, hcz23_1, hfz23_0, hfz23_1⟩ := b2 BK104
     have hnb24 := NB105_101.out
     have hnc24 := NB101_105.out
     obtain ⟨hcz25_0, hcz25_1, hfz25_0, hfz25_1⟩ := b2 BK105
     obtain ⟨hcz26_0, hcz26_1, hfz26_0, hfz26_1⟩ := b2 BK101
     try go_wp2_with (first | ((with_reducible refine gc 111 rfl ?_); refine goesL_ (some 29) rfl rfl Try.func111 (by kernel_rfl) rfl #[.agg #[.int .i64 ((rd_T41 l0 x11_1).f0), .int .i64 ((rd_T41 l0 x11_1).f1)], .agg #[.int .i64 ((rd_T41 l0 (ji8)).f0), .int .i64 ((rd_T41 l0 (ji8)).f1)], .agg #[.int .i64 a1_0, .int .i64 a1_1]] rfl (by (try simp only [List.map_toArray, List.map_cons, List.map_nil]); first | done | (simp only [hji8]; rfl) | rfl | (simp only [List.length_drop, List.length_take]; rfl)) ?_; (with_reducible refine (shape_on.calls ((rd_T41 l0 x11_1).f0) ((rd_T41 l0 x11_1).f1) ((rd_T41 l0 (ji8)).f0) ((rd_T41 l0 (ji8)).f1) a1_0 a1_1 true _ A11.out).mono ?_); rintro e w27 ⟨rfl, hb⟩; refine ⟨_, rfl, ?_⟩; replace BK101 := Aside0.mk (blk_below (g := gb101) (o := .cells #[.int .i64 a1_0, .int .i64 a1_1] 41 (0, 0)) (by refine bf NB101_105 ?_; refine bf NB101_105 ?_; refine bf NB101_104 ?_; refine bf NB101_104 ?_; refine bd ?_; exact BK101.out) hb); replace BK104 := Aside0.mk (blk_below (g := gb104) (o := .cells #[.int .i64 ((rd_T41 l0 x11_1).f0), .int .i64 ((rd_T41 l0 x11_1).f1)] 41 (0, 0)) (by refine bf NB104_105 ?_; refine bf NB104_105 ?_; refine bd ?_; refine blk_put (cs := #[.int .i64 ((rd_T41 l0 x11_1).f0), .int .i64 0]) ?_ 1 _ rfl; refine bd ?_; refine blk_put (cs := #[.int .i64 0, .int .i64 0]) ?_ 0 _ rfl; refine bd ?_; exact BK104.out) hb); replace BK105 := Aside0.mk (blk_below (g := gb105) (o := .cells #[.int .i64 ((rd_T41 l0 (ji8)).f0), .int .i64 ((rd_T41 l0 (ji8)).f1)] 41 (0, 0)) (by refine bd ?_; refine blk_put (cs := #[.int .i64 ((rd_T41 l0 (ji8)).f0), .int .i64 0]) ?_ 1 _ rfl; refine bd ?_; refine blk_put (cs := #[.int .i64 0, .int .i64 0]) ?_ 0 _ rfl; refine bf NB105_104 ?_; refine bf NB105_104 ?_; refine bd ?_; exact BK105.out) hb); replace HB := bz hb; (try clear hb)))
     go_ret
     exact ⟨by first | rfl | (simp [errW_none, errW_some] <;> rfl) | (simp only [← hji8]; first | rfl | (simp [errW_none, errW_some] <;> rfl)) | (simp [*, errW_none, errW_some] <;> rfl), bh⟩
    ·replace c12 := Bool.eq_false_iff.mpr c12
     subst c12
     rw [if_neg (show ¬ (false = true) by decide)] at H
     have HC28 := Aside0.mk H
     clear H
     try go_wp2
     replace BK101 := Aside0.mk (blk_drew BK101.out)
     replace HB := Aside0.mk (below_drew1 HB.out)
     have p102 : 0 ≤ (x11_1 : Int) := dt
     have q102 : x11_1 < (l0.length : Int) := dt
     obtain ⟨ad102, e102, hx102_0, hx102_1⟩ := at_T41 HR0.out x11_1 p102 q102
     have hw102_1 := hx102_1
     have hw102_0 := hx102_0
     cases e102
     replace hx102_0 := hc HB hx102_0
     replace hx102_1 := hc HB hx102_1
     replace p102 := eq_true p102
     replace q102 := eq_true q102
     have p103 : 0 ≤ ((ji8) : Int) := dt
     have q103 : (ji8) < (l0.length : Int) := dt
     obtain ⟨ad103, e103, hx103_0, hx103_1⟩ := at_T41 HR0.out (ji8) p103 q103
     have hw103_1 := hx103_1
     have hw103_0 := hx103_0
     obtain rfl : ad102 = ad103 := (by injection e103)
     replace hx103_0 := hc HB hx103_0
     replace hx103_1 := hc HB hx103_1
     replace p103 := eq_true p103
     replace q103 := eq_true q103
     refine start_ (n := 16) (S := fun w' => w'.cell? (ad102.add ((x11_1).toNat * 2)) = some (.int .i64 ((rd_T41 l0 x11_1).f0)) ∧ w'.cell? ⟨(ad102.add ((x11_1).toNat * 2)).block, (ad102.add ((x11_1).toNat * 2)).off + 1, none⟩ = some (.int .i64 ((rd_T41 l0 x11_1).f1)) ∧ w'.cell? (ad102.add (((ji8)).toNat * 2)) = some (.int .i64 ((rd_T41 l0 (ji8)).f0)) ∧ w'.cell? ⟨(ad102.add (((ji8)).toNat * 2)).block, (ad102.add (((ji8)).toNat * 2)).off + 1, none⟩ = some (.int .i64 ((rd_T41 l0 (ji8)).f1))) (ds := []) #[N,N,N,N,N,N,N,N,N,N,N,N,N,N,N,N] (by kernel_rfl) rfl rfl ⟨(hc HB hw102_0), (hc HB hw102_1), (hc HB hw103_0), (hc HB hw103_1)⟩ (fun hHeld => ?_); refine with_tabW shape_where.tab5 shape_where.bits5 (fun HT_ HW_ => ?_)
     generalize wr.drew = w29 at BK101 HB hx102_0 hx102_1 hx103_0 hx103_1 hHeld ⊢
     refine pu 0 14 HT_ ?_
     refine pu 1 15 HT_ ?_
     refine pu 2 16 HT_ ?_
     refine pu 4 18 HT_ ?_
     refine pu 5 19 HT_ ?_
     refine pu 6 20 HT_ ?_
     refine pu 7 21 HT_ ?_
     refine pu 8 22 HT_ ?_
     refine pu 9 23 HT_ ?_
     refine pu 10 24 HT_ ?_
     refine tk4 3 17 hHeld HT_ HW_ ?_
     refine tk4 11 25 hHeld HT_ HW_ ?_
     refine join_ (σ := Nat × Nat) 2 #[T,T,T,T,T,T,T,T,T,T,T,T,T,T,N,N] (fun s_ => [(7, .pointer (some ⟨s_.1, 0, none⟩)), (8, .pointer (some ⟨s_.2, 0, none⟩))]) (fun s_ w' => (w'.cell? (ad102.add ((x11_1).toNat * 2)) = some (.int .i64 ((rd_T41 l0 x11_1).f0)) ∧ w'.cell? ⟨(ad102.add ((x11_1).toNat * 2)).block, (ad102.add ((x11_1).toNat * 2)).off + 1, none⟩ = some (.int .i64 ((rd_T41 l0 x11_1).f1)) ∧ w'.cell? (ad102.add (((ji8)).toNat * 2)) = some (.int .i64 ((rd_T41 l0 (ji8)).f0)) ∧ w'.cell? ⟨(ad102.add (((ji8)).toNat * 2)).block, (ad102.add (((ji8)).toNat * 2)).off + 1, none⟩ = some (.int .i64 ((rd_T41 l0 (ji8)).f1))) ∧ (w'.heap[gb101]? = some (.cells #[.int .i64 a1_0, .int .i64 a1_1] 41 (0, 0))) ∧ (w'.heap[s_.1]? = some (.cells #[.int .i64 0, .int .i64 0] 41 (0, 0))) ∧ (w'.heap[s_.2]? = some (.cells #[.int .i64 0, .int .i64 0] 41 (0, 0))) ∧ (w.heap.size ≤ s_.1) ∧ (w.heap.size ≤ s_.1) ∧ (gb101 ≠ s_.1) ∧ (s_.1 ≠ gb101) ∧ (s_.2 ≠ s_.1) ∧ (s_.1 ≠ s_.2) ∧ (w.heap.size ≤ s_.2) ∧ (w.heap.size ≤ s_.2) ∧ (gb101 ≠ s_.2) ∧ (s_.2 ≠ gb101) ∧ (Below w.heap.size w w')) ?_ ?_
     rotate_left
     ·intro hCont
      refine two_ (i := 12) (j := 13) (Ni := some 7) (Nj := some 8) #[T,T,T,T,T,T,T,T,T,T,T,T,T,N,N,N] #[T,T,T,T,T,T,T,T,T,T,T,T,N,T,N,N] rfl rfl rfl rfl (on2 HT_) (by decide) (by decide) (fun K hK => ?_) (fun K hK => ?_)
      ·skip
       refine bxs 7 #[.int .i64 0, .int .i64 0] 41 ?_
       intro gb104 hg w30 hbox hb
       have BK104 := Aside0.mk (hbox)
       have GW104 := ga w hg
       have GE104 := GW104
       have NB101_104 := nb hg (kl BK101)
       have NB104_101 := bn NB101_104
       replace BK101 := kb BK101 hb
       replace HB := bz hb
       clear hb hbox hg
       refine hK.out _ _ ⟨(hc HB hw102_0), (hc HB hw102_1), (hc HB hw103_0), (hc HB hw103_1)⟩ (fun hHeld => ?_)
       clear hK K
       refine nm 7 ?_
       refine one_ (i := 13) (N := some 8) #[T,T,T,T,T,T,T,T,T,T,T,T,T,T,N,N] rfl rfl (on1 HT_) (by decide) (fun K hK => ?_)
       refine bxs 8 #[.int .i64 0, .int .i64 0] 41 ?_
       intro gb105 hg w31 hbox hb
       have BK105 := Aside0.mk (hbox)
       have GW105 := ga w hg
       have GE105 := GW105
       have NB101_105 := nb hg (kl BK101)
       have NB105_101 := bn NB101_105
       have NB104_105 := nb hg (kl BK104)
       have NB105_104 := bn NB104_105
       replace BK101 := kb BK101 hb
       replace BK104 := kb BK104 hb
       replace HB := bz hb
       clear hb hbox hg
       refine hK.out _ _ ⟨(hc HB hw102_0), (hc HB hw102_1), (hc HB hw103_0), (hc HB hw103_1)⟩ (fun hHeld => ?_)
       clear hK K
       refine nm 8 ?_
       exact norm_ pa (hCont (gb104, gb105) _ ⟨hHeld, bk BK101, bk BK104, bk BK105, GW104.out, GE104.out, NB101_104.out, NB104_101.out, NB105_104.out, NB104_105.out, GW105.out, GE105.out, NB101_105.out, NB105_101.out, bh⟩)
      ·skip
       refine bxs 8 #[.int .i64 0, .int .i64 0] 41 ?_
       intro gb105 hg w30 hbox hb
       have BK105 := Aside0.mk (hbox)
       have GW105 := ga w hg
       have GE105 := GW105
       have NB101_105 := nb hg (kl BK101)
       have NB105_101 := bn NB101_105
       replace BK101 := kb BK101 hb
       replace HB := bz hb
       clear hb hbox hg
       refine hK.out _ _ ⟨(hc HB hw102_0), (hc HB hw102_1), (hc HB hw103_0), (hc HB hw103_1)⟩ (fun hHeld => ?_)
       clear hK K
       refine nm 8 ?_
       refine one_ (i := 12) (N := some 7) #[T,T,T,T,T,T,T,T,T,T,T,T,T,T,N,N] rfl rfl (on1 HT_) (by decide) (fun K hK => ?_)
       refine bxs 7 #[.int .i64 0, .int .i64 0] 41 ?_
       intro gb104 hg w31 hbox hb
       have BK104 := Aside0.mk (hbox)
       have GW104 := ga w hg
       have GE104 := GW104
       have NB101_104 := nb hg (kl BK101)
       have NB104_101 := bn NB101_104
       have NB105_104 := nb hg (kl BK105)
       have NB104_105 := bn NB105_104
       replace BK101 := kb BK101 hb
       replace BK105 := kb BK105 hb
       replace HB := bz hb
       clear hb hbox hg
       refine hK.out _ _ ⟨(hc HB hw102_0), (hc HB hw102_1), (hc HB hw103_0), (hc HB hw103_1)⟩ (fun hHeld => ?_)
       clear hK K
       refine nm 7 ?_
       exact norm_ pa (hCont (gb104, gb105) _ ⟨hHeld, bk BK101, bk BK104, bk BK105, GW104.out, GE104.out, NB101_104.out, NB104_101.out, NB105_104.out, NB104_105.out, GW105.out, GE105.out, NB101_105.out, NB105_101.out, bh⟩)
     rintro ⟨gb104, gb105⟩ w32 ⟨hS_, h0_, h1_, h2_, h3_, h4_, h5_, h6_, h7_, h8_, h9_, h10_, h11_, h12_, h13_⟩
     have BK104 := Aside0.mk h1_
     have BK105 := Aside0.mk h2_
     have GW104 := Aside0.mk h3_
     have GE104 := Aside0.mk h4_
     have NB101_104 := Aside0.mk h5_
     have NB104_101 := Aside0.mk h6_
     have NB105_104 := Aside0.mk h7_
     have NB104_105 := Aside0.mk h8_
     have GW105 := Aside0.mk h9_
     have GE105 := Aside0.mk h10_
     have NB101_105 := Aside0.mk h11_
     have NB105_101 := Aside0.mk h12_
     replace BK101 := Aside0.mk h0_
     replace HB := Aside0.mk h13_
     clear h0_ h1_ h2_ h3_ h4_ h5_ h6_ h7_ h8_ h9_ h10_ h11_ h12_ h13_
     have hHeld := hS_
     refine nn ?_
     refine one_ (i := 14) (N := none) #[T,T,T,T,T,T,T,T,T,T,T,T,T,T,T,N] rfl rfl (on1 HT_) (by decide) (fun K hK => ?_)
     have hs33 : w32.cell? ⟨gb104, 0, none⟩ = some (.int .i64 0) := bc BK104 0
     have hfs33 := blk_frozen BK104.out 0
     have hns33_0 := NB101_104.out
     have hns33_2 := NB105_104.out
     have hms33_0 := NB104_101.out
     have hms33_2 := NB104_105.out
     have hs34 : w32.cell? ⟨gb104, 1, none⟩ = some (.int .i64 0) := bc BK104 1
     have hfs34 := blk_frozen BK104.out 1
     have hns34_0 := NB101_104.out
     have hns34_2 := NB105_104.out
     have hms34_0 := NB104_101.out
     have hms34_2 := NB104_105.out
     refine skip_ (w1 := ?_) (by rfl) rfl ?_ ?_
     rotate_left
     ·go_simp
      rfl
     refine hK.out _ _ ⟨((cell_far (p := ⟨gb104, _, none⟩) (fr hw102_0 GW104) _).trans (((cell_far (p := ⟨gb104, _, none⟩) (fr hw102_0 GW104) _).trans (hHeld.1)))), ((cell_far (p := ⟨gb104, _, none⟩) (fr hw102_1 GW104) _).trans (((cell_far (p := ⟨gb104, _, none⟩) (fr hw102_1 GW104) _).trans (hHeld.2.1)))), ((cell_far (p := ⟨gb104, _, none⟩) (fr hw103_0 GW104) _).trans (((cell_far (p := ⟨gb104, _, none⟩) (fr hw103_0 GW104) _).trans (hHeld.2.2.1)))), ((cell_far (p := ⟨gb104, _, none⟩) (fr hw103_1 GW104) _).trans (((cell_far (p := ⟨gb104, _, none⟩) (fr hw103_1 GW104) _).trans (hHeld.2.2.2))))⟩ (fun hHeld => ?_)
     clear hK K
     refine one_ (i := 15) (N := none) #[T,T,T,T,T,T,T,T,T,T,T,T,T,T,T,T] rfl rfl (on1 HT_) (by decide) (fun K hK => ?_)
     have hs35 : w32.cell? ⟨gb105, 0, none⟩ = some (.int .i64 0) := bc BK105 0
     have hfs35 := blk_frozen BK105.out 0
     have hns35_0 := NB101_105.out
     have hns35_1 := NB104_105.out
     have hms35_0 := NB105_101.out
     have hms35_1 := NB105_104.out
     have hs36 : w32.cell? ⟨gb105, 1, none⟩ = some (.int .i64 0) := bc BK105 1
     have hfs36 := blk_frozen BK105.out 1
     have hns36_0 := NB101_105.out
     have hns36_1 := NB104_105.out
     have hms36_0 := NB105_101.out
     have hms36_1 := NB105_104.out
     refine skip_ (w1 := ?_) (by rfl) rfl ?_ ?_
     rotate_left
     ·go_simp
      rfl
     refine hK.out _ _ ⟨((cell_far (p := ⟨gb105, _, none⟩) (fr hw102_0 GW105) _).trans (((cell_far (p := ⟨gb105, _, none⟩) (fr hw102_0 GW105) _).trans (hHeld.1)))), ((cell_far (p := ⟨gb105, _, none⟩) (fr hw102_1 GW105) _).trans (((cell_far (p := ⟨gb105, _, none⟩) (fr hw102_1 GW105) _).trans (hHeld.2.1)))), ((cell_far (p := ⟨gb105, _, none⟩) (fr hw103_0 GW105) _).trans (((cell_far (p := ⟨gb105, _, none⟩) (fr hw103_0 GW105) _).trans (hHeld.2.2.1)))), ((cell_far (p := ⟨gb105, _, none⟩) (fr hw103_1 GW105) _).trans (((cell_far (p := ⟨gb105, _, none⟩) (fr hw103_1 GW105) _).trans (hHeld.2.2.2))))⟩ (fun hHeld => ?_)
     clear hK K
     refine done_ (done_of HT_.out (by kernel_rfl)) ?_
     have hnb37 := NB104_101.out
     have hnc37 := NB101_104.out
     have hnb38 := NB104_105.out
     have hnc38 := NB105_104.out
     obtain ⟨hcz39_0, hcz39_1, hfz39_0, hfz39_1⟩ := b2 BK104
     have hnb40 := NB105_101.out
     have hnc40 := NB101_105.out
     obtain ⟨hcz41_0, hcz41_1, hfz41_0, hfz41_1⟩ := b2 BK105
     obtain ⟨hcz42_0, hcz42_1, hfz42_0, hfz42_1⟩ := b2 BK101
     go_upto_if 34 with (first | ((with_reducible refine gc 111 rfl ?_); refine goesL_ (some 29) rfl rfl Try.func111 (by kernel_rfl) rfl #[.agg #[.int .i64 ((rd_T41 l0 x11_1).f0), .int .i64 ((rd_T41 l0 x11_1).f1)], .agg #[.int .i64 ((rd_T41 l0 (ji8)).f0), .int .i64 ((rd_T41 l0 (ji8)).f1)], .agg #[.int .i64 a1_0, .int .i64 a1_1]] rfl (by (try simp only [List.map_toArray, List.map_cons, List.map_nil]); first | done | (simp only [hji8]; rfl) | rfl | (simp only [List.length_drop, List.length_take]; rfl)) ?_; (with_reducible refine (shape_on.calls ((rd_T41 l0 x11_1).f0) ((rd_T41 l0 x11_1).f1) ((rd_T41 l0 (ji8)).f0) ((rd_T41 l0 (ji8)).f1) a1_0 a1_1 false _ A11.out).mono ?_); rintro e w43 ⟨rfl, hb⟩; refine ⟨_, rfl, ?_⟩; replace BK101 := Aside0.mk (blk_below (g := gb101) (o := .cells #[.int .i64 a1_0, .int .i64 a1_1] 41 (0, 0)) (by refine bf NB101_105 ?_; refine bf NB101_105 ?_; refine bf NB101_104 ?_; refine bf NB101_104 ?_; refine bd ?_; exact BK101.out) hb); replace BK104 := Aside0.mk (blk_below (g := gb104) (o := .cells #[.int .i64 ((rd_T41 l0 x11_1).f0), .int .i64 ((rd_T41 l0 x11_1).f1)] 41 (0, 0)) (by refine bf NB104_105 ?_; refine bf NB104_105 ?_; refine bd ?_; refine blk_put (cs := #[.int .i64 ((rd_T41 l0 x11_1).f0), .int .i64 0]) ?_ 1 _ rfl; refine bd ?_; refine blk_put (cs := #[.int .i64 0, .int .i64 0]) ?_ 0 _ rfl; refine bd ?_; exact BK104.out) hb); replace BK105 := Aside0.mk (blk_below (g := gb105) (o := .cells #[.int .i64 ((rd_T41 l0 (ji8)).f0), .int .i64 ((rd_T41 l0 (ji8)).f1)] 41 (0, 0)) (by refine bd ?_; refine blk_put (cs := #[.int .i64 ((rd_T41 l0 (ji8)).f0), .int .i64 0]) ?_ 1 _ rfl; refine bd ?_; refine blk_put (cs := #[.int .i64 0, .int .i64 0]) ?_ 0 _ rfl; refine bf NB105_104 ?_; refine bf NB105_104 ?_; refine bd ?_; exact BK105.out) hb); replace HB := bz hb; (try clear hb); obtain ⟨hcz44_0, hcz44_1, hfz44_0, hfz44_1⟩ := b2 BK104; obtain ⟨hcz45_0, hcz45_1, hfz45_0, hfz45_1⟩ := b2 BK105))
     (try simp only [Act.put, List.setIfInBounds_toArray, List.set_cons_zero, List.set_cons_succ])
     go_cut [] (fun wc => ∃ (kq : Nat) (x105000_27 : Int) (x105001_27 : Int) (x106000_27 : Int) (x106001_27 : Int), Aside0 (shape_where.j1 kq l0 x5_1 (l0.length : Int) x11_1 a1_0 a1_1 x105000_27 x105001_27 x106000_27 x106001_27 = some r) ∧ Aside0 (kq ≤ k1) ∧ Aside0 (wc.heap[gb101]? = some (.cells #[.int .i64 a1_0, .int .i64 a1_1] 41 (0, 0))) ∧ Aside0 (wc.heap[gb104]? = some (.cells #[.int .i64 x105000_27, .int .i64 x105001_27] 41 (0, 0))) ∧ Aside0 (wc.heap[gb105]? = some (.cells #[.int .i64 x106000_27, .int .i64 x106001_27] 41 (0, 0))) ∧ Aside0 (Below w.heap.size w wc))
     case first =>
      have H := HC28.out
      clear HC28
      by_cases c46 : ((rd_T41 l0 x11_1).f1) > ((rd_T41 l0 (ji8)).f1)
      ·rw [if_pos c46] at H
       have c46b0 := decide_eq_true c46
       clear c46
       (first | rw [c46b0] | (simp only [i64_w, i32_w]; rw [c46b0]) | skip)
       have H' := Aside0.mk H
       clear H
       have hnb47 := NB105_101.out
       have hnc47 := NB101_105.out
       have hnb48 := NB105_104.out
       have hnc48 := NB104_105.out
       obtain ⟨hcz49_0, hcz49_1, hfz49_0, hfz49_1⟩ := b2 BK105
       have hnb50 := NB104_101.out
       have hnc50 := NB101_104.out
       obtain ⟨hcz51_0, hcz51_1, hfz51_0, hfz51_1⟩ := b2 BK104
       go_wp2
       go_meet
       case rel => exact ⟨_, ((rd_T41 l0 (ji8)).f0), ((rd_T41 l0 (ji8)).f1), ((rd_T41 l0 x11_1).f0), ((rd_T41 l0 x11_1).f1), H', ⟨by have := HK1.out; first | omega | exact Nat.le_refl _⟩, ⟨by refine bf NB101_105 ?_; refine bf NB101_105 ?_; refine bf NB101_104 ?_; refine bf NB101_104 ?_; refine bd ?_; exact BK101.out⟩, ⟨by refine bf NB104_105 ?_; refine bf NB104_105 ?_; refine bd ?_; refine blk_put (cs := #[.int .i64 ((rd_T41 l0 (ji8)).f0), .int .i64 ((rd_T41 l0 x11_1).f1)]) ?_ 1 _ rfl; refine bd ?_; refine blk_put (cs := #[.int .i64 ((rd_T41 l0 x11_1).f0), .int .i64 ((rd_T41 l0 x11_1).f1)]) ?_ 0 _ rfl; refine bd ?_; exact BK104.out⟩, ⟨by refine bd ?_; refine blk_put (cs := #[.int .i64 ((rd_T41 l0 x11_1).f0), .int .i64 ((rd_T41 l0 (ji8)).f1)]) ?_ 1 _ rfl; refine bd ?_; refine blk_put (cs := #[.int .i64 ((rd_T41 l0 (ji8)).f0), .int .i64 ((rd_T41 l0 (ji8)).f1)]) ?_ 0 _ rfl; refine bf NB105_104 ?_; refine bf NB105_104 ?_; refine bd ?_; exact BK105.out⟩, ⟨bh⟩⟩
      ·rw [if_neg c46] at H
       have c46b0 := decide_eq_false c46
       clear c46
       (first | rw [c46b0] | (simp only [i64_w, i32_w]; rw [c46b0]) | skip)
       have H' := Aside0.mk H
       clear H
       go_wp2
       go_meet
       case rel => exact ⟨_, ((rd_T41 l0 x11_1).f0), ((rd_T41 l0 x11_1).f1), ((rd_T41 l0 (ji8)).f0), ((rd_T41 l0 (ji8)).f1), H', ⟨by have := HK1.out; first | omega | exact Nat.le_refl _⟩, ⟨bk BK101⟩, ⟨bk BK104⟩, ⟨bk BK105⟩, ⟨bh⟩⟩
     case rest =>
      clear HC28
      (try clear c12); (try clear hcz39_0); (try clear hcz39_1); (try clear hcz41_0); (try clear hcz41_1); (try clear hcz42_0); (try clear hcz42_1); (try clear hcz44_0); (try clear hcz44_1); (try clear hcz45_0); (try clear hcz45_1); (try clear hfz39_0); (try clear hfz39_1); (try clear hfz41_0); (try clear hfz41_1); (try clear hfz42_0); (try clear hfz42_1); (try clear hfz44_0); (try clear hfz44_1); (try clear hfz45_0); (try clear hfz45_1); (try clear hx102_0); (try clear hx102_1); (try clear hx103_0); (try clear hx103_1); (try clear p102); (try clear p103); (try clear q102); (try clear q103)
      obtain ⟨kq, x105000_27, x105001_27, x106000_27, x106001_27, HA, HJ27, BK101, BK104, BK105, HB⟩ := hcut
      cases kq with
      | zero => exact absurd HA.out (by simp [shape_where.j1])
      | succ kj27 =>
       have H := HA.out
       clear HA
       simp only [shape_where.j1] at H
       have HC52 := Aside0.mk H
       clear H
       go_upto_region 10 with (fail)
       go_cut [55] (fun v55 wc => ∃ (kq : Nat) (x55_51 : Bool), v55 = .bool x55_51 ∧ Aside0 (shape_where.j2 kq l0 x5_1 (l0.length : Int) x11_1 x55_51 a1_0 a1_1 = some r) ∧ Aside0 (kq ≤ kj27) ∧ Aside0 (wc.heap[gb101]? = some (.cells #[.int .i64 a1_0, .int .i64 a1_1] 41 (0, 0))) ∧ Aside0 (wc.heap[gb104]? = some (.cells #[.int .i64 x105000_27, .int .i64 x105001_27] 41 (0, 0))) ∧ Aside0 (wc.heap[gb105]? = some (.cells #[.int .i64 x106000_27, .int .i64 x106001_27] 41 (0, 0))) ∧ Aside0 (Below w.heap.size w wc))
       case first =>
        have H := HC52.out
        clear HC52
        by_cases c53 : x105001_27 ≤ a1_1
        ·rw [if_pos c53] at H
         have c53b0 := decide_eq_true c53
         clear c53
         (first | rw [c53b0] | (simp only [i64_w, i32_w]; rw [c53b0]) | skip)
         by_cases c54 : a1_1 < x106001_27
         ·rw [if_pos c54] at H
          have c54b0 := decide_eq_true c54
          clear c54
          replace H := Option.bind_eq_some_iff.mp H
          obtain ⟨t107, A550, H⟩ := H
          try dsimp only at H
          have A55 := Aside0.mk A550
          clear A550
          have H' := Aside0.mk H
          clear H
          have hnb56 := NB104_101.out
          have hnc56 := NB101_104.out
          have hnb57 := NB104_105.out
          have hnc57 := NB105_104.out
          obtain ⟨hcz58_0, hcz58_1, hfz58_0, hfz58_1⟩ := b2 BK104
          have hnb59 := NB101_105.out
          have hnc59 := NB105_101.out
          obtain ⟨hcz60_0, hcz60_1, hfz60_0, hfz60_1⟩ := b2 BK101
          obtain ⟨hcz61_0, hcz61_1, hfz61_0, hfz61_1⟩ := b2 BK105
          go_wp2_with (first | (go_at_call 98; (with_reducible refine (shape_side.calls x105000_27 x105001_27 x106000_27 x106001_27 a1_0 a1_1 t107 _ A55.out).mono ?_); rintro e w62 ⟨rfl, hb⟩; replace BK101 := kb BK101 hb; replace BK104 := kb BK104 hb; replace BK105 := kb BK105 hb; replace HB := bz hb; (try clear hb)))
          go_meet
          case rel => exact ⟨_, (decide (t107 > 0)), sd, H', ⟨by have := HK1.out; have := HJ27.out; first | omega | exact Nat.le_refl _⟩, ⟨bk BK101⟩, ⟨bk BK104⟩, ⟨bk BK105⟩, ⟨bh⟩⟩
         ·rw [if_neg c54] at H
          have c54b0 := decide_eq_false c54
          clear c54
          have H' := Aside0.mk H
          clear H
          have hnb63 := NB104_101.out
          have hnc63 := NB101_104.out
          have hnb64 := NB104_105.out
          have hnc64 := NB105_104.out
          obtain ⟨hcz65_0, hcz65_1, hfz65_0, hfz65_1⟩ := b2 BK104
          have hnb66 := NB101_105.out
          have hnc66 := NB105_101.out
          obtain ⟨hcz67_0, hcz67_1, hfz67_0, hfz67_1⟩ := b2 BK101
          obtain ⟨hcz68_0, hcz68_1, hfz68_0, hfz68_1⟩ := b2 BK105
          go_wp2
          go_meet
          case rel => exact ⟨_, (false), sd, H', ⟨by have := HK1.out; have := HJ27.out; first | omega | exact Nat.le_refl _⟩, ⟨bk BK101⟩, ⟨bk BK104⟩, ⟨bk BK105⟩, ⟨bh⟩⟩
        ·rw [if_neg c53] at H
         have c53b0 := decide_eq_false c53
         clear c53
         (first | rw [c53b0] | (simp only [i64_w, i32_w]; rw [c53b0]) | skip)
         have H' := Aside0.mk H
         clear H
         have hnb69 := NB104_101.out
         have hnc69 := NB101_104.out
         have hnb70 := NB104_105.out
         have hnc70 := NB105_104.out
         obtain ⟨hcz71_0, hcz71_1, hfz71_0, hfz71_1⟩ := b2 BK104
         have hnb72 := NB101_105.out
         have hnc72 := NB105_101.out
         obtain ⟨hcz73_0, hcz73_1, hfz73_0, hfz73_1⟩ := b2 BK101
         go_wp2
         go_meet
         case rel => exact ⟨_, (false), sd, H', ⟨by have := HK1.out; have := HJ27.out; first | omega | exact Nat.le_refl _⟩, ⟨bk BK101⟩, ⟨bk BK104⟩, ⟨bk BK105⟩, ⟨bh⟩⟩
       case rest =>
        clear HC52
        (try clear c7)
        obtain ⟨kq, x55_51, rfl, HA, HJ51, BK101, BK104, BK105, HB⟩ := hcut
        cases kq with
        | zero => exact absurd HA.out (by simp [shape_where.j2])
        | succ kj51 =>
         have H := HA.out
         clear HA
         simp only [shape_where.j2] at H
         by_cases c74 : x55_51 = true
         ·subst c74
          rw [if_pos rfl] at H
          have H' := Aside0.mk H
          clear H
          go_wp2
          go_roundg kj51
          case measure => have := HK1.out; have := HJ27.out; have := HJ51.out; omega
          case rel => exact ⟨(wrap64 (-x5_1)), (wrap64 (x11_1 + 1)), sd, sd, H', ⟨by have := HK1.out; have := HJ27.out; have := HJ51.out; omega⟩, ⟨bk BK101⟩, ⟨bh⟩⟩
         ·replace c74 := Bool.eq_false_iff.mpr c74
          subst c74
          rw [if_neg (show ¬ (false = true) by decide)] at H
          have H' := Aside0.mk H
          clear H
          go_wp2
          go_roundg kj51
          case measure => have := HK1.out; have := HJ27.out; have := HJ51.out; omega
          case rel => exact ⟨(x5_1), (wrap64 (x11_1 + 1)), sd, sd, H', ⟨by have := HK1.out; have := HJ27.out; have := HJ51.out; omega⟩, ⟨bk BK101⟩, ⟨bh⟩⟩
   ·rw [if_neg c4] at H
    have c4b0 := decide_eq_false c4
    clear c4
    obtain rfl := Option.some.inj H
    go_wp2
    go_ret
    exact ⟨by exact er, bh⟩
/-! ### shape_add: function 76 -/
def shape_add.f (a0_0 : Int) (a0_1 : Int) (a1_0 : Int) (a1_1 : Int) : Option (Int × Int) := some (wrap64 (a0_0 + a1_0), wrap64 (a0_1 + a1_1))
set_option maxHeartbeats 8000000 in
set_option maxRecDepth 100000 in
theorem shape_add.calls (a0_0 : Int) (a0_1 : Int) (a1_0 : Int) (a1_1 : Int) (r1 : Int) (r2 : Int) (w : World) (h : shape_add.f a0_0 a0_1 a1_0 a1_1 = some (r1, r2)) :
  Calls Try.prog 76 #[.agg #[.int .i64 a0_0, .int .i64 a0_1], .agg #[.int .i64 a1_0, .int .i64 a1_1]] w fun e w' => e = .returned (.agg #[.int .i64 r1, .int .i64 r2]) ∧ Below w.heap.size w w' := by
 have hu41 := Try.underlying41
 have HB := Aside0.mk (Below.refl w.heap.size w)
 have H : (some (wrap64 (a0_0 + a1_0), wrap64 (a0_1 + a1_1))) = some (r1, r2) := h
 clear h
 simp only [Option.some.injEq, Prod.mk.injEq] at H
 obtain ⟨rfl, rfl⟩ := H
 go_enter Try.func76, Try.ntmps76
 go_wp2_with (first | ((with_reducible refine gate_dst (N := 2) rfl ?_); refine bxe 2 #[.int .i64 a0_0, .int .i64 a0_1] 41 ?_; intro gb101 hg w3 hbox hb; have BK101 := Aside0.mk (hbox); have GW101 := ga w hg; have GE101 := GW101; replace HB := bz hb; clear hb hbox hg) | ((with_reducible refine gate_dst (N := 3) rfl ?_); refine bxe 3 #[.int .i64 a1_0, .int .i64 a1_1] 41 ?_; intro gb102 hg w4 hbox hb; have BK102 := Aside0.mk (hbox); have GW102 := ga w hg; have GE102 := GW102; have NB101_102 := nb hg (kl BK101); have NB102_101 := bn NB101_102; replace BK101 := kb BK101 hb; replace HB := bz hb; clear hb hbox hg) | ((with_reducible refine gate_dst (N := 4) rfl ?_); refine bxe 4 #[.int .i64 0, .int .i64 0] 41 ?_; intro gb103 hg w5 hbox hb; have BK103 := Aside0.mk (hbox); have GW103 := ga w hg; have GE103 := GW103; have NB101_103 := nb hg (kl BK101); have NB103_101 := bn NB101_103; have NB102_103 := nb hg (kl BK102); have NB103_102 := bn NB102_103; replace BK101 := kb BK101 hb; replace BK102 := kb BK102 hb; replace HB := bz hb; clear hb hbox hg; have hnb6 := NB101_102.out; have hnc6 := NB102_101.out; have hnb7 := NB101_103.out; have hnc7 := NB103_101.out; obtain ⟨hcz8_0, hcz8_1, hfz8_0, hfz8_1⟩ := b2 BK101; have hnb9 := NB102_103.out; have hnc9 := NB103_102.out; obtain ⟨hcz10_0, hcz10_1, hfz10_0, hfz10_1⟩ := b2 BK102; obtain ⟨hcz11_0, hcz11_1, hfz11_0, hfz11_1⟩ := b2 BK103))
 refine bodyPost_ret (results_cell_row rfl _ _ gb103 41 #[.int .i64 (wrap64 (a0_0 + a1_0)), .int .i64 (wrap64 (a0_1 + a1_1))] (0, 0) _ rfl (by refine bd ?_; refine blk_put (cs := #[.int .i64 (wrap64 (a0_0 + a1_0)), .int .i64 0]) ?_ 1 _ rfl; refine bd ?_; refine blk_put (cs := #[.int .i64 0, .int .i64 0]) ?_ 0 _ rfl; refine bd ?_; exact BK103.out) Try.underlying41 rfl (by kernel_rfl)) rfl ?_
 exact ⟨by exact er, bh⟩
end Go.Proofs.Ythehmkpcddafnaa.PG
end
section
namespace Go.Proofs.Ythehmkpcddafnaa.PG
open Go.RowKit Go.Proofs.YthehmkpcddafnaaW.PrintWords Go.Proofs.YthehmkpcddafnaaW.PrintLast Go.Proofs.YthehmkpcddafnaaW.PrintMore
/-- is p to the left of the line from (x0, x1) to (y0, y1), as the code reckons -/
def leftOf (x0 x1 y0 y1 : Int) (p : S41) : Bool := decide (((shape_side.f x0 x1 y0 y1 p.f0 p.f1).getD 0) > 0)
set_option maxHeartbeats 2000000 in
set_option maxRecDepth 100000 in
theorem left_1 (x0 x1 y0 y1 : Int) (g1 g2 : Nat) (W : World) (p : S41) (h1 : W.heap[g1]? = some (.cells #[.int .i64 x0, .int .i64 x1] 41 (0, 0))) (h2 : W.heap[g2]? = some (.cells #[.int .i64 y0, .int .i64 y1] 41 (0, 0))) :
  Calls Try.prog 122 #[.agg #[.int .i64 p.f0, .int .i64 p.f1], .pointer (some ⟨g1, 0, none⟩), .pointer (some ⟨g2, 0, none⟩)] W fun e w' => e = .returned (.bool (leftOf x0 x1 y0 y1 p)) ∧ Below W.heap.size W w' := by
 have hu29 := Try.underlying41
 have n1 : g1 ≠ W.heap.size := Nat.ne_of_lt (blk_lt h1)
 have n2 : g2 ≠ W.heap.size := Nat.ne_of_lt (blk_lt h2)
 have a0 : W.cell? ⟨g1, 0, none⟩ = some (.int .i64 x0) := (blk_cell h1 0).trans rfl
 have a1 : W.cell? ⟨g1, 1, none⟩ = some (.int .i64 x1) := (blk_cell h1 1).trans rfl
 have b0 : W.cell? ⟨g2, 0, none⟩ = some (.int .i64 y0) := (blk_cell h2 0).trans rfl
 have b1 : W.cell? ⟨g2, 1, none⟩ = some (.int .i64 y1) := (blk_cell h2 1).trans rfl
 clear h1 h2
 unfold leftOf
 have hs : shape_side.f x0 x1 y0 y1 p.f0 p.f1 = some ((shape_side.f x0 x1 y0 y1 p.f0 p.f1).getD 0) := by unfold shape_side.f shape_sub.f shape_cross.f; rfl
 generalize (shape_side.f x0 x1 y0 y1 p.f0 p.f1).getD 0 = s at hs ⊢
 have HS := Aside0.mk hs
 clear hs
 generalize p.f0 = q0 at HS ⊢
 generalize p.f1 = q1 at HS ⊢
 have hB := below_alloc (Below.refl W.heap.size W) (.cells #[.int .i64 q0, .int .i64 q1] 41)
 replace a0 := (hB.cell (World.block_lt_of_cell? W _ a0)).trans a0
 replace a1 := (hB.cell (World.block_lt_of_cell? W _ a1)).trans a1
 replace b0 := (hB.cell (World.block_lt_of_cell? W _ b0)).trans b0
 replace b1 := (hB.cell (World.block_lt_of_cell? W _ b1)).trans b1
 clear hB
 go_enter Try.func122, Try.ntmps122
 go_wp2_with (go_at_call 98; refine (shape_side.calls x0 x1 y0 y1 q0 q1 s _ HS.out).mono ?_; rintro e w' ⟨rfl, hb'⟩)
 go_ret
 exact ⟨rfl, ((Below.refl _ W).alloc (Nat.le_refl _) _).trans (hb'.mono (by simp))⟩
def left_any.f (l0 : List (S41)) (x0 x1 y0 y1 : Int) : Option (Bool) := some (l0.any (leftOf x0 x1 y0 y1))
theorem left_any.calls (A0 : Option Addr) (c0 : Nat) (l0 : List (S41)) (x0 x1 y0 y1 : Int) (g1 g2 : Nat) (r : Bool) (w : World) (h1 : w.heap[g1]? = some (.cells #[.int .i64 x0, .int .i64 x1] 41 (0, 0))) (h2 : w.heap[g2]? = some (.cells #[.int .i64 y0, .int .i64 y1] 41 (0, 0)))
  (hr0 : Kd.C k41 w A0 l0.length l0) (_hc0 : l0.length ≤ c0) (h : left_any.f l0 x0 x1 y0 y1 = some r) :
  Calls Try.prog 109 #[.slice A0 l0.length c0, .func (.func 122) #[] #[.pointer (some ⟨g1, 0, none⟩), .pointer (some ⟨g2, 0, none⟩)]] w fun e w' => e = .returned (.bool r) ∧ Below w.heap.size w w' := by
 obtain rfl := Option.some.inj h
 exact ContainsFunc_any 122 #[.pointer (some ⟨g1, 0, none⟩), .pointer (some ⟨g2, 0, none⟩)] (leftOf x0 x1 y0 y1) (enters_of Try.func122 (by kernel_rfl) rfl) A0 c0 l0 w hr0
  (fun W x hb => (left_1 x0 x1 y0 y1 g1 g2 W x (blk_below h1 hb) (blk_below h2 hb)).mono fun e w' ⟨he, hb'⟩ => ⟨he, hb.trans (hb'.mono hb.size)⟩)
end Go.Proofs.Ythehmkpcddafnaa.PG
end
section
namespace Go.Proofs.Ythehmkpcddafnaa.PG
open Go.RowKit Go.Proofs.YthehmkpcddafnaaW.PrintWords Go.Proofs.YthehmkpcddafnaaW.PrintLast Go.Proofs.YthehmkpcddafnaaW.PrintMore
attribute [local go_sem] max2_int min2_int max_two min_two max_three min_three max_four min_four
set_option linter.unusedVariables false
set_option linter.unusedSimpArgs false
/-! ### shape_parted: function 112 -/
def shape_parted.l0 : Nat → List (S41) → List (S41) → Int → Int → Option (Bool)
 | 0, _, _, _, _ => none
 | k + 1, x0, x1, x9, x10 => if x10 < x9 then (if 0 ≤ x10 then (if x10 < (x0.length : Int) then (if (x0.length : Int) = 0 then (none) else (if 0 ≤ (Int.tmod (wrap64 (x10 + 1)) (x0.length : Int)) then (if (Int.tmod (wrap64 (x10 + 1)) (x0.length : Int)) < (x0.length : Int) then ((left_any.f x1 ((rd_T41 x0 x10).f0) ((rd_T41 x0 x10).f1) ((rd_T41 x0 (Int.tmod (wrap64 (x10 + 1)) (x0.length : Int))).f0) ((rd_T41 x0 (Int.tmod (wrap64 (x10 + 1)) (x0.length : Int))).f1)).bind fun t105 => (if t105 = true then (shape_parted.l0 k x0 x1 x9 (wrap64 (x10 + 1))) else (some true))) else (none)) else (none))) else (none)) else (none)) else (some false)
def shape_parted.f (k : Nat) (l0 : List (S41)) (l1 : List (S41)) : Option (Bool) := shape_parted.l0 k l0 l1 (l0.length : Int) 0
def shape_parted.T4 : Bool × List (List Nat × List Nat) := (true, [([], []), ([], []), ([0, 1], [0, 1]), ([2], [2]), ([], []), ([], []), ([5], [5]), ([], []), ([7], [7]), ([6, 8], [6, 8]), ([4, 9], [4, 9]), ([10], [10]), ([], []), ([], []), ([12, 3, 0, 1, 2, 3, 12, 13], [3, 12]), ([13, 11, 14, 0, 1, 2, 3, 4, 5, 6, 7, 8, 9, 10, 11, 12, 13, 14], [11, 13])])
def shape_parted.B4 : List Nat := [0, 0, 3, 7, 0, 0, 32, 0, 128, 480, 1008, 2032, 0, 0, 12303, 32767]
theorem shape_parted.tab4 : rtab .any (opsOf Try.f112 4) = shape_parted.T4 := by kernel_rfl
theorem shape_parted.bits4 : waitsOk shape_parted.T4.2 shape_parted.B4 = true := by kernel_rfl
set_option maxHeartbeats 8000000 in
set_option maxRecDepth 100000 in
theorem shape_parted.calls (k : Nat) (A0 : Option Addr) (c0 : Nat) (l0 : List (S41)) (A1 : Option Addr) (c1 : Nat) (l1 : List (S41)) (r : Bool) (w : World) (hr0 : Kd.C k41 w A0 l0.length l0) (hc0 : l0.length ≤ c0) (hr1 : Kd.C k41 w A1 l1.length l1) (hc1 : l1.length ≤ c1) (h : shape_parted.f k l0 l1 = some r) :
  Calls Try.prog 112 #[.slice A0 l0.length c0, .slice A1 l1.length c1] w fun e w' => e = .returned (.bool r) ∧ Below w.heap.size w w' := by
 have hu41 := Try.underlying41
 have HR0 := Aside0.mk hr0
 have HC0 := Aside0.mk hc0
 clear hr0 hc0
 have HR1 := Aside0.mk hr1
 have HC1 := Aside0.mk hc1
 clear hr1 hc1
 have HB := Aside0.mk (Below.refl w.heap.size w)
 have H : (shape_parted.l0 k l0 l1 (l0.length : Int) 0) = some r := h
 clear h
 have H' := Aside0.mk H
 clear H
 go_enter Try.func112, Try.ntmps112
 go_wp2
 go_loopg [10] k (fun kq v10 w' => ∃ (x10_1 : Int), v10 = .int .i64 x10_1 ∧ Aside0 (shape_parted.l0 kq l0 l1 (l0.length : Int) x10_1 = some r) ∧ Aside0 (kq ≤ k) ∧ Aside0 (Below w.heap.size w w'))
 case atStart => exact ⟨(0), sd, H', ⟨Nat.le_refl _⟩, ⟨bh⟩⟩
 case round =>
  clear H'
  (try clear c1)
  obtain ⟨x10_1, rfl, HA, HK1, HB⟩ := hrel
  cases gk with
  | zero => exact absurd HA.out (by simp [shape_parted.l0])
  | succ k1 =>
   have H := HA.out
   clear HA
   simp only [shape_parted.l0] at H
   by_cases c3 : x10_1 < (l0.length : Int)
   ·rw [if_pos c3] at H
    have c3b0 := decide_eq_true c3
    clear c3
    obtain ⟨c4, H⟩ := oi H
    have c4b0 := decide_eq_true c4
    clear c4
    obtain ⟨c5, H⟩ := oi H
    have c5b0 := decide_eq_true c5
    clear c5
    obtain ⟨c6, H⟩ := oj H
    have c6b0 : ((l0.length : Int) == 0) = false := beq_eq_false_iff_ne.mpr c6
    have c6b1 : ((l0.length : Int) != 0) = true := bne_iff_ne.mpr c6
    have c6b2 : ¬ (l0 = []) := fun h_ => c6 (by rw [h_]; rfl)
    obtain ⟨ji7, hji7⟩ : ∃ j_ : Int, (Int.tmod (wrap64 (x10_1 + 1)) (l0.length : Int)) = j_ := ⟨_, rfl⟩
    first | rw [hji7] at H | simp only [hji7] at H
    obtain ⟨c8, H⟩ := oi H
    have c8b0 := decide_eq_true c8
    clear c8
    obtain ⟨c9, H⟩ := oi H
    have c9b0 := decide_eq_true c9
    clear c9
    replace H := Option.bind_eq_some_iff.mp H
    obtain ⟨t105, A100, H⟩ := H
    try dsimp only at H
    have A10 := Aside0.mk A100
    clear A100
    by_cases c11 : t105 = true
    ·subst c11
     rw [if_pos rfl] at H
     have H' := Aside0.mk H
     clear H
     try go_wp2
     replace HB := Aside0.mk (below_drew1 HB.out)
     have p101 : 0 ≤ (x10_1 : Int) := dt
     have q101 : x10_1 < (l0.length : Int) := dt
     obtain ⟨ad101, e101, hx101_0, hx101_1⟩ := at_T41 HR0.out x10_1 p101 q101
     have hw101_1 := hx101_1
     have hw101_0 := hx101_0
     cases e101
     replace hx101_0 := hc HB hx101_0
     replace hx101_1 := hc HB hx101_1
     replace p101 := eq_true p101
     replace q101 := eq_true q101
     have p102 : 0 ≤ ((ji7) : Int) := dt
     have q102 : (ji7) < (l0.length : Int) := dt
     obtain ⟨ad102, e102, hx102_0, hx102_1⟩ := at_T41 HR0.out (ji7) p102 q102
     have hw102_1 := hx102_1
     have hw102_0 := hx102_0
     obtain rfl : ad101 = ad102 := (by injection e102)
     replace hx102_0 := hc HB hx102_0
     replace hx102_1 := hc HB hx102_1
     replace p102 := eq_true p102
     replace q102 := eq_true q102
     refine start_ (n := 16) (S := fun w' => w'.cell? (ad101.add ((x10_1).toNat * 2)) = some (.int .i64 ((rd_T41 l0 x10_1).f0)) ∧ w'.cell? ⟨(ad101.add ((x10_1).toNat * 2)).block, (ad101.add ((x10_1).toNat * 2)).off + 1, none⟩ = some (.int .i64 ((rd_T41 l0 x10_1).f1)) ∧ w'.cell? (ad101.add (((ji7)).toNat * 2)) = some (.int .i64 ((rd_T41 l0 (ji7)).f0)) ∧ w'.cell? ⟨(ad101.add (((ji7)).toNat * 2)).block, (ad101.add (((ji7)).toNat * 2)).off + 1, none⟩ = some (.int .i64 ((rd_T41 l0 (ji7)).f1))) (ds := []) #[N,N,N,N,N,N,N,N,N,N,N,N,N,N,N,N] (by kernel_rfl) rfl rfl ⟨(hc HB hw101_0), (hc HB hw101_1), (hc HB hw102_0), (hc HB hw102_1)⟩ (fun hHeld => ?_); refine with_tabW shape_parted.tab4 shape_parted.bits4 (fun HT_ HW_ => ?_)
     generalize wr.drew = w12 at HB hx101_0 hx101_1 hx102_0 hx102_1 hHeld ⊢
     refine pu 0 13 HT_ ?_
     refine pu 1 14 HT_ ?_
     refine pu 2 15 HT_ ?_
     refine pu 4 17 HT_ ?_
     refine pu 5 18 HT_ ?_
     refine pu 6 19 HT_ ?_
     refine pu 7 20 HT_ ?_
     refine pu 8 21 HT_ ?_
     refine pu 9 22 HT_ ?_
     refine pu 10 23 HT_ ?_
     refine tk4 3 16 hHeld HT_ HW_ ?_
     refine tk4 11 24 hHeld HT_ HW_ ?_
     refine join_ (σ := Nat × Nat) 2 #[T,T,T,T,T,T,T,T,T,T,T,T,T,T,N,N] (fun s_ => [(6, .pointer (some ⟨s_.1, 0, none⟩)), (7, .pointer (some ⟨s_.2, 0, none⟩))]) (fun s_ w' => (w'.cell? (ad101.add ((x10_1).toNat * 2)) = some (.int .i64 ((rd_T41 l0 x10_1).f0)) ∧ w'.cell? ⟨(ad101.add ((x10_1).toNat * 2)).block, (ad101.add ((x10_1).toNat * 2)).off + 1, none⟩ = some (.int .i64 ((rd_T41 l0 x10_1).f1)) ∧ w'.cell? (ad101.add (((ji7)).toNat * 2)) = some (.int .i64 ((rd_T41 l0 (ji7)).f0)) ∧ w'.cell? ⟨(ad101.add (((ji7)).toNat * 2)).block, (ad101.add (((ji7)).toNat * 2)).off + 1, none⟩ = some (.int .i64 ((rd_T41 l0 (ji7)).f1))) ∧ (w'.heap[s_.1]? = some (.cells #[.int .i64 0, .int .i64 0] 41 (0, 0))) ∧ (w'.heap[s_.2]? = some (.cells #[.int .i64 0, .int .i64 0] 41 (0, 0))) ∧ (w.heap.size ≤ s_.1) ∧ (w.heap.size ≤ s_.1) ∧ (s_.2 ≠ s_.1) ∧ (s_.1 ≠ s_.2) ∧ (w.heap.size ≤ s_.2) ∧ (w.heap.size ≤ s_.2) ∧ (Below w.heap.size w w')) ?_ ?_
     rotate_left
     ·intro hCont
      refine two_ (i := 12) (j := 13) (Ni := some 6) (Nj := some 7) #[T,T,T,T,T,T,T,T,T,T,T,T,T,N,N,N] #[T,T,T,T,T,T,T,T,T,T,T,T,N,T,N,N] rfl rfl rfl rfl (on2 HT_) (by decide) (by decide) (fun K hK => ?_) (fun K hK => ?_)
      ·skip
       refine bxs 6 #[.int .i64 0, .int .i64 0] 41 ?_
       intro gb103 hg w13 hbox hb
       have BK103 := Aside0.mk (hbox)
       have GW103 := ga w hg
       have GE103 := GW103
       replace HB := bz hb
       clear hb hbox hg
       refine hK.out _ _ ⟨(hc HB hw101_0), (hc HB hw101_1), (hc HB hw102_0), (hc HB hw102_1)⟩ (fun hHeld => ?_)
       clear hK K
       refine nm 6 ?_
       refine one_ (i := 13) (N := some 7) #[T,T,T,T,T,T,T,T,T,T,T,T,T,T,N,N] rfl rfl (on1 HT_) (by decide) (fun K hK => ?_)
       refine bxs 7 #[.int .i64 0, .int .i64 0] 41 ?_
       intro gb104 hg w14 hbox hb
       have BK104 := Aside0.mk (hbox)
       have GW104 := ga w hg
       have GE104 := GW104
       have NB103_104 := nb hg (kl BK103)
       have NB104_103 := bn NB103_104
       replace BK103 := kb BK103 hb
       replace HB := bz hb
       clear hb hbox hg
       refine hK.out _ _ ⟨(hc HB hw101_0), (hc HB hw101_1), (hc HB hw102_0), (hc HB hw102_1)⟩ (fun hHeld => ?_)
       clear hK K
       refine nm 7 ?_
       exact norm_ pa (hCont (gb103, gb104) _ ⟨hHeld, bk BK103, bk BK104, GW103.out, GE103.out, NB104_103.out, NB103_104.out, GW104.out, GE104.out, bh⟩)
      ·skip
       refine bxs 7 #[.int .i64 0, .int .i64 0] 41 ?_
       intro gb104 hg w13 hbox hb
       have BK104 := Aside0.mk (hbox)
       have GW104 := ga w hg
       have GE104 := GW104
       replace HB := bz hb
       clear hb hbox hg
       refine hK.out _ _ ⟨(hc HB hw101_0), (hc HB hw101_1), (hc HB hw102_0), (hc HB hw102_1)⟩ (fun hHeld => ?_)
       clear hK K
       refine nm 7 ?_
       refine one_ (i := 12) (N := some 6) #[T,T,T,T,T,T,T,T,T,T,T,T,T,T,N,N] rfl rfl (on1 HT_) (by decide) (fun K hK => ?_)
       refine bxs 6 #[.int .i64 0, .int .i64 0] 41 ?_
       intro gb103 hg w14 hbox hb
       have BK103 := Aside0.mk (hbox)
       have GW103 := ga w hg
       have GE103 := GW103
       have NB104_103 := nb hg (kl BK104)
       have NB103_104 := bn NB104_103
       replace BK104 := kb BK104 hb
       replace HB := bz hb
       clear hb hbox hg
       refine hK.out _ _ ⟨(hc HB hw101_0), (hc HB hw101_1), (hc HB hw102_0), (hc HB hw102_1)⟩ (fun hHeld => ?_)
       clear hK K
       refine nm 6 ?_
       exact norm_ pa (hCont (gb103, gb104) _ ⟨hHeld, bk BK103, bk BK104, GW103.out, GE103.out, NB104_103.out, NB103_104.out, GW104.out, GE104.out, bh⟩)
     rintro ⟨gb103, gb104⟩ w15 ⟨hS_, h0_, h1_, h2_, h3_, h4_, h5_, h6_, h7_, h8_⟩
     have BK103 := Aside0.mk h0_
     have BK104 := Aside0.mk h1_
     have GW103 := Aside0.mk h2_
     have GE103 := Aside0.mk h3_
     have NB104_103 := Aside0.mk h4_
     have NB103_104 := Aside0.mk h5_
     have GW104 := Aside0.mk h6_
     have GE104 := Aside0.mk h7_
     replace HB := Aside0.mk h8_
     clear h0_ h1_ h2_ h3_ h4_ h5_ h6_ h7_ h8_
     have hHeld := hS_
     refine nn ?_
     refine one_ (i := 14) (N := none) #[T,T,T,T,T,T,T,T,T,T,T,T,T,T,T,N] rfl rfl (on1 HT_) (by decide) (fun K hK => ?_)
     have hs16 : w15.cell? ⟨gb103, 0, none⟩ = some (.int .i64 0) := bc BK103 0
     have hfs16 := blk_frozen BK103.out 0
     have hns16_1 := NB104_103.out
     have hms16_1 := NB103_104.out
     have hs17 : w15.cell? ⟨gb103, 1, none⟩ = some (.int .i64 0) := bc BK103 1
     have hfs17 := blk_frozen BK103.out 1
     have hns17_1 := NB104_103.out
     have hms17_1 := NB103_104.out
     refine skip_ (w1 := ?_) (by rfl) rfl ?_ ?_
     rotate_left
     ·go_simp
      rfl
     refine hK.out _ _ ⟨((cell_far (p := ⟨gb103, _, none⟩) (fr hw101_0 GW103) _).trans (((cell_far (p := ⟨gb103, _, none⟩) (fr hw101_0 GW103) _).trans (hHeld.1)))), ((cell_far (p := ⟨gb103, _, none⟩) (fr hw101_1 GW103) _).trans (((cell_far (p := ⟨gb103, _, none⟩) (fr hw101_1 GW103) _).trans (hHeld.2.1)))), ((cell_far (p := ⟨gb103, _, none⟩) (fr hw102_0 GW103) _).trans (((cell_far (p := ⟨gb103, _, none⟩) (fr hw102_0 GW103) _).trans (hHeld.2.2.1)))), ((cell_far (p := ⟨gb103, _, none⟩) (fr hw102_1 GW103) _).trans (((cell_far (p := ⟨gb103, _, none⟩) (fr hw102_1 GW103) _).trans (hHeld.2.2.2))))⟩ (fun hHeld => ?_)
     clear hK K
     refine one_ (i := 15) (N := none) #[T,T,T,T,T,T,T,T,T,T,T,T,T,T,T,T] rfl rfl (on1 HT_) (by decide) (fun K hK => ?_)
     have hs18 : w15.cell? ⟨gb104, 0, none⟩ = some (.int .i64 0) := bc BK104 0
     have hfs18 := blk_frozen BK104.out 0
     have hns18_0 := NB103_104.out
     have hms18_0 := NB104_103.out
     have hs19 : w15.cell? ⟨gb104, 1, none⟩ = some (.int .i64 0) := bc BK104 1
     have hfs19 := blk_frozen BK104.out 1
     have hns19_0 := NB103_104.out
     have hms19_0 := NB104_103.out
     refine skip_ (w1 := ?_) (by rfl) rfl ?_ ?_
     rotate_left
     ·go_simp
      rfl
     refine hK.out _ _ ⟨((cell_far (p := ⟨gb104, _, none⟩) (fr hw101_0 GW104) _).trans (((cell_far (p := ⟨gb104, _, none⟩) (fr hw101_0 GW104) _).trans (hHeld.1)))), ((cell_far (p := ⟨gb104, _, none⟩) (fr hw101_1 GW104) _).trans (((cell_far (p := ⟨gb104, _, none⟩) (fr hw101_1 GW104) _).trans (hHeld.2.1)))), ((cell_far (p := ⟨gb104, _, none⟩) (fr hw102_0 GW104) _).trans (((cell_far (p := ⟨gb104, _, none⟩) (fr hw102_0 GW104) _).trans (hHeld.2.2.1)))), ((cell_far (p := ⟨gb104, _, none⟩) (fr hw102_1 GW104) _).trans (((cell_far (p := ⟨gb104, _, none⟩) (fr hw102_1 GW104) _).trans (hHeld.2.2.2))))⟩ (fun hHeld => ?_)
     clear hK K
     refine done_ (done_of HT_.out (by kernel_rfl)) ?_
     try go_wp2_with (first | ((with_reducible refine gc 109 rfl ?_); refine goesL_ (some 27) rfl rfl Try.func109 (by kernel_rfl) rfl #[.slice A1 l1.length c1, .func (.func 122) #[] #[.pointer (some ⟨gb103, 0, none⟩), .pointer (some ⟨gb104, 0, none⟩)]] rfl sg ?_; (with_reducible refine (left_any.calls _ _ l1 ((rd_T41 l0 x10_1).f0) ((rd_T41 l0 x10_1).f1) ((rd_T41 l0 (ji7)).f0) ((rd_T41 l0 (ji7)).f1) gb103 gb104 true _ (by refine bf NB103_104 ?_; refine bf NB103_104 ?_; refine bd ?_; refine blk_put (cs := #[.int .i64 ((rd_T41 l0 x10_1).f0), .int .i64 0]) ?_ 1 _ rfl; refine bd ?_; refine blk_put (cs := #[.int .i64 0, .int .i64 0]) ?_ 0 _ rfl; refine bd ?_; exact BK103.out) (by refine bd ?_; refine blk_put (cs := #[.int .i64 ((rd_T41 l0 (ji7)).f0), .int .i64 0]) ?_ 1 _ rfl; refine bd ?_; refine blk_put (cs := #[.int .i64 0, .int .i64 0]) ?_ 0 _ rfl; refine bf NB104_103 ?_; refine bf NB104_103 ?_; refine bd ?_; exact BK104.out) ?side1 ?side2 A10.out).mono ?_); (case side1 => exact Kd.C_below HR1.out bh); (case side2 => exact HC1.out); rintro e w20 ⟨rfl, hb⟩; refine ⟨_, rfl, ?_⟩; replace BK103 := Aside0.mk (blk_below (g := gb103) (o := .cells #[.int .i64 ((rd_T41 l0 x10_1).f0), .int .i64 ((rd_T41 l0 x10_1).f1)] 41 (0, 0)) (by refine bf NB103_104 ?_; refine bf NB103_104 ?_; refine bd ?_; refine blk_put (cs := #[.int .i64 ((rd_T41 l0 x10_1).f0), .int .i64 0]) ?_ 1 _ rfl; refine bd ?_; refine blk_put (cs := #[.int .i64 0, .int .i64 0]) ?_ 0 _ rfl; refine bd ?_; exact BK103.out) hb); replace BK104 := Aside0.mk (blk_below (g := gb104) (o := .cells #[.int .i64 ((rd_T41 l0 (ji7)).f0), .int .i64 ((rd_T41 l0 (ji7)).f1)] 41 (0, 0)) (by refine bd ?_; refine blk_put (cs := #[.int .i64 ((rd_T41 l0 (ji7)).f0), .int .i64 0]) ?_ 1 _ rfl; refine bd ?_; refine blk_put (cs := #[.int .i64 0, .int .i64 0]) ?_ 0 _ rfl; refine bf NB104_103 ?_; refine bf NB104_103 ?_; refine bd ?_; exact BK104.out) hb); replace HB := bz hb; (try clear hb)))
     go_roundg k1
     case measure => have := HK1.out; omega
     case rel => exact ⟨(wrap64 (x10_1 + 1)), sd, H', ⟨by have := HK1.out; omega⟩, ⟨bh⟩⟩
    ·replace c11 := Bool.eq_false_iff.mpr c11
     subst c11
     rw [if_neg (show ¬ (false = true) by decide)] at H
     obtain rfl := Option.some.inj H
     try go_wp2
     replace HB := Aside0.mk (below_drew1 HB.out)
     have p101 : 0 ≤ (x10_1 : Int) := dt
     have q101 : x10_1 < (l0.length : Int) := dt
     obtain ⟨ad101, e101, hx101_0, hx101_1⟩ := at_T41 HR0.out x10_1 p101 q101
     have hw101_1 := hx101_1
     have hw101_0 := hx101_0
     cases e101
     replace hx101_0 := hc HB hx101_0
     replace hx101_1 := hc HB hx101_1
     replace p101 := eq_true p101
     replace q101 := eq_true q101
     have p102 : 0 ≤ ((ji7) : Int) := dt
     have q102 : (ji7) < (l0.length : Int) := dt
     obtain ⟨ad102, e102, hx102_0, hx102_1⟩ := at_T41 HR0.out (ji7) p102 q102
     have hw102_1 := hx102_1
     have hw102_0 := hx102_0
     obtain rfl : ad101 = ad102 := (by injection e102)
     replace hx102_0 := hc HB hx102_0
     replace hx102_1 := hc HB hx102_1
     replace p102 := eq_true p102
     replace q102 := eq_true q102
     refine start_ (n := 16) (S := fun w' => w'.cell? (ad101.add ((x10_1).toNat * 2)) = some (.int .i64 ((rd_T41 l0 x10_1).f0)) ∧ w'.cell? ⟨(ad101.add ((x10_1).toNat * 2)).block, (ad101.add ((x10_1).toNat * 2)).off + 1, none⟩ = some (.int .i64 ((rd_T41 l0 x10_1).f1)) ∧ w'.cell? (ad101.add (((ji7)).toNat * 2)) = some (.int .i64 ((rd_T41 l0 (ji7)).f0)) ∧ w'.cell? ⟨(ad101.add (((ji7)).toNat * 2)).block, (ad101.add (((ji7)).toNat * 2)).off + 1, none⟩ = some (.int .i64 ((rd_T41 l0 (ji7)).f1))) (ds := []) #[N,N,N,N,N,N,N,N,N,N,N,N,N,N,N,N] (by kernel_rfl) rfl rfl ⟨(hc HB hw101_0), (hc HB hw101_1), (hc HB hw102_0), (hc HB hw102_1)⟩ (fun hHeld => ?_); refine with_tabW shape_parted.tab4 shape_parted.bits4 (fun HT_ HW_ => ?_)
     generalize wr.drew = w21 at HB hx101_0 hx101_1 hx102_0 hx102_1 hHeld ⊢
     refine pu 0 13 HT_ ?_
     refine pu 1 14 HT_ ?_
     refine pu 2 15 HT_ ?_
     refine pu 4 17 HT_ ?_
     refine pu 5 18 HT_ ?_
     refine pu 6 19 HT_ ?_
     refine pu 7 20 HT_ ?_
     refine pu 8 21 HT_ ?_
     refine pu 9 22 HT_ ?_
     refine pu 10 23 HT_ ?_
     refine tk4 3 16 hHeld HT_ HW_ ?_
     refine tk4 11 24 hHeld HT_ HW_ ?_
     refine join_ (σ := Nat × Nat) 2 #[T,T,T,T,T,T,T,T,T,T,T,T,T,T,N,N] (fun s_ => [(6, .pointer (some ⟨s_.1, 0, none⟩)), (7, .pointer (some ⟨s_.2, 0, none⟩))]) (fun s_ w' => (w'.cell? (ad101.add ((x10_1).toNat * 2)) = some (.int .i64 ((rd_T41 l0 x10_1).f0)) ∧ w'.cell? ⟨(ad101.add ((x10_1).toNat * 2)).block, (ad101.add ((x10_1).toNat * 2)).off + 1, none⟩ = some (.int .i64 ((rd_T41 l0 x10_1).f1)) ∧ w'.cell? (ad101.add (((ji7)).toNat * 2)) = some (.int .i64 ((rd_T41 l0 (ji7)).f0)) ∧ w'.cell? ⟨(ad101.add (((ji7)).toNat * 2)).block, (ad101.add (((ji7)).toNat * 2)).off + 1, none⟩ = some (.int .i64 ((rd_T41 l0 (ji7)).f1))) ∧ (w'.heap[s_.1]? = some (.cells #[.int .i64 0, .int .i64 0] 41 (0, 0))) ∧ (w'.heap[s_.2]? = some (.cells #[.int .i64 0, .int .i64 0] 41 (0, 0))) ∧ (w.heap.size ≤ s_.1) ∧ (w.heap.size ≤ s_.1) ∧ (s_.2 ≠ s_.1) ∧ (s_.1 ≠ s_.2) ∧ (w.heap.size ≤ s_.2) ∧ (w.heap.size ≤ s_.2) ∧ (Below w.heap.size w w')) ?_ ?_
     rotate_left
     ·intro hCont
      refine two_ (i := 12) (j := 13) (Ni := some 6) (Nj := some 7) #[T,T,T,T,T,T,T,T,T,T,T,T,T,N,N,N] #[T,T,T,T,T,T,T,T,T,T,T,T,N,T,N,N] rfl rfl rfl rfl (on2 HT_) (by decide) (by decide) (fun K hK => ?_) (fun K hK => ?_)
      ·skip
       refine bxs 6 #[.int .i64 0, .int .i64 0] 41 ?_
       intro gb103 hg w22 hbox hb
       have BK103 := Aside0.mk (hbox)
       have GW103 := ga w hg
       have GE103 := GW103
       replace HB := bz hb
       clear hb hbox hg
       refine hK.out _ _ ⟨(hc HB hw101_0), (hc HB hw101_1), (hc HB hw102_0), (hc HB hw102_1)⟩ (fun hHeld => ?_)
       clear hK K
       refine nm 6 ?_
       refine one_ (i := 13) (N := some 7) #[T,T,T,T,T,T,T,T,T,T,T,T,T,T,N,N] rfl rfl (on1 HT_) (by decide) (fun K hK => ?_)
       refine bxs 7 #[.int .i64 0, .int .i64 0] 41 ?_
       intro gb104 hg w23 hbox hb
       have BK104 := Aside0.mk (hbox)
       have GW104 := ga w hg
       have GE104 := GW104
       have NB103_104 := nb hg (kl BK103)
       have NB104_103 := bn NB103_104
       replace BK103 := kb BK103 hb
       replace HB := bz hb
       clear hb hbox hg
       refine hK.out _ _ ⟨(hc HB hw101_0), (hc HB hw101_1), (hc HB hw102_0), (hc HB hw102_1)⟩ (fun hHeld => ?_)
       clear hK K
       refine nm 7 ?_
       exact norm_ pa (hCont (gb103, gb104) _ ⟨hHeld, bk BK103, bk BK104, GW103.out, GE103.out, NB104_103.out, NB103_104.out, GW104.out, GE104.out, bh⟩)
      ·skip
       refine bxs 7 #[.int .i64 0, .int .i64 0] 41 ?_
       intro gb104 hg w22 hbox hb
       have BK104 := Aside0.mk (hbox)
       have GW104 := ga w hg
       have GE104 := GW104
       replace HB := bz hb
       clear hb hbox hg
       refine hK.out _ _ ⟨(hc HB hw101_0), (hc HB hw101_1), (hc HB hw102_0), (hc HB hw102_1)⟩ (fun hHeld => ?_)
       clear hK K
       refine nm 7 ?_
       refine one_ (i := 12) (N := some 6) #[T,T,T,T,T,T,T,T,T,T,T,T,T,T,N,N] rfl rfl (on1 HT_) (by decide) (fun K hK => ?_)
       refine bxs 6 #[.int .i64 0, .int .i64 0] 41 ?_
       intro gb103 hg w23 hbox hb
       have BK103 := Aside0.mk (hbox)
       have GW103 := ga w hg
       have GE103 := GW103
       have NB104_103 := nb hg (kl BK104)
       have NB103_104 := bn NB104_103
       replace BK104 := kb BK104 hb
       replace HB := bz hb
       clear hb hbox hg
       refine hK.out _ _ ⟨(hc HB hw101_0), (hc HB hw101_1), (hc HB hw102_0), (hc HB hw102_1)⟩ (fun hHeld => ?_)
       clear hK K
       refine nm 6 ?_
       exact norm_ pa (hCont (gb103, gb104) _ ⟨hHeld, bk BK103, bk BK104, GW103.out, GE103.out, NB104_103.out, NB103_104.out, GW104.out, GE104.out, bh⟩)
     rintro ⟨gb103, gb104⟩ w24 ⟨hS_, h0_, h1_, h2_, h3_, h4_, h5_, h6_, h7_, h8_⟩
     have BK103 := Aside0.mk h0_
     have BK104 := Aside0.mk h1_
     have GW103 := Aside0.mk h2_
     have GE103 := Aside0.mk h3_
     have NB104_103 := Aside0.mk h4_
     have NB103_104 := Aside0.mk h5_
     have GW104 := Aside0.mk h6_
     have GE104 := Aside0.mk h7_
     replace HB := Aside0.mk h8_
     clear h0_ h1_ h2_ h3_ h4_ h5_ h6_ h7_ h8_
     have hHeld := hS_
     refine nn ?_
     refine one_ (i := 14) (N := none) #[T,T,T,T,T,T,T,T,T,T,T,T,T,T,T,N] rfl rfl (on1 HT_) (by decide) (fun K hK => ?_)
     have hs25 : w24.cell? ⟨gb103, 0, none⟩ = some (.int .i64 0) := bc BK103 0
     have hfs25 := blk_frozen BK103.out 0
     have hns25_1 := NB104_103.out
     have hms25_1 := NB103_104.out
     have hs26 : w24.cell? ⟨gb103, 1, none⟩ = some (.int .i64 0) := bc BK103 1
     have hfs26 := blk_frozen BK103.out 1
     have hns26_1 := NB104_103.out
     have hms26_1 := NB103_104.out
     refine skip_ (w1 := ?_) (by rfl) rfl ?_ ?_
     rotate_left
     ·go_simp
      rfl
     refine hK.out _ _ ⟨((cell_far (p := ⟨gb103, _, none⟩) (fr hw101_0 GW103) _).trans (((cell_far (p := ⟨gb103, _, none⟩) (fr hw101_0 GW103) _).trans (hHeld.1)))), ((cell_far (p := ⟨gb103, _, none⟩) (fr hw101_1 GW103) _).trans (((cell_far (p := ⟨gb103, _, none⟩) (fr hw101_1 GW103) _).trans (hHeld.2.1)))), ((cell_far (p := ⟨gb103, _, none⟩) (fr hw102_0 GW103) _).trans (((cell_far (p := ⟨gb103, _, none⟩) (fr hw102_0 GW103) _).trans (hHeld.2.2.1)))), ((cell_far (p := ⟨gb103, _, none⟩) (fr hw102_1 GW103) _).trans (((cell_far (p := ⟨gb103, _, none⟩) (fr hw102_1 GW103) _).trans (hHeld.2.2.2))))⟩ (fun hHeld => ?_)
     clear hK K
     refine one_ (i := 15) (N := none) #[T,T,T,T,T,T,T,T,T,T,T,T,T,T,T,T] rfl rfl (on1 HT_) (by decide) (fun K hK => ?_)
     have hs27 : w24.cell? ⟨gb104, 0, none⟩ = some (.int .i64 0) := bc BK104 0
     have hfs27 := blk_frozen BK104.out 0
     have hns27_0 := NB103_104.out
     have hms27_0 := NB104_103.out
     have hs28 : w24.cell? ⟨gb104, 1, none⟩ = some (.int .i64 0) := bc BK104 1
     have hfs28 := blk_frozen BK104.out 1
     have hns28_0 := NB103_104.out
     have hms28_0 := NB104_103.out
     refine skip_ (w1 := ?_) (by rfl) rfl ?_ ?_
     rotate_left
     ·go_simp
      rfl
     refine hK.out _ _ ⟨((cell_far (p := ⟨gb104, _, none⟩) (fr hw101_0 GW104) _).trans (((cell_far (p := ⟨gb104, _, none⟩) (fr hw101_0 GW104) _).trans (hHeld.1)))), ((cell_far (p := ⟨gb104, _, none⟩) (fr hw101_1 GW104) _).trans (((cell_far (p := ⟨gb104, _, none⟩) (fr hw101_1 GW104) _).trans (hHeld.2.1)))), ((cell_far (p := ⟨gb104, _, none⟩) (fr hw102_0 GW104) _).trans (((cell_far (p := ⟨gb104, _, none⟩) (fr hw102_0 GW104) _).trans (hHeld.2.2.1)))), ((cell_far (p := ⟨gb104, _, none⟩) (fr hw102_1 GW104) _).trans (((cell_far (p := ⟨gb104, _, none⟩) (fr hw102_1 GW104) _).trans (hHeld.2.2.2))))⟩ (fun hHeld => ?_)
     clear hK K
     refine done_ (done_of HT_.out (by kernel_rfl)) ?_
     try go_wp2_with (first | ((with_reducible refine gc 109 rfl ?_); refine goesL_ (some 27) rfl rfl Try.func109 (by kernel_rfl) rfl #[.slice A1 l1.length c1, .func (.func 122) #[] #[.pointer (some ⟨gb103, 0, none⟩), .pointer (some ⟨gb104, 0, none⟩)]] rfl sg ?_; (with_reducible refine (left_any.calls _ _ l1 ((rd_T41 l0 x10_1).f0) ((rd_T41 l0 x10_1).f1) ((rd_T41 l0 (ji7)).f0) ((rd_T41 l0 (ji7)).f1) gb103 gb104 false _ (by refine bf NB103_104 ?_; refine bf NB103_104 ?_; refine bd ?_; refine blk_put (cs := #[.int .i64 ((rd_T41 l0 x10_1).f0), .int .i64 0]) ?_ 1 _ rfl; refine bd ?_; refine blk_put (cs := #[.int .i64 0, .int .i64 0]) ?_ 0 _ rfl; refine bd ?_; exact BK103.out) (by refine bd ?_; refine blk_put (cs := #[.int .i64 ((rd_T41 l0 (ji7)).f0), .int .i64 0]) ?_ 1 _ rfl; refine bd ?_; refine blk_put (cs := #[.int .i64 0, .int .i64 0]) ?_ 0 _ rfl; refine bf NB104_103 ?_; refine bf NB104_103 ?_; refine bd ?_; exact BK104.out) ?side1 ?side2 A10.out).mono ?_); (case side1 => exact Kd.C_below HR1.out bh); (case side2 => exact HC1.out); rintro e w29 ⟨rfl, hb⟩; refine ⟨_, rfl, ?_⟩; replace BK103 := Aside0.mk (blk_below (g := gb103) (o := .cells #[.int .i64 ((rd_T41 l0 x10_1).f0), .int .i64 ((rd_T41 l0 x10_1).f1)] 41 (0, 0)) (by refine bf NB103_104 ?_; refine bf NB103_104 ?_; refine bd ?_; refine blk_put (cs := #[.int .i64 ((rd_T41 l0 x10_1).f0), .int .i64 0]) ?_ 1 _ rfl; refine bd ?_; refine blk_put (cs := #[.int .i64 0, .int .i64 0]) ?_ 0 _ rfl; refine bd ?_; exact BK103.out) hb); replace BK104 := Aside0.mk (blk_below (g := gb104) (o := .cells #[.int .i64 ((rd_T41 l0 (ji7)).f0), .int .i64 ((rd_T41 l0 (ji7)).f1)] 41 (0, 0)) (by refine bd ?_; refine blk_put (cs := #[.int .i64 ((rd_T41 l0 (ji7)).f0), .int .i64 0]) ?_ 1 _ rfl; refine bd ?_; refine blk_put (cs := #[.int .i64 0, .int .i64 0]) ?_ 0 _ rfl; refine bf NB104_103 ?_; refine bf NB104_103 ?_; refine bd ?_; exact BK104.out) hb); replace HB := bz hb; (try clear hb)))
     go_ret
     exact ⟨by first | rfl | (simp [errW_none, errW_some] <;> rfl) | (simp only [← hji7]; first | rfl | (simp [errW_none, errW_some] <;> rfl)) | (simp [*, errW_none, errW_some] <;> rfl), bh⟩
   ·rw [if_neg c3] at H
    have c3b0 := decide_eq_false c3
    clear c3
    obtain rfl := Option.some.inj H
    go_wp2
    go_ret
    exact ⟨by exact er, bh⟩
end Go.Proofs.Ythehmkpcddafnaa.PG
end
section
namespace Go.Proofs.Ythehmkpcddafnaa.PG
open Go.RowKit Go.Proofs.YthehmkpcddafnaaW.PrintWords Go.Proofs.YthehmkpcddafnaaW.PrintLast Go.Proofs.YthehmkpcddafnaaW.PrintMore
/-- is p to the right of the line from (x0, x1) to (y0, y1), as the code reckons -/
def rightOf (x0 x1 y0 y1 : Int) (p : S41) : Bool := decide (((shape_side.f x0 x1 y0 y1 p.f0 p.f1).getD 0) < 0)
set_option maxHeartbeats 2000000 in
set_option maxRecDepth 100000 in
theorem cr_left_1 (x0 x1 y0 y1 : Int) (g1 g2 : Nat) (W : World) (p : S41) (h1 : W.heap[g1]? = some (.cells #[.int .i64 x0, .int .i64 x1] 41 (0, 0))) (h2 : W.heap[g2]? = some (.cells #[.int .i64 y0, .int .i64 y1] 41 (0, 0))) :
  Calls Try.prog 123 #[.agg #[.int .i64 p.f0, .int .i64 p.f1], .pointer (some ⟨g1, 0, none⟩), .pointer (some ⟨g2, 0, none⟩)] W fun e w' => e = .returned (.bool (leftOf x0 x1 y0 y1 p)) ∧ Below W.heap.size W w' := by
 have hu29 := Try.underlying41
 have n1 : g1 ≠ W.heap.size := Nat.ne_of_lt (blk_lt h1)
 have n2 : g2 ≠ W.heap.size := Nat.ne_of_lt (blk_lt h2)
 have a0 : W.cell? ⟨g1, 0, none⟩ = some (.int .i64 x0) := (blk_cell h1 0).trans rfl
 have a1 : W.cell? ⟨g1, 1, none⟩ = some (.int .i64 x1) := (blk_cell h1 1).trans rfl
 have b0 : W.cell? ⟨g2, 0, none⟩ = some (.int .i64 y0) := (blk_cell h2 0).trans rfl
 have b1 : W.cell? ⟨g2, 1, none⟩ = some (.int .i64 y1) := (blk_cell h2 1).trans rfl
 clear h1 h2
 unfold leftOf
 have hs : shape_side.f x0 x1 y0 y1 p.f0 p.f1 = some ((shape_side.f x0 x1 y0 y1 p.f0 p.f1).getD 0) := by unfold shape_side.f shape_sub.f shape_cross.f; rfl
 generalize (shape_side.f x0 x1 y0 y1 p.f0 p.f1).getD 0 = s at hs ⊢
 have HS := Aside0.mk hs
 clear hs
 generalize p.f0 = q0 at HS ⊢
 generalize p.f1 = q1 at HS ⊢
 have hB := below_alloc (Below.refl W.heap.size W) (.cells #[.int .i64 q0, .int .i64 q1] 41)
 replace a0 := (hB.cell (World.block_lt_of_cell? W _ a0)).trans a0
 replace a1 := (hB.cell (World.block_lt_of_cell? W _ a1)).trans a1
 replace b0 := (hB.cell (World.block_lt_of_cell? W _ b0)).trans b0
 replace b1 := (hB.cell (World.block_lt_of_cell? W _ b1)).trans b1
 clear hB
 go_enter Try.func123, Try.ntmps123
 go_wp2_with (go_at_call 98; refine (shape_side.calls x0 x1 y0 y1 q0 q1 s _ HS.out).mono ?_; rintro e w' ⟨rfl, hb'⟩)
 go_ret
 exact ⟨rfl, ((Below.refl _ W).alloc (Nat.le_refl _) _).trans (hb'.mono (by simp))⟩
def cr_left.f (l0 : List (S41)) (x0 x1 y0 y1 : Int) : Option (Bool) := some (l0.any (leftOf x0 x1 y0 y1))
theorem cr_left.calls (A0 : Option Addr) (c0 : Nat) (l0 : List (S41)) (x0 x1 y0 y1 : Int) (g1 g2 : Nat) (r : Bool) (w : World) (h1 : w.heap[g1]? = some (.cells #[.int .i64 x0, .int .i64 x1] 41 (0, 0))) (h2 : w.heap[g2]? = some (.cells #[.int .i64 y0, .int .i64 y1] 41 (0, 0)))
  (hr0 : Kd.C k41 w A0 l0.length l0) (_hc0 : l0.length ≤ c0) (h : cr_left.f l0 x0 x1 y0 y1 = some r) :
  Calls Try.prog 109 #[.slice A0 l0.length c0, .func (.func 123) #[] #[.pointer (some ⟨g1, 0, none⟩), .pointer (some ⟨g2, 0, none⟩)]] w fun e w' => e = .returned (.bool r) ∧ Below w.heap.size w w' := by
 obtain rfl := Option.some.inj h
 exact ContainsFunc_any 123 #[.pointer (some ⟨g1, 0, none⟩), .pointer (some ⟨g2, 0, none⟩)] (leftOf x0 x1 y0 y1) (enters_of Try.func123 (by kernel_rfl) rfl) A0 c0 l0 w hr0
  (fun W x hb => (cr_left_1 x0 x1 y0 y1 g1 g2 W x (blk_below h1 hb) (blk_below h2 hb)).mono fun e w' ⟨he, hb'⟩ => ⟨he, hb.trans (hb'.mono hb.size)⟩)
set_option maxHeartbeats 2000000 in
set_option maxRecDepth 100000 in
theorem cr_right_1 (x0 x1 y0 y1 : Int) (g1 g2 : Nat) (W : World) (p : S41) (h1 : W.heap[g1]? = some (.cells #[.int .i64 x0, .int .i64 x1] 41 (0, 0))) (h2 : W.heap[g2]? = some (.cells #[.int .i64 y0, .int .i64 y1] 41 (0, 0))) :
  Calls Try.prog 124 #[.agg #[.int .i64 p.f0, .int .i64 p.f1], .pointer (some ⟨g1, 0, none⟩), .pointer (some ⟨g2, 0, none⟩)] W fun e w' => e = .returned (.bool (rightOf x0 x1 y0 y1 p)) ∧ Below W.heap.size W w' := by
 have hu29 := Try.underlying41
 have n1 : g1 ≠ W.heap.size := Nat.ne_of_lt (blk_lt h1)
 have n2 : g2 ≠ W.heap.size := Nat.ne_of_lt (blk_lt h2)
 have a0 : W.cell? ⟨g1, 0, none⟩ = some (.int .i64 x0) := (blk_cell h1 0).trans rfl
 have a1 : W.cell? ⟨g1, 1, none⟩ = some (.int .i64 x1) := (blk_cell h1 1).trans rfl
 have b0 : W.cell? ⟨g2, 0, none⟩ = some (.int .i64 y0) := (blk_cell h2 0).trans rfl
 have b1 : W.cell? ⟨g2, 1, none⟩ = some (.int .i64 y1) := (blk_cell h2 1).trans rfl
 clear h1 h2
 unfold rightOf
 have hs : shape_side.f x0 x1 y0 y1 p.f0 p.f1 = some ((shape_side.f x0 x1 y0 y1 p.f0 p.f1).getD 0) := by unfold shape_side.f shape_sub.f shape_cross.f; rfl
 generalize (shape_side.f x0 x1 y0 y1 p.f0 p.f1).getD 0 = s at hs ⊢
 have HS := Aside0.mk hs
 clear hs
 generalize p.f0 = q0 at HS ⊢
 generalize p.f1 = q1 at HS ⊢
 have hB := below_alloc (Below.refl W.heap.size W) (.cells #[.int .i64 q0, .int .i64 q1] 41)
 replace a0 := (hB.cell (World.block_lt_of_cell? W _ a0)).trans a0
 replace a1 := (hB.cell (World.block_lt_of_cell? W _ a1)).trans a1
 replace b0 := (hB.cell (World.block_lt_of_cell? W _ b0)).trans b0
 replace b1 := (hB.cell (World.block_lt_of_cell? W _ b1)).trans b1
 clear hB
 go_enter Try.func124, Try.ntmps124
 go_wp2_with (go_at_call 98; refine (shape_side.calls x0 x1 y0 y1 q0 q1 s _ HS.out).mono ?_; rintro e w' ⟨rfl, hb'⟩)
 go_ret
 exact ⟨rfl, ((Below.refl _ W).alloc (Nat.le_refl _) _).trans (hb'.mono (by simp))⟩
def cr_right.f (l0 : List (S41)) (x0 x1 y0 y1 : Int) : Option (Bool) := some (l0.any (rightOf x0 x1 y0 y1))
theorem cr_right.calls (A0 : Option Addr) (c0 : Nat) (l0 : List (S41)) (x0 x1 y0 y1 : Int) (g1 g2 : Nat) (r : Bool) (w : World) (h1 : w.heap[g1]? = some (.cells #[.int .i64 x0, .int .i64 x1] 41 (0, 0))) (h2 : w.heap[g2]? = some (.cells #[.int .i64 y0, .int .i64 y1] 41 (0, 0)))
  (hr0 : Kd.C k41 w A0 l0.length l0) (_hc0 : l0.length ≤ c0) (h : cr_right.f l0 x0 x1 y0 y1 = some r) :
  Calls Try.prog 109 #[.slice A0 l0.length c0, .func (.func 124) #[] #[.pointer (some ⟨g1, 0, none⟩), .pointer (some ⟨g2, 0, none⟩)]] w fun e w' => e = .returned (.bool r) ∧ Below w.heap.size w w' := by
 obtain rfl := Option.some.inj h
 exact ContainsFunc_any 124 #[.pointer (some ⟨g1, 0, none⟩), .pointer (some ⟨g2, 0, none⟩)] (rightOf x0 x1 y0 y1) (enters_of Try.func124 (by kernel_rfl) rfl) A0 c0 l0 w hr0
  (fun W x hb => (cr_right_1 x0 x1 y0 y1 g1 g2 W x (blk_below h1 hb) (blk_below h2 hb)).mono fun e w' ⟨he, hb'⟩ => ⟨he, hb.trans (hb'.mono hb.size)⟩)
end Go.Proofs.Ythehmkpcddafnaa.PG
end
section
namespace Go.Proofs.Ythehmkpcddafnaa.PG
open Go.RowKit Go.Proofs.YthehmkpcddafnaaW.PrintWords Go.Proofs.YthehmkpcddafnaaW.PrintLast Go.Proofs.YthehmkpcddafnaaW.PrintMore
attribute [local go_sem] max2_int min2_int max_two min_two max_three min_three max_four min_four
set_option linter.unusedVariables false
set_option linter.unusedSimpArgs false
/-! ### shape_crosses: function 113 -/
def shape_crosses.f (k : Nat) (a0_0 : Int) (a0_1 : Int) (a1_0 : Int) (a1_1 : Int) (l2 : List (S41)) : Option (Bool) := (cr_left.f l2 a0_0 a0_1 a1_0 a1_1).bind fun t103 => ((cr_right.f l2 a0_0 a0_1 a1_0 a1_1).bind fun t104 => (if t103 = true then (if t104 = true then ((shape_parted.f k l2 (([(⟨a0_0, a0_1⟩ : S41), (⟨a1_0, a1_1⟩ : S41)] : List (S41)))).bind fun t108 => (some (!t108))) else (some false)) else (some false)))
set_option maxHeartbeats 8000000 in
set_option maxRecDepth 100000 in
theorem shape_crosses.calls (k : Nat) (a0_0 : Int) (a0_1 : Int) (a1_0 : Int) (a1_1 : Int) (A2 : Option Addr) (c2 : Nat) (l2 : List (S41)) (r : Bool) (w : World) (hr2 : Kd.C k41 w A2 l2.length l2) (hc2 : l2.length ≤ c2) (h : shape_crosses.f k a0_0 a0_1 a1_0 a1_1 l2 = some r) :
  Calls Try.prog 113 #[.agg #[.int .i64 a0_0, .int .i64 a0_1], .agg #[.int .i64 a1_0, .int .i64 a1_1], .slice A2 l2.length c2] w fun e w' => e = .returned (.bool r) ∧ Below w.heap.size w w' := by
 have hu41 := Try.underlying41
 have HR2 := Aside0.mk hr2
 have HC2 := Aside0.mk hc2
 clear hr2 hc2
 have HB := Aside0.mk (Below.refl w.heap.size w)
 have H : ((cr_left.f l2 a0_0 a0_1 a1_0 a1_1).bind fun t103 => ((cr_right.f l2 a0_0 a0_1 a1_0 a1_1).bind fun t104 => (if t103 = true then (if t104 = true then ((shape_parted.f k l2 (([(⟨a0_0, a0_1⟩ : S41), (⟨a1_0, a1_1⟩ : S41)] : List (S41)))).bind fun t108 => (some (!t108))) else (some false)) else (some false)))) = some r := h
 clear h
 replace H := Option.bind_eq_some_iff.mp H
 obtain ⟨t103, A40, H⟩ := H
 try dsimp only at H
 have A4 := Aside0.mk A40
 clear A40
 replace H := Option.bind_eq_some_iff.mp H
 obtain ⟨t104, A50, H⟩ := H
 try dsimp only at H
 have A5 := Aside0.mk A50
 clear A50
 by_cases c6 : t103 = true
 ·subst c6
  rw [if_pos rfl] at H
  by_cases c7 : t104 = true
  ·subst c7
   rw [if_pos rfl] at H
   obtain ⟨y105, hy105⟩ : ∃ y_ : List (S41), y_ = (([(⟨a0_0, a0_1⟩ : S41), (⟨a1_0, a1_1⟩ : S41)] : List (S41))) := ⟨_, rfl⟩
   replace H : ((shape_parted.f k l2 y105).bind fun t108 => (some (!t108))) = some r := by first | (rw [hy105]; with_reducible exact H) | (have H2_ := (Option.bind_some _ _).symm.trans H; rw [hy105]; with_reducible exact H2_) | (have H2_ := (Option.bind_some _ _).symm.trans H; with_reducible exact H2_) | with_reducible exact H | (rw [hy105]; exact H) | exact H
   have Ny105 := Aside0.mk hy105
   clear hy105
   replace H := Option.bind_eq_some_iff.mp H
   obtain ⟨t108, A80, H⟩ := H
   try dsimp only at H
   have A8 := Aside0.mk A80
   clear A80
   obtain rfl := Option.some.inj H
   go_enter Try.func113, Try.ntmps113
   go_wp2_with (first | ((with_reducible refine gate_dst (N := 3) rfl ?_); (try (refine gate_guard (by rfl) ?_; dsimp only)); refine bxe 3 #[.int .i64 a0_0, .int .i64 a0_1] 41 ?_; intro gb101 hg w9 hbox hb; have BK101 := Aside0.mk (hbox); have GW101 := ga w hg; have GE101 := GW101; replace HB := bz hb; clear hb hbox hg) | ((with_reducible refine gate_dst (N := 4) rfl ?_); (try (refine gate_guard (by rfl) ?_; dsimp only)); refine bxe 4 #[.int .i64 a1_0, .int .i64 a1_1] 41 ?_; intro gb102 hg w10 hbox hb; have BK102 := Aside0.mk (hbox); have GW102 := ga w hg; have GE102 := GW102; have NB101_102 := nb hg (kl BK101); have NB102_101 := bn NB101_102; replace BK101 := kb BK101 hb; replace HB := bz hb; clear hb hbox hg) | ((with_reducible refine gc 109 rfl ?_); refine goesL_ (some 11) rfl rfl Try.func109 (by kernel_rfl) rfl #[.slice A2 l2.length c2, .func (.func 123) #[] #[.pointer (some ⟨gb101, 0, none⟩), .pointer (some ⟨gb102, 0, none⟩)]] rfl sg ?_; (with_reducible refine (cr_left.calls _ _ l2 a0_0 a0_1 a1_0 a1_1 gb101 gb102 true _ (bk BK101) (bk BK102) ?side1 ?side2 A4.out).mono ?_); (case side1 => exact cs (Kd.C_below HR2.out HB.out)); (case side2 => exact HC2.out); rintro e w11 ⟨rfl, hb⟩; refine ⟨_, rfl, ?_⟩; replace BK101 := kb BK101 hb; replace BK102 := kb BK102 hb; replace HB := bz hb; (try clear hb)) | ((with_reducible refine gc 109 rfl ?_); refine goesL_ (some 14) rfl rfl Try.func109 (by kernel_rfl) rfl #[.slice A2 l2.length c2, .func (.func 124) #[] #[.pointer (some ⟨gb101, 0, none⟩), .pointer (some ⟨gb102, 0, none⟩)]] rfl sg ?_; (with_reducible refine (cr_right.calls _ _ l2 a0_0 a0_1 a1_0 a1_1 gb101 gb102 true _ (bk BK101) (bk BK102) ?side1 ?side2 A5.out).mono ?_); (case side1 => exact cs (Kd.C_below HR2.out HB.out)); (case side2 => exact HC2.out); rintro e w12 ⟨rfl, hb⟩; refine ⟨_, rfl, ?_⟩; replace BK101 := kb BK101 hb; replace BK102 := kb BK102 hb; replace HB := bz hb; (try clear hb); have hnb13 := NB101_102.out; have hnc13 := NB102_101.out; obtain ⟨hcz14_0, hcz14_1, hfz14_0, hfz14_1⟩ := b2 BK101; obtain ⟨hcz15_0, hcz15_1, hfz15_0, hfz15_1⟩ := b2 BK102) | ((with_reducible refine gate_dst (N := 23) rfl ?_); (try (refine gate_guard (by rfl) ?_; dsimp only)); refine Kd.R_lit k41 _ 41 ?hg (N := 23) ?hd (xs := ([(⟨a0_0, a0_1⟩ : S41), (⟨a1_0, a1_1⟩ : S41)] : List (S41))) (inner := [.int .i64 a0_0, .int .i64 a0_1, .int .i64 a1_0, .int .i64 a1_1]) (ok := fun _ => True) (okp := fun _ => True) ?hr ?hp (fun _ hk => hk) trivial (Below.refl _ _) (Nat.le_refl _) (by simp) ?_; (case hd => rfl); (case hg => rfl); (case hr => first | (go_simp; done) | (go_simp; rfl)); (case hp => exact (Reps.c2 (show Kd.M k41 _ _ _ (⟨a0_0, a0_1⟩ : S41) [.int .i64 a0_0, .int .i64 a0_1] from (k41_mkM _ _ _ (⟨a0_0, a0_1⟩ : S41) )) (Reps.c2 (show Kd.M k41 _ _ _ (⟨a1_0, a1_1⟩ : S41) [.int .i64 a1_0, .int .i64 a1_1] from (k41_mkM _ _ _ (⟨a1_0, a1_1⟩ : S41) )) (Reps.none _ _)))); intro v106 w16 ho17 hb hg_ hnew_; clear hg_ hnew_; (first | rw [← Ny105.out] at ho17 | (simp only [Int.reduceToNat] at ho17; rw [← Ny105.out] at ho17)); have HO107 := Aside0.mk (Kd.R_lower (Kd.R_newB (Kd.R_newB ho17 (g := gb101) (o := .cells #[.int .i64 a0_0, .int .i64 a0_1] 41 (0, 0)) (bk BK101)) (g := gb102) (o := .cells #[.int .i64 a1_0, .int .i64 a1_1] 41 (0, 0)) (bk BK102)) (below_size bh)); replace BK101 := kb BK101 hb; replace BK102 := kb BK102 hb; replace HB := bz hb; clear hb ho17; obtain ⟨Ao18, co18, eo18⟩ := Kd.R_slice HO107.out; subst eo18) | (go_at_call 112; (with_reducible refine (shape_parted.calls k _ _ l2 _ _ y105 t108 _ ?side1 ?side2 ?side3 ?side4 A8.out).mono ?_); (case side1 => exact cs (Kd.C_below HR2.out HB.out)); (case side2 => exact HC2.out); (case side3 => exact cs (Kd.R_reads' HO107.out).2.2); (case side4 => exact (Kd.R_reads' HO107.out).2.1); rintro e w19 ⟨rfl, hb⟩; replace HO107 := Aside0.mk (Kd.R_below (ro HO107) hb); replace BK101 := kb BK101 hb; replace BK102 := kb BK102 hb; replace HB := bz hb; (try clear hb)))
   go_ret
   exact ⟨by exact er, bh⟩
  ·replace c7 := Bool.eq_false_iff.mpr c7
   subst c7
   rw [if_neg (show ¬ (false = true) by decide)] at H
   obtain rfl := Option.some.inj H
   go_enter Try.func113, Try.ntmps113
   go_wp2_with (first | ((with_reducible refine gate_dst (N := 3) rfl ?_); (try (refine gate_guard (by rfl) ?_; dsimp only)); refine bxe 3 #[.int .i64 a0_0, .int .i64 a0_1] 41 ?_; intro gb101 hg w20 hbox hb; have BK101 := Aside0.mk (hbox); have GW101 := ga w hg; have GE101 := GW101; replace HB := bz hb; clear hb hbox hg) | ((with_reducible refine gate_dst (N := 4) rfl ?_); (try (refine gate_guard (by rfl) ?_; dsimp only)); refine bxe 4 #[.int .i64 a1_0, .int .i64 a1_1] 41 ?_; intro gb102 hg w21 hbox hb; have BK102 := Aside0.mk (hbox); have GW102 := ga w hg; have GE102 := GW102; have NB101_102 := nb hg (kl BK101); have NB102_101 := bn NB101_102; replace BK101 := kb BK101 hb; replace HB := bz hb; clear hb hbox hg) | ((with_reducible refine gc 109 rfl ?_); refine goesL_ (some 11) rfl rfl Try.func109 (by kernel_rfl) rfl #[.slice A2 l2.length c2, .func (.func 123) #[] #[.pointer (some ⟨gb101, 0, none⟩), .pointer (some ⟨gb102, 0, none⟩)]] rfl sg ?_; (with_reducible refine (cr_left.calls _ _ l2 a0_0 a0_1 a1_0 a1_1 gb101 gb102 true _ (bk BK101) (bk BK102) ?side1 ?side2 A4.out).mono ?_); (case side1 => exact cs (Kd.C_below HR2.out HB.out)); (case side2 => exact HC2.out); rintro e w22 ⟨rfl, hb⟩; refine ⟨_, rfl, ?_⟩; replace BK101 := kb BK101 hb; replace BK102 := kb BK102 hb; replace HB := bz hb; (try clear hb)) | ((with_reducible refine gc 109 rfl ?_); refine goesL_ (some 14) rfl rfl Try.func109 (by kernel_rfl) rfl #[.slice A2 l2.length c2, .func (.func 124) #[] #[.pointer (some ⟨gb101, 0, none⟩), .pointer (some ⟨gb102, 0, none⟩)]] rfl sg ?_; (with_reducible refine (cr_right.calls _ _ l2 a0_0 a0_1 a1_0 a1_1 gb101 gb102 false _ (bk BK101) (bk BK102) ?side1 ?side2 A5.out).mono ?_); (case side1 => exact cs (Kd.C_below HR2.out HB.out)); (case side2 => exact HC2.out); rintro e w23 ⟨rfl, hb⟩; refine ⟨_, rfl, ?_⟩; replace BK101 := kb BK101 hb; replace BK102 := kb BK102 hb; replace HB := bz hb; (try clear hb)))
   go_ret
   exact ⟨by exact er, bh⟩
 ·replace c6 := Bool.eq_false_iff.mpr c6
  subst c6
  rw [if_neg (show ¬ (false = true) by decide)] at H
  obtain rfl := Option.some.inj H
  go_enter Try.func113, Try.ntmps113
  go_wp2_with (first | ((with_reducible refine gate_dst (N := 3) rfl ?_); (try (refine gate_guard (by rfl) ?_; dsimp only)); refine bxe 3 #[.int .i64 a0_0, .int .i64 a0_1] 41 ?_; intro gb101 hg w24 hbox hb; have BK101 := Aside0.mk (hbox); have GW101 := ga w hg; have GE101 := GW101; replace HB := bz hb; clear hb hbox hg) | ((with_reducible refine gate_dst (N := 4) rfl ?_); (try (refine gate_guard (by rfl) ?_; dsimp only)); refine bxe 4 #[.int .i64 a1_0, .int .i64 a1_1] 41 ?_; intro gb102 hg w25 hbox hb; have BK102 := Aside0.mk (hbox); have GW102 := ga w hg; have GE102 := GW102; have NB101_102 := nb hg (kl BK101); have NB102_101 := bn NB101_102; replace BK101 := kb BK101 hb; replace HB := bz hb; clear hb hbox hg) | ((with_reducible refine gc 109 rfl ?_); refine goesL_ (some 11) rfl rfl Try.func109 (by kernel_rfl) rfl #[.slice A2 l2.length c2, .func (.func 123) #[] #[.pointer (some ⟨gb101, 0, none⟩), .pointer (some ⟨gb102, 0, none⟩)]] rfl sg ?_; (with_reducible refine (cr_left.calls _ _ l2 a0_0 a0_1 a1_0 a1_1 gb101 gb102 false _ (bk BK101) (bk BK102) ?side1 ?side2 A4.out).mono ?_); (case side1 => exact cs (Kd.C_below HR2.out HB.out)); (case side2 => exact HC2.out); rintro e w26 ⟨rfl, hb⟩; refine ⟨_, rfl, ?_⟩; replace BK101 := kb BK101 hb; replace BK102 := kb BK102 hb; replace HB := bz hb; (try clear hb)) | ((with_reducible refine gc 109 rfl ?_); refine goesL_ (some 14) rfl rfl Try.func109 (by kernel_rfl) rfl #[.slice A2 l2.length c2, .func (.func 124) #[] #[.pointer (some ⟨gb101, 0, none⟩), .pointer (some ⟨gb102, 0, none⟩)]] rfl sg ?_; (with_reducible refine (cr_right.calls _ _ l2 a0_0 a0_1 a1_0 a1_1 gb101 gb102 t104 _ (bk BK101) (bk BK102) ?side1 ?side2 A5.out).mono ?_); (case side1 => exact cs (Kd.C_below HR2.out HB.out)); (case side2 => exact HC2.out); rintro e w27 ⟨rfl, hb⟩; refine ⟨_, rfl, ?_⟩; replace BK101 := kb BK101 hb; replace BK102 := kb BK102 hb; replace HB := bz hb; (try clear hb)))
  go_ret
  exact ⟨by exact er, bh⟩
/-! ### shape_inside: function 83 -/
mutual
def shape_inside.l0 : Nat → List (S41) → List (S41) → Int → Int → Option (Bool)
 | 0, _, _, _, _ => none
 | k + 1, x0, x1, x10, x11 => if x11 < x10 then (if 0 ≤ x11 then (if x11 < (x0.length : Int) then (if (x0.length : Int) = 0 then (none) else (if 0 ≤ (Int.tmod (wrap64 (x11 + 1)) (x0.length : Int)) then (if (Int.tmod (wrap64 (x11 + 1)) (x0.length : Int)) < (x0.length : Int) then ((shape_crosses.f k ((rd_T41 x0 x11).f0) ((rd_T41 x0 x11).f1) ((rd_T41 x0 (Int.tmod (wrap64 (x11 + 1)) (x0.length : Int))).f0) ((rd_T41 x0 (Int.tmod (wrap64 (x11 + 1)) (x0.length : Int))).f1) x1).bind fun t103 => (if t103 = true then (some false) else (shape_inside.l0 k x0 x1 x10 (wrap64 (x11 + 1))))) else (none)) else (none))) else (none)) else (none)) else (shape_inside.l1 k x1 ([] : List (S41)) x0 (x0.length : Int) 0)
def shape_inside.l1 : Nat → List (S41) → List (S41) → List (S41) → Int → Int → Option (Bool)
 | 0, _, _, _, _, _ => none
 | k + 1, x1, x6, x29, x30, x31 => if x31 < x30 then (if 0 ≤ x31 then (if x31 < (x29.length : Int) then (if x6.length < 8796093022208 then (shape_inside.l1 k x1 (x6 ++ [(⟨wrap64 (3 * ((rd_T41 x29 x31).f0)), wrap64 (3 * ((rd_T41 x29 x31).f1))⟩ : S41)]) x29 x30 (wrap64 (x31 + 1))) else (none)) else (none)) else (none)) else (if 0 < (x1.length : Int) then (if 1 < (x1.length : Int) then ((shape_add.f ((rd_T41 x1 0).f0) ((rd_T41 x1 0).f1) ((rd_T41 x1 1).f0) ((rd_T41 x1 1).f1)).bind fun bt111 => (if 2 < (x1.length : Int) then ((shape_add.f bt111.1 bt111.2 ((rd_T41 x1 2).f0) ((rd_T41 x1 2).f1)).bind fun bt114 => ((shape_where.f k x6 bt114.1 bt114.2).bind fun t116 => (some (decide (t116 > 0))))) else (none))) else (none)) else (none))
end
def shape_inside.f (k : Nat) (l0 : List (S41)) (l1 : List (S41)) : Option (Bool) := shape_inside.l0 k l0 l1 (l0.length : Int) 0
def shape_inside.T4 : Bool × List (List Nat × List Nat) := (true, [([], []), ([], []), ([0, 1], [0, 1]), ([2], [2]), ([], []), ([], []), ([5], [5]), ([], []), ([7], [7]), ([6, 8], [6, 8]), ([4, 9], [4, 9]), ([10], [10]), ([], []), ([3, 11, 12], [3, 11, 12])])
def shape_inside.B4 : List Nat := [0, 0, 3, 7, 0, 0, 32, 0, 128, 480, 1008, 2032, 0, 8191]
theorem shape_inside.tab4 : rtab .any (opsOf Try.f83 4) = shape_inside.T4 := by kernel_rfl
theorem shape_inside.bits4 : waitsOk shape_inside.T4.2 shape_inside.B4 = true := by kernel_rfl
def shape_inside.T13 : Bool × List (List Nat × List Nat) := (true, [([], []), ([], []), ([1], [1]), ([2], [2]), ([], []), ([4], [4]), ([5], [5]), ([3, 6], [3, 6]), ([], []), ([8], [8]), ([9], [9]), ([7, 10, 7], [7, 10]), ([0, 11, 11], [0, 11]), ([12], [12]), ([13, 12, 0, 1, 2, 3, 4, 5, 6, 7, 8, 9, 10, 11, 12, 13], [13])])
def shape_inside.B13 : List Nat := [0, 0, 2, 6, 0, 16, 48, 126, 0, 256, 768, 2046, 4095, 8191, 16383]
theorem shape_inside.tab13 : rtab .any (opsOf Try.f83 13) = shape_inside.T13 := by kernel_rfl
theorem shape_inside.bits13 : waitsOk shape_inside.T13.2 shape_inside.B13 = true := by kernel_rfl
set_option maxHeartbeats 8000000 in
set_option maxRecDepth 100000 in
theorem shape_inside.calls (k : Nat) (A0 : Option Addr) (c0 : Nat) (l0 : List (S41)) (A1 : Option Addr) (c1 : Nat) (l1 : List (S41)) (r : Bool) (w : World) (hr0 : Kd.C k41 w A0 l0.length l0) (hc0 : l0.length ≤ c0) (hr1 : Kd.C k41 w A1 l1.length l1) (hc1 : l1.length ≤ c1) (h : shape_inside.f k l0 l1 = some r) :
  Calls Try.prog 83 #[.slice A0 l0.length c0, .slice A1 l1.length c1] w fun e w' => e = .returned (.bool r) ∧ Below w.heap.size w w' := by
 have hu41 := Try.underlying41
 have HR0 := Aside0.mk hr0
 have HC0 := Aside0.mk hc0
 clear hr0 hc0
 have HR1 := Aside0.mk hr1
 have HC1 := Aside0.mk hc1
 clear hr1 hc1
 have HB := Aside0.mk (Below.refl w.heap.size w)
 have H : (shape_inside.l0 k l0 l1 (l0.length : Int) 0) = some r := h
 clear h
 have H' := Aside0.mk H
 clear H
 go_enter Try.func83, Try.ntmps83
 go_wp2
 go_loopg [11] k (fun kq v11 w' => ∃ (x11_1 : Int), v11 = .int .i64 x11_1 ∧ Aside0 (shape_inside.l0 kq l0 l1 (l0.length : Int) x11_1 = some r) ∧ Aside0 (kq ≤ k) ∧ Aside0 (Below w.heap.size w w'))
 case atStart => exact ⟨(0), sd, H', ⟨Nat.le_refl _⟩, ⟨bh⟩⟩
 case round =>
  clear H'
  (try clear c1)
  obtain ⟨x11_1, rfl, HA, HK1, HB⟩ := hrel
  cases gk with
  | zero => exact absurd HA.out (by simp [shape_inside.l0])
  | succ k1 =>
   have H := HA.out
   clear HA
   simp only [shape_inside.l0] at H
   by_cases c3 : x11_1 < (l0.length : Int)
   ·rw [if_pos c3] at H
    have c3b0 := decide_eq_true c3
    clear c3
    obtain ⟨c4, H⟩ := oi H
    have c4b0 := decide_eq_true c4
    clear c4
    obtain ⟨c5, H⟩ := oi H
    have c5b0 := decide_eq_true c5
    clear c5
    obtain ⟨c6, H⟩ := oj H
    have c6b0 : ((l0.length : Int) == 0) = false := beq_eq_false_iff_ne.mpr c6
    have c6b1 : ((l0.length : Int) != 0) = true := bne_iff_ne.mpr c6
    have c6b2 : ¬ (l0 = []) := fun h_ => c6 (by rw [h_]; rfl)
    obtain ⟨ji7, hji7⟩ : ∃ j_ : Int, (Int.tmod (wrap64 (x11_1 + 1)) (l0.length : Int)) = j_ := ⟨_, rfl⟩
    first | rw [hji7] at H | simp only [hji7] at H
    obtain ⟨c8, H⟩ := oi H
    have c8b0 := decide_eq_true c8
    clear c8
    obtain ⟨c9, H⟩ := oi H
    have c9b0 := decide_eq_true c9
    clear c9
    replace H := Option.bind_eq_some_iff.mp H
    obtain ⟨t103, A100, H⟩ := H
    try dsimp only at H
    have A10 := Aside0.mk A100
    clear A100
    by_cases c11 : t103 = true
    ·subst c11
     rw [if_pos rfl] at H
     obtain rfl := Option.some.inj H
     try go_wp2
     replace HB := Aside0.mk (below_drew1 HB.out)
     have p101 : 0 ≤ (x11_1 : Int) := dt
     have q101 : x11_1 < (l0.length : Int) := dt
     obtain ⟨ad101, e101, hx101_0, hx101_1⟩ := at_T41 HR0.out x11_1 p101 q101
     have hw101_1 := hx101_1
     have hw101_0 := hx101_0
     cases e101
     replace hx101_0 := hc HB hx101_0
     replace hx101_1 := hc HB hx101_1
     replace p101 := eq_true p101
     replace q101 := eq_true q101
     have p102 : 0 ≤ ((ji7) : Int) := dt
     have q102 : (ji7) < (l0.length : Int) := dt
     obtain ⟨ad102, e102, hx102_0, hx102_1⟩ := at_T41 HR0.out (ji7) p102 q102
     have hw102_1 := hx102_1
     have hw102_0 := hx102_0
     obtain rfl : ad101 = ad102 := (by injection e102)
     replace hx102_0 := hc HB hx102_0
     replace hx102_1 := hc HB hx102_1
     replace p102 := eq_true p102
     replace q102 := eq_true q102
     refine start_ (n := 14) (S := fun w' => w'.cell? (ad101.add ((x11_1).toNat * 2)) = some (.int .i64 ((rd_T41 l0 x11_1).f0)) ∧ w'.cell? ⟨(ad101.add ((x11_1).toNat * 2)).block, (ad101.add ((x11_1).toNat * 2)).off + 1, none⟩ = some (.int .i64 ((rd_T41 l0 x11_1).f1)) ∧ w'.cell? (ad101.add (((ji7)).toNat * 2)) = some (.int .i64 ((rd_T41 l0 (ji7)).f0)) ∧ w'.cell? ⟨(ad101.add (((ji7)).toNat * 2)).block, (ad101.add (((ji7)).toNat * 2)).off + 1, none⟩ = some (.int .i64 ((rd_T41 l0 (ji7)).f1))) (ds := []) #[N,N,N,N,N,N,N,N,N,N,N,N,N,N] (by kernel_rfl) rfl rfl ⟨(hc HB hw101_0), (hc HB hw101_1), (hc HB hw102_0), (hc HB hw102_1)⟩ (fun hHeld => ?_); refine with_tabW shape_inside.tab4 shape_inside.bits4 (fun HT_ HW_ => ?_)
     generalize wr.drew = w12 at HB hx101_0 hx101_1 hx102_0 hx102_1 hHeld ⊢
     refine pu 0 14 HT_ ?_
     refine pu 1 15 HT_ ?_
     refine pu 2 16 HT_ ?_
     refine pu 4 18 HT_ ?_
     refine pu 5 19 HT_ ?_
     refine pu 6 20 HT_ ?_
     refine pu 7 21 HT_ ?_
     refine pu 8 22 HT_ ?_
     refine pu 9 23 HT_ ?_
     refine pu 10 24 HT_ ?_
     refine pu 12 26 HT_ ?_
     refine tk4 3 17 hHeld HT_ HW_ ?_
     refine tk4 11 25 hHeld HT_ HW_ ?_
     refine one_ (i := 13) (N := some 27) #[T,T,T,T,T,T,T,T,T,T,T,T,T,T] rfl rfl (on1 HT_) (by decide) (fun K hK => ?_)
     refine goes_ Try.func113 (by kernel_rfl) rfl #[.agg #[.int .i64 ((rd_T41 l0 x11_1).f0), .int .i64 ((rd_T41 l0 x11_1).f1)], .agg #[.int .i64 ((rd_T41 l0 (ji7)).f0), .int .i64 ((rd_T41 l0 (ji7)).f1)], .slice A1 l1.length c1] (by rfl) rfl rfl (by (try simp only [List.map_toArray, List.map_cons, List.map_nil]); first | done | (simp only [hji7]; rfl) | rfl | (simp only [List.length_drop, List.length_take]; rfl)) ?_
     with_reducible refine (shape_crosses.calls k1 ((rd_T41 l0 x11_1).f0) ((rd_T41 l0 x11_1).f1) ((rd_T41 l0 (ji7)).f0) ((rd_T41 l0 (ji7)).f1) _ _ l1 true _ ?side1 ?side2 A10.out).mono ?_
     (case side1 => exact cs (Kd.C_below HR1.out HB.out))
     (case side2 => exact HC1.out)
     rintro e w13 ⟨rfl, hb⟩
     refine ⟨_, rfl, ?_⟩
     replace HB := bz hb
     (try clear hb)
     refine hK.out _ _ ⟨(hc HB hw101_0), (hc HB hw101_1), (hc HB hw102_0), (hc HB hw102_1)⟩ (fun hHeld => ?_)
     clear hK K
     refine nm 27 ?_
     refine done_ (done_of HT_.out (by kernel_rfl)) ?_
     try go_wp2
     go_ret
     exact ⟨by first | rfl | (simp [errW_none, errW_some] <;> rfl) | (simp only [← hji7]; first | rfl | (simp [errW_none, errW_some] <;> rfl)) | (simp [*, errW_none, errW_some] <;> rfl), bh⟩
    ·replace c11 := Bool.eq_false_iff.mpr c11
     subst c11
     rw [if_neg (show ¬ (false = true) by decide)] at H
     have H' := Aside0.mk H
     clear H
     try go_wp2
     replace HB := Aside0.mk (below_drew1 HB.out)
     have p101 : 0 ≤ (x11_1 : Int) := dt
     have q101 : x11_1 < (l0.length : Int) := dt
     obtain ⟨ad101, e101, hx101_0, hx101_1⟩ := at_T41 HR0.out x11_1 p101 q101
     have hw101_1 := hx101_1
     have hw101_0 := hx101_0
     cases e101
     replace hx101_0 := hc HB hx101_0
     replace hx101_1 := hc HB hx101_1
     replace p101 := eq_true p101
     replace q101 := eq_true q101
     have p102 : 0 ≤ ((ji7) : Int) := dt
     have q102 : (ji7) < (l0.length : Int) := dt
     obtain ⟨ad102, e102, hx102_0, hx102_1⟩ := at_T41 HR0.out (ji7) p102 q102
     have hw102_1 := hx102_1
     have hw102_0 := hx102_0
     obtain rfl : ad101 = ad102 := (by injection e102)
     replace hx102_0 := hc HB hx102_0
     replace hx102_1 := hc HB hx102_1
     replace p102 := eq_true p102
     replace q102 := eq_true q102
     refine start_ (n := 14) (S := fun w' => w'.cell? (ad101.add ((x11_1).toNat * 2)) = some (.int .i64 ((rd_T41 l0 x11_1).f0)) ∧ w'.cell? ⟨(ad101.add ((x11_1).toNat * 2)).block, (ad101.add ((x11_1).toNat * 2)).off + 1, none⟩ = some (.int .i64 ((rd_T41 l0 x11_1).f1)) ∧ w'.cell? (ad101.add (((ji7)).toNat * 2)) = some (.int .i64 ((rd_T41 l0 (ji7)).f0)) ∧ w'.cell? ⟨(ad101.add (((ji7)).toNat * 2)).block, (ad101.add (((ji7)).toNat * 2)).off + 1, none⟩ = some (.int .i64 ((rd_T41 l0 (ji7)).f1))) (ds := []) #[N,N,N,N,N,N,N,N,N,N,N,N,N,N] (by kernel_rfl) rfl rfl ⟨(hc HB hw101_0), (hc HB hw101_1), (hc HB hw102_0), (hc HB hw102_1)⟩ (fun hHeld => ?_); refine with_tabW shape_inside.tab4 shape_inside.bits4 (fun HT_ HW_ => ?_)
     generalize wr.drew = w14 at HB hx101_0 hx101_1 hx102_0 hx102_1 hHeld ⊢
     refine pu 0 14 HT_ ?_
     refine pu 1 15 HT_ ?_
     refine pu 2 16 HT_ ?_
     refine pu 4 18 HT_ ?_
     refine pu 5 19 HT_ ?_
     refine pu 6 20 HT_ ?_
     refine pu 7 21 HT_ ?_
     refine pu 8 22 HT_ ?_
     refine pu 9 23 HT_ ?_
     refine pu 10 24 HT_ ?_
     refine pu 12 26 HT_ ?_
     refine tk4 3 17 hHeld HT_ HW_ ?_
     refine tk4 11 25 hHeld HT_ HW_ ?_
     refine one_ (i := 13) (N := some 27) #[T,T,T,T,T,T,T,T,T,T,T,T,T,T] rfl rfl (on1 HT_) (by decide) (fun K hK => ?_)
     refine goes_ Try.func113 (by kernel_rfl) rfl #[.agg #[.int .i64 ((rd_T41 l0 x11_1).f0), .int .i64 ((rd_T41 l0 x11_1).f1)], .agg #[.int .i64 ((rd_T41 l0 (ji7)).f0), .int .i64 ((rd_T41 l0 (ji7)).f1)], .slice A1 l1.length c1] (by rfl) rfl rfl (by (try simp only [List.map_toArray, List.map_cons, List.map_nil]); first | done | (simp only [hji7]; rfl) | rfl | (simp only [List.length_drop, List.length_take]; rfl)) ?_
     with_reducible refine (shape_crosses.calls k1 ((rd_T41 l0 x11_1).f0) ((rd_T41 l0 x11_1).f1) ((rd_T41 l0 (ji7)).f0) ((rd_T41 l0 (ji7)).f1) _ _ l1 false _ ?side1 ?side2 A10.out).mono ?_
     (case side1 => exact cs (Kd.C_below HR1.out HB.out))
     (case side2 => exact HC1.out)
     rintro e w15 ⟨rfl, hb⟩
     refine ⟨_, rfl, ?_⟩
     replace HB := bz hb
     (try clear hb)
     refine hK.out _ _ ⟨(hc HB hw101_0), (hc HB hw101_1), (hc HB hw102_0), (hc HB hw102_1)⟩ (fun hHeld => ?_)
     clear hK K
     refine nm 27 ?_
     refine done_ (done_of HT_.out (by kernel_rfl)) ?_
     try go_wp2
     go_roundg k1
     case measure => have := HK1.out; omega
     case rel => exact ⟨(wrap64 (x11_1 + 1)), sd, H', ⟨by have := HK1.out; omega⟩, ⟨bh⟩⟩
   ·rw [if_neg c3] at H
    have c3b0 := decide_eq_false c3
    clear c3
    have H' := Aside0.mk H
    clear H
    go_wp2
    go_loopg [6, 31] k1 (fun kq v6 v31 w' => ∃ (x6_2 : List (S41)) (x31_2 : Int), v31 = .int .i64 x31_2 ∧ Aside0 (shape_inside.l1 kq l1 x6_2 l0 (l0.length : Int) x31_2 = some r) ∧ Aside0 (kq ≤ k1) ∧ Aside0 (Kd.R k41 41 w' w.heap.size (fun _ => True) v6 x6_2) ∧ Aside0 (Below w.heap.size w w'))
    case atStart => exact ⟨(([] : List (S41))), (0), sd, H', ⟨Nat.le_refl _⟩, ⟨by first | exact Kd.R_nil _ _ _ _ _ | exact Kd.N_nil _ _ _ _ _ | exact Kd.V_nil _ _ _ _ _ | exact Kd.Q_nil _ _ _ _ _ | exact Kd.S_nil _ _ _ _ _⟩, ⟨bh⟩⟩
    case round =>
     clear H'
     (try clear c3b0)
     obtain ⟨x6_2, x31_2, rfl, HA, HK2, HO_6, HB⟩ := hrel
     cases gk with
     | zero => exact absurd HA.out (by simp [shape_inside.l1])
     | succ k2 =>
      have H := HA.out
      clear HA
      simp only [shape_inside.l1] at H
      by_cases c16 : x31_2 < (l0.length : Int)
      ·rw [if_pos c16] at H
       have c16b0 := decide_eq_true c16
       clear c16
       obtain ⟨c17, H⟩ := oi H
       have c17b0 := decide_eq_true c17
       clear c17
       obtain ⟨c18, H⟩ := oi H
       have c18b0 := decide_eq_true c18
       clear c18
       obtain ⟨c19, H⟩ := oi H
       have LMc19 := Aside0.mk c19
       clear c19
       obtain ⟨y106, hy106⟩ : ∃ y_ : List (S41), y_ = (x6_2 ++ [(⟨wrap64 (3 * ((rd_T41 l0 x31_2).f0)), wrap64 (3 * ((rd_T41 l0 x31_2).f1))⟩ : S41)]) := ⟨_, rfl⟩
       replace H : (shape_inside.l1 k2 l1 y106 l0 (l0.length : Int) (wrap64 (x31_2 + 1))) = some r := by first | (rw [hy106]; with_reducible exact H) | (have H2_ := (Option.bind_some _ _).symm.trans H; rw [hy106]; with_reducible exact H2_) | (have H2_ := (Option.bind_some _ _).symm.trans H; with_reducible exact H2_) | with_reducible exact H | (rw [hy106]; exact H) | exact H
       have Ny106 := Aside0.mk hy106
       clear hy106
       have H' := Aside0.mk H
       clear H
       have p104 : 0 ≤ (x31_2 : Int) := dt
       have q104 : x31_2 < (l0.length : Int) := dt
       obtain ⟨ad104, e104, hx104_0, hx104_1⟩ := at_T41 HR0.out x31_2 p104 q104
       cases e104
       replace hx104_0 := hc HB hx104_0
       replace hx104_1 := hc HB hx104_1
       replace p104 := eq_true p104
       replace q104 := eq_true q104
       go_wp2_with (first | ((with_reducible refine gate_dst (N := 8) rfl ?_); refine bxe 8 #[.int .i64 0, .int .i64 0] 41 ?_; intro gb105 hg w20 hbox hb; have BK105 := Aside0.mk (hbox); have GW105 := ga w hg; have GE105 := GW105; replace HO_6 := Aside0.mk (Kd.R_below (Kd.R_elderB (ro HO_6) gb105 (Nat.le_of_eq hg.symm)) hb); replace HB := bz hb; clear hb hbox hg; obtain ⟨hcz21_0, hcz21_1, hfz21_0, hfz21_1⟩ := b2 BK105) | ((with_reducible refine gate_builtin (b := .append) (xs := #[.tmp 35, .tmp 43]) rfl ?_); at_builtin; refine Kd.R_append k41 (w0 := w) w.heap.size rfl (.tmp 35) (.tmp 43) 22 41 (.agg #[(.int .i64 0), (.int .i64 0)]) 16 rfl Try.underlying22 info41 rfl (by decide) (by omega) u6 x6_2 (⟨wrap64 (3 * ((rd_T41 l0 x31_2).f0)), wrap64 (3 * ((rd_T41 l0 x31_2).f1))⟩ : S41) [.int .i64 (wrap64 (3 * ((rd_T41 l0 x31_2).f0))), .int .i64 (wrap64 (3 * ((rd_T41 l0 x31_2).f1)))] (fun k_ => k_ ≠ gb105) (fun _ => False) rfl (by first | (go_simp; done) | (go_simp; rfl)) ?aP (fun _ hk => hk.elim) ?aF ?aO ?aB ?aS ?aL ?_; (case aP => exact k41_mkM _ _ _ (⟨wrap64 (3 * ((rd_T41 l0 x31_2).f0)), wrap64 (3 * ((rd_T41 l0 x31_2).f1))⟩ : S41)); (case aB => exact bh); (case aF => exact (fun k_ hk => Kd.freshB (g := gb105) (o := .cells #[.int .i64 ((rd_T41 l0 x31_2).f0), .int .i64 ((rd_T41 l0 x31_2).f1)] 41 (0, 0)) (by refine bd ?_; refine blk_put (cs := #[.int .i64 ((rd_T41 l0 x31_2).f0), .int .i64 0]) ?_ 1 _ rfl; refine bd ?_; refine blk_put (cs := #[.int .i64 0, .int .i64 0]) ?_ 0 _ rfl; refine bd ?_; exact BK105.out) k_ hk)); (case aO => exact (by (with_reducible repeat (first | apply Kd.R_alloc | apply Kd.R_drewN | apply Kd.R_drew)); exact Kd.R_mono (Kd.R_far (p := ⟨gb105, 1, none⟩) (Kd.R_far (p := ⟨gb105, 0, none⟩) (Kd.R_mono HO_6.out (fun k_ hk => (⟨hk, hk.2⟩ : _ ∧ k_ ≠ gb105))) (fun _ hk => hk.2) (.int .i64 ((rd_T41 l0 x31_2).f0))) (fun _ hk => hk.2) (.int .i64 ((rd_T41 l0 x31_2).f1))) (fun _ hk => hk.1.2))); (case aS => exact (below_size bh)); (case aL => have := LMc19.out; omega); intro v107 w22 ho hb hg hat; rw [← Ny106.out] at ho; have HO108 := Aside0.mk (ho); replace BK105 := Aside0.mk (blk_grown (g := gb105) (o := .cells #[.int .i64 ((rd_T41 l0 x31_2).f0), .int .i64 ((rd_T41 l0 x31_2).f1)] 41 (0, 0)) (by refine bd ?_; refine blk_put (cs := #[.int .i64 ((rd_T41 l0 x31_2).f0), .int .i64 0]) ?_ 1 _ rfl; refine bd ?_; refine blk_put (cs := #[.int .i64 0, .int .i64 0]) ?_ 0 _ rfl; refine bd ?_; exact BK105.out) hg (Kd.R_away HO_6.out (fun _ hk => hk.2))); replace HB := Aside0.mk (hb); clear HO_6; clear ho hb hg hat))
       go_roundg k2
       case measure => have := HK1.out; have := HK2.out; omega
       case rel => exact ⟨(y106), (wrap64 (x31_2 + 1)), sd, H', ⟨by have := HK1.out; have := HK2.out; omega⟩, ⟨by (with_reducible repeat (first | apply Kd.R_alloc | apply Kd.R_drewN | apply Kd.R_drew)); exact Kd.R_mono HO108.out (fun _ hk => trivial)⟩, ⟨bh⟩⟩
      ·rw [if_neg c16] at H
       have c16b0 := decide_eq_false c16
       clear c16
       obtain ⟨c23, H⟩ := oi H
       have c23b0 := decide_eq_true c23
       have c23b1 : decide (0 < l1.length) = true := decide_eq_true (by omega)
       clear c23
       obtain ⟨c24, H⟩ := oi H
       have c24b0 := decide_eq_true c24
       have c24b1 : decide (1 < l1.length) = true := decide_eq_true (by omega)
       clear c24
       replace H := Option.bind_eq_some_iff.mp H
       obtain ⟨⟨t111, t112⟩, A250, H⟩ := H
       try dsimp only at H
       have A25 := Aside0.mk A250
       clear A250
       obtain ⟨c26, H⟩ := oi H
       have c26b0 := decide_eq_true c26
       have c26b1 : decide (2 < l1.length) = true := decide_eq_true (by omega)
       clear c26
       replace H := Option.bind_eq_some_iff.mp H
       obtain ⟨⟨t114, t115⟩, A270, H⟩ := H
       try dsimp only at H
       have A27 := Aside0.mk A270
       clear A270
       replace H := Option.bind_eq_some_iff.mp H
       obtain ⟨t116, A280, H⟩ := H
       try dsimp only at H
       have A28 := Aside0.mk A280
       clear A280
       obtain rfl := Option.some.inj H
       try go_wp2
       replace HO_6 := Aside0.mk (Kd.R_drew HO_6.out)
       replace HB := Aside0.mk (below_drew1 HB.out)
       have p109 : 0 ≤ (0 : Int) := (by omega)
       have q109 : 0 < (l1.length : Int) := dt
       obtain ⟨ad109, e109, hx109_0, hx109_1⟩ := at_T41 HR1.out 0 p109 q109
       have hw109_1 := hx109_1
       (try rw [show ((0 : Int)).toNat = 0 from rfl] at hw109_1)
       (try rw [show 0 * 2 = 0 from rfl] at hw109_1)
       (try rw [Addr.add_zero'] at hw109_1)
       have hw109_0 := hx109_0
       (try rw [show ((0 : Int)).toNat = 0 from rfl] at hw109_0)
       (try rw [show 0 * 2 = 0 from rfl] at hw109_0)
       (try rw [Addr.add_zero'] at hw109_0)
       cases e109
       have qi109 : (0 < l1.length) = True := eq_true (by omega)
       (try rw [show ((0 : Int)).toNat = 0 from rfl] at hx109_0)
       (try rw [show 0 * 2 = 0 from rfl] at hx109_0)
       (try rw [Addr.add_zero'] at hx109_0)
       (try rw [show ((0 : Int)).toNat = 0 from rfl] at hx109_1)
       (try rw [show 0 * 2 = 0 from rfl] at hx109_1)
       (try rw [Addr.add_zero'] at hx109_1)
       replace hx109_0 := hc HB hx109_0
       replace hx109_1 := hc HB hx109_1
       replace p109 := eq_true p109
       replace q109 := eq_true q109
       have p110 : 0 ≤ (1 : Int) := (by omega)
       have q110 : 1 < (l1.length : Int) := dt
       obtain ⟨ad110, e110, hx110_0, hx110_1⟩ := at_T41 HR1.out 1 p110 q110
       have hw110_1 := hx110_1
       (try rw [show ((1 : Int)).toNat = 1 from rfl] at hw110_1)
       (try rw [show 1 * 2 = 2 from rfl] at hw110_1)
       (try simp only [Nat.reduceMul, Nat.reduceEqDiff, Go.Addr.add, ↓reduceIte] at hw110_1)
       have hw110_0 := hx110_0
       (try rw [show ((1 : Int)).toNat = 1 from rfl] at hw110_0)
       (try rw [show 1 * 2 = 2 from rfl] at hw110_0)
       (try simp only [Nat.reduceMul, Nat.reduceEqDiff, Go.Addr.add, ↓reduceIte] at hw110_0)
       obtain rfl : ad109 = ad110 := (by injection e110)
       (try simp only [show (1 : Int).toNat = 1 from rfl, Nat.reduceMul, Nat.reduceEqDiff, Go.Addr.add, ↓reduceIte] at hx110_0)
       (try simp only [show (1 : Int).toNat = 1 from rfl, Nat.reduceMul, Nat.reduceEqDiff, Go.Addr.add, ↓reduceIte] at hx110_1)
       have qi110 : (1 < l1.length) = True := eq_true (by omega)
       (try rw [show ((1 : Int)).toNat = 1 from rfl] at hx110_0)
       (try rw [show 1 * 2 = 2 from rfl] at hx110_0)
       (try rw [show ((1 : Int)).toNat = 1 from rfl] at hx110_1)
       (try rw [show 1 * 2 = 2 from rfl] at hx110_1)
       replace hx110_0 := hc HB hx110_0
       replace hx110_1 := hc HB hx110_1
       replace p110 := eq_true p110
       replace q110 := eq_true q110
       have p113 : 0 ≤ (2 : Int) := (by omega)
       have q113 : 2 < (l1.length : Int) := dt
       obtain ⟨ad113, e113, hx113_0, hx113_1⟩ := at_T41 HR1.out 2 p113 q113
       have hw113_1 := hx113_1
       (try rw [show ((2 : Int)).toNat = 2 from rfl] at hw113_1)
       (try rw [show 2 * 2 = 4 from rfl] at hw113_1)
       (try simp only [Nat.reduceMul, Nat.reduceEqDiff, Go.Addr.add, ↓reduceIte] at hw113_1)
       have hw113_0 := hx113_0
       (try rw [show ((2 : Int)).toNat = 2 from rfl] at hw113_0)
       (try rw [show 2 * 2 = 4 from rfl] at hw113_0)
       (try simp only [Nat.reduceMul, Nat.reduceEqDiff, Go.Addr.add, ↓reduceIte] at hw113_0)
       obtain rfl : ad109 = ad113 := (by injection e113)
       (try simp only [show (2 : Int).toNat = 2 from rfl, Nat.reduceMul, Nat.reduceEqDiff, Go.Addr.add, ↓reduceIte] at hx113_0)
       (try simp only [show (2 : Int).toNat = 2 from rfl, Nat.reduceMul, Nat.reduceEqDiff, Go.Addr.add, ↓reduceIte] at hx113_1)
       have qi113 : (2 < l1.length) = True := eq_true (by omega)
       (try rw [show ((2 : Int)).toNat = 2 from rfl] at hx113_0)
       (try rw [show 2 * 2 = 4 from rfl] at hx113_0)
       (try rw [show ((2 : Int)).toNat = 2 from rfl] at hx113_1)
       (try rw [show 2 * 2 = 4 from rfl] at hx113_1)
       replace hx113_0 := hc HB hx113_0
       replace hx113_1 := hc HB hx113_1
       replace p113 := eq_true p113
       replace q113 := eq_true q113
       refine start_ (n := 15) (S := fun w' => w'.cell? ad109 = some (.int .i64 ((rd_T41 l1 0).f0)) ∧ w'.cell? ⟨ad109.block, ad109.off + 1, none⟩ = some (.int .i64 ((rd_T41 l1 0).f1)) ∧ w'.cell? ⟨ad109.block, ad109.off + 2, none⟩ = some (.int .i64 ((rd_T41 l1 1).f0)) ∧ w'.cell? ⟨ad109.block, ad109.off + 2 + 1, none⟩ = some (.int .i64 ((rd_T41 l1 1).f1)) ∧ w'.cell? ⟨ad109.block, ad109.off + 4, none⟩ = some (.int .i64 ((rd_T41 l1 2).f0)) ∧ w'.cell? ⟨ad109.block, ad109.off + 4 + 1, none⟩ = some (.int .i64 ((rd_T41 l1 2).f1))) (ds := []) #[N,N,N,N,N,N,N,N,N,N,N,N,N,N,N] (by kernel_rfl) rfl rfl ⟨(hc HB hw109_0), (hc HB hw109_1), (hc HB hw110_0), (hc HB hw110_1), (hc HB hw113_0), (hc HB hw113_1)⟩ (fun hHeld => ?_); refine with_tabW shape_inside.tab13 shape_inside.bits13 (fun HT_ HW_ => ?_)
       generalize wr.drew = w29 at HO_6 HB hx109_0 hx109_1 hx110_0 hx110_1 hx113_0 hx113_1 hHeld ⊢
       refine pu 0 46 HT_ ?_
       refine pu 1 47 HT_ ?_
       refine pu 2 48 HT_ ?_
       refine pu 4 50 HT_ ?_
       refine pu 5 51 HT_ ?_
       refine pu 8 54 HT_ ?_
       refine pu 9 55 HT_ ?_
       refine tk6 3 49 hHeld HT_ HW_ ?_
       refine tk6 6 52 hHeld HT_ HW_ ?_
       refine tk6 10 56 hHeld HT_ HW_ ?_
       refine one_ (i := 7) (N := some 53) #[T,T,T,T,T,T,T,T,T,T,T,N,N,N,N] rfl rfl (on1 HT_) (by decide) (fun K hK => ?_)
       refine goes_ Try.func76 (by kernel_rfl) rfl #[.agg #[.int .i64 ((rd_T41 l1 0).f0), .int .i64 ((rd_T41 l1 0).f1)], .agg #[.int .i64 ((rd_T41 l1 1).f0), .int .i64 ((rd_T41 l1 1).f1)]] (by rfl) rfl rfl sg ?_
       with_reducible refine (shape_add.calls ((rd_T41 l1 0).f0) ((rd_T41 l1 0).f1) ((rd_T41 l1 1).f0) ((rd_T41 l1 1).f1) t111 t112 _ A25.out).mono ?_
       rintro e w30 ⟨rfl, hb⟩
       refine ⟨_, rfl, ?_⟩
       replace HO_6 := Aside0.mk (Kd.R_below (ro HO_6) hb)
       replace HB := bz hb
       (try clear hb)
       refine hK.out _ _ ⟨(hc HB hw109_0), (hc HB hw109_1), (hc HB hw110_0), (hc HB hw110_1), (hc HB hw113_0), (hc HB hw113_1)⟩ (fun hHeld => ?_)
       clear hK K
       refine nm 53 ?_
       refine one_ (i := 11) (N := some 57) #[T,T,T,T,T,T,T,T,T,T,T,T,N,N,N] rfl rfl (on1 HT_) (by decide) (fun K hK => ?_)
       refine goes_ Try.func76 (by kernel_rfl) rfl #[.agg #[.int .i64 t111, .int .i64 t112], .agg #[.int .i64 ((rd_T41 l1 2).f0), .int .i64 ((rd_T41 l1 2).f1)]] (by rfl) rfl rfl sg ?_
       with_reducible refine (shape_add.calls t111 t112 ((rd_T41 l1 2).f0) ((rd_T41 l1 2).f1) t114 t115 _ A27.out).mono ?_
       rintro e w31 ⟨rfl, hb⟩
       refine ⟨_, rfl, ?_⟩
       replace HO_6 := Aside0.mk (Kd.R_below (ro HO_6) hb)
       replace HB := bz hb
       (try clear hb)
       obtain ⟨Ao32, co32, eo32⟩ := Kd.R_slice HO_6.out
       (first | subst eo32 | (injection eo32 with f1_ f2_ f3_; have f4_ := f1_.symm; have f5_ := f3_.symm; clear f1_ f2_ f3_; subst f4_; subst f5_))
       refine hK.out _ _ ⟨(hc HB hw109_0), (hc HB hw109_1), (hc HB hw110_0), (hc HB hw110_1), (hc HB hw113_0), (hc HB hw113_1)⟩ (fun hHeld => ?_)
       clear hK K
       refine nm 57 ?_
       refine one_ (i := 12) (N := some 58) #[T,T,T,T,T,T,T,T,T,T,T,T,T,N,N] rfl rfl (on1 HT_) (by decide) (fun K hK => ?_)
       refine goes_ Try.func73 (by kernel_rfl) rfl #[.slice Ao32 x6_2.length co32, .agg #[.int .i64 t114, .int .i64 t115]] (by rfl) rfl rfl sg ?_
       with_reducible refine (shape_where.calls k2 _ _ x6_2 t114 t115 t116 _ ?side1 ?side2 A28.out).mono ?_
       (case side1 => exact cs (Kd.R_reads' HO_6.out).2.2)
       (case side2 => exact (Kd.R_reads' HO_6.out).2.1)
       rintro e w33 ⟨rfl, hb⟩
       refine ⟨_, rfl, ?_⟩
       replace HO_6 := Aside0.mk (Kd.R_below (ro HO_6) hb)
       replace HB := bz hb
       (try clear hb)
       refine hK.out _ _ ⟨(hc HB hw109_0), (hc HB hw109_1), (hc HB hw110_0), (hc HB hw110_1), (hc HB hw113_0), (hc HB hw113_1)⟩ (fun hHeld => ?_)
       clear hK K
       refine nm 58 ?_
       refine pu 13 59 HT_ ?_
       refine pu 14 4 HT_ ?_
       refine done_ (done_of HT_.out (by kernel_rfl)) ?_
       try go_wp2
       go_ret
       exact ⟨by exact er, bh⟩
/-! ### shape_apart: function 78 -/
def shape_apart.f (k : Nat) (l0 : List (S41)) (l1 : List (S41)) : Option (Bool) := (shape_parted.f k l0 l1).bind fun t101 => (if t101 = true then (some true) else ((shape_parted.f k l1 l0).bind fun t102 => (some t102)))
set_option maxHeartbeats 8000000 in
set_option maxRecDepth 100000 in
theorem shape_apart.calls (k : Nat) (A0 : Option Addr) (c0 : Nat) (l0 : List (S41)) (A1 : Option Addr) (c1 : Nat) (l1 : List (S41)) (r : Bool) (w : World) (hr0 : Kd.C k41 w A0 l0.length l0) (hc0 : l0.length ≤ c0) (hr1 : Kd.C k41 w A1 l1.length l1) (hc1 : l1.length ≤ c1) (h : shape_apart.f k l0 l1 = some r) :
  Calls Try.prog 78 #[.slice A0 l0.length c0, .slice A1 l1.length c1] w fun e w' => e = .returned (.bool r) ∧ Below w.heap.size w w' := by
 have HR0 := Aside0.mk hr0
 have HC0 := Aside0.mk hc0
 clear hr0 hc0
 have HR1 := Aside0.mk hr1
 have HC1 := Aside0.mk hc1
 clear hr1 hc1
 have HB := Aside0.mk (Below.refl w.heap.size w)
 have H : ((shape_parted.f k l0 l1).bind fun t101 => (if t101 = true then (some true) else ((shape_parted.f k l1 l0).bind fun t102 => (some t102)))) = some r := h
 clear h
 replace H := Option.bind_eq_some_iff.mp H
 obtain ⟨t101, A30, H⟩ := H
 try dsimp only at H
 have A3 := Aside0.mk A30
 clear A30
 by_cases c4 : t101 = true
 ·subst c4
  rw [if_pos rfl] at H
  obtain rfl := Option.some.inj H
  go_enter Try.func78, Try.ntmps78
  go_wp2_with (first | ((with_reducible refine gc 112 rfl ?_); refine goesL_ (some 7) rfl rfl Try.func112 (by kernel_rfl) rfl #[.slice A0 l0.length c0, .slice A1 l1.length c1] rfl sg ?_; (with_reducible refine (shape_parted.calls k _ _ l0 _ _ l1 true _ ?side1 ?side2 ?side3 ?side4 A3.out).mono ?_); (case side1 => exact cs HR0.out); (case side2 => exact HC0.out); (case side3 => exact cs HR1.out); (case side4 => exact HC1.out); rintro e w5 ⟨rfl, hb⟩; refine ⟨_, rfl, ?_⟩; replace HB := bz hb; (try clear hb)))
  go_ret
  exact ⟨by exact er, bh⟩
 ·replace c4 := Bool.eq_false_iff.mpr c4
  subst c4
  rw [if_neg (show ¬ (false = true) by decide)] at H
  replace H := Option.bind_eq_some_iff.mp H
  obtain ⟨t102, A60, H⟩ := H
  try dsimp only at H
  have A6 := Aside0.mk A60
  clear A60
  obtain rfl := Option.some.inj H
  go_enter Try.func78, Try.ntmps78
  go_wp2_with (first | ((with_reducible refine gc 112 rfl ?_); refine goesL_ (some 7) rfl rfl Try.func112 (by kernel_rfl) rfl #[.slice A0 l0.length c0, .slice A1 l1.length c1] rfl sg ?_; (with_reducible refine (shape_parted.calls k _ _ l0 _ _ l1 false _ ?side1 ?side2 ?side3 ?side4 A3.out).mono ?_); (case side1 => exact cs HR0.out); (case side2 => exact HC0.out); (case side3 => exact cs HR1.out); (case side4 => exact HC1.out); rintro e w7 ⟨rfl, hb⟩; refine ⟨_, rfl, ?_⟩; replace HB := bz hb; (try clear hb)) | (go_at_call 112; (with_reducible refine (shape_parted.calls k _ _ l1 _ _ l0 t102 _ ?side1 ?side2 ?side3 ?side4 A6.out).mono ?_); (case side1 => exact cs (Kd.C_below HR1.out HB.out)); (case side2 => exact HC1.out); (case side3 => exact cs (Kd.C_below HR0.out HB.out)); (case side4 => exact HC0.out); rintro e w8 ⟨rfl, hb⟩; replace HB := bz hb; (try clear hb)))
  go_ret
  exact ⟨by exact er, bh⟩
end Go.Proofs.Ythehmkpcddafnaa.PG
end
section
namespace Go.Proofs.Ythehmkpcddafnaa.PG
open Go.RowKit Go.Proofs.YthehmkpcddafnaaW.PrintWords Go.Proofs.YthehmkpcddafnaaW.PrintLast Go.Proofs.YthehmkpcddafnaaW.PrintMore
/-- the first place at which p holds, or -1 -/
def fidx2 (p : List S41 → Bool) (l : List (List S41)) : Int := match l.findIdx? p with
 | some i => i
 | none => -1
theorem fidx2_hit (p : List S41 → Bool) (l : List (List S41)) (k : Nat) (hk : k < l.length) (h : p (rd_L2 l k) = true) (h0 : ∀ j, j < k → p (rd_L2 l j) = false) : fidx2 p l = k := by
 have e : l.findIdx? p = some k := by
  rw [List.findIdx?_eq_some_iff_getElem]
  refine ⟨hk, ?_, ?_⟩
  ·simp only [rd_L2, Int.toNat_natCast, List.getD_eq_getElem?_getD, List.getElem?_eq_getElem hk, Option.getD_some] at h; exact h
  ·intro j hj
   have := h0 j hj
   simp only [rd_L2, Int.toNat_natCast, List.getD_eq_getElem?_getD, List.getElem?_eq_getElem (show j < l.length by omega), Option.getD_some] at this
   simp [this]
 unfold fidx2; rw [e]
theorem fidx2_miss (p : List S41 → Bool) (l : List (List S41)) (h0 : ∀ j, j < l.length → p (rd_L2 l (j : Nat)) = false) : fidx2 p l = -1 := by
 have e : l.findIdx? p = none := by
  rw [List.findIdx?_eq_none_iff]
  intro x hx
  obtain ⟨j, hj, rfl⟩ := List.mem_iff_getElem.mp hx
  have := h0 j hj
  simp only [rd_L2, Int.toNat_natCast, List.getD_eq_getElem?_getD, List.getElem?_eq_getElem hj, Option.getD_some] at this
  exact this
 unfold fidx2; rw [e]
theorem fidx2_nonneg (p : List S41 → Bool) (l : List (List S41)) : decide (fidx2 p l ≥ 0) = l.any p := by
 unfold fidx2
 cases e : l.findIdx? p with
 | none =>
  rw [List.findIdx?_eq_none_iff] at e
  have : l.any p = false := by rw [List.any_eq_false]; intro x hx; simp [e x hx]
  rw [this]; rfl
 | some i =>
  rw [List.findIdx?_eq_some_iff_getElem] at e
  obtain ⟨hi, hp, _⟩ := e
  have : l.any p = true := by rw [List.any_eq_true]; exact ⟨_, List.getElem_mem hi, hp⟩
  rw [this]; simp
set_option maxHeartbeats 2000000 in
theorem IndexFunc_rows (g : Nat) (lb : Array Value) (p : List S41 → Bool) (eg : ∀ args w, (callFunc g args).run Try.prog w = .ok (.enter g args) w)
  (A0 : Option Addr) (c0 : Nat) (l0 : List (List S41)) (w : World) (hr0 : Kd.C (Kd.slice 41 k41) w A0 l0.length l0)
  (hp : ∀ (W : World) (y : List S41) (A : Option Addr) (c : Nat), y ∈ l0 → Below w.heap.size w W → Kd.C k41 W A y.length y → y.length ≤ c → Calls Try.prog g (#[.slice A y.length c] ++ lb) W fun e w' => e = .returned (.bool (p y)) ∧ Below w.heap.size w w') :
  Calls Try.prog 114 #[.slice A0 l0.length c0, .func (.func g) #[] lb] w fun e w' => e = .returned (.int .i64 (fidx2 p l0)) ∧ Below w.heap.size w w' := by
 have hu29 := Try.underlying41
 have hm : l0.length ≤ 9223372036854775807 := Kd.C_max hr0
 have HR0 := Aside0.mk hr0
 clear hr0
 generalize hn : l0.length = n at *
 have HN := Aside0.mk hn
 clear hn
 go_enter Try.func114, Try.ntmps114
 go_wp2
 go_loopg [5, 8] n (fun gg _ s8 wr => ∃ kk : Nat, kk ≤ n ∧ n - kk ≤ gg ∧ s8 = .int .i64 kk ∧ Aside0 (Below w.heap.size w wr) ∧ Aside0 (∀ j, j < kk → p (rd_L2 l0 (j : Nat)) = false))
 case atStart => exact ⟨0, Nat.zero_le _, by omega, rfl, ⟨Below.refl _ w⟩, ⟨fun j hj => absurd hj (Nat.not_lt_zero _)⟩⟩
 case round =>
  obtain ⟨kk, hkk, hg, rfl, BW, A⟩ := hrel
  by_cases hlt : kk < n
  ·have hltz : (kk : Int) < (n : Int) := by omega
   obtain ⟨ad, Ay, cy, e1, hx0, hcy, hKy⟩ := at_L2 HR0.out (kk : Int) (by omega) hltz
   cases e1
   have hKy2 : Kd.C k41 w Ay (rd_L2 l0 kk).length (rd_L2 l0 kk) := hKy
   have hmem : rd_L2 l0 kk ∈ l0 := by
    have h' : kk < l0.length := by rw [HN.out]; exact hlt
    have : rd_L2 l0 (kk : Int) = l0[kk] := by unfold rd_L2; rw [Int.toNat_natCast, List.getD_eq_getElem?_getD, List.getElem?_eq_getElem h']; rfl
    rw [this]; exact List.getElem_mem _
   replace hx0 := (BW.out.cell (World.block_lt_of_cell? w _ hx0)).trans hx0
   have hcall := hp wr (rd_L2 l0 kk) Ay cy hmem BW.out (Kd.C_below hKy2 BW.out) hcy
   clear hp hKy hKy2 hmem
   rw [Int.toNat_natCast] at hx0
   generalize hy : rd_L2 l0 kk = y at hx0 hcall
   have B := Aside0.mk hy
   clear hy hcy
   cases hq : p y with
   | true =>
    rw [hq] at hcall
    go_wp2_with (go_at_fn g; refine hcall.mono ?_; rintro e w' ⟨rfl, hb'⟩)
    go_ret
    refine ⟨?_, hb'⟩
    rw [fidx2_hit p l0 kk (by rw [HN.out]; exact hlt) (by rw [B.out]; exact hq) A.out]; rfl
   | false =>
    rw [hq] at hcall
    go_wp2_with (go_at_fn g; refine hcall.mono ?_; rintro e w' ⟨rfl, hb'⟩)
    go_roundg (n - (kk + 1))
    case measure => omega
    case rel =>
     refine ⟨kk + 1, by omega, by omega, by go_num, ⟨hb'⟩, ⟨fun j hj => ?_⟩⟩
     by_cases e : j = kk
     ·subst e
      rw [B.out]; exact hq
     ·exact A.out j (by omega)
  ·have hltz : ¬ (kk : Int) < (n : Int) := by omega
   have : kk = n := by omega
   subst this
   go_wp2
   go_ret
   refine ⟨?_, BW.out⟩
   rw [fidx2_miss p l0 (by rw [HN.out]; exact A.out)]; rfl
set_option maxHeartbeats 2000000 in
theorem ContainsFunc_rows (g : Nat) (lb : Array Value) (p : List S41 → Bool) (eg : ∀ args w, (callFunc g args).run Try.prog w = .ok (.enter g args) w)
  (A0 : Option Addr) (c0 : Nat) (l0 : List (List S41)) (w : World) (hr0 : Kd.C (Kd.slice 41 k41) w A0 l0.length l0)
  (hp : ∀ (W : World) (y : List S41) (A : Option Addr) (c : Nat), y ∈ l0 → Below w.heap.size w W → Kd.C k41 W A y.length y → y.length ≤ c → Calls Try.prog g (#[.slice A y.length c] ++ lb) W fun e w' => e = .returned (.bool (p y)) ∧ Below w.heap.size w w') :
  Calls Try.prog 84 #[.slice A0 l0.length c0, .func (.func g) #[] lb] w fun e w' => e = .returned (.bool (l0.any p)) ∧ Below w.heap.size w w' := by
 rw [← fidx2_nonneg p l0]
 have hc := IndexFunc_rows g lb p eg A0 c0 l0 w hr0 hp
 clear hp hr0
 generalize fidx2 p l0 = r at hc ⊢
 generalize l0.length = n at hc ⊢
 go_enter Try.func84, Try.ntmps84
 go_wp2_with (go_at_call 114; refine hc.mono ?_; rintro e w' ⟨rfl, hb'⟩)
 go_ret
 exact ⟨rfl, hb'⟩
set_option maxHeartbeats 2000000 in
set_option maxRecDepth 100000 in
theorem shows_1 (k gx : Nat) (Ax A1 : Option Addr) (cx c1 : Nat) (x y : List S41) (b : Bool) (W : World) (h1 : W.heap[gx]? = some (.cells #[.slice Ax x.length cx] 22 (0, 0))) (hx : Kd.C k41 W Ax x.length x) (hcx : x.length ≤ cx) (hy : Kd.C k41 W A1 y.length y) (hcy : y.length ≤ c1)
  (h : shape_apart.f k x y = some b) :
  Calls Try.prog 85 #[.slice A1 y.length c1, .pointer (some ⟨gx, 0, none⟩)] W fun e w' => e = .returned (.bool (!b)) ∧ Below W.heap.size W w' := by
 have hu29 := Try.underlying41
 have a0 : W.cell? ⟨gx, 0, none⟩ = some (.slice Ax x.length cx) := (blk_cell h1 0).trans rfl
 have hc := shape_apart.calls k Ax cx x A1 c1 y b W hx hcx hy hcy h
 clear h1 hx hcx hy hcy h
 generalize x.length = n at *
 generalize y.length = m at *
 go_enter Try.func85, Try.ntmps85
 go_wp2_with (go_at_call 78; refine hc.mono ?_; rintro e w' ⟨rfl, hb'⟩)
 go_ret
 exact ⟨rfl, hb'⟩
/-- does any row overlap x -/
def shows_any.f (k : Nat) (x : List S41) : List (List S41) → Option Bool
 | [] => some false
 | y :: t => (shape_apart.f k x y).bind fun b => (shows_any.f k x t).bind fun c => some (!b || c)
theorem shows_any.told (k : Nat) (x : List S41) : ∀ (l : List (List S41)) (r : Bool), shows_any.f k x l = some r → (∀ y ∈ l, ∃ b, shape_apart.f k x y = some b) ∧ r = l.any fun y => !((shape_apart.f k x y).getD true) := by
 intro l
 induction l with
 | nil => intro r h; simp [shows_any.f] at h; subst h; exact ⟨fun y hy => absurd hy (by simp), rfl⟩
 | cons y t ih =>
  intro r h
  unfold shows_any.f at h
  obtain ⟨b, hb, h⟩ := Option.bind_eq_some_iff.mp h
  obtain ⟨c, hc, h⟩ := Option.bind_eq_some_iff.mp h
  obtain rfl := Option.some.inj h
  obtain ⟨i1, i2⟩ := ih c hc
  refine ⟨fun z hz => (List.mem_cons.mp hz).elim (fun e => ⟨b, by rw [e]; exact hb⟩) (i1 z), ?_⟩
  rw [List.any_cons, hb, ← i2]; rfl
theorem shows_any.calls (k gx : Nat) (Ax A0 : Option Addr) (cx c0 : Nat) (x : List S41) (l0 : List (List S41)) (r : Bool) (w : World) (h1 : w.heap[gx]? = some (.cells #[.slice Ax x.length cx] 22 (0, 0))) (hx : Kd.C k41 w Ax x.length x) (hcx : x.length ≤ cx)
  (hr0 : Kd.C (Kd.slice 41 k41) w A0 l0.length l0) (_hc0 : l0.length ≤ c0) (h : shows_any.f k x l0 = some r) :
  Calls Try.prog 84 #[.slice A0 l0.length c0, .func (.func 85) #[] #[.pointer (some ⟨gx, 0, none⟩)]] w fun e w' => e = .returned (.bool r) ∧ Below w.heap.size w w' := by
 obtain ⟨i1, rfl⟩ := shows_any.told k x l0 r h
 refine ContainsFunc_rows 85 #[.pointer (some ⟨gx, 0, none⟩)] (fun y => !((shape_apart.f k x y).getD true)) (enters_of Try.func85 (by kernel_rfl) rfl) A0 c0 l0 w hr0 (fun W y A c hy hb hk hc => ?_)
 obtain ⟨b, hb1⟩ := i1 y hy
 have := shows_1 k gx Ax A cx c x y b W (blk_below h1 hb) (Kd.C_below hx hb) hcx hk hc hb1
 refine this.mono fun e w' ⟨he, hb'⟩ => ⟨?_, hb.trans (hb'.mono hb.size)⟩
 rw [he, hb1]; rfl
end Go.Proofs.Ythehmkpcddafnaa.PG
end
