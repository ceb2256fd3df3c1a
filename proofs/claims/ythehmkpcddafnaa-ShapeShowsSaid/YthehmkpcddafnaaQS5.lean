/- Parts of the proof of YthehmkpcddafnaaLawShapeShows: printed walks, their words, and plain laws. -/
import Derived.Test.YthehmkpcddafnaaQS1
import Derived.Test.YthehmkpcddafnaaQS3
import Derived.Test.YthehmkpcddafnaaQS4
import Derived.WalkSpells
import Derived.IntWalk
import Derived.Lib.SliceRun
import Derived.Shelf.GgSortFunc.InsertionK
import Derived.Shelf.SlicesQ.Reverse
import Derived.Shelf.SlSortCmp.NoneTotal
import Derived.Ground.SlgnProg
import Derived.Ground.SlsfProg
import Derived.Shelf.SlGeneric
import Derived.Test.YthehmkpcddafnaaProg
section
namespace Go.Proofs.Ythehmkpcddafnaa.PG
open Go.RowKit Go.Proofs.YthehmkpcddafnaaW.PrintWords Go.Proofs.YthehmkpcddafnaaW.PrintLast Go.Proofs.YthehmkpcddafnaaW.PrintMore
attribute [local go_sem] max2_int min2_int max_two min_two max_three min_three max_four min_four
set_option linter.unusedVariables false
set_option linter.unusedSimpArgs false
theorem S_elderB {α : Type} {d : Kd α} {e : Nat} {w : World} {base : Nat} {ok : Nat → Prop} {v : Value} {xs : List α} (h : Kd.S d e w base ok v xs) (a : Nat) (ha : w.heap.size ≤ a) : Kd.S d e w base (fun k => ok k ∧ k ≠ a) v xs := Kd.S_mono (Kd.S_bound h) (fun k hk => ⟨hk.1, by have := hk.2.2.1; omega⟩)
theorem S_away {α : Type} {d : Kd α} {e : Nat} {w : World} {base : Nat} {ok : Nat → Prop} {v : Value} {xs : List α} (h : Kd.S d e w base ok v xs) {g : Nat} (hok : ∀ k, ok k → k ≠ g) : some g ≠ v.ownBlock := Kd.R_away (Kd.S_R h) hok
theorem load_ {P : Program} {ops : Array Oper} {Q : Exit → Act → World → Prop} {oi : Oper} {N : Option Tmp} {a : Act} {w : World} {K : Act → World → Prop} {v : Value} (hw : Region.wanted oi (yielded ops a.tmps) = true) (hN : oi.dst = N) (hrun : (execOp a.eval oi).run P w = .ok (.value v) w)
  (h : K (a.put N v) w) : if Region.wanted oi (yielded ops a.tmps) = true then Oper.wp P oi a w K Q else K (a.put N undef) w := by
 rw [if_pos hw]
 subst hN
 unfold Oper.wp
 rw [hrun]
 exact h
section
variable {P : Program} {ops : Array Oper} {Q : Exit → Act → World → Prop} {md : Region.Mode} {S : World → Prop} {ds : List Nat}
/-- Two operations may come up, the second one of ds: each order is walked. -/
theorem two_last_ {i j : Nat} {Ni Nj : Option Tmp} {oi oj : Oper} {fuel : Nat} {l : Array Bool} {a : Act} {w : World} (li lj : Array Bool) (hi : ops[i]? = some oi) (hj : ops[j]? = some oj) (hNi : oi.dst = Ni) (hNj : oj.dst = Nj)
  (hc : (Region.ready md ops l == [i, j] && l.setIfInBounds i true == li && l.setIfInBounds j true == lj) = true) (hdi : i ∉ ds) (hdj : j ∈ ds)
  (h1 : ∀ K : Act → World → Prop, Shut (∀ a' w', S w' → (S w' → wpAnyLast P md ops Q S ds fuel li a' w') → K a' w') → if Region.wanted oi (yielded ops a.tmps) = true then Oper.wp P oi a w K Q else K (a.put Ni undef) w)
  (h2 : ∀ K : Act → World → Prop, Shut (∀ a' w', wpAnyLast P md ops Q S ds fuel lj a' w' → K a' w') → if Region.wanted oj (yielded ops a.tmps) = true then Oper.wp P oj a w K Q else K (a.put Nj undef) w) :
  wpAnyLast P md ops Q S ds (fuel + 1) l a w := by
 subst hNi
 subst hNj
 simp only [Bool.and_eq_true, beq_iff_eq] at hc
 obtain ⟨⟨h3, h4⟩, h5⟩ := hc
 subst h4
 subst h5
 exact wpAnyLast_ready h3 (by simp) (AllReadyL.cons hi hdi (fun K hK => h1 K hK) (AllReadyL.cons_last hj hdj (fun K hK => h2 K hK) AllReadyL.nil))
end
/-! ### shape_shows: function 38 -/
mutual
def shape_shows.l0 : Nat → List (S41) → List (S60) → Int → List (List (S41)) → List (S60) → Int → Int → Option (Bool)
 | 0, _, _, _, _, _, _, _ => none
 | k + 1, x0, x1, x5, x6, x11, x12, x13 => if x13 < x12 then (if 0 ≤ x13 then (if x13 < (x11.length : Int) then (if ((rd_T60 x11 x13).f0) < 0 then (shape_shows.j1 k x0 x1 x5 x6 x11 x12 x13 true ((rd_T60 x11 x13).f0) ((rd_T60 x11 x13).f1) ((rd_T60 x11 x13).f2)) else (if ((rd_T60 x11 x13).f0) ≥ ((rd_T60 x11 x13).f1) then (shape_shows.j1 k x0 x1 x5 x6 x11 x12 x13 true ((rd_T60 x11 x13).f0) ((rd_T60 x11 x13).f1) ((rd_T60 x11 x13).f2)) else (if ((rd_T60 x11 x13).f1) ≥ ((rd_T60 x11 x13).f2) then (shape_shows.j1 k x0 x1 x5 x6 x11 x12 x13 true ((rd_T60 x11 x13).f0) ((rd_T60 x11 x13).f1) ((rd_T60 x11 x13).f2)) else (shape_shows.j1 k x0 x1 x5 x6 x11 x12 x13 (decide (((rd_T60 x11 x13).f2) ≥ (x0.length : Int))) ((rd_T60 x11 x13).f0) ((rd_T60 x11 x13).f1) ((rd_T60 x11 x13).f2))))) else (none)) else (none)) else ((shape_area2.f k x0).bind fun t101 => (if (x1.length : Int) = (wrap64 ((x0.length : Int) - 2)) then (some (x5 == (mx t101 (wrap64 (-t101))))) else (some false)))
def shape_shows.j1 : Nat → List (S41) → List (S60) → Int → List (List (S41)) → List (S60) → Int → Int → Bool → Int → Int → Int → Option (Bool)
 | 0, _, _, _, _, _, _, _, _, _, _, _ => none
 | k + 1, x0, x1, x5, x6, x11, x12, x13, x40, x104000, x104001, x104002 => if x40 = true then (some false) else (if 0 ≤ x104000 then (if x104000 < (x0.length : Int) then (if 0 ≤ x104001 then (if x104001 < (x0.length : Int) then (if 0 ≤ x104002 then (if x104002 < (x0.length : Int) then ((some (([(⟨(rd_T41 x0 x104000).f0, (rd_T41 x0 x104000).f1⟩ : S41), (⟨(rd_T41 x0 x104001).f0, (rd_T41 x0 x104001).f1⟩ : S41), (⟨(rd_T41 x0 x104002).f0, (rd_T41 x0 x104002).f1⟩ : S41)] : List (S41)) : List (S41))).bind fun y107 => ((shape_area2.f k y107).bind fun t110 => ((shape_sign.f t110).bind fun t111 => (if t111 = 0 then (shape_shows.l0 k x0 x1 x5 x6 x11 x12 (wrap64 (x13 + 1))) else (if t111 = (-1) then (if 2 < (y107.length : Int) then (if 1 < (y107.length : Int) then (shape_shows.j2 k x0 x1 x5 x6 ((y107.set (1 : Int).toNat (⟨(rd_T41 y107 2).f0, (rd_T41 y107 2).f1⟩ : S41)).set (2 : Int).toNat (⟨(rd_T41 y107 1).f0, (rd_T41 y107 1).f1⟩ : S41)) x11 x12 x13) else (none)) else (none)) else (shape_shows.j2 k x0 x1 x5 x6 y107 x11 x12 x13)))))) else (none)) else (none)) else (none)) else (none)) else (none)) else (none))
def shape_shows.j2 : Nat → List (S41) → List (S60) → Int → List (List (S41)) → List (S41) → List (S60) → Int → Int → Option (Bool)
 | 0, _, _, _, _, _, _, _, _ => none
 | k + 1, x0, x1, x5, x6, x9, x11, x12, x13 => (shape_inside.f k x0 x9).bind fun t116 => (if t116 = true then ((shows_any.f k x9 x6).bind fun t117 => (if t117 = true then (some false) else (if x6.length < 5864062014805 then ((shape_area2.f k x9).bind fun t121 => (shape_shows.l0 k x0 x1 (wrap64 (x5 + t121)) (x6 ++ [x9]) x11 x12 (wrap64 (x13 + 1)))) else (none)))) else (some false))
end
def shape_shows.f (k : Nat) (l0 : List (S41)) (l1 : List (S60)) : Option (Bool) := shape_shows.l0 k l0 l1 0 ([] : List (List (S41))) l1 (l1.length : Int) 0
def shape_shows.T8 : Bool × List (List Nat × List Nat) := (true, [([], []), ([], []), ([1], [1]), ([0, 2], [0, 2]), ([3], [3]), ([], []), ([], []), ([6], [6]), ([5, 7], [5, 7]), ([8], [8]), ([], []), ([], []), ([11], [11]), ([10, 12], [10, 12]), ([13], [13]), ([4, 9, 14], [4, 9, 14]), ([], []), ([16, 15] ++ List.range 17, [15, 16])])
def shape_shows.B8 : List Nat := [0, 0, 2, 7, 15, 0, 0, 64, 224, 480, 0, 0, 2048, 7168, 15360, 32767, 0, 131071]
theorem shape_shows.tab8 : rtab .any (opsOf Try.f38 8) = shape_shows.T8 := by kernel_rfl
theorem shape_shows.bits8 : waitsOk shape_shows.T8.2 shape_shows.B8 = true := by kernel_rfl
def shape_shows.T12 : Bool × List (List Nat × List Nat) := (true, [([], []), ([], []), ([], []), ([2], [2]), ([3], [3]), ([], []), ([5], [5]), ([6], [6]), ([0, 0, 2, 3, 4, 7], [0]), ([8, 4, 0, 2, 3, 4, 7], [4, 8]), ([1, 0, 1, 2, 3, 4, 5, 6, 7, 8, 9], [1]), ([10, 7, 9, 0, 1, 2, 3, 4, 5, 6, 7, 8, 9], [7, 10])])
def shape_shows.B12 : List Nat := [0, 0, 0, 4, 12, 0, 32, 96, 253, 509, 1023, 2047]
theorem shape_shows.tab12 : rtab .any (opsOf Try.f38 12) = shape_shows.T12 := by kernel_rfl
theorem shape_shows.bits12 : waitsOk shape_shows.T12.2 shape_shows.B12 = true := by kernel_rfl
set_option maxHeartbeats 8000000 in
set_option maxRecDepth 100000 in
theorem shape_shows.calls (k : Nat) (A0 : Option Addr) (c0 : Nat) (l0 : List (S41)) (A1 : Option Addr) (c1 : Nat) (l1 : List (S60)) (r : Bool) (w : World) (hr0 : Kd.C k41 w A0 l0.length l0) (hc0 : l0.length ≤ c0) (hr1 : Kd.C k60 w A1 l1.length l1) (hc1 : l1.length ≤ c1) (h : shape_shows.f k l0 l1 = some r) :
  Calls Try.prog 38 #[.slice A0 l0.length c0, .slice A1 l1.length c1] w fun e w' => e = .returned (.bool r) ∧ Below w.heap.size w w' := by
 have hu60 := Try.underlying60
 have hu41 := Try.underlying41
 have HR0 := Aside0.mk hr0
 have HC0 := Aside0.mk hc0
 clear hr0 hc0
 have HR1 := Aside0.mk hr1
 have HC1 := Aside0.mk hc1
 clear hr1 hc1
 have HB := Aside0.mk (Below.refl w.heap.size w)
 have H : (shape_shows.l0 k l0 l1 0 ([] : List (List (S41))) l1 (l1.length : Int) 0) = some r := h
 clear h
 have H' := Aside0.mk H
 clear H
 go_enter Try.func38, Try.ntmps38
 go_wp2
 go_loopg [5, 6, 13] k (fun kq v5 v6 v13 w' => ∃ (x5_1 : Int) (x6_1 : List (List (S41))) (x13_1 : Int), v5 = .int .i64 x5_1 ∧ v13 = .int .i64 x13_1 ∧ Aside0 (shape_shows.l0 kq l0 l1 x5_1 x6_1 l1 (l1.length : Int) x13_1 = some r) ∧ Aside0 (kq ≤ k) ∧ Aside0 (Kd.S (Kd.slice 41 k41) 22 w' w.heap.size (fun _ => True) v6 x6_1) ∧ Aside0 (Below w.heap.size w w'))
 case atStart => exact ⟨(0), (([] : List (List (S41)))), (0), sd, sd, H', ⟨Nat.le_refl _⟩, ⟨by first | exact Kd.S_nil _ _ _ _ _ | exact Kd.N_nil _ _ _ _ _ | exact Kd.V_nil _ _ _ _ _ | exact Kd.Q_nil _ _ _ _ _ | exact Kd.R_nil _ _ _ _ _⟩, ⟨bh⟩⟩
 case round =>
  clear H'
  (try clear c1)
  obtain ⟨x5_1, x6_1, x13_1, rfl, rfl, HA, HK1, HO_6, HB⟩ := hrel
  cases gk with
  | zero => exact absurd HA.out (by simp [shape_shows.l0])
  | succ k1 =>
   have H := HA.out
   clear HA
   simp only [shape_shows.l0] at H
   by_cases c3 : x13_1 < (l1.length : Int)
   ·rw [if_pos c3] at H
    have c3b0 := decide_eq_true c3
    clear c3
    obtain ⟨c4, H⟩ := oi H
    have c4b0 := decide_eq_true c4
    clear c4
    obtain ⟨c5, H⟩ := oi H
    have c5b0 := decide_eq_true c5
    clear c5
    have HC6 := Aside0.mk H
    clear H
    have p102 : 0 ≤ (x13_1 : Int) := dt
    have q102 : x13_1 < (l1.length : Int) := dt
    obtain ⟨ad102, e102, hx102_0, hx102_1, hx102_2⟩ := at_T60 HR1.out x13_1 p102 q102
    cases e102
    replace hx102_0 := hc HB hx102_0
    replace hx102_1 := hc HB hx102_1
    replace hx102_2 := hc HB hx102_2
    replace p102 := eq_true p102
    replace q102 := eq_true q102
    go_upto_region 6 with (first | ((with_reducible refine gate_dst (N := 8) rfl ?_); (try (refine gate_guard (by rfl) ?_; dsimp only)); refine bxe 8 #[.int .i64 0, .int .i64 0, .int .i64 0] 60 ?_; intro gb103 hg w7 hbox hb; have BK103 := Aside0.mk (hbox); have GW103 := ga w hg; have GE103 := GW103; replace HO_6 := Aside0.mk (Kd.S_below (so HO_6) hb); replace HB := bz hb; clear hb hbox hg; have hcz8_0 : w7.cell? ⟨gb103, 0, none⟩ = some (.int .i64 0) := bc BK103 0; have hcz8_1 : w7.cell? ⟨gb103, 1, none⟩ = some (.int .i64 0) := bc BK103 1; have hcz8_2 : w7.cell? ⟨gb103, 2, none⟩ = some (.int .i64 0) := bc BK103 2; have hfz8_0 := blk_frozen BK103.out 0; have hfz8_1 := blk_frozen BK103.out 1; have hfz8_2 := blk_frozen BK103.out 2))
    (try simp only [Act.put, List.setIfInBounds_toArray, List.set_cons_zero, List.set_cons_succ])
    go_cut [40] (fun v40 wc => ∃ (kq : Nat) (x40_5 : Bool), v40 = .bool x40_5 ∧ Aside0 (shape_shows.j1 kq l0 l1 x5_1 x6_1 l1 (l1.length : Int) x13_1 x40_5 ((rd_T60 l1 x13_1).f0) ((rd_T60 l1 x13_1).f1) ((rd_T60 l1 x13_1).f2) = some r) ∧ Aside0 (kq ≤ k1) ∧ Aside0 (Kd.S (Kd.slice 41 k41) 22 wc w.heap.size (fun _ => True) u6 x6_1) ∧ Aside0 (wc.heap[gb103]? = some (.cells #[.int .i64 ((rd_T60 l1 x13_1).f0), .int .i64 ((rd_T60 l1 x13_1).f1), .int .i64 ((rd_T60 l1 x13_1).f2)] 60 (0, 0))) ∧ Aside0 (Below w.heap.size w wc))
    case first =>
     have H := HC6.out
     clear HC6
     by_cases c9 : ((rd_T60 l1 x13_1).f0) < 0
     ·rw [if_pos c9] at H
      have c9b0 := decide_eq_true c9
      clear c9
      (first | rw [c9b0] | (simp only [i64_w, i32_w]; rw [c9b0]) | skip)
      have H' := Aside0.mk H
      clear H
      have hcz10_0 : w7.cell? ⟨gb103, 0, none⟩ = some (.int .i64 0) := bc BK103 0
      have hcz10_1 : w7.cell? ⟨gb103, 1, none⟩ = some (.int .i64 0) := bc BK103 1
      have hcz10_2 : w7.cell? ⟨gb103, 2, none⟩ = some (.int .i64 0) := bc BK103 2
      have hfz10_0 := blk_frozen BK103.out 0
      have hfz10_1 := blk_frozen BK103.out 1
      have hfz10_2 := blk_frozen BK103.out 2
      go_wp2
      go_meet
      case rel => exact ⟨_, (true), sd, H', ⟨by have := HK1.out; first | omega | exact Nat.le_refl _⟩, ⟨by (with_reducible repeat (first | apply Kd.S_alloc | apply Kd.S_drewN | apply Kd.S_drew)); exact Kd.S_mono (Kd.S_far (p := ⟨gb103, 2, none⟩) (Kd.S_far (p := ⟨gb103, 1, none⟩) (Kd.S_far (p := ⟨gb103, 0, none⟩) (Kd.S_types HO_6.out BK103.out (by decide)) (fun _ hk => hk.2) (.int .i64 ((rd_T60 l1 x13_1).f0))) (fun _ hk => hk.2) (.int .i64 ((rd_T60 l1 x13_1).f1))) (fun _ hk => hk.2) (.int .i64 ((rd_T60 l1 x13_1).f2))) (fun _ hk => trivial)⟩, ⟨by refine bd ?_; refine blk_put (cs := #[.int .i64 ((rd_T60 l1 x13_1).f0), .int .i64 ((rd_T60 l1 x13_1).f1), .int .i64 0]) ?_ 2 _ rfl; refine bd ?_; refine blk_put (cs := #[.int .i64 ((rd_T60 l1 x13_1).f0), .int .i64 0, .int .i64 0]) ?_ 1 _ rfl; refine bd ?_; refine blk_put (cs := #[.int .i64 0, .int .i64 0, .int .i64 0]) ?_ 0 _ rfl; refine bd ?_; exact BK103.out⟩, ⟨bh⟩⟩
     ·rw [if_neg c9] at H
      have c9b0 := decide_eq_false c9
      clear c9
      (first | rw [c9b0] | (simp only [i64_w, i32_w]; rw [c9b0]) | skip)
      by_cases c11 : ((rd_T60 l1 x13_1).f0) ≥ ((rd_T60 l1 x13_1).f1)
      ·rw [if_pos c11] at H
       have c11b0 := decide_eq_true c11
       clear c11
       have H' := Aside0.mk H
       clear H
       have hcz12_0 : w7.cell? ⟨gb103, 0, none⟩ = some (.int .i64 0) := bc BK103 0
       have hcz12_1 : w7.cell? ⟨gb103, 1, none⟩ = some (.int .i64 0) := bc BK103 1
       have hcz12_2 : w7.cell? ⟨gb103, 2, none⟩ = some (.int .i64 0) := bc BK103 2
       have hfz12_0 := blk_frozen BK103.out 0
       have hfz12_1 := blk_frozen BK103.out 1
       have hfz12_2 := blk_frozen BK103.out 2
       go_wp2
       go_meet
       case rel => exact ⟨_, (true), sd, H', ⟨by have := HK1.out; first | omega | exact Nat.le_refl _⟩, ⟨by (with_reducible repeat (first | apply Kd.S_alloc | apply Kd.S_drewN | apply Kd.S_drew)); exact Kd.S_mono (Kd.S_far (p := ⟨gb103, 2, none⟩) (Kd.S_far (p := ⟨gb103, 1, none⟩) (Kd.S_far (p := ⟨gb103, 0, none⟩) (Kd.S_types HO_6.out BK103.out (by decide)) (fun _ hk => hk.2) (.int .i64 ((rd_T60 l1 x13_1).f0))) (fun _ hk => hk.2) (.int .i64 ((rd_T60 l1 x13_1).f1))) (fun _ hk => hk.2) (.int .i64 ((rd_T60 l1 x13_1).f2))) (fun _ hk => trivial)⟩, ⟨by refine bd ?_; refine blk_put (cs := #[.int .i64 ((rd_T60 l1 x13_1).f0), .int .i64 ((rd_T60 l1 x13_1).f1), .int .i64 0]) ?_ 2 _ rfl; refine bd ?_; refine blk_put (cs := #[.int .i64 ((rd_T60 l1 x13_1).f0), .int .i64 0, .int .i64 0]) ?_ 1 _ rfl; refine bd ?_; refine blk_put (cs := #[.int .i64 0, .int .i64 0, .int .i64 0]) ?_ 0 _ rfl; refine bd ?_; exact BK103.out⟩, ⟨bh⟩⟩
      ·rw [if_neg c11] at H
       have c11b0 := decide_eq_false c11
       clear c11
       by_cases c13 : ((rd_T60 l1 x13_1).f1) ≥ ((rd_T60 l1 x13_1).f2)
       ·rw [if_pos c13] at H
        have c13b0 := decide_eq_true c13
        clear c13
        have H' := Aside0.mk H
        clear H
        have hcz14_0 : w7.cell? ⟨gb103, 0, none⟩ = some (.int .i64 0) := bc BK103 0
        have hcz14_1 : w7.cell? ⟨gb103, 1, none⟩ = some (.int .i64 0) := bc BK103 1
        have hcz14_2 : w7.cell? ⟨gb103, 2, none⟩ = some (.int .i64 0) := bc BK103 2
        have hfz14_0 := blk_frozen BK103.out 0
        have hfz14_1 := blk_frozen BK103.out 1
        have hfz14_2 := blk_frozen BK103.out 2
        go_wp2
        go_meet
        case rel => exact ⟨_, (true), sd, H', ⟨by have := HK1.out; first | omega | exact Nat.le_refl _⟩, ⟨by (with_reducible repeat (first | apply Kd.S_alloc | apply Kd.S_drewN | apply Kd.S_drew)); exact Kd.S_mono (Kd.S_far (p := ⟨gb103, 2, none⟩) (Kd.S_far (p := ⟨gb103, 1, none⟩) (Kd.S_far (p := ⟨gb103, 0, none⟩) (Kd.S_types HO_6.out BK103.out (by decide)) (fun _ hk => hk.2) (.int .i64 ((rd_T60 l1 x13_1).f0))) (fun _ hk => hk.2) (.int .i64 ((rd_T60 l1 x13_1).f1))) (fun _ hk => hk.2) (.int .i64 ((rd_T60 l1 x13_1).f2))) (fun _ hk => trivial)⟩, ⟨by refine bd ?_; refine blk_put (cs := #[.int .i64 ((rd_T60 l1 x13_1).f0), .int .i64 ((rd_T60 l1 x13_1).f1), .int .i64 0]) ?_ 2 _ rfl; refine bd ?_; refine blk_put (cs := #[.int .i64 ((rd_T60 l1 x13_1).f0), .int .i64 0, .int .i64 0]) ?_ 1 _ rfl; refine bd ?_; refine blk_put (cs := #[.int .i64 0, .int .i64 0, .int .i64 0]) ?_ 0 _ rfl; refine bd ?_; exact BK103.out⟩, ⟨bh⟩⟩
       ·rw [if_neg c13] at H
        have c13b0 := decide_eq_false c13
        clear c13
        have H' := Aside0.mk H
        clear H
        have hcz15_0 : w7.cell? ⟨gb103, 0, none⟩ = some (.int .i64 0) := bc BK103 0
        have hcz15_1 : w7.cell? ⟨gb103, 1, none⟩ = some (.int .i64 0) := bc BK103 1
        have hcz15_2 : w7.cell? ⟨gb103, 2, none⟩ = some (.int .i64 0) := bc BK103 2
        have hfz15_0 := blk_frozen BK103.out 0
        have hfz15_1 := blk_frozen BK103.out 1
        have hfz15_2 := blk_frozen BK103.out 2
        go_wp2
        go_meet
        case rel => exact ⟨_, (decide (((rd_T60 l1 x13_1).f2) ≥ (l0.length : Int))), sd, H', ⟨by have := HK1.out; first | omega | exact Nat.le_refl _⟩, ⟨by (with_reducible repeat (first | apply Kd.S_alloc | apply Kd.S_drewN | apply Kd.S_drew)); exact Kd.S_mono (Kd.S_far (p := ⟨gb103, 2, none⟩) (Kd.S_far (p := ⟨gb103, 1, none⟩) (Kd.S_far (p := ⟨gb103, 0, none⟩) (Kd.S_types HO_6.out BK103.out (by decide)) (fun _ hk => hk.2) (.int .i64 ((rd_T60 l1 x13_1).f0))) (fun _ hk => hk.2) (.int .i64 ((rd_T60 l1 x13_1).f1))) (fun _ hk => hk.2) (.int .i64 ((rd_T60 l1 x13_1).f2))) (fun _ hk => trivial)⟩, ⟨by refine bd ?_; refine blk_put (cs := #[.int .i64 ((rd_T60 l1 x13_1).f0), .int .i64 ((rd_T60 l1 x13_1).f1), .int .i64 0]) ?_ 2 _ rfl; refine bd ?_; refine blk_put (cs := #[.int .i64 ((rd_T60 l1 x13_1).f0), .int .i64 0, .int .i64 0]) ?_ 1 _ rfl; refine bd ?_; refine blk_put (cs := #[.int .i64 0, .int .i64 0, .int .i64 0]) ?_ 0 _ rfl; refine bd ?_; exact BK103.out⟩, ⟨bh⟩⟩
    case rest =>
     clear HC6
     (try clear c3b0); (try clear c4b0); (try clear c5b0); (try clear hcz8_0); (try clear hcz8_1); (try clear hcz8_2); (try clear hfz8_0); (try clear hfz8_1); (try clear hfz8_2); (try clear hx102_0); (try clear hx102_1); (try clear hx102_2); (try clear p102); (try clear q102)
     obtain ⟨kq, x40_5, rfl, HA, HJ5, HO_6, BK103, HB⟩ := hcut
     cases kq with
     | zero => exact absurd HA.out (by simp [shape_shows.j1])
     | succ kj5 =>
      have H := HA.out
      clear HA
      simp only [shape_shows.j1] at H
      by_cases c16 : x40_5 = true
      ·subst c16
       rw [if_pos rfl] at H
       obtain rfl := Option.some.inj H
       go_wp2
       go_ret
       exact ⟨by exact er, bh⟩
      ·replace c16 := Bool.eq_false_iff.mpr c16
       subst c16
       rw [if_neg (show ¬ (false = true) by decide)] at H
       obtain ⟨c17, H⟩ := oi H
       have c17b0 := decide_eq_true c17
       clear c17
       obtain ⟨c18, H⟩ := oi H
       have c18b0 := decide_eq_true c18
       clear c18
       obtain ⟨c19, H⟩ := oi H
       have c19b0 := decide_eq_true c19
       clear c19
       obtain ⟨c20, H⟩ := oi H
       have c20b0 := decide_eq_true c20
       clear c20
       obtain ⟨c21, H⟩ := oi H
       have c21b0 := decide_eq_true c21
       clear c21
       obtain ⟨c22, H⟩ := oi H
       have c22b0 := decide_eq_true c22
       clear c22
       obtain ⟨y107, hy107⟩ : ∃ y_ : List (S41), y_ = (([(⟨(rd_T41 l0 ((rd_T60 l1 x13_1).f0)).f0, (rd_T41 l0 ((rd_T60 l1 x13_1).f0)).f1⟩ : S41), (⟨(rd_T41 l0 ((rd_T60 l1 x13_1).f1)).f0, (rd_T41 l0 ((rd_T60 l1 x13_1).f1)).f1⟩ : S41), (⟨(rd_T41 l0 ((rd_T60 l1 x13_1).f2)).f0, (rd_T41 l0 ((rd_T60 l1 x13_1).f2)).f1⟩ : S41)] : List (S41))) := ⟨_, rfl⟩
       replace H : ((shape_area2.f kj5 y107).bind fun t110 => ((shape_sign.f t110).bind fun t111 => (if t111 = 0 then (shape_shows.l0 kj5 l0 l1 x5_1 x6_1 l1 (l1.length : Int) (wrap64 (x13_1 + 1))) else (if t111 = (-1) then (if 2 < (y107.length : Int) then (if 1 < (y107.length : Int) then (shape_shows.j2 kj5 l0 l1 x5_1 x6_1 ((y107.set (1 : Int).toNat (⟨(rd_T41 y107 2).f0, (rd_T41 y107 2).f1⟩ : S41)).set (2 : Int).toNat (⟨(rd_T41 y107 1).f0, (rd_T41 y107 1).f1⟩ : S41)) l1 (l1.length : Int) x13_1) else (none)) else (none)) else (shape_shows.j2 kj5 l0 l1 x5_1 x6_1 y107 l1 (l1.length : Int) x13_1))))) = some r := by first | (rw [hy107]; with_reducible exact H) | (have H2_ := (Option.bind_some _ _).symm.trans H; rw [hy107]; with_reducible exact H2_) | (have H2_ := (Option.bind_some _ _).symm.trans H; with_reducible exact H2_) | with_reducible exact H | (rw [hy107]; exact H) | exact H
       have Ny107 := Aside0.mk hy107
       clear hy107
       replace H := Option.bind_eq_some_iff.mp H
       obtain ⟨t110, A230, H⟩ := H
       try dsimp only at H
       have A23 := Aside0.mk A230
       clear A230
       replace H := Option.bind_eq_some_iff.mp H
       obtain ⟨t111, A240, H⟩ := H
       try dsimp only at H
       have A24 := Aside0.mk A240
       clear A240
       have HC25 := Aside0.mk H
       clear H
       try go_wp2
       replace HO_6 := Aside0.mk (Kd.S_drew HO_6.out)
       replace BK103 := Aside0.mk (blk_drew BK103.out)
       replace HB := Aside0.mk (below_drew1 HB.out)
       have p104 : 0 ≤ (((rd_T60 l1 x13_1).f0) : Int) := dt
       have q104 : ((rd_T60 l1 x13_1).f0) < (l0.length : Int) := dt
       obtain ⟨ad104, e104, hx104_0, hx104_1⟩ := at_T41 HR0.out ((rd_T60 l1 x13_1).f0) p104 q104
       have hw104_1 := hx104_1
       have hw104_0 := hx104_0
       cases e104
       replace hx104_0 := hc HB hx104_0
       replace hx104_1 := hc HB hx104_1
       replace p104 := eq_true p104
       replace q104 := eq_true q104
       have p105 : 0 ≤ (((rd_T60 l1 x13_1).f1) : Int) := dt
       have q105 : ((rd_T60 l1 x13_1).f1) < (l0.length : Int) := dt
       obtain ⟨ad105, e105, hx105_0, hx105_1⟩ := at_T41 HR0.out ((rd_T60 l1 x13_1).f1) p105 q105
       have hw105_1 := hx105_1
       have hw105_0 := hx105_0
       obtain rfl : ad104 = ad105 := (by injection e105)
       replace hx105_0 := hc HB hx105_0
       replace hx105_1 := hc HB hx105_1
       replace p105 := eq_true p105
       replace q105 := eq_true q105
       have p106 : 0 ≤ (((rd_T60 l1 x13_1).f2) : Int) := dt
       have q106 : ((rd_T60 l1 x13_1).f2) < (l0.length : Int) := dt
       obtain ⟨ad106, e106, hx106_0, hx106_1⟩ := at_T41 HR0.out ((rd_T60 l1 x13_1).f2) p106 q106
       have hw106_1 := hx106_1
       have hw106_0 := hx106_0
       obtain rfl : ad104 = ad106 := (by injection e106)
       replace hx106_0 := hc HB hx106_0
       replace hx106_1 := hc HB hx106_1
       replace p106 := eq_true p106
       replace q106 := eq_true q106
       refine start_ (n := 18) (S := fun w' => w'.cell? ⟨gb103, 0, none⟩ = some (.int .i64 ((rd_T60 l1 x13_1).f0)) ∧ w'.cell? ⟨gb103, 1, none⟩ = some (.int .i64 ((rd_T60 l1 x13_1).f1)) ∧ w'.cell? ⟨gb103, 2, none⟩ = some (.int .i64 ((rd_T60 l1 x13_1).f2)) ∧ w'.cell? (ad104.add ((((rd_T60 l1 x13_1).f0)).toNat * 2)) = some (.int .i64 ((rd_T41 l0 ((rd_T60 l1 x13_1).f0)).f0)) ∧ w'.cell? ⟨(ad104.add ((((rd_T60 l1 x13_1).f0)).toNat * 2)).block, (ad104.add ((((rd_T60 l1 x13_1).f0)).toNat * 2)).off + 1, none⟩ = some (.int .i64 ((rd_T41 l0 ((rd_T60 l1 x13_1).f0)).f1)) ∧ w'.cell? (ad104.add ((((rd_T60 l1 x13_1).f1)).toNat * 2)) = some (.int .i64 ((rd_T41 l0 ((rd_T60 l1 x13_1).f1)).f0)) ∧ w'.cell? ⟨(ad104.add ((((rd_T60 l1 x13_1).f1)).toNat * 2)).block, (ad104.add ((((rd_T60 l1 x13_1).f1)).toNat * 2)).off + 1, none⟩ = some (.int .i64 ((rd_T41 l0 ((rd_T60 l1 x13_1).f1)).f1)) ∧ w'.cell? (ad104.add ((((rd_T60 l1 x13_1).f2)).toNat * 2)) = some (.int .i64 ((rd_T41 l0 ((rd_T60 l1 x13_1).f2)).f0)) ∧ w'.cell? ⟨(ad104.add ((((rd_T60 l1 x13_1).f2)).toNat * 2)).block, (ad104.add ((((rd_T60 l1 x13_1).f2)).toNat * 2)).off + 1, none⟩ = some (.int .i64 ((rd_T41 l0 ((rd_T60 l1 x13_1).f2)).f1))) (ds := []) #[N,N,N,N,N,N,N,N,N,N,N,N,N,N,N,N,N,N] (by kernel_rfl) rfl rfl ⟨bc BK103 0, bc BK103 1, bc BK103 2, (hc HB hw104_0), (hc HB hw104_1), (hc HB hw105_0), (hc HB hw105_1), (hc HB hw106_0), (hc HB hw106_1)⟩ (fun hHeld => ?_); refine with_tabW shape_shows.tab8 shape_shows.bits8 (fun HT_ HW_ => ?_)
       generalize wc.drew = w26 at HO_6 BK103 HB hx104_0 hx104_1 hx105_0 hx105_1 hx106_0 hx106_1 hHeld ⊢
       refine pu 0 41 HT_ ?_
       refine pu 1 42 HT_ ?_
       refine pu 5 46 HT_ ?_
       refine pu 6 47 HT_ ?_
       refine pu 10 51 HT_ ?_
       refine pu 11 52 HT_ ?_
       refine take_ (i := 2) (N := some 43) (v := ?_) (a' := ?_) #[T,T,T,N,N,T,T,N,N,N,T,T,N,N,N,N,N,N] rfl rfl (take_ofW HT_.out HW_.out (by kernel_rfl)) (fun _ _ _ h => h) (Or.inl ⟨by rfl, ?_⟩) hHeld ?_ ?_
       rotate_left
       ·rintro w' ⟨s0, s1, s2, s3, s4, s5, s6, s7, s8⟩
        go_simp
        with_reducible rfl
       rotate_left
       ·simp only [Act.put, List.setIfInBounds_toArray, List.set_cons_zero, List.set_cons_succ, i64_w, i32_w]
        rfl
       refine pu 3 44 HT_ ?_
       refine take_ (i := 4) (N := some 45) (v := ?_) (a' := ?_) #[T,T,T,T,T,T,T,N,N,N,T,T,N,N,N,N,N,N] rfl rfl (take_ofW HT_.out HW_.out (by kernel_rfl)) (fun _ _ _ h => h) (Or.inl ⟨by rfl, ?_⟩) hHeld ?_ ?_
       rotate_left
       ·rintro w' ⟨s0, s1, s2, s3, s4, s5, s6, s7, s8⟩
        go_simp
        with_reducible rfl
       rotate_left
       ·simp only [Act.put, List.setIfInBounds_toArray, List.set_cons_zero, List.set_cons_succ, i64_w, i32_w]
        rfl
       refine take_ (i := 7) (N := some 48) (v := ?_) (a' := ?_) #[T,T,T,T,T,T,T,T,N,N,T,T,N,N,N,N,N,N] rfl rfl (take_ofW HT_.out HW_.out (by kernel_rfl)) (fun _ _ _ h => h) (Or.inl ⟨by rfl, ?_⟩) hHeld ?_ ?_
       rotate_left
       ·rintro w' ⟨s0, s1, s2, s3, s4, s5, s6, s7, s8⟩
        go_simp
        with_reducible rfl
       rotate_left
       ·simp only [Act.put, List.setIfInBounds_toArray, List.set_cons_zero, List.set_cons_succ, i64_w, i32_w]
        rfl
       refine pu 8 49 HT_ ?_
       refine take_ (i := 9) (N := some 50) (v := ?_) (a' := ?_) #[T,T,T,T,T,T,T,T,T,T,T,T,N,N,N,N,N,N] rfl rfl (take_ofW HT_.out HW_.out (by kernel_rfl)) (fun _ _ _ h => h) (Or.inl ⟨by rfl, ?_⟩) hHeld ?_ ?_
       rotate_left
       ·rintro w' ⟨s0, s1, s2, s3, s4, s5, s6, s7, s8⟩
        go_simp
        with_reducible rfl
       rotate_left
       ·simp only [Act.put, List.setIfInBounds_toArray, List.set_cons_zero, List.set_cons_succ, i64_w, i32_w]
        rfl
       refine take_ (i := 12) (N := some 53) (v := ?_) (a' := ?_) #[T,T,T,T,T,T,T,T,T,T,T,T,T,N,N,N,N,N] rfl rfl (take_ofW HT_.out HW_.out (by kernel_rfl)) (fun _ _ _ h => h) (Or.inl ⟨by rfl, ?_⟩) hHeld ?_ ?_
       rotate_left
       ·rintro w' ⟨s0, s1, s2, s3, s4, s5, s6, s7, s8⟩
        go_simp
        with_reducible rfl
       rotate_left
       ·simp only [Act.put, List.setIfInBounds_toArray, List.set_cons_zero, List.set_cons_succ, i64_w, i32_w]
        rfl
       refine pu 13 54 HT_ ?_
       refine take_ (i := 14) (N := some 55) (v := ?_) (a' := ?_) #[T,T,T,T,T,T,T,T,T,T,T,T,T,T,T,N,N,N] rfl rfl (take_ofW HT_.out HW_.out (by kernel_rfl)) (fun _ _ _ h => h) (Or.inl ⟨by rfl, ?_⟩) hHeld ?_ ?_
       rotate_left
       ·rintro w' ⟨s0, s1, s2, s3, s4, s5, s6, s7, s8⟩
        go_simp
        with_reducible rfl
       rotate_left
       ·simp only [Act.put, List.setIfInBounds_toArray, List.set_cons_zero, List.set_cons_succ, i64_w, i32_w]
        rfl
       refine join_ (σ := Value × Nat) 1 #[T,T,T,T,T,T,T,T,T,T,T,T,T,T,T,T,T,N] (fun s_ => [(56, s_.1), (9, .pointer (some ⟨s_.2, 0, none⟩))]) (fun s_ w' => (w'.cell? ⟨gb103, 0, none⟩ = some (.int .i64 ((rd_T60 l1 x13_1).f0)) ∧ w'.cell? ⟨gb103, 1, none⟩ = some (.int .i64 ((rd_T60 l1 x13_1).f1)) ∧ w'.cell? ⟨gb103, 2, none⟩ = some (.int .i64 ((rd_T60 l1 x13_1).f2)) ∧ w'.cell? (ad104.add ((((rd_T60 l1 x13_1).f0)).toNat * 2)) = some (.int .i64 ((rd_T41 l0 ((rd_T60 l1 x13_1).f0)).f0)) ∧ w'.cell? ⟨(ad104.add ((((rd_T60 l1 x13_1).f0)).toNat * 2)).block, (ad104.add ((((rd_T60 l1 x13_1).f0)).toNat * 2)).off + 1, none⟩ = some (.int .i64 ((rd_T41 l0 ((rd_T60 l1 x13_1).f0)).f1)) ∧ w'.cell? (ad104.add ((((rd_T60 l1 x13_1).f1)).toNat * 2)) = some (.int .i64 ((rd_T41 l0 ((rd_T60 l1 x13_1).f1)).f0)) ∧ w'.cell? ⟨(ad104.add ((((rd_T60 l1 x13_1).f1)).toNat * 2)).block, (ad104.add ((((rd_T60 l1 x13_1).f1)).toNat * 2)).off + 1, none⟩ = some (.int .i64 ((rd_T41 l0 ((rd_T60 l1 x13_1).f1)).f1)) ∧ w'.cell? (ad104.add ((((rd_T60 l1 x13_1).f2)).toNat * 2)) = some (.int .i64 ((rd_T41 l0 ((rd_T60 l1 x13_1).f2)).f0)) ∧ w'.cell? ⟨(ad104.add ((((rd_T60 l1 x13_1).f2)).toNat * 2)).block, (ad104.add ((((rd_T60 l1 x13_1).f2)).toNat * 2)).off + 1, none⟩ = some (.int .i64 ((rd_T41 l0 ((rd_T60 l1 x13_1).f2)).f1))) ∧ (Kd.S (Kd.slice 41 k41) 22 w' w.heap.size (fun k_ => True ∧ (some k_ ≠ s_.1.ownBlock ∧ k_ ≠ s_.2)) u6 x6_1) ∧ (Kd.R k41 41 w' w.heap.size (fun _ => True) s_.1 y107) ∧ (w'.heap[gb103]? = some (.cells #[.int .i64 ((rd_T60 l1 x13_1).f0), .int .i64 ((rd_T60 l1 x13_1).f1), .int .i64 ((rd_T60 l1 x13_1).f2)] 60 (0, 0))) ∧ (w'.heap[s_.2]? = some (.cells #[.slice none 0 0] 22 (0, 0))) ∧ (w.heap.size ≤ s_.2) ∧ (Below w.heap.size w w')) ?_ ?_
       rotate_left
       ·intro hCont
        refine two_ (i := 15) (j := 16) (Ni := some 56) (Nj := some 9) #[T,T,T,T,T,T,T,T,T,T,T,T,T,T,T,T,N,N] #[T,T,T,T,T,T,T,T,T,T,T,T,T,T,T,N,T,N] rfl rfl rfl rfl (on2 HT_) (by decide) (by decide) (fun K hK => ?_) (fun K hK => ?_)
        ·skip
         refine Kd.R_lit_step k41 _ 41 ?hg (N := 56) ?hd (xs := ([(⟨(rd_T41 l0 ((rd_T60 l1 x13_1).f0)).f0, (rd_T41 l0 ((rd_T60 l1 x13_1).f0)).f1⟩ : S41), (⟨(rd_T41 l0 ((rd_T60 l1 x13_1).f1)).f0, (rd_T41 l0 ((rd_T60 l1 x13_1).f1)).f1⟩ : S41), (⟨(rd_T41 l0 ((rd_T60 l1 x13_1).f2)).f0, (rd_T41 l0 ((rd_T60 l1 x13_1).f2)).f1⟩ : S41)] : List (S41))) (inner := [.int .i64 ((rd_T41 l0 ((rd_T60 l1 x13_1).f0)).f0), .int .i64 ((rd_T41 l0 ((rd_T60 l1 x13_1).f0)).f1), .int .i64 ((rd_T41 l0 ((rd_T60 l1 x13_1).f1)).f0), .int .i64 ((rd_T41 l0 ((rd_T60 l1 x13_1).f1)).f1), .int .i64 ((rd_T41 l0 ((rd_T60 l1 x13_1).f2)).f0), .int .i64 ((rd_T41 l0 ((rd_T60 l1 x13_1).f2)).f1)]) (ok := fun _ => True) (okp := fun _ => True) ?hr ?hp (fun _ hk => hk) trivial (Below.refl _ _) (Nat.le_refl _) (by simp) ?_; (case hd => rfl); (case hg => rfl); (case hr => first | (go_simp; done) | (go_simp; rfl)); (case hp => exact (Reps.c2 (show Kd.M k41 _ _ _ (⟨(rd_T41 l0 ((rd_T60 l1 x13_1).f0)).f0, (rd_T41 l0 ((rd_T60 l1 x13_1).f0)).f1⟩ : S41) [.int .i64 ((rd_T41 l0 ((rd_T60 l1 x13_1).f0)).f0), .int .i64 ((rd_T41 l0 ((rd_T60 l1 x13_1).f0)).f1)] from (k41_mkM _ _ _ (⟨(rd_T41 l0 ((rd_T60 l1 x13_1).f0)).f0, (rd_T41 l0 ((rd_T60 l1 x13_1).f0)).f1⟩ : S41) )) (Reps.c2 (show Kd.M k41 _ _ _ (⟨(rd_T41 l0 ((rd_T60 l1 x13_1).f1)).f0, (rd_T41 l0 ((rd_T60 l1 x13_1).f1)).f1⟩ : S41) [.int .i64 ((rd_T41 l0 ((rd_T60 l1 x13_1).f1)).f0), .int .i64 ((rd_T41 l0 ((rd_T60 l1 x13_1).f1)).f1)] from (k41_mkM _ _ _ (⟨(rd_T41 l0 ((rd_T60 l1 x13_1).f1)).f0, (rd_T41 l0 ((rd_T60 l1 x13_1).f1)).f1⟩ : S41) )) (Reps.c2 (show Kd.M k41 _ _ _ (⟨(rd_T41 l0 ((rd_T60 l1 x13_1).f2)).f0, (rd_T41 l0 ((rd_T60 l1 x13_1).f2)).f1⟩ : S41) [.int .i64 ((rd_T41 l0 ((rd_T60 l1 x13_1).f2)).f0), .int .i64 ((rd_T41 l0 ((rd_T60 l1 x13_1).f2)).f1)] from (k41_mkM _ _ _ (⟨(rd_T41 l0 ((rd_T60 l1 x13_1).f2)).f0, (rd_T41 l0 ((rd_T60 l1 x13_1).f2)).f1⟩ : S41) )) (Reps.none _ _)))))
         intro v108 w27 ho28 hb hg_ hnew_
         clear hg_ hnew_
         (first | rw [← Ny107.out] at ho28 | (simp only [Int.reduceToNat] at ho28; rw [← Ny107.out] at ho28))
         have HO109 := Aside0.mk (Kd.R_lower ho28 (below_size bh))
         replace HO_6 := Aside0.mk (Kd.S_elder' (so HO_6) (Kd.R_base ho28) hb)
         replace BK103 := kb BK103 hb
         replace HB := bz hb
         clear hb ho28
         refine hK.out _ _ ⟨bc BK103 0, bc BK103 1, bc BK103 2, (hc HB hw104_0), (hc HB hw104_1), (hc HB hw105_0), (hc HB hw105_1), (hc HB hw106_0), (hc HB hw106_1)⟩ (fun hHeld => ?_)
         clear hK K
         refine nm 56 ?_
         refine one_ (i := 16) (N := some 9) #[T,T,T,T,T,T,T,T,T,T,T,T,T,T,T,T,T,N] rfl rfl (on1 HT_) (by decide) (fun K hK => ?_)
         refine bxs 9 #[.slice none 0 0] 22 ?_
         intro gbx hg w28 hbox hb
         have n0_ := Aside0.mk (Kd.S_below (S_elderB HO_6.out gbx (Nat.le_of_eq hg.symm)) hb)
         have n1_ := Aside0.mk (Kd.R_below HO109.out hb)
         have n2_ := kb BK103 hb
         have n4_ := Aside0.mk ((by rw [hg]; exact (below_size bh)) : w.heap.size ≤ gbx)
         have n3_ := bz hb
         clear HO_6 HO109 BK103 HB
         have HO_6 := n0_
         have HO109 := n1_
         have BK103 := n2_
         have HB := n3_
         have GEX := n4_
         clear n0_ n1_ n2_ n3_ n4_
         clear hb hg
         refine hK.out _ _ ⟨bc BK103 0, bc BK103 1, bc BK103 2, (hc HB hw104_0), (hc HB hw104_1), (hc HB hw105_0), (hc HB hw105_1), (hc HB hw106_0), (hc HB hw106_1)⟩ (fun hHeld => ?_)
         clear hK K
         refine nm 9 ?_
         exact norm_ pa (hCont (v108, gbx) _ ⟨hHeld, Kd.S_mono HO_6.out (fun k_ hk => ⟨trivial, hk.1.2, hk.2⟩), HO109.out, BK103.out, hbox, GEX.out, HB.out⟩)
        ·skip
         refine bxs 9 #[.slice none 0 0] 22 ?_
         intro gbx hg w27 hbox hb
         have n0_ := Aside0.mk (Kd.S_below (S_elderB (so HO_6) gbx (Nat.le_of_eq hg.symm)) hb)
         have n2_ := kb BK103 hb
         have n4_ := Aside0.mk ((by rw [hg]; exact (below_size bh)) : w.heap.size ≤ gbx)
         have n3_ := bz hb
         clear HO_6 BK103 HB
         have HO_6 := n0_
         have BK103 := n2_
         have HB := n3_
         have GEX := n4_
         have BKX := Aside0.mk hbox
         clear n0_ n2_ n3_ n4_
         clear hb hg hbox
         refine hK.out _ _ ⟨bc BK103 0, bc BK103 1, bc BK103 2, (hc HB hw104_0), (hc HB hw104_1), (hc HB hw105_0), (hc HB hw105_1), (hc HB hw106_0), (hc HB hw106_1)⟩ (fun hHeld => ?_)
         clear hK K
         refine nm 9 ?_
         refine one_ (i := 15) (N := some 56) #[T,T,T,T,T,T,T,T,T,T,T,T,T,T,T,T,T,N] rfl rfl (on1 HT_) (by decide) (fun K hK => ?_)
         refine Kd.R_lit_step k41 _ 41 ?hg (N := 56) ?hd (xs := ([(⟨(rd_T41 l0 ((rd_T60 l1 x13_1).f0)).f0, (rd_T41 l0 ((rd_T60 l1 x13_1).f0)).f1⟩ : S41), (⟨(rd_T41 l0 ((rd_T60 l1 x13_1).f1)).f0, (rd_T41 l0 ((rd_T60 l1 x13_1).f1)).f1⟩ : S41), (⟨(rd_T41 l0 ((rd_T60 l1 x13_1).f2)).f0, (rd_T41 l0 ((rd_T60 l1 x13_1).f2)).f1⟩ : S41)] : List (S41))) (inner := [.int .i64 ((rd_T41 l0 ((rd_T60 l1 x13_1).f0)).f0), .int .i64 ((rd_T41 l0 ((rd_T60 l1 x13_1).f0)).f1), .int .i64 ((rd_T41 l0 ((rd_T60 l1 x13_1).f1)).f0), .int .i64 ((rd_T41 l0 ((rd_T60 l1 x13_1).f1)).f1), .int .i64 ((rd_T41 l0 ((rd_T60 l1 x13_1).f2)).f0), .int .i64 ((rd_T41 l0 ((rd_T60 l1 x13_1).f2)).f1)]) (ok := fun _ => True) (okp := fun _ => True) ?hr ?hp (fun _ hk => hk) trivial (Below.refl _ _) (Nat.le_refl _) (by simp) ?_; (case hd => rfl); (case hg => rfl); (case hr => first | (go_simp; done) | (go_simp; rfl)); (case hp => exact (Reps.c2 (show Kd.M k41 _ _ _ (⟨(rd_T41 l0 ((rd_T60 l1 x13_1).f0)).f0, (rd_T41 l0 ((rd_T60 l1 x13_1).f0)).f1⟩ : S41) [.int .i64 ((rd_T41 l0 ((rd_T60 l1 x13_1).f0)).f0), .int .i64 ((rd_T41 l0 ((rd_T60 l1 x13_1).f0)).f1)] from (k41_mkM _ _ _ (⟨(rd_T41 l0 ((rd_T60 l1 x13_1).f0)).f0, (rd_T41 l0 ((rd_T60 l1 x13_1).f0)).f1⟩ : S41) )) (Reps.c2 (show Kd.M k41 _ _ _ (⟨(rd_T41 l0 ((rd_T60 l1 x13_1).f1)).f0, (rd_T41 l0 ((rd_T60 l1 x13_1).f1)).f1⟩ : S41) [.int .i64 ((rd_T41 l0 ((rd_T60 l1 x13_1).f1)).f0), .int .i64 ((rd_T41 l0 ((rd_T60 l1 x13_1).f1)).f1)] from (k41_mkM _ _ _ (⟨(rd_T41 l0 ((rd_T60 l1 x13_1).f1)).f0, (rd_T41 l0 ((rd_T60 l1 x13_1).f1)).f1⟩ : S41) )) (Reps.c2 (show Kd.M k41 _ _ _ (⟨(rd_T41 l0 ((rd_T60 l1 x13_1).f2)).f0, (rd_T41 l0 ((rd_T60 l1 x13_1).f2)).f1⟩ : S41) [.int .i64 ((rd_T41 l0 ((rd_T60 l1 x13_1).f2)).f0), .int .i64 ((rd_T41 l0 ((rd_T60 l1 x13_1).f2)).f1)] from (k41_mkM _ _ _ (⟨(rd_T41 l0 ((rd_T60 l1 x13_1).f2)).f0, (rd_T41 l0 ((rd_T60 l1 x13_1).f2)).f1⟩ : S41) )) (Reps.none _ _)))))
         intro v108 w28 ho28 hb hg_ hnew_
         clear hg_ hnew_
         (first | rw [← Ny107.out] at ho28 | (simp only [Int.reduceToNat] at ho28; rw [← Ny107.out] at ho28))
         have n0_ := Aside0.mk (Kd.S_elder' HO_6.out (Kd.R_base ho28) hb)
         have n1_ := Aside0.mk (Kd.R_lower ho28 (below_size bh))
         have n2_ := kb BK103 hb
         have n4_ := Aside0.mk (blk_below BKX.out hb)
         have n3_ := bz hb
         clear HO_6 BK103 HB BKX
         have HO_6 := n0_
         have HO109 := n1_
         have BK103 := n2_
         have HB := n3_
         have BKX := n4_
         clear n0_ n1_ n2_ n3_ n4_
         clear hb ho28
         refine hK.out _ _ ⟨bc BK103 0, bc BK103 1, bc BK103 2, (hc HB hw104_0), (hc HB hw104_1), (hc HB hw105_0), (hc HB hw105_1), (hc HB hw106_0), (hc HB hw106_1)⟩ (fun hHeld => ?_)
         clear hK K
         refine nm 56 ?_
         exact norm_ pa (hCont (v108, gbx) _ ⟨hHeld, Kd.S_mono HO_6.out (fun k_ hk => ⟨trivial, hk.2, hk.1.2⟩), HO109.out, BK103.out, BKX.out, GEX.out, HB.out⟩)
       rintro ⟨v108, gbx⟩ w27 ⟨hS_, h0_, h1_, h2_, h3_, h4_, h5_⟩
       have hHeld := hS_
       clear hS_ HO_6 BK103 HB
       have HO_6 : Aside0 (Kd.S (Kd.slice 41 k41) 22 w27 w.heap.size (fun k_ => True ∧ (some k_ ≠ v108.ownBlock ∧ k_ ≠ gbx)) u6 x6_1) := ⟨h0_⟩
       have HO109 : Aside0 (Kd.R k41 41 w27 w.heap.size (fun _ => True) v108 y107) := ⟨h1_⟩
       have BK103 := Aside0.mk h2_
       have BKX := Aside0.mk h3_
       have GEX : Aside0 (w.heap.size ≤ gbx) := ⟨h4_⟩
       have HB : Aside0 (Below w.heap.size w w27) := ⟨h5_⟩
       clear h0_ h1_ h2_ h3_ h4_ h5_
       refine nn ?_
       obtain ⟨Ao29, co29, eo29⟩ := Kd.R_slice HO109.out
       subst eo29
       refine one_ (i := 17) (N := none) #[T,T,T,T,T,T,T,T,T,T,T,T,T,T,T,T,T,T] rfl rfl (on1 HT_) (by decide) (fun K hK => ?_)
       have hfx := blk_frozen BKX.out 0
       have hcx0 : w27.cell? ⟨gbx, 0, none⟩ = some (.slice none 0 0) := bc BKX 0
       refine skip_ (w1 := ?_) (by rfl) rfl ?_ ?_
       rotate_left
       ·go_simp
        rfl
       have hne103 : gb103 ≠ gbx := by intro e_; have h_ := BK103.out; rw [e_, BKX.out] at h_; simp at h_
       have n0_ := Aside0.mk (Kd.S_mono (Kd.S_far (p := ⟨gbx, 0, none⟩) HO_6.out (fun k_ hk => hk.2.2) (.slice Ao29 y107.length co29)) (fun _ hk => hk))
       have n1_ := Aside0.mk (Kd.R_mono (Kd.R_far (p := ⟨gbx, 0, none⟩) (Kd.R_mono (Kd.R_bound HO109.out) (fun k_ hk => (⟨hk.1, by intro e_; obtain ⟨_, _, _, q_, hq_, cells_, hc_⟩ := hk; rw [e_, BKX.out] at hc_; injection hc_ with hc_; injection hc_ with _ hc_ _; rw [← hc_] at hq_; revert hq_; decide⟩ : _ ∧ k_ ≠ gbx))) (fun _ hk => hk.2) (.slice Ao29 y107.length co29)) (fun _ hk => hk.1))
       have n2_ := Aside0.mk (blk_put (cs := #[.slice none 0 0]) BKX.out 0 (.slice Ao29 y107.length co29) rfl)
       have n3_ := Aside0.mk (blk_far BK103.out hne103 (p := ⟨gbx, 0, none⟩) (.slice Ao29 y107.length co29))
       have n4_ := Aside0.mk (below_set (j := 0) (v := .slice Ao29 y107.length co29) HB.out GEX.out)
       clear HO_6 HO109 BKX BK103 HB
       have HO_6 := n0_
       have HO109 := n1_
       have BKX := n2_
       have BK103 := n3_
       have HB := n4_
       clear n0_ n1_ n2_ n3_ n4_ hcx0 hfx
       refine hK.out _ _ ⟨bc BK103 0, bc BK103 1, bc BK103 2, (hc HB hw104_0), (hc HB hw104_1), (hc HB hw105_0), (hc HB hw105_1), (hc HB hw106_0), (hc HB hw106_1)⟩ (fun hHeld => ?_)
       clear hK K
       clear hHeld
       skip
       refine done_ (done_of HT_.out (by kernel_rfl)) ?_
       have hcxI : World.cell? _ ⟨gbx, 0, none⟩ = some (.slice Ao29 y107.length co29) := bc BKX 0
       go_upto_block 2 with (first | ((with_reducible refine gc 55 rfl ?_); refine goesL_ (some 58) rfl rfl Try.func55 (by kernel_rfl) rfl #[.slice Ao29 y107.length co29] rfl sg ?_; (with_reducible refine (shape_area2.calls kj5 _ _ y107 t110 _ ?side1 ?side2 A23.out).mono ?_); (case side1 => exact cs (Kd.R_reads' HO109.out).2.2); (case side2 => exact (Kd.R_reads' HO109.out).2.1); rintro e w30 ⟨rfl, hb⟩; refine ⟨_, rfl, ?_⟩; replace HO_6 := Aside0.mk (Kd.S_below (so HO_6) hb); replace HO109 := Aside0.mk (Kd.R_below (ro HO109) hb); replace BKX := kb BKX hb; replace HB := bz hb; have hcxw30 : w30.cell? ⟨gbx, 0, none⟩ = some (.slice Ao29 y107.length co29) := bc BKX 0; (try clear hb)) | ((with_reducible refine gc 82 rfl ?_); refine goesL_ (some 59) rfl rfl Try.func82 (by kernel_rfl) rfl #[.int .i64 t110] rfl sg ?_; (with_reducible refine (shape_sign.calls t110 t111 _ A24.out).mono ?_); rintro e w' ⟨rfl, ⟨nd, rfl⟩⟩; refine ⟨_, rfl, ?_⟩))
       (try simp only [Act.put, List.setIfInBounds_toArray, List.set_cons_zero, List.set_cons_succ])
       go_cut [] (fun wc => ∃ (kq : Nat) (x9_24 : List (S41)), Aside0 (shape_shows.j2 kq l0 l1 x5_1 x6_1 x9_24 l1 (l1.length : Int) x13_1 = some r) ∧ Aside0 (kq ≤ kj5) ∧ Aside0 (Kd.S (Kd.slice 41 k41) 22 wc w.heap.size (fun k_ => some k_ ≠ ((.slice Ao29 y107.length co29) : Value).ownBlock ∧ k_ ≠ gbx) u6 x6_1) ∧ Aside0 (Kd.R k41 41 wc w.heap.size (fun _ => True) (.slice Ao29 y107.length co29) x9_24) ∧ Aside0 (wc.heap[gbx]? = some (.cells #[.slice Ao29 y107.length co29] 22 (0, 0))) ∧ Aside0 (Below w.heap.size w wc))
       case first =>
        have H := HC25.out
        clear HC25
        by_cases c31 : t111 = 0
        ·rw [if_pos c31] at H
         have c31b0 : (t111 == 0) = true := beq_iff_eq.mpr c31
         have c31b1 : (t111 != 0) = false := bne_eq_false_iff_eq.mpr c31
         clear c31
         (first | rw [c31b0] | (simp only [i64_w, i32_w]; rw [c31b0]) | skip)
         have H' := Aside0.mk H
         clear H
         go_wp2
         go_roundg kj5
         case measure => have := HK1.out; have := HJ5.out; omega
         case rel => exact ⟨(x5_1), (x6_1), (wrap64 (x13_1 + 1)), sd, sd, H', ⟨by have := HK1.out; have := HJ5.out; omega⟩, ⟨by (with_reducible repeat (first | apply Kd.S_alloc | apply Kd.S_drewN | apply Kd.S_drew)); exact Kd.S_mono HO_6.out (fun _ hk => trivial)⟩, ⟨bh⟩⟩
        ·rw [if_neg c31] at H
         have c31b0 : (t111 == 0) = false := beq_eq_false_iff_ne.mpr c31
         have c31b1 : (t111 != 0) = true := bne_iff_ne.mpr c31
         (first | rw [c31b0] | (simp only [i64_w, i32_w]; rw [c31b0]) | skip)
         by_cases c32 : t111 = (-1)
         ·rw [if_pos c32] at H
          have c32b0 : (t111 == (-1)) = true := beq_iff_eq.mpr c32
          have c32b1 : (t111 != (-1)) = false := bne_eq_false_iff_eq.mpr c32
          clear c32
          obtain ⟨c33, H⟩ := oi H
          have c33b0 := decide_eq_true c33
          have c33b1 : decide (2 < y107.length) = true := decide_eq_true (by omega)
          clear c33
          obtain ⟨c34, H⟩ := oi H
          have c34b0 := decide_eq_true c34
          have c34b1 : decide (1 < y107.length) = true := decide_eq_true (by omega)
          clear c34
          obtain ⟨y114, hy114⟩ : ∃ y_ : List (S41), y_ = (y107.set (1 : Int).toNat (⟨(rd_T41 y107 2).f0, (rd_T41 y107 2).f1⟩ : S41)) := ⟨_, rfl⟩
          replace H : (shape_shows.j2 kj5 l0 l1 x5_1 x6_1 (y114.set (2 : Int).toNat (⟨(rd_T41 y107 1).f0, (rd_T41 y107 1).f1⟩ : S41)) l1 (l1.length : Int) x13_1) = some r := by first | (rw [hy114]; with_reducible exact H) | (have H2_ := (Option.bind_some _ _).symm.trans H; rw [hy114]; with_reducible exact H2_) | (have H2_ := (Option.bind_some _ _).symm.trans H; with_reducible exact H2_) | with_reducible exact H | (rw [hy114]; exact H) | exact H
          have Ny114 := Aside0.mk hy114
          clear hy114
          obtain ⟨y115, hy115⟩ : ∃ y_ : List (S41), y_ = (y114.set (2 : Int).toNat (⟨(rd_T41 y107 1).f0, (rd_T41 y107 1).f1⟩ : S41)) := ⟨_, rfl⟩
          replace H : (shape_shows.j2 kj5 l0 l1 x5_1 x6_1 y115 l1 (l1.length : Int) x13_1) = some r := by first | (rw [hy115]; with_reducible exact H) | (have H2_ := (Option.bind_some _ _).symm.trans H; rw [hy115]; with_reducible exact H2_) | (have H2_ := (Option.bind_some _ _).symm.trans H; with_reducible exact H2_) | with_reducible exact H | (rw [hy115]; exact H) | exact H
          have Ny115 := Aside0.mk hy115
          clear hy115
          have H' := Aside0.mk H
          clear H
          try go_wp2
          replace HO_6 := Aside0.mk (Kd.S_drew (Kd.S_drewN HO_6.out nd))
          replace HO109 := Aside0.mk (Kd.R_drew (Kd.R_drewN HO109.out nd))
          replace BKX := Aside0.mk (blk_drew (blk_drewN BKX.out nd))
          replace HB := Aside0.mk (below_drew1 (pw_below_drewN HB.out nd))
          have p112 : 0 ≤ (2 : Int) := (by omega)
          have q112 : 2 < (y107.length : Int) := dt
          obtain ⟨ad112, e112, hx112_0, hx112_1⟩ := at_T41 (Kd.R_reads' HO109.out).2.2 2 p112 q112
          cases e112
          (try simp only [show (2 : Int).toNat = 2 from rfl, Nat.reduceMul, Nat.reduceEqDiff, Go.Addr.add, ↓reduceIte] at hx112_0)
          (try simp only [show (2 : Int).toNat = 2 from rfl, Nat.reduceMul, Nat.reduceEqDiff, Go.Addr.add, ↓reduceIte] at hx112_1)
          have qi112 : (2 < y107.length) = True := eq_true (by omega)
          (try rw [show ((2 : Int)).toNat = 2 from rfl] at hx112_0)
          (try rw [show 2 * 2 = 4 from rfl] at hx112_0)
          (try rw [show ((2 : Int)).toNat = 2 from rfl] at hx112_1)
          (try rw [show 2 * 2 = 4 from rfl] at hx112_1)
          replace p112 := eq_true p112
          replace q112 := eq_true q112
          have p113 : 0 ≤ (1 : Int) := (by omega)
          have q113 : 1 < (y107.length : Int) := dt
          obtain ⟨ad113, e113, hx113_0, hx113_1⟩ := at_T41 (Kd.R_reads' HO109.out).2.2 1 p113 q113
          obtain rfl : ad112 = ad113 := (by injection e113)
          (try simp only [show (1 : Int).toNat = 1 from rfl, Nat.reduceMul, Nat.reduceEqDiff, Go.Addr.add, ↓reduceIte] at hx113_0)
          (try simp only [show (1 : Int).toNat = 1 from rfl, Nat.reduceMul, Nat.reduceEqDiff, Go.Addr.add, ↓reduceIte] at hx113_1)
          have qi113 : (1 < y107.length) = True := eq_true (by omega)
          (try rw [show ((1 : Int)).toNat = 1 from rfl] at hx113_0)
          (try rw [show 1 * 2 = 2 from rfl] at hx113_0)
          (try rw [show ((1 : Int)).toNat = 1 from rfl] at hx113_1)
          (try rw [show 1 * 2 = 2 from rfl] at hx113_1)
          replace p113 := eq_true p113
          replace q113 := eq_true q113
          have p35 : 0 ≤ (1 : Int) := (by omega)
          have q35 : (1 : Int) < ((y107.length : Int) : Int) := dt
          have qi35 : (1 < y107.length) = True := eq_true (by omega)
          obtain ⟨go35, co35, eo35, gb35, gl35, cl35, HG35⟩ := Kd.R_form HO109.out (by omega)
          (first | cases eo35 | (injection eo35 with ea_ en_ ec_; (first | subst ea_ | (injection ea_ with ea_; subst ea_)); subst ec_; clear en_))
          have GB35 := Aside0.mk gb35
          have GG35 := Aside0.mk HG35
          clear gb35 gl35 HG35
          (first | simp only [add_plain] at hx112_0 | skip)
          (first | simp only [add_plain] at hx112_1 | skip)
          (first | simp only [add_plain] at hx113_0 | skip)
          (first | simp only [add_plain] at hx113_1 | skip)
          obtain ⟨ce35, hcl35, hM35, hcc35, hfr35⟩ := Kd.R_elem HO109.out z41 (1 : Int) p35 q35
          obtain rfl := k41_openM hM35
          have hx35_0 : World.cell? _ ⟨go35, (1 : Int).toNat * 2, none⟩ = some (.int .i64 ((rd_T41 y107 1).f0)) := hcc35 0 _ rfl
          have hx35_1 : World.cell? _ ⟨go35, (1 : Int).toNat * 2 + 1, none⟩ = some (.int .i64 ((rd_T41 y107 1).f1)) := hcc35 1 _ rfl
          have hf35_0 : World.frozen? _ ⟨go35, (1 : Int).toNat * 2, none⟩ = false := hfr35 0
          have hf35_1 : World.frozen? _ ⟨go35, (1 : Int).toNat * 2 + 1, none⟩ = false := hfr35 1
          clear hcl35 hcc35 hfr35 hM35
          (try rw [show ((1 : Int)).toNat = 1 from rfl] at hx35_0)
          (try simp only [Nat.reduceMul, Nat.zero_mul, Nat.zero_add, Nat.reduceAdd] at hx35_0)
          (try rw [show ((1 : Int)).toNat = 1 from rfl] at hf35_0)
          (try simp only [Nat.reduceMul, Nat.zero_mul, Nat.zero_add, Nat.reduceAdd] at hf35_0)
          (try rw [show ((1 : Int)).toNat = 1 from rfl] at hx35_1)
          (try simp only [Nat.reduceMul, Nat.zero_mul, Nat.zero_add, Nat.reduceAdd] at hx35_1)
          (try rw [show ((1 : Int)).toNat = 1 from rfl] at hf35_1)
          (try simp only [Nat.reduceMul, Nat.zero_mul, Nat.zero_add, Nat.reduceAdd] at hf35_1)
          replace p35 := eq_true p35
          replace q35 := eq_true q35
          obtain ⟨ce38, hcl38, hM38, hcc38, hfr38⟩ := Kd.R_elem HO109.out z41 (1 : Int) (by omega) (by have h_ : (1 : Int) < ((y107.length : Int) : Int) := dt; first | exact h_ | (have e_ := (Kd.R_reads' HO109.out).1; omega) | simpa using h_)
          obtain rfl := k41_openM hM38
          have HP38 := (Kd.R_seg HO109.out (1 : Int) (by omega) (by have h_ : (1 : Int) < ((y107.length : Int) : Int) := dt; first | exact h_ | (have e_ := (Kd.R_reads' HO109.out).1; omega) | simpa using h_) (seg := [.int .i64 ((rd_T41 y107 2).f0), .int .i64 ((rd_T41 y107 2).f1)]) (j := 0) hcl38 hcc38 (show 2 ≤ 2 from by decide) (x' := (⟨(rd_T41 y107 2).f0, (rd_T41 y107 2).f1⟩ : S41)) (k41_mkM _ _ _ (⟨(rd_T41 y107 2).f0, (rd_T41 y107 2).f1⟩ : S41) ) (fun _ hk => hk)).1
          rw [← Ny114.out] at HP38
          have HQ38 := Aside0.mk HP38
          clear hcl38 hcc38 hfr38 hM38 HP38
          have p36 : 0 ≤ (2 : Int) := (by omega)
          have q36 : (2 : Int) < ((y107.length : Int) : Int) := dt
          have qi36 : (2 < y107.length) = True := eq_true (by omega)
          obtain ⟨ce36, hcl36, hM36, hcc36, hfr36⟩ := Kd.R_elem HQ38.out z41 (2 : Int) p36 q36
          obtain rfl := k41_openM hM36
          have hx36_0 : World.cell? _ ⟨go35, (2 : Int).toNat * 2, none⟩ = some (.int .i64 ((rd_T41 y114 2).f0)) := hcc36 0 _ rfl
          have hx36_1 : World.cell? _ ⟨go35, (2 : Int).toNat * 2 + 1, none⟩ = some (.int .i64 ((rd_T41 y114 2).f1)) := hcc36 1 _ rfl
          have hf36_0 : World.frozen? _ ⟨go35, (2 : Int).toNat * 2, none⟩ = false := hfr36 0
          have hf36_1 : World.frozen? _ ⟨go35, (2 : Int).toNat * 2 + 1, none⟩ = false := hfr36 1
          clear hcl36 hcc36 hfr36 hM36
          (try rw [show ((2 : Int)).toNat = 2 from rfl] at hx36_0)
          (try simp only [Nat.reduceMul, Nat.zero_mul, Nat.zero_add, Nat.reduceAdd] at hx36_0)
          (try rw [show ((2 : Int)).toNat = 2 from rfl] at hf36_0)
          (try simp only [Nat.reduceMul, Nat.zero_mul, Nat.zero_add, Nat.reduceAdd] at hf36_0)
          (try rw [show ((2 : Int)).toNat = 2 from rfl] at hx36_1)
          (try simp only [Nat.reduceMul, Nat.zero_mul, Nat.zero_add, Nat.reduceAdd] at hx36_1)
          (try rw [show ((2 : Int)).toNat = 2 from rfl] at hf36_1)
          (try simp only [Nat.reduceMul, Nat.zero_mul, Nat.zero_add, Nat.reduceAdd] at hf36_1)
          replace p36 := eq_true p36
          replace q36 := eq_true q36
          obtain ⟨ce39, hcl39, hM39, hcc39, hfr39⟩ := Kd.R_elem HQ38.out z41 (2 : Int) (by omega) (by have h_ : (2 : Int) < ((y107.length : Int) : Int) := dt; first | exact h_ | (have e_ := (Kd.R_reads' HO109.out).1; omega) | simpa using h_)
          obtain rfl := k41_openM hM39
          have HP39 := (Kd.R_seg HQ38.out (2 : Int) (by omega) (by have h_ : (2 : Int) < ((y107.length : Int) : Int) := dt; first | exact h_ | (have e_ := (Kd.R_reads' HO109.out).1; omega) | simpa using h_) (seg := [.int .i64 ((rd_T41 y107 1).f0), .int .i64 ((rd_T41 y107 1).f1)]) (j := 0) hcl39 hcc39 (show 2 ≤ 2 from by decide) (x' := (⟨(rd_T41 y107 1).f0, (rd_T41 y107 1).f1⟩ : S41)) (k41_mkM _ _ _ (⟨(rd_T41 y107 1).f0, (rd_T41 y107 1).f1⟩ : S41) ) (fun _ hk => hk)).1
          rw [← Ny115.out] at HP39
          have HQ39 := Aside0.mk HP39
          clear hcl39 hcc39 hfr39 hM39 HP39
          have hnx : gbx ≠ go35 := by have h_ := Kd.R_ne HO109.out BKX.out (by decide); intro e_; exact h_ (by rw [e_]; rfl)
          refine start_ (n := 12) (S := fun w' => w'.cell? ⟨gbx, 0, none⟩ = some (.slice (some ⟨go35, 0, none⟩) y107.length co29)) (ds := []) #[N,N,N,N,N,N,N,N,N,N,N,N] (by kernel_rfl) rfl rfl (bc BKX 0) (fun hHeld => ?_); refine with_tabW shape_shows.tab12 shape_shows.bits12 (fun HT_ HW_ => ?_)
          generalize (w30.drewN nd).drew = w37 at HO_6 HO109 BKX HB GG35 HQ38 HQ39 hf35_0 hf35_1 hf36_0 hf36_1 hx112_0 hx112_1 hx113_0 hx113_1 hx35_0 hx35_1 hx36_0 hx36_1 hHeld ⊢
          have hcc_ := GG35.out
          have hf2_ := blk_frozen hcc_ 2
          have hf3_ := blk_frozen hcc_ 3
          have hf4_ := blk_frozen hcc_ 4
          have hf5_ := blk_frozen hcc_ 5
          clear hcc_
          refine take_ (i := 0) (N := some 64) (v := ?_) (a' := ?_) #[T,N,N,N,N,N,N,N,N,N,N,N] rfl rfl (take_ofW HT_.out HW_.out (by kernel_rfl)) (fun _ _ _ h => h) (Or.inl ⟨by rfl, ?_⟩) hHeld ?_ ?_
          rotate_left
          ·rintro w' s0
           go_simp
           with_reducible rfl
          rotate_left
          ·simp only [Act.put, List.setIfInBounds_toArray, List.set_cons_zero, List.set_cons_succ, i64_w, i32_w]
           rfl
          refine take_ (i := 1) (N := some 65) (v := ?_) (a' := ?_) #[T,T,N,N,N,N,N,N,N,N,N,N] rfl rfl (take_ofW HT_.out HW_.out (by kernel_rfl)) (fun _ _ _ h => h) (Or.inl ⟨by rfl, ?_⟩) hHeld ?_ ?_
          rotate_left
          ·rintro w' s0
           go_simp
           with_reducible rfl
          rotate_left
          ·simp only [Act.put, List.setIfInBounds_toArray, List.set_cons_zero, List.set_cons_succ, i64_w, i32_w]
           rfl
          refine take_ (i := 2) (N := some 66) (v := ?_) (a' := ?_) #[T,T,T,N,N,N,N,N,N,N,N,N] rfl rfl (take_ofW HT_.out HW_.out (by kernel_rfl)) (fun _ _ _ h => h) (Or.inl ⟨by rfl, ?_⟩) hHeld ?_ ?_
          rotate_left
          ·rintro w' s0
           go_simp
           with_reducible rfl
          rotate_left
          ·simp only [Act.put, List.setIfInBounds_toArray, List.set_cons_zero, List.set_cons_succ, i64_w, i32_w]
           rfl
          refine take_ (i := 5) (N := some 69) (v := ?_) (a' := ?_) #[T,T,T,N,N,T,N,N,N,N,N,N] rfl rfl (take_ofW HT_.out HW_.out (by kernel_rfl)) (fun _ _ _ h => h) (Or.inl ⟨by rfl, ?_⟩) hHeld ?_ ?_
          rotate_left
          ·rintro w' s0
           go_simp
           with_reducible rfl
          rotate_left
          ·simp only [Act.put, List.setIfInBounds_toArray, List.set_cons_zero, List.set_cons_succ, i64_w, i32_w]
           rfl
          refine pu 3 67 HT_ ?_
          refine pu 6 70 HT_ ?_
          refine join_ (σ := Unit) 4 #[T,T,T,T,T,T,T,T,N,N,N,N] (fun _ => [(68, .agg #[.int .i64 ((rd_T41 y107 2).f0), .int .i64 ((rd_T41 y107 2).f1)]), (71, .agg #[.int .i64 ((rd_T41 y107 1).f0), .int .i64 ((rd_T41 y107 1).f1)])]) (fun _ w' => w37 = w' ∧ w'.cell? ⟨gbx, 0, none⟩ = some (.slice (some ⟨go35, 0, none⟩) y107.length co29)) ?_ ?_
          rotate_left
          ·intro hCont
           refine two_ (i := 4) (j := 7) (Ni := some 68) (Nj := some 71) #[T,T,T,T,T,T,T,N,N,N,N,N] #[T,T,T,T,N,T,T,T,N,N,N,N] rfl rfl rfl rfl (on2 HT_) (by decide) (by decide) (fun K hK => ?_) (fun K hK => ?_)
           ·skip
            refine load_ (v := ?_) (by rfl) rfl ?_ ?_
            rotate_left
            ·go_simp
             with_reducible rfl
            refine hK.out _ _ hHeld (fun hHeld => ?_)
            clear hK K
            refine nm 68 ?_
            refine one_ (i := 7) (N := some 71) #[T,T,T,T,T,T,T,T,N,N,N,N] rfl rfl (on1 HT_) (by decide) (fun K hK => ?_)
            refine load_ (v := ?_) (by rfl) rfl ?_ ?_
            rotate_left
            ·go_simp
             with_reducible rfl
            refine hK.out _ _ hHeld (fun hHeld => ?_)
            clear hK K
            refine nm 71 ?_
            exact norm_ pa (hCont () _ ⟨rfl, hHeld⟩)
           ·skip
            refine load_ (v := ?_) (by rfl) rfl ?_ ?_
            rotate_left
            ·go_simp
             with_reducible rfl
            refine hK.out _ _ hHeld (fun hHeld => ?_)
            clear hK K
            refine nm 71 ?_
            refine one_ (i := 4) (N := some 68) #[T,T,T,T,T,T,T,T,N,N,N,N] rfl rfl (on1 HT_) (by decide) (fun K hK => ?_)
            refine load_ (v := ?_) (by rfl) rfl ?_ ?_
            rotate_left
            ·go_simp
             with_reducible rfl
            refine hK.out _ _ hHeld (fun hHeld => ?_)
            clear hK K
            refine nm 68 ?_
            exact norm_ pa (hCont () _ ⟨rfl, hHeld⟩)
          rintro _ w_ ⟨e_, hHeld⟩
          subst e_
          refine nn ?_
          refine pu 8 72 HT_ ?_
          refine one_ (i := 9) (N := none) #[T,T,T,T,T,T,T,T,T,T,N,N] rfl rfl (on1 HT_) (by decide) (fun K hK => ?_)
          refine skip_ (w1 := ?_) (by rfl) rfl ?_ ?_
          rotate_left
          ·go_simp
           rfl
          refine hK.out _ _ ((blk_cell (blk_far (blk_far BKX.out hnx _) hnx _) 0).trans rfl) (fun hHeld => ?_)
          clear hK K
          refine pu 10 73 HT_ ?_
          refine one_ (i := 11) (N := none) #[T,T,T,T,T,T,T,T,T,T,T,T] rfl rfl (on1 HT_) (by decide) (fun K hK => ?_)
          refine skip_ (w1 := ?_) (by rfl) rfl ?_ ?_
          rotate_left
          ·go_simp
           rfl
          refine hK.out _ _ ((blk_cell (blk_far (blk_far (blk_far (blk_far BKX.out hnx _) hnx _) hnx _) hnx _) 0).trans rfl) (fun hHeld => ?_)
          clear hK K
          refine done_ (done_of HT_.out (by kernel_rfl)) ?_
          try go_wp2
          go_meet
          case rel => exact ⟨_, (y115), H', ⟨by have := HK1.out; have := HJ5.out; first | omega | exact Nat.le_refl _⟩, ⟨by (with_reducible repeat (first | apply Kd.S_alloc | apply Kd.S_drewN | apply Kd.S_drew)); exact Kd.S_mono (Kd.S_far (p := ⟨go35, 5, none⟩) (Kd.S_far (p := ⟨go35, 4, none⟩) (Kd.S_far (p := ⟨go35, 3, none⟩) (Kd.S_far (p := ⟨go35, 2, none⟩) (Kd.S_mono HO_6.out (fun k_ hk => (⟨hk, fun e_ => hk.2.1 (by rw [e_]; rfl)⟩ : _ ∧ k_ ≠ go35))) (fun _ hk => hk.2) (.int .i64 ((rd_T41 y107 2).f0))) (fun _ hk => hk.2) (.int .i64 ((rd_T41 y107 2).f1))) (fun _ hk => hk.2) (.int .i64 ((rd_T41 y107 1).f0))) (fun _ hk => hk.2) (.int .i64 ((rd_T41 y107 1).f1))) (fun _ hk => hk.1.2)⟩, ⟨ro HQ39⟩, ⟨by refine bd ?_; refine blk_far ?_ (by have h_ := Kd.R_ne HO109.out BKX.out (by decide); intro e_; exact h_ (by rw [e_]; rfl)) _; refine bd ?_; refine blk_far ?_ (by have h_ := Kd.R_ne HO109.out BKX.out (by decide); intro e_; exact h_ (by rw [e_]; rfl)) _; refine bd ?_; refine blk_far ?_ (by have h_ := Kd.R_ne HO109.out BKX.out (by decide); intro e_; exact h_ (by rw [e_]; rfl)) _; refine bd ?_; refine blk_far ?_ (by have h_ := Kd.R_ne HO109.out BKX.out (by decide); intro e_; exact h_ (by rw [e_]; rfl)) _; refine bd ?_; exact BKX.out⟩, ⟨by repeat (first | (with_reducible first | exact HB.out | apply below_alloc | apply pw_below_drewN | apply below_drew1 | refine below_set ?_ GB35.out | refine below_set ?_ GB35.out | refine below_set ?_ GB35.out | refine below_set ?_ GB35.out | refine below_set ?_ GEX.out) | exact HB.out)⟩⟩
         ·rw [if_neg c32] at H
          have c32b0 : (t111 == (-1)) = false := beq_eq_false_iff_ne.mpr c32
          have c32b1 : (t111 != (-1)) = true := bne_iff_ne.mpr c32
          have H' := Aside0.mk H
          clear H
          go_wp2
          go_meet
          case rel => exact ⟨_, (y107), H', ⟨by have := HK1.out; have := HJ5.out; first | omega | exact Nat.le_refl _⟩, ⟨by (with_reducible repeat (first | apply Kd.S_alloc | apply Kd.S_drewN | apply Kd.S_drew)); exact Kd.S_mono HO_6.out (fun _ hk => hk.2)⟩, ⟨ro HO109⟩, ⟨bk BKX⟩, ⟨bh⟩⟩
       case rest =>
        clear HC25
        (try clear c16); (try clear c17b0); (try clear c18b0); (try clear c19b0); (try clear c20b0); (try clear c21b0); (try clear c22b0); (try clear hx104_0); (try clear hx104_1); (try clear hx105_0); (try clear hx105_1); (try clear hx106_0); (try clear hx106_1); (try clear p104); (try clear p105); (try clear p106); (try clear q104); (try clear q105); (try clear q106)
        obtain ⟨kq, x9_24, HA, HJ24, HO_6, HO_9, BKX, HB⟩ := hcut
        have hl9_24 := (Kd.R_reads' HO_9.out).1
        rw [hl9_24] at HO_9
        (try simp only [hl9_24])
        (try simp only [hl9_24] at BKX)
        (try simp only [hl9_24] at HO_6)
        cases kq with
        | zero => exact absurd HA.out (by simp [shape_shows.j2])
        | succ kj24 =>
         have H := HA.out
         clear HA
         simp only [shape_shows.j2] at H
         replace H := Option.bind_eq_some_iff.mp H
         obtain ⟨t116, A400, H⟩ := H
         try dsimp only at H
         have A40 := Aside0.mk A400
         clear A400
         by_cases c41 : t116 = true
         ·subst c41
          rw [if_pos rfl] at H
          replace H := Option.bind_eq_some_iff.mp H
          obtain ⟨t117, A420, H⟩ := H
          try dsimp only at H
          have A42 := Aside0.mk A420
          clear A420
          by_cases c43 : t117 = true
          ·subst c43
           rw [if_pos rfl] at H
           obtain rfl := Option.some.inj H
           have hcxI : World.cell? _ ⟨gbx, 0, none⟩ = some (.slice Ao29 x9_24.length co29) := bc BKX 0
           go_wp2_with (first | ((with_reducible refine gc 83 rfl ?_); refine goesL_ (some 76) rfl rfl Try.func83 (by kernel_rfl) rfl #[.slice (some ad104) l0.length c0, .slice Ao29 x9_24.length co29] rfl sg ?_; (with_reducible refine (shape_inside.calls kj24 _ _ l0 _ _ x9_24 true _ ?side1 ?side2 ?side3 ?side4 A40.out).mono ?_); (case side1 => exact cs (Kd.C_below HR0.out HB.out)); (case side2 => exact HC0.out); (case side3 => exact cs (Kd.R_reads' HO_9.out).2.2); (case side4 => exact (Kd.R_reads' HO_9.out).2.1); rintro e w44 ⟨rfl, hb⟩; refine ⟨_, rfl, ?_⟩; replace HO_6 := Aside0.mk (Kd.S_below (so HO_6) hb); replace HO_9 := Aside0.mk (Kd.R_below (ro HO_9) hb); replace BKX := kb BKX hb; replace HB := bz hb; have hcxw44 : w44.cell? ⟨gbx, 0, none⟩ = some (.slice Ao29 x9_24.length co29) := bc BKX 0; (try clear hb); obtain ⟨Ao45, co45, eo45⟩ := Kd.S_slice HO_6.out; subst eo45) | (go_at_call 84; (with_reducible refine (shows_any.calls kj24 gbx _ _ _ _ x9_24 x6_1 true _ (bk BKX) ?sx1 (Kd.R_reads' HO_9.out).2.1 ?side1 ?side2 A42.out).mono ?_); (case sx1 => repeat (first | exact (Kd.R_reads' HO_9.out).2.2 | (with_reducible refine Kd.C_alloc ?_ _) | (with_reducible refine Kd.C_drewN ?_ _) | (with_reducible refine Kd.C_drew ?_))); (case side1 => exact cs (Kd.S_reads' HO_6.out).2.2); (case side2 => exact (Kd.S_reads' HO_6.out).2.1); rintro e w46 ⟨rfl, hb⟩; replace HO_6 := Aside0.mk (Kd.S_below (so HO_6) hb); replace HO_9 := Aside0.mk (Kd.R_below (ro HO_9) hb); replace BKX := kb BKX hb; replace HB := bz hb; have hcxw46 : w46.cell? ⟨gbx, 0, none⟩ = some (.slice Ao29 x9_24.length co29) := bc BKX 0; (try clear hb)))
           go_ret
           exact ⟨by exact er, bh⟩
          ·replace c43 := Bool.eq_false_iff.mpr c43
           subst c43
           rw [if_neg (show ¬ (false = true) by decide)] at H
           obtain ⟨c47, H⟩ := oi H
           have LMc47 := Aside0.mk c47
           clear c47
           obtain ⟨y118, hy118⟩ : ∃ y_ : List (List (S41)), y_ = (x6_1 ++ [x9_24]) := ⟨_, rfl⟩
           replace H : ((shape_area2.f kj24 x9_24).bind fun t121 => (shape_shows.l0 kj24 l0 l1 (wrap64 (x5_1 + t121)) y118 l1 (l1.length : Int) (wrap64 (x13_1 + 1)))) = some r := by first | (rw [hy118]; with_reducible exact H) | (have H2_ := (Option.bind_some _ _).symm.trans H; rw [hy118]; with_reducible exact H2_) | (have H2_ := (Option.bind_some _ _).symm.trans H; with_reducible exact H2_) | with_reducible exact H | (rw [hy118]; exact H) | exact H
           have Ny118 := Aside0.mk hy118
           clear hy118
           replace H := Option.bind_eq_some_iff.mp H
           obtain ⟨t121, A480, H⟩ := H
           try dsimp only at H
           have A48 := Aside0.mk A480
           clear A480
           have H' := Aside0.mk H
           clear H
           have hcxI : World.cell? _ ⟨gbx, 0, none⟩ = some (.slice Ao29 x9_24.length co29) := bc BKX 0
           go_wp2_with (first | ((with_reducible refine gc 83 rfl ?_); refine goesL_ (some 76) rfl rfl Try.func83 (by kernel_rfl) rfl #[.slice (some ad104) l0.length c0, .slice Ao29 x9_24.length co29] rfl sg ?_; (with_reducible refine (shape_inside.calls kj24 _ _ l0 _ _ x9_24 true _ ?side1 ?side2 ?side3 ?side4 A40.out).mono ?_); (case side1 => exact cs (Kd.C_below HR0.out HB.out)); (case side2 => exact HC0.out); (case side3 => exact cs (Kd.R_reads' HO_9.out).2.2); (case side4 => exact (Kd.R_reads' HO_9.out).2.1); rintro e w49 ⟨rfl, hb⟩; refine ⟨_, rfl, ?_⟩; replace HO_6 := Aside0.mk (Kd.S_below (so HO_6) hb); replace HO_9 := Aside0.mk (Kd.R_below (ro HO_9) hb); replace BKX := kb BKX hb; replace HB := bz hb; have hcxw49 : w49.cell? ⟨gbx, 0, none⟩ = some (.slice Ao29 x9_24.length co29) := bc BKX 0; (try clear hb); obtain ⟨Ao50, co50, eo50⟩ := Kd.S_slice HO_6.out; subst eo50) | (go_at_call 84; (with_reducible refine (shows_any.calls kj24 gbx _ _ _ _ x9_24 x6_1 false _ (bk BKX) ?sx1 (Kd.R_reads' HO_9.out).2.1 ?side1 ?side2 A42.out).mono ?_); (case sx1 => repeat (first | exact (Kd.R_reads' HO_9.out).2.2 | (with_reducible refine Kd.C_alloc ?_ _) | (with_reducible refine Kd.C_drewN ?_ _) | (with_reducible refine Kd.C_drew ?_))); (case side1 => exact cs (Kd.S_reads' HO_6.out).2.2); (case side2 => exact (Kd.S_reads' HO_6.out).2.1); rintro e w51 ⟨rfl, hb⟩; replace HO_6 := Aside0.mk (Kd.S_below (so HO_6) hb); replace HO_9 := Aside0.mk (Kd.R_below (ro HO_9) hb); replace BKX := kb BKX hb; replace HB := bz hb; have hcxw51 : w51.cell? ⟨gbx, 0, none⟩ = some (.slice Ao29 x9_24.length co29) := bc BKX 0; (try clear hb)) | ((with_reducible refine gate_builtin (b := .append) (xs := #[.tmp 83, .tmp 85]) rfl ?_); (try (refine gate_guard (by rfl) ?_; dsimp only)); at_builtin; refine Kd.S_append (Kd.slice 41 k41) (w0 := w) w.heap.size rfl (.tmp 83) (.tmp 85) 32 22 (.slice none 0 0) 24 rfl Try.underlying32 info22 rfl (by decide) (by omega) (.slice Ao50 x6_1.length co50) x6_1 x9_24 [.slice Ao29 x9_24.length co29] (fun _ => True) (fun k_ => some k_ = (.slice Ao29 x9_24.length co29 : Value).ownBlock) rfl rfl ?aP (fun k_ hk_ => ((Kd.R_mono (ok' := fun k_ => ((fun _ => True)) k_ ∧ some k_ ≠ (.slice Ao50 x6_1.length co50 : Value).ownBlock) (Kd.R_apart' (HO_9.out) (Kd.S_typed HO_6.out) (by decide)) (fun k_ hk => ⟨trivial, hk.2⟩))).1 k_ hk_.symm) ?aF ?aO ?aB ?aS ?aL ?_; (case aP => exact Kd.M_row (Kd.R_mono (Kd.R_tight rfl (Kd.R_mono (ok' := fun k_ => ((fun _ => True)) k_ ∧ some k_ ≠ (.slice Ao50 x6_1.length co50 : Value).ownBlock) (Kd.R_apart' (HO_9.out) (Kd.S_typed HO_6.out) (by decide)) (fun k_ hk => ⟨trivial, hk.2⟩))) (fun _ h_ => h_))); (case aB => exact bh); (case aF => exact (fun _ _ => trivial)); (case aO => exact (by (with_reducible repeat (first | apply Kd.S_alloc | apply Kd.S_drewN | apply Kd.S_drew)); exact Kd.S_mono HO_6.out (fun k_ hk => ⟨trivial, fun e_ => hk.1 e_⟩))); (case aS => exact (below_size bh)); (case aL => have := LMc47.out; omega); intro v119 w52 ho hb hg hat; rw [← Ny118.out] at ho; have HO120 := Aside0.mk (ho); replace BKX := Aside0.mk (blk_grown (g := gbx) (o := .cells #[.slice Ao29 x9_24.length co29] 22 (0, 0)) (bk BKX) hg (S_away HO_6.out (fun k_ hk => hk.2))); replace HB := Aside0.mk (hb); replace HO_9 := Aside0.mk (Kd.R_over' (ro HO_9) (Kd.S_typed (so HO_6)) (by decide) hg); clear HO_6; have hcxw52 : w52.cell? ⟨gbx, 0, none⟩ = some (.slice Ao29 x9_24.length co29) := bc BKX 0; clear ho hb hg hat) | ((with_reducible refine gc 55 rfl ?_); refine goesL_ (some 89) rfl rfl Try.func55 (by kernel_rfl) rfl #[.slice Ao29 x9_24.length co29] rfl sg ?_; (with_reducible refine (shape_area2.calls kj24 _ _ x9_24 t121 _ ?side1 ?side2 A48.out).mono ?_); (case side1 => exact cs (Kd.R_reads' HO_9.out).2.2); (case side2 => exact (Kd.R_reads' HO_9.out).2.1); rintro e w53 ⟨rfl, hb⟩; refine ⟨_, rfl, ?_⟩; replace HO120 := Aside0.mk (Kd.S_below (so HO120) hb); replace BKX := kb BKX hb; replace HB := bz hb; have hcxw53 : w53.cell? ⟨gbx, 0, none⟩ = some (.slice Ao29 x9_24.length co29) := bc BKX 0; (try clear hb)))
           (try simp only [← hl9_24])
           go_roundg kj24
           case measure => have := HK1.out; have := HJ5.out; have := HJ24.out; omega
           case rel => exact ⟨(wrap64 (x5_1 + t121)), (y118), (wrap64 (x13_1 + 1)), sd, sd, H', ⟨by have := HK1.out; have := HJ5.out; have := HJ24.out; omega⟩, ⟨by (try simp only [hl9_24]); (with_reducible repeat (first | apply Kd.S_alloc | apply Kd.S_drewN | apply Kd.S_drew)); exact HO120.out⟩, ⟨bh⟩⟩
         ·replace c41 := Bool.eq_false_iff.mpr c41
          subst c41
          rw [if_neg (show ¬ (false = true) by decide)] at H
          obtain rfl := Option.some.inj H
          have hcxI : World.cell? _ ⟨gbx, 0, none⟩ = some (.slice Ao29 x9_24.length co29) := bc BKX 0
          go_wp2_with (first | ((with_reducible refine gc 83 rfl ?_); refine goesL_ (some 76) rfl rfl Try.func83 (by kernel_rfl) rfl #[.slice (some ad104) l0.length c0, .slice Ao29 x9_24.length co29] rfl sg ?_; (with_reducible refine (shape_inside.calls kj24 _ _ l0 _ _ x9_24 false _ ?side1 ?side2 ?side3 ?side4 A40.out).mono ?_); (case side1 => exact cs (Kd.C_below HR0.out HB.out)); (case side2 => exact HC0.out); (case side3 => exact cs (Kd.R_reads' HO_9.out).2.2); (case side4 => exact (Kd.R_reads' HO_9.out).2.1); rintro e w54 ⟨rfl, hb⟩; refine ⟨_, rfl, ?_⟩; replace HO_6 := Aside0.mk (Kd.S_below (so HO_6) hb); replace HO_9 := Aside0.mk (Kd.R_below (ro HO_9) hb); replace BKX := kb BKX hb; replace HB := bz hb; have hcxw54 : w54.cell? ⟨gbx, 0, none⟩ = some (.slice Ao29 x9_24.length co29) := bc BKX 0; (try clear hb)))
          go_ret
          exact ⟨by exact er, bh⟩
   ·rw [if_neg c3] at H
    have c3b0 := decide_eq_false c3
    clear c3
    replace H := Option.bind_eq_some_iff.mp H
    obtain ⟨t101, A550, H⟩ := H
    try dsimp only at H
    have A55 := Aside0.mk A550
    clear A550
    by_cases c56 : (l1.length : Int) = (wrap64 ((l0.length : Int) - 2))
    ·rw [if_pos c56] at H
     have c56b0 : ((l1.length : Int) == (wrap64 ((l0.length : Int) - 2))) = true := beq_iff_eq.mpr c56
     have c56b1 : ((l1.length : Int) != (wrap64 ((l0.length : Int) - 2))) = false := bne_eq_false_iff_eq.mpr c56
     clear c56
     obtain ⟨ji57, hji57⟩ : ∃ j_ : Int, (mx t101 (wrap64 (-t101))) = j_ := ⟨_, rfl⟩
     first | rw [hji57] at H | simp only [hji57] at H
     (try rw [hji57] at A55)
     have hji57_ : (if t101 < (wrap64 (-t101)) then (wrap64 (-t101)) else t101) = ji57 := hji57
     obtain rfl := Option.some.inj H
     go_wp2_with (first | ((with_reducible refine gc 55 rfl ?_); refine goesL_ (some 93) rfl rfl Try.func55 (by kernel_rfl) rfl #[.slice A0 l0.length c0] rfl sg ?_; (with_reducible refine (shape_area2.calls k1 _ _ l0 t101 _ ?side1 ?side2 A55.out).mono ?_); (case side1 => exact cs (Kd.C_below HR0.out HB.out)); (case side2 => exact HC0.out); rintro e w58 ⟨rfl, hb⟩; refine ⟨_, rfl, ?_⟩; replace HO_6 := Aside0.mk (Kd.S_below (so HO_6) hb); replace HB := bz hb; (try clear hb)))
     go_ret
     exact ⟨by first | rfl | (simp [errW_none, errW_some] <;> rfl) | (simp only [← hji57]; first | rfl | (simp [errW_none, errW_some] <;> rfl)) | (simp [*, errW_none, errW_some] <;> rfl), bh⟩
    ·rw [if_neg c56] at H
     have c56b0 : ((l1.length : Int) == (wrap64 ((l0.length : Int) - 2))) = false := beq_eq_false_iff_ne.mpr c56
     have c56b1 : ((l1.length : Int) != (wrap64 ((l0.length : Int) - 2))) = true := bne_iff_ne.mpr c56
     obtain rfl := Option.some.inj H
     go_wp2_with (first | ((with_reducible refine gc 55 rfl ?_); refine goesL_ (some 93) rfl rfl Try.func55 (by kernel_rfl) rfl #[.slice A0 l0.length c0] rfl sg ?_; (with_reducible refine (shape_area2.calls k1 _ _ l0 t101 _ ?side1 ?side2 A55.out).mono ?_); (case side1 => exact cs (Kd.C_below HR0.out HB.out)); (case side2 => exact HC0.out); rintro e w59 ⟨rfl, hb⟩; refine ⟨_, rfl, ?_⟩; replace HO_6 := Aside0.mk (Kd.S_below (so HO_6) hb); replace HB := bz hb; (try clear hb)))
     go_ret
     exact ⟨by exact er, bh⟩
/-! ### shape_Shows: function 10 -/
def shape_Shows.f (k : Nat) (l0 : List (S41)) (l1 : List (S60)) : Option (Bool × Int) := (shape_refused_simple.f k l0).bind fun t101 => (if t101 = 0 then ((shape_shows.f k l0 l1).bind fun t102 => (some (t102, 0))) else (some (false, t101)))
set_option maxHeartbeats 8000000 in
set_option maxRecDepth 100000 in
theorem shape_Shows.calls (k : Nat) (A0 : Option Addr) (c0 : Nat) (l0 : List (S41)) (A1 : Option Addr) (c1 : Nat) (l1 : List (S60)) (r1 : Bool) (r2 : Int) (w : World) (hr0 : Kd.C k41 w A0 l0.length l0) (hc0 : l0.length ≤ c0) (hr1 : Kd.C k60 w A1 l1.length l1) (hc1 : l1.length ≤ c1) (h : shape_Shows.f k l0 l1 = some (r1, r2)) :
  Calls Try.prog 10 #[.slice A0 l0.length c0, .slice A1 l1.length c1] w fun e w' => e = .returned (.tuple #[.bool r1, .int .i64 r2]) ∧ Below w.heap.size w w' := by
 have HR0 := Aside0.mk hr0
 have HC0 := Aside0.mk hc0
 clear hr0 hc0
 have HR1 := Aside0.mk hr1
 have HC1 := Aside0.mk hc1
 clear hr1 hc1
 have HB := Aside0.mk (Below.refl w.heap.size w)
 have H : ((shape_refused_simple.f k l0).bind fun t101 => (if t101 = 0 then ((shape_shows.f k l0 l1).bind fun t102 => (some (t102, 0))) else (some (false, t101)))) = some (r1, r2) := h
 clear h
 replace H := Option.bind_eq_some_iff.mp H
 obtain ⟨t101, A30, H⟩ := H
 replace H : (if t101 = 0 then ((shape_shows.f k l0 l1).bind fun t102 => (some (t102, 0))) else (some (false, t101))) = some (r1, r2) := H
 have A3 := Aside0.mk A30
 clear A30
 by_cases c4 : t101 = 0
 ·rw [if_pos c4] at H
  have c4b0 : (t101 == 0) = true := beq_iff_eq.mpr c4
  have c4b1 : (t101 != 0) = false := bne_eq_false_iff_eq.mpr c4
  clear c4
  replace H := Option.bind_eq_some_iff.mp H
  obtain ⟨t102, A50, H⟩ := H
  replace H : (some (t102, 0)) = some (r1, r2) := H
  have A5 := Aside0.mk A50
  clear A50
  simp only [Option.some.injEq, Prod.mk.injEq] at H
  obtain ⟨rfl, rfl⟩ := H
  go_enter Try.func10, Try.ntmps10
  go_wp2_with (first | ((with_reducible refine gc 36 rfl ?_); refine goesL_ (some 8) rfl rfl Try.func36 (by kernel_rfl) rfl #[.slice A0 l0.length c0, .func (.func 37) #[] #[]] rfl sg ?_; (with_reducible refine (shape_refused_simple.calls k _ _ l0  t101 _ ?side1 ?side2 A3.out).mono ?_); (case side1 => exact cs HR0.out); (case side2 => exact HC0.out); rintro e w6 ⟨rfl, hb⟩; refine ⟨_, rfl, ?_⟩; replace HB := bz hb; (try clear hb)) | ((with_reducible refine gc 38 rfl ?_); refine goesL_ (some 14) rfl rfl Try.func38 (by kernel_rfl) rfl #[.slice A0 l0.length c0, .slice A1 l1.length c1] rfl sg ?_; (with_reducible refine (shape_shows.calls k _ _ l0 _ _ l1 t102 _ ?side1 ?side2 ?side3 ?side4 A5.out).mono ?_); (case side1 => exact cs (Kd.C_below HR0.out HB.out)); (case side2 => exact HC0.out); (case side3 => exact cs (Kd.C_below HR1.out HB.out)); (case side4 => exact HC1.out); rintro e w7 ⟨rfl, hb⟩; refine ⟨_, rfl, ?_⟩; replace HB := bz hb; (try clear hb)))
  go_ret2
  exact ⟨by exact er, bh⟩
 ·rw [if_neg c4] at H
  have c4b0 : (t101 == 0) = false := beq_eq_false_iff_ne.mpr c4
  have c4b1 : (t101 != 0) = true := bne_iff_ne.mpr c4
  simp only [Option.some.injEq, Prod.mk.injEq] at H
  obtain ⟨rfl, rfl⟩ := H
  go_enter Try.func10, Try.ntmps10
  go_wp2_with (first | ((with_reducible refine gc 36 rfl ?_); refine goesL_ (some 8) rfl rfl Try.func36 (by kernel_rfl) rfl #[.slice A0 l0.length c0, .func (.func 37) #[] #[]] rfl sg ?_; (with_reducible refine (shape_refused_simple.calls k _ _ l0  t101 _ ?side1 ?side2 A3.out).mono ?_); (case side1 => exact cs HR0.out); (case side2 => exact HC0.out); rintro e w8 ⟨rfl, hb⟩; refine ⟨_, rfl, ?_⟩; replace HB := bz hb; (try clear hb)))
  go_ret2
  exact ⟨by exact er, bh⟩
/-! ### shape_Area2: function 29 -/
def shape_Area2.f (k : Nat) (l0 : List (S41)) : Option (Int × Int) := (shape_polygon.f l0).bind fun t101 => (if t101 = true then ((shape_area2.f k l0).bind fun t102 => (some (t102, 0))) else (some (0, 1)))
set_option maxHeartbeats 8000000 in
set_option maxRecDepth 100000 in
theorem shape_Area2.calls (k : Nat) (A0 : Option Addr) (c0 : Nat) (l0 : List (S41)) (r1 : Int) (r2 : Int) (w : World) (hr0 : Kd.C k41 w A0 l0.length l0) (hc0 : l0.length ≤ c0) (h : shape_Area2.f k l0 = some (r1, r2)) :
  Calls Try.prog 29 #[.slice A0 l0.length c0] w fun e w' => e = .returned (.tuple #[.int .i64 r1, .int .i64 r2]) ∧ Below w.heap.size w w' := by
 have HR0 := Aside0.mk hr0
 have HC0 := Aside0.mk hc0
 clear hr0 hc0
 have HB := Aside0.mk (Below.refl w.heap.size w)
 have H : ((shape_polygon.f l0).bind fun t101 => (if t101 = true then ((shape_area2.f k l0).bind fun t102 => (some (t102, 0))) else (some (0, 1)))) = some (r1, r2) := h
 clear h
 replace H := Option.bind_eq_some_iff.mp H
 obtain ⟨t101, A20, H⟩ := H
 replace H : (if t101 = true then ((shape_area2.f k l0).bind fun t102 => (some (t102, 0))) else (some (0, 1))) = some (r1, r2) := H
 have A2 := Aside0.mk A20
 clear A20
 by_cases c3 : t101 = true
 ·subst c3
  rw [if_pos rfl] at H
  replace H := Option.bind_eq_some_iff.mp H
  obtain ⟨t102, A40, H⟩ := H
  replace H : (some (t102, 0)) = some (r1, r2) := H
  have A4 := Aside0.mk A40
  clear A40
  simp only [Option.some.injEq, Prod.mk.injEq] at H
  obtain ⟨rfl, rfl⟩ := H
  go_enter Try.func29, Try.ntmps29
  go_wp2_with (first | ((with_reducible refine gc 71 rfl ?_); refine goesL_ (some 5) rfl rfl Try.func71 (by kernel_rfl) rfl #[.slice A0 l0.length c0] rfl sg ?_; (with_reducible refine (shape_polygon.calls _ _ l0 true _ ?side1 ?side2 A2.out).mono ?_); (case side1 => exact cs HR0.out); (case side2 => exact HC0.out); rintro e w5 ⟨rfl, hb⟩; refine ⟨_, rfl, ?_⟩; replace HB := bz hb; (try clear hb)) | ((with_reducible refine gc 55 rfl ?_); refine goesL_ (some 8) rfl rfl Try.func55 (by kernel_rfl) rfl #[.slice A0 l0.length c0] rfl sg ?_; (with_reducible refine (shape_area2.calls k _ _ l0 t102 _ ?side1 ?side2 A4.out).mono ?_); (case side1 => exact cs (Kd.C_below HR0.out HB.out)); (case side2 => exact HC0.out); rintro e w6 ⟨rfl, hb⟩; refine ⟨_, rfl, ?_⟩; replace HB := bz hb; (try clear hb)))
  go_ret2
  exact ⟨by exact er, bh⟩
 ·replace c3 := Bool.eq_false_iff.mpr c3
  subst c3
  rw [if_neg (show ¬ (false = true) by decide)] at H
  simp only [Option.some.injEq, Prod.mk.injEq] at H
  obtain ⟨rfl, rfl⟩ := H
  go_enter Try.func29, Try.ntmps29
  go_wp2_with (first | ((with_reducible refine gc 71 rfl ?_); refine goesL_ (some 5) rfl rfl Try.func71 (by kernel_rfl) rfl #[.slice A0 l0.length c0] rfl sg ?_; (with_reducible refine (shape_polygon.calls _ _ l0 false _ ?side1 ?side2 A2.out).mono ?_); (case side1 => exact cs HR0.out); (case side2 => exact HC0.out); rintro e w7 ⟨rfl, hb⟩; refine ⟨_, rfl, ?_⟩; replace HB := bz hb; (try clear hb)))
  go_ret2
  exact ⟨by exact er, bh⟩
attribute [local go_sem high] eqA41
/-! ### cracknelref04_Same: function 41 -/
def cracknelref04_Same.l0 : Nat → List (S41) → List (S41) → Int → Option (Bool)
 | 0, _, _, _ => none
 | k + 1, x0, x1, x5 => if x5 < (x0.length : Int) then (if 0 ≤ x5 then (if x5 < (x1.length : Int) then (if (!(((rd_T41 x0 x5).f0) == ((rd_T41 x1 x5).f0)) || (!(((rd_T41 x0 x5).f1) == ((rd_T41 x1 x5).f1)))) = true then (some false) else (cracknelref04_Same.l0 k x0 x1 (wrap64 (x5 + 1)))) else (none)) else (none)) else (some true)
def cracknelref04_Same.f (k : Nat) (l0 : List (S41)) (l1 : List (S41)) : Option (Bool) := if (l0.length : Int) = (l1.length : Int) then (cracknelref04_Same.l0 k l0 l1 0) else (some false)
set_option maxHeartbeats 8000000 in
set_option maxRecDepth 100000 in
theorem cracknelref04_Same.calls (k : Nat) (A0 : Option Addr) (c0 : Nat) (l0 : List (S41)) (A1 : Option Addr) (c1 : Nat) (l1 : List (S41)) (r : Bool) (w : World) (hr0 : Kd.C k41 w A0 l0.length l0) (hc0 : l0.length ≤ c0) (hr1 : Kd.C k41 w A1 l1.length l1) (hc1 : l1.length ≤ c1) (h : cracknelref04_Same.f k l0 l1 = some r) :
  Calls Try.prog 41 #[.slice A0 l0.length c0, .slice A1 l1.length c1] w fun e w' => e = .returned (.bool r) ∧ Drawn0 w w' := by
 have hu41 := Try.underlying41
 have HR0 := Aside0.mk hr0
 have HC0 := Aside0.mk hc0
 clear hr0 hc0
 have HR1 := Aside0.mk hr1
 have HC1 := Aside0.mk hc1
 clear hr1 hc1
 have H : (if (l0.length : Int) = (l1.length : Int) then (cracknelref04_Same.l0 k l0 l1 0) else (some false)) = some r := h
 clear h
 by_cases c3 : (l0.length : Int) = (l1.length : Int)
 ·rw [if_pos c3] at H
  have c3b0 : ((l0.length : Int) == (l1.length : Int)) = true := beq_iff_eq.mpr c3
  have c3b1 : ((l0.length : Int) != (l1.length : Int)) = false := bne_eq_false_iff_eq.mpr c3
  have c3b2 : (l0.length == l1.length) = true := by first | simpa using c3 | (simp at c3 ⊢; omega)
  clear c3
  have H' := Aside0.mk H
  clear H
  go_enter Try.func41, Try.ntmps41
  go_wp2
  repeat (go_quiet (fail); try go_wp2)
  go_loopg [5] k (fun kq v5 w' => ∃ (x5_1 : Int), v5 = .int .i64 x5_1 ∧ Aside0 (cracknelref04_Same.l0 kq l0 l1 x5_1 = some r) ∧ Aside0 (kq ≤ k) ∧ Drawn0 w w')
  case atStart => exact ⟨(0), sd, H', ⟨Nat.le_refl _⟩, by repeat (first | exact Drawn0.refl _ | apply Drawn0.step)⟩
  case round =>
   clear H'
   (try clear c1); (try clear c3b0); (try clear c3b1); (try clear c3b2)
   obtain ⟨x5_1, rfl, HA, HK1, ⟨m1, rfl⟩⟩ := hrel
   cases gk with
   | zero => exact absurd HA.out (by simp [cracknelref04_Same.l0])
   | succ k1 =>
    have H := HA.out
    clear HA
    simp only [cracknelref04_Same.l0] at H
    by_cases c4 : x5_1 < (l0.length : Int)
    ·rw [if_pos c4] at H
     have c4b0 := decide_eq_true c4
     clear c4
     obtain ⟨c5, H⟩ := oi H
     have c5b0 := decide_eq_true c5
     clear c5
     obtain ⟨c6, H⟩ := oi H
     have c6b0 := decide_eq_true c6
     clear c6
     by_cases c7 : (!(((rd_T41 l0 x5_1).f0) == ((rd_T41 l1 x5_1).f0)) || (!(((rd_T41 l0 x5_1).f1) == ((rd_T41 l1 x5_1).f1)))) = true
     ·rw [if_pos c7] at H
      have c7b0 : (!(((rd_T41 l0 x5_1).f0) == ((rd_T41 l1 x5_1).f0)) || (!(((rd_T41 l0 x5_1).f1) == ((rd_T41 l1 x5_1).f1)))) = true := c7
      clear c7
      obtain rfl := Option.some.inj H
      have p101 : 0 ≤ (x5_1 : Int) := dt
      have q101 : x5_1 < (l0.length : Int) := dt
      obtain ⟨ad101, e101, hx101_0, hx101_1⟩ := at_T41 HR0.out x5_1 p101 q101
      cases e101
      replace p101 := eq_true p101
      replace q101 := eq_true q101
      have p102 : 0 ≤ (x5_1 : Int) := dt
      have q102 : x5_1 < (l1.length : Int) := dt
      obtain ⟨ad102, e102, hx102_0, hx102_1⟩ := at_T41 HR1.out x5_1 p102 q102
      cases e102
      replace p102 := eq_true p102
      replace q102 := eq_true q102
      go_wp2
      repeat (go_quiet (fail); try go_wp2)
      go_ret
      exact ⟨by first | rfl | (simp; done) | (simp [*]; done), by repeat (first | exact Drawn0.refl _ | apply Drawn0.step)⟩
     ·rw [if_neg c7] at H
      have c7b0 : (!(((rd_T41 l0 x5_1).f0) == ((rd_T41 l1 x5_1).f0)) || (!(((rd_T41 l0 x5_1).f1) == ((rd_T41 l1 x5_1).f1)))) = false := by simpa using c7
      clear c7
      have H' := Aside0.mk H
      clear H
      have p101 : 0 ≤ (x5_1 : Int) := dt
      have q101 : x5_1 < (l0.length : Int) := dt
      obtain ⟨ad101, e101, hx101_0, hx101_1⟩ := at_T41 HR0.out x5_1 p101 q101
      cases e101
      replace p101 := eq_true p101
      replace q101 := eq_true q101
      have p102 : 0 ≤ (x5_1 : Int) := dt
      have q102 : x5_1 < (l1.length : Int) := dt
      obtain ⟨ad102, e102, hx102_0, hx102_1⟩ := at_T41 HR1.out x5_1 p102 q102
      cases e102
      replace p102 := eq_true p102
      replace q102 := eq_true q102
      go_wp2
      repeat (go_quiet (fail); try go_wp2)
      go_roundg k1
      case measure => have := HK1.out; omega
      case rel => exact ⟨(wrap64 (x5_1 + 1)), sd, H', ⟨by have := HK1.out; omega⟩, by repeat (first | exact Drawn0.refl _ | apply Drawn0.step)⟩
    ·rw [if_neg c4] at H
     have c4b0 := decide_eq_false c4
     clear c4
     obtain rfl := Option.some.inj H
     go_wp2
     repeat (go_quiet (fail); try go_wp2)
     go_ret
     exact ⟨by first | rfl | (simp; done) | (simp [*]; done), by repeat (first | exact Drawn0.refl _ | apply Drawn0.step)⟩
 ·rw [if_neg c3] at H
  have c3b0 : ((l0.length : Int) == (l1.length : Int)) = false := beq_eq_false_iff_ne.mpr c3
  have c3b1 : ((l0.length : Int) != (l1.length : Int)) = true := bne_iff_ne.mpr c3
  have c3b2 : (l0.length == l1.length) = false := by first | simpa using c3 | (simp at c3 ⊢; omega)
  obtain rfl := Option.some.inj H
  go_enter Try.func41, Try.ntmps41
  go_wp2
  repeat (go_quiet (fail); try go_wp2)
  go_ret
  exact ⟨by first | rfl | (simp; done) | (simp [*]; done), by repeat (first | exact Drawn0.refl _ | apply Drawn0.step)⟩
/-! ### shape_gcd: function 54 -/
def shape_gcd.l0 : Nat → Int → Int → Option (Int)
 | 0, _, _ => none
 | k + 1, x0, x1 => if x1 > 0 then (if x1 = 0 then (none) else (shape_gcd.l0 k x1 (Int.tmod x0 x1))) else (some x0)
def shape_gcd.f (k : Nat) (a0 : Int) (a1 : Int) : Option (Int) := shape_gcd.l0 k (mx a0 (wrap64 (-a0))) (mx a1 (wrap64 (-a1)))
set_option maxHeartbeats 8000000 in
set_option maxRecDepth 100000 in
theorem shape_gcd.calls (k : Nat) (a0 : Int) (a1 : Int) (r : Int) (w : World) (h : shape_gcd.f k a0 a1 = some r) :
  Calls Try.prog 54 #[.int .i64 a0, .int .i64 a1] w fun e w' => e = .returned (.int .i64 r) ∧ Below w.heap.size w w' := by
 have HB := Aside0.mk (Below.refl w.heap.size w)
 have H : (shape_gcd.l0 k (mx a0 (wrap64 (-a0))) (mx a1 (wrap64 (-a1)))) = some r := h
 clear h
 obtain ⟨ji3, hji3⟩ : ∃ j_ : Int, (mx a0 (wrap64 (-a0))) = j_ := ⟨_, rfl⟩
 first | rw [hji3] at H | simp only [hji3] at H
 have hji3_ : (if a0 < (wrap64 (-a0)) then (wrap64 (-a0)) else a0) = ji3 := hji3
 obtain ⟨ji4, hji4⟩ : ∃ j_ : Int, (mx a1 (wrap64 (-a1))) = j_ := ⟨_, rfl⟩
 first | rw [hji4] at H | simp only [hji4] at H
 have hji4_ : (if a1 < (wrap64 (-a1)) then (wrap64 (-a1)) else a1) = ji4 := hji4
 have H' := Aside0.mk H
 clear H
 go_enter Try.func54, Try.ntmps54
 go_wp2
 repeat (go_quiet (fail); try go_wp2)
 go_loopg [0, 1] k (fun kq v0 v1 w' => ∃ (x0_1 : Int) (x1_1 : Int), v0 = .int .i64 x0_1 ∧ v1 = .int .i64 x1_1 ∧ Aside0 (shape_gcd.l0 kq x0_1 x1_1 = some r) ∧ Aside0 (kq ≤ k) ∧ Aside0 (Below w.heap.size w w'))
 case atStart => exact ⟨(ji3), (ji4), (by first | rfl | (simp; done) | (simp only [← hji3] <;> (first | rfl | simp)) | (simp [*]; done)), (by first | rfl | (simp; done) | (simp only [← hji4] <;> (first | rfl | simp)) | (simp [*]; done)), H', ⟨Nat.le_refl _⟩, ⟨bh⟩⟩
 case round =>
  clear H'
  skip
  obtain ⟨x0_1, x1_1, rfl, rfl, HA, HK1, HB⟩ := hrel
  cases gk with
  | zero => exact absurd HA.out (by simp [shape_gcd.l0])
  | succ k1 =>
   have H := HA.out
   clear HA
   simp only [shape_gcd.l0] at H
   by_cases c5 : x1_1 > 0
   ·rw [if_pos c5] at H
    have c5b0 := decide_eq_true c5
    clear c5
    obtain ⟨c6, H⟩ := oj H
    have c6b0 : (x1_1 == 0) = false := beq_eq_false_iff_ne.mpr c6
    have c6b1 : (x1_1 != 0) = true := bne_iff_ne.mpr c6
    have H' := Aside0.mk H
    clear H
    go_wp2
    repeat (go_quiet (fail); try go_wp2)
    go_roundg k1
    case measure => have := HK1.out; omega
    case rel => exact ⟨(x1_1), (Int.tmod x0_1 x1_1), sd, sd, H', ⟨by have := HK1.out; omega⟩, ⟨bh⟩⟩
   ·rw [if_neg c5] at H
    have c5b0 := decide_eq_false c5
    clear c5
    obtain rfl := Option.some.inj H
    go_wp2
    repeat (go_quiet (fail); try go_wp2)
    go_ret
    exact ⟨by first | rfl | (simp [errW_none, errW_some] <;> rfl) | (simp only [← hji3, ← hji4]; first | rfl | (simp [errW_none, errW_some] <;> rfl)) | (simp [*, errW_none, errW_some] <;> rfl), bh⟩
/-! ### shape_Lattice: function 23 -/
def shape_Lattice.l0 : Nat → List (S41) → Int → Int → Int → Option (Int × Int × Int)
 | 0, _, _, _, _ => none
 | k + 1, x0, x6, x16, x17 => if x17 < x16 then (if (x0.length : Int) = 0 then (none) else (if 0 ≤ (Int.tmod (wrap64 (x17 + 1)) (x0.length : Int)) then (if (Int.tmod (wrap64 (x17 + 1)) (x0.length : Int)) < (x0.length : Int) then (if 0 ≤ x17 then (if x17 < (x0.length : Int) then ((shape_sub.f ((rd_T41 x0 (Int.tmod (wrap64 (x17 + 1)) (x0.length : Int))).f0) ((rd_T41 x0 (Int.tmod (wrap64 (x17 + 1)) (x0.length : Int))).f1) ((rd_T41 x0 x17).f0) ((rd_T41 x0 x17).f1)).bind fun bt105 => ((shape_gcd.f k bt105.1 bt105.2).bind fun t108 => (shape_Lattice.l0 k x0 (wrap64 (x6 + t108)) x16 (wrap64 (x17 + 1))))) else (none)) else (none)) else (none)) else (none))) else ((shape_area2.f k x0).bind fun t102 => (some (wrap64 (Int.tdiv (wrap64 ((wrap64 ((mx t102 (wrap64 (-t102))) - x6)) + 2)) 2), x6, 0)))
def shape_Lattice.f (k : Nat) (l0 : List (S41)) : Option (Int × Int × Int) := (shape_refused_simple.f k l0).bind fun t101 => (if t101 = 0 then (shape_Lattice.l0 k l0 0 (l0.length : Int) 0) else (some (0, 0, t101)))
def shape_Lattice.T8 : Bool × List (List Nat × List Nat) := (true, [([], []), ([], []), ([1], [1]), ([], []), ([3], [3]), ([2, 4], [2, 4]), ([0, 5], [0, 5]), ([6], [6]), ([], []), ([], []), ([8, 9], [8, 9]), ([10], [10]), ([7, 11], [7, 11]), ([], []), ([13, 12, 12, 0, 1, 2, 3, 4, 5, 6, 7, 8, 9, 10, 11, 12, 13], [12, 13])])
def shape_Lattice.B8 : List Nat := [0, 0, 2, 0, 8, 30, 63, 127, 0, 0, 768, 1792, 4095, 0, 16383]
theorem shape_Lattice.tab8 : rtab .any (opsOf Try.f23 8) = shape_Lattice.T8 := by kernel_rfl
theorem shape_Lattice.bits8 : waitsOk shape_Lattice.T8.2 shape_Lattice.B8 = true := by kernel_rfl
set_option maxHeartbeats 8000000 in
set_option maxRecDepth 100000 in
theorem shape_Lattice.calls (k : Nat) (A0 : Option Addr) (c0 : Nat) (l0 : List (S41)) (r1 : Int) (r2 : Int) (r3 : Int) (w : World) (hr0 : Kd.C k41 w A0 l0.length l0) (hc0 : l0.length ≤ c0) (h : shape_Lattice.f k l0 = some (r1, r2, r3)) :
  Calls Try.prog 23 #[.slice A0 l0.length c0] w fun e w' => e = .returned (.tuple #[.int .i64 r1, .int .i64 r2, .int .i64 r3]) ∧ Below w.heap.size w w' := by
 have hu41 := Try.underlying41
 have HR0 := Aside0.mk hr0
 have HC0 := Aside0.mk hc0
 clear hr0 hc0
 have HB := Aside0.mk (Below.refl w.heap.size w)
 have H : ((shape_refused_simple.f k l0).bind fun t101 => (if t101 = 0 then (shape_Lattice.l0 k l0 0 (l0.length : Int) 0) else (some (0, 0, t101)))) = some (r1, r2, r3) := h
 clear h
 replace H := Option.bind_eq_some_iff.mp H
 obtain ⟨t101, A20, H⟩ := H
 replace H : (if t101 = 0 then (shape_Lattice.l0 k l0 0 (l0.length : Int) 0) else (some (0, 0, t101))) = some (r1, r2, r3) := H
 have A2 := Aside0.mk A20
 clear A20
 by_cases c3 : t101 = 0
 ·rw [if_pos c3] at H
  have c3b0 : (t101 == 0) = true := beq_iff_eq.mpr c3
  have c3b1 : (t101 != 0) = false := bne_eq_false_iff_eq.mpr c3
  clear c3
  have H' := Aside0.mk H
  clear H
  go_enter Try.func23, Try.ntmps23
  go_wp2_with (first | ((with_reducible refine gc 36 rfl ?_); refine goesL_ (some 11) rfl rfl Try.func36 (by kernel_rfl) rfl #[.slice A0 l0.length c0, .func (.func 37) #[] #[]] rfl sg ?_; (with_reducible refine (shape_refused_simple.calls k _ _ l0  t101 _ ?side1 ?side2 A2.out).mono ?_); (case side1 => exact cs HR0.out); (case side2 => exact HC0.out); rintro e w4 ⟨rfl, hb⟩; refine ⟨_, rfl, ?_⟩; replace HB := bz hb; (try clear hb)))
  go_loopg [6, 17] k (fun kq v6 v17 w' => ∃ (x6_1 : Int) (x17_1 : Int), v6 = .int .i64 x6_1 ∧ v17 = .int .i64 x17_1 ∧ Aside0 (shape_Lattice.l0 kq l0 x6_1 (l0.length : Int) x17_1 = some (r1, r2, r3)) ∧ Aside0 (kq ≤ k) ∧ Aside0 (Below w.heap.size w w'))
  case atStart => exact ⟨(0), (0), sd, sd, H', ⟨Nat.le_refl _⟩, ⟨bh⟩⟩
  case round =>
   clear H'
   (try clear c3b0); (try clear c3b1)
   obtain ⟨x6_1, x17_1, rfl, rfl, HA, HK1, HB⟩ := hrel
   cases gk with
   | zero => exact absurd HA.out (by simp [shape_Lattice.l0])
   | succ k1 =>
    have H := HA.out
    clear HA
    simp only [shape_Lattice.l0] at H
    by_cases c5 : x17_1 < (l0.length : Int)
    ·rw [if_pos c5] at H
     have c5b0 := decide_eq_true c5
     clear c5
     obtain ⟨c6, H⟩ := oj H
     have c6b0 : ((l0.length : Int) == 0) = false := beq_eq_false_iff_ne.mpr c6
     have c6b1 : ((l0.length : Int) != 0) = true := bne_iff_ne.mpr c6
     have c6b2 : ¬ (l0 = []) := fun h_ => c6 (by rw [h_]; rfl)
     obtain ⟨ji7, hji7⟩ : ∃ j_ : Int, (Int.tmod (wrap64 (x17_1 + 1)) (l0.length : Int)) = j_ := ⟨_, rfl⟩
     replace H : (if 0 ≤ (ji7) then (if (ji7) < (l0.length : Int) then (if 0 ≤ x17_1 then (if x17_1 < (l0.length : Int) then ((shape_sub.f ((rd_T41 l0 (ji7)).f0) ((rd_T41 l0 (ji7)).f1) ((rd_T41 l0 x17_1).f0) ((rd_T41 l0 x17_1).f1)).bind fun bt105 => ((shape_gcd.f k1 bt105.1 bt105.2).bind fun t108 => (shape_Lattice.l0 k1 l0 (wrap64 (x6_1 + t108)) (l0.length : Int) (wrap64 (x17_1 + 1))))) else (none)) else (none)) else (none)) else (none)) = some (r1, r2, r3) := by first | (rw [hji7] at H; exact H) | (simp only [hji7] at H ⊢; exact H)
     obtain ⟨c8, H⟩ := oi H
     have c8b0 := decide_eq_true c8
     clear c8
     obtain ⟨c9, H⟩ := oi H
     have c9b0 := decide_eq_true c9
     clear c9
     obtain ⟨c10, H⟩ := oi H
     have c10b0 := decide_eq_true c10
     clear c10
     obtain ⟨c11, H⟩ := oi H
     have c11b0 := decide_eq_true c11
     clear c11
     replace H := Option.bind_eq_some_iff.mp H
     obtain ⟨⟨t105, t106⟩, A120, H⟩ := H
     replace H : ((shape_gcd.f k1 t105 t106).bind fun t108 => (shape_Lattice.l0 k1 l0 (wrap64 (x6_1 + t108)) (l0.length : Int) (wrap64 (x17_1 + 1)))) = some (r1, r2, r3) := H
     have A12 := Aside0.mk A120
     clear A120
     replace H := Option.bind_eq_some_iff.mp H
     obtain ⟨t108, A130, H⟩ := H
     replace H : (shape_Lattice.l0 k1 l0 (wrap64 (x6_1 + t108)) (l0.length : Int) (wrap64 (x17_1 + 1))) = some (r1, r2, r3) := H
     have A13 := Aside0.mk A130
     clear A130
     have H' := Aside0.mk H
     clear H
     try go_wp2
     replace HB := Aside0.mk (below_drew1 HB.out)
     have p103 : 0 ≤ ((ji7) : Int) := dt
     have q103 : (ji7) < (l0.length : Int) := dt
     obtain ⟨ad103, e103, hx103_0, hx103_1⟩ := at_T41 HR0.out (ji7) p103 q103
     have hw103_1 := hx103_1
     have hw103_0 := hx103_0
     cases e103
     replace hx103_0 := hc HB hx103_0
     replace hx103_1 := hc HB hx103_1
     replace p103 := eq_true p103
     replace q103 := eq_true q103
     have p104 : 0 ≤ (x17_1 : Int) := dt
     have q104 : x17_1 < (l0.length : Int) := dt
     obtain ⟨ad104, e104, hx104_0, hx104_1⟩ := at_T41 HR0.out x17_1 p104 q104
     have hw104_1 := hx104_1
     have hw104_0 := hx104_0
     obtain rfl : ad103 = ad104 := (by injection e104)
     replace hx104_0 := hc HB hx104_0
     replace hx104_1 := hc HB hx104_1
     replace p104 := eq_true p104
     replace q104 := eq_true q104
     refine start_ (n := 15) (S := fun w' => w'.cell? (ad103.add (((ji7)).toNat * 2)) = some (.int .i64 ((rd_T41 l0 (ji7)).f0)) ∧ w'.cell? ⟨(ad103.add (((ji7)).toNat * 2)).block, (ad103.add (((ji7)).toNat * 2)).off + 1, none⟩ = some (.int .i64 ((rd_T41 l0 (ji7)).f1)) ∧ w'.cell? (ad103.add ((x17_1).toNat * 2)) = some (.int .i64 ((rd_T41 l0 x17_1).f0)) ∧ w'.cell? ⟨(ad103.add ((x17_1).toNat * 2)).block, (ad103.add ((x17_1).toNat * 2)).off + 1, none⟩ = some (.int .i64 ((rd_T41 l0 x17_1).f1))) (ds := []) #[N,N,N,N,N,N,N,N,N,N,N,N,N,N,N] (by kernel_rfl) rfl rfl ⟨(hc HB hw103_0), (hc HB hw103_1), (hc HB hw104_0), (hc HB hw104_1)⟩ (fun hHeld => ?_); refine with_tabW shape_Lattice.tab8 shape_Lattice.bits8 (fun HT_ HW_ => ?_)
     generalize wr.drew = w14 at HB hx103_0 hx103_1 hx104_0 hx104_1 hHeld ⊢
     refine pu 0 20 HT_ ?_
     refine pu 1 21 HT_ ?_
     refine pu 2 22 HT_ ?_
     refine pu 3 23 HT_ ?_
     refine pu 4 24 HT_ ?_
     refine pu 5 25 HT_ ?_
     refine pu 6 26 HT_ ?_
     refine pu 8 28 HT_ ?_
     refine pu 9 29 HT_ ?_
     refine pu 10 30 HT_ ?_
     refine tk4 7 27 hHeld HT_ HW_ ?_
     refine tk4 11 31 hHeld HT_ HW_ ?_
     refine join_ (σ := Nat) 1 #[T,T,T,T,T,T,T,T,T,T,T,T,T,T,N] (fun s_ => [(32, .agg #[.int .i64 t105, .int .i64 t106]), (8, .pointer (some ⟨s_, 0, none⟩))]) (fun s_ w' => (w'.cell? (ad103.add (((ji7)).toNat * 2)) = some (.int .i64 ((rd_T41 l0 (ji7)).f0)) ∧ w'.cell? ⟨(ad103.add (((ji7)).toNat * 2)).block, (ad103.add (((ji7)).toNat * 2)).off + 1, none⟩ = some (.int .i64 ((rd_T41 l0 (ji7)).f1)) ∧ w'.cell? (ad103.add ((x17_1).toNat * 2)) = some (.int .i64 ((rd_T41 l0 x17_1).f0)) ∧ w'.cell? ⟨(ad103.add ((x17_1).toNat * 2)).block, (ad103.add ((x17_1).toNat * 2)).off + 1, none⟩ = some (.int .i64 ((rd_T41 l0 x17_1).f1))) ∧ (w'.heap[s_]? = some (.cells #[.int .i64 0, .int .i64 0] 41 (0, 0))) ∧ (w.heap.size ≤ s_) ∧ (w.heap.size ≤ s_) ∧ (Below w.heap.size w w')) ?_ ?_
     rotate_left
     ·intro hCont
      refine two_ (i := 12) (j := 13) (Ni := some 32) (Nj := some 8) #[T,T,T,T,T,T,T,T,T,T,T,T,T,N,N] #[T,T,T,T,T,T,T,T,T,T,T,T,N,T,N] rfl rfl rfl rfl (on2 HT_) (by decide) (by decide) (fun K hK => ?_) (fun K hK => ?_)
      ·skip
       refine goes_ Try.func53 (by kernel_rfl) rfl #[.agg #[.int .i64 ((rd_T41 l0 (ji7)).f0), .int .i64 ((rd_T41 l0 (ji7)).f1)], .agg #[.int .i64 ((rd_T41 l0 x17_1).f0), .int .i64 ((rd_T41 l0 x17_1).f1)]] (by rfl) rfl rfl (by (try simp only [List.map_toArray, List.map_cons, List.map_nil]); first | done | (simp only [hji7]; rfl) | rfl | (simp only [List.length_drop, List.length_take]; rfl)) ?_
       with_reducible refine (shape_sub.calls ((rd_T41 l0 (ji7)).f0) ((rd_T41 l0 (ji7)).f1) ((rd_T41 l0 x17_1).f0) ((rd_T41 l0 x17_1).f1) t105 t106 _ A12.out).mono ?_
       rintro e w15 ⟨rfl, hb⟩
       refine ⟨_, rfl, ?_⟩
       replace HB := bz hb
       (try clear hb)
       refine hK.out _ _ ⟨(hc HB hw103_0), (hc HB hw103_1), (hc HB hw104_0), (hc HB hw104_1)⟩ (fun hHeld => ?_)
       clear hK K
       refine nm 32 ?_
       refine one_ (i := 13) (N := some 8) #[T,T,T,T,T,T,T,T,T,T,T,T,T,T,N] rfl rfl (on1 HT_) (by decide) (fun K hK => ?_)
       refine bxs 8 #[.int .i64 0, .int .i64 0] 41 ?_
       intro gb107 hg w16 hbox hb
       have BK107 := Aside0.mk (hbox)
       have GW107 := ga w hg
       have GE107 := GW107
       replace HB := bz hb
       clear hb hbox hg
       refine hK.out _ _ ⟨(hc HB hw103_0), (hc HB hw103_1), (hc HB hw104_0), (hc HB hw104_1)⟩ (fun hHeld => ?_)
       clear hK K
       refine nm 8 ?_
       exact norm_ pa (hCont (gb107) _ ⟨hHeld, bk BK107, GW107.out, GE107.out, bh⟩)
      ·skip
       refine bxs 8 #[.int .i64 0, .int .i64 0] 41 ?_
       intro gb107 hg w15 hbox hb
       have BK107 := Aside0.mk (hbox)
       have GW107 := ga w hg
       have GE107 := GW107
       replace HB := bz hb
       clear hb hbox hg
       refine hK.out _ _ ⟨(hc HB hw103_0), (hc HB hw103_1), (hc HB hw104_0), (hc HB hw104_1)⟩ (fun hHeld => ?_)
       clear hK K
       refine nm 8 ?_
       refine one_ (i := 12) (N := some 32) #[T,T,T,T,T,T,T,T,T,T,T,T,T,T,N] rfl rfl (on1 HT_) (by decide) (fun K hK => ?_)
       refine goes_ Try.func53 (by kernel_rfl) rfl #[.agg #[.int .i64 ((rd_T41 l0 (ji7)).f0), .int .i64 ((rd_T41 l0 (ji7)).f1)], .agg #[.int .i64 ((rd_T41 l0 x17_1).f0), .int .i64 ((rd_T41 l0 x17_1).f1)]] (by rfl) rfl rfl (by (try simp only [List.map_toArray, List.map_cons, List.map_nil]); first | done | (simp only [hji7]; rfl) | rfl | (simp only [List.length_drop, List.length_take]; rfl)) ?_
       with_reducible refine (shape_sub.calls ((rd_T41 l0 (ji7)).f0) ((rd_T41 l0 (ji7)).f1) ((rd_T41 l0 x17_1).f0) ((rd_T41 l0 x17_1).f1) t105 t106 _ A12.out).mono ?_
       rintro e w16 ⟨rfl, hb⟩
       refine ⟨_, rfl, ?_⟩
       replace BK107 := kb BK107 hb
       replace HB := bz hb
       (try clear hb)
       refine hK.out _ _ ⟨(hc HB hw103_0), (hc HB hw103_1), (hc HB hw104_0), (hc HB hw104_1)⟩ (fun hHeld => ?_)
       clear hK K
       refine nm 32 ?_
       exact norm_ pa (hCont (gb107) _ ⟨hHeld, bk BK107, GW107.out, GE107.out, bh⟩)
     rintro gb107 w17 ⟨hS_, h0_, h1_, h2_, h3_⟩
     have BK107 := Aside0.mk h0_
     have GW107 := Aside0.mk h1_
     have GE107 := Aside0.mk h2_
     replace HB := Aside0.mk h3_
     clear h0_ h1_ h2_ h3_
     have hHeld := hS_
     refine nn ?_
     refine one_ (i := 14) (N := none) #[T,T,T,T,T,T,T,T,T,T,T,T,T,T,T] rfl rfl (on1 HT_) (by decide) (fun K hK => ?_)
     have hs18 : w17.cell? ⟨gb107, 0, none⟩ = some (.int .i64 0) := bc BK107 0
     have hfs18 := blk_frozen BK107.out 0
     have hs19 : w17.cell? ⟨gb107, 1, none⟩ = some (.int .i64 0) := bc BK107 1
     have hfs19 := blk_frozen BK107.out 1
     refine skip_ (w1 := ?_) (by rfl) rfl ?_ ?_
     rotate_left
     ·go_simp
      rfl
     refine hK.out _ _ ⟨((cell_far (p := ⟨gb107, _, none⟩) (fr hw103_0 GW107) _).trans (((cell_far (p := ⟨gb107, _, none⟩) (fr hw103_0 GW107) _).trans (hHeld.1)))), ((cell_far (p := ⟨gb107, _, none⟩) (fr hw103_1 GW107) _).trans (((cell_far (p := ⟨gb107, _, none⟩) (fr hw103_1 GW107) _).trans (hHeld.2.1)))), ((cell_far (p := ⟨gb107, _, none⟩) (fr hw104_0 GW107) _).trans (((cell_far (p := ⟨gb107, _, none⟩) (fr hw104_0 GW107) _).trans (hHeld.2.2.1)))), ((cell_far (p := ⟨gb107, _, none⟩) (fr hw104_1 GW107) _).trans (((cell_far (p := ⟨gb107, _, none⟩) (fr hw104_1 GW107) _).trans (hHeld.2.2.2))))⟩ (fun hHeld => ?_)
     clear hK K
     refine done_ (done_of HT_.out (by kernel_rfl)) ?_
     obtain ⟨hcz20_0, hcz20_1, hfz20_0, hfz20_1⟩ := b2 BK107
     try go_wp2_with (first | ((with_reducible refine gc 54 rfl ?_); refine goesL_ (some 38) rfl rfl Try.func54 (by kernel_rfl) rfl #[.int .i64 t105, .int .i64 t106] rfl sg ?_; (with_reducible refine (shape_gcd.calls k1 t105 t106 t108 _ A13.out).mono ?_); rintro e w21 ⟨rfl, hb⟩; refine ⟨_, rfl, ?_⟩; replace BK107 := Aside0.mk (blk_below (g := gb107) (o := .cells #[.int .i64 t105, .int .i64 t106] 41 (0, 0)) (by refine bd ?_; refine blk_put (cs := #[.int .i64 t105, .int .i64 0]) ?_ 1 _ rfl; refine bd ?_; refine blk_put (cs := #[.int .i64 0, .int .i64 0]) ?_ 0 _ rfl; refine bd ?_; exact BK107.out) hb); replace HB := bz hb; (try clear hb)))
     go_roundg k1
     case measure => have := HK1.out; omega
     case rel => exact ⟨(wrap64 (x6_1 + t108)), (wrap64 (x17_1 + 1)), sd, sd, H', ⟨by have := HK1.out; omega⟩, ⟨bh⟩⟩
    ·rw [if_neg c5] at H
     have c5b0 := decide_eq_false c5
     clear c5
     replace H := Option.bind_eq_some_iff.mp H
     obtain ⟨t102, A220, H⟩ := H
     replace H : (some (wrap64 (Int.tdiv (wrap64 ((wrap64 ((mx t102 (wrap64 (-t102))) - x6_1)) + 2)) 2), x6_1, 0)) = some (r1, r2, r3) := H
     have A22 := Aside0.mk A220
     clear A220
     obtain ⟨ji23, hji23⟩ : ∃ j_ : Int, (mx t102 (wrap64 (-t102))) = j_ := ⟨_, rfl⟩
     replace H : (some (wrap64 (Int.tdiv (wrap64 ((wrap64 ((ji23) - x6_1)) + 2)) 2), x6_1, 0)) = some (r1, r2, r3) := by first | (rw [hji23] at H; exact H) | (simp only [hji23] at H ⊢; exact H)
     (try rw [hji23] at A22)
     have hji23_ : (if t102 < (wrap64 (-t102)) then (wrap64 (-t102)) else t102) = ji23 := hji23
     simp only [Option.some.injEq, Prod.mk.injEq] at H
     obtain ⟨rfl, rfl, rfl⟩ := H
     go_wp2_with (first | ((with_reducible refine gc 55 rfl ?_); refine goesL_ (some 42) rfl rfl Try.func55 (by kernel_rfl) rfl #[.slice A0 l0.length c0] rfl sg ?_; (with_reducible refine (shape_area2.calls k1 _ _ l0 t102 _ ?side1 ?side2 A22.out).mono ?_); (case side1 => exact cs (Kd.C_below HR0.out HB.out)); (case side2 => exact HC0.out); rintro e w24 ⟨rfl, hb⟩; refine ⟨_, rfl, ?_⟩; replace HB := bz hb; (try clear hb)))
     go_ret3
     exact ⟨by first | rfl | (simp [errW_none, errW_some] <;> rfl) | (simp only [← hji23]; first | rfl | (simp [errW_none, errW_some] <;> rfl)) | (simp [*, errW_none, errW_some] <;> rfl), bh⟩
 ·rw [if_neg c3] at H
  have c3b0 : (t101 == 0) = false := beq_eq_false_iff_ne.mpr c3
  have c3b1 : (t101 != 0) = true := bne_iff_ne.mpr c3
  simp only [Option.some.injEq, Prod.mk.injEq] at H
  obtain ⟨rfl, rfl, rfl⟩ := H
  go_enter Try.func23, Try.ntmps23
  go_wp2_with (first | ((with_reducible refine gc 36 rfl ?_); refine goesL_ (some 11) rfl rfl Try.func36 (by kernel_rfl) rfl #[.slice A0 l0.length c0, .func (.func 37) #[] #[]] rfl sg ?_; (with_reducible refine (shape_refused_simple.calls k _ _ l0  t101 _ ?side1 ?side2 A2.out).mono ?_); (case side1 => exact cs HR0.out); (case side2 => exact HC0.out); rintro e w25 ⟨rfl, hb⟩; refine ⟨_, rfl, ?_⟩; replace HB := bz hb; (try clear hb)))
  go_ret3
  exact ⟨by exact er, bh⟩
/-! ### shape_chain: function 93 -/
mutual
def shape_chain.l0 : Nat → List (S41) → List (S41) → Int → Int → Option ((List (S41)))
 | 0, _, _, _, _ => none
 | k + 1, x3, x7, x8, x9 => if x9 < x8 then (if 0 ≤ x9 then (if x9 < (x7.length : Int) then (shape_chain.l1 k x3 (x3.length : Int) x7 x8 x9 ((rd_T41 x7 x9).f0) ((rd_T41 x7 x9).f1)) else (none)) else (none)) else (some x3)
def shape_chain.l1 : Nat → List (S41) → Int → List (S41) → Int → Int → Int → Int → Option ((List (S41)))
 | 0, _, _, _, _, _, _, _ => none
 | k + 1, x3, x6, x7, x8, x9, x103000, x103001 => if x6 ≥ 2 then (if 0 ≤ (wrap64 (x6 - 2)) then (if (wrap64 (x6 - 2)) < (x3.length : Int) then (if 0 ≤ (wrap64 (x6 - 1)) then (if (wrap64 (x6 - 1)) < (x3.length : Int) then ((shape_side.f ((rd_T41 x3 (wrap64 (x6 - 2))).f0) ((rd_T41 x3 (wrap64 (x6 - 2))).f1) ((rd_T41 x3 (wrap64 (x6 - 1))).f0) ((rd_T41 x3 (wrap64 (x6 - 1))).f1) x103000 x103001).bind fun t105 => (if t105 ≤ 0 then (if (wrap64 (x6 - 1)) ≤ (x3.length : Int) then ((some (x3.take ((wrap64 (x6 - 1)) : Int).toNat : List (S41))).bind fun y106 => (shape_chain.l1 k y106 (y106.length : Int) x7 x8 x9 x103000 x103001)) else (none)) else (if x3.length < 8796093022208 then (shape_chain.l0 k (x3 ++ [(⟨x103000, x103001⟩ : S41)]) x7 x8 (wrap64 (x9 + 1))) else (none)))) else (none)) else (none)) else (none)) else (none)) else (if x3.length < 8796093022208 then (shape_chain.l0 k (x3 ++ [(⟨x103000, x103001⟩ : S41)]) x7 x8 (wrap64 (x9 + 1))) else (none))
end
def shape_chain.f (k : Nat) (l0 : List (S41)) : Option ((List (S41))) := shape_chain.l0 k ([] : List (S41)) l0 (l0.length : Int) 0
def shape_chain.T6 : Bool × List (List Nat × List Nat) := (true, [([], []), ([0], [0]), ([1], [1]), ([2], [2]), ([2], [2]), ([4, 2], [2, 4]), ([3, 5, 2], [2, 3, 5]), ([6, 2], [2, 6]), ([2], [2]), ([2], [2]), ([9, 2], [2, 9]), ([8, 10, 2], [2, 8, 10]), ([11, 2], [2, 11]), ([2], [2]), ([7, 12, 13, 2, 2], [2, 7, 12, 13]), ([14, 2], [2, 14]), ([2, 15], [2, 15])])
def shape_chain.B6 : List Nat := [0, 1, 3, 7, 7, 23, 63, 127, 7, 7, 519, 1799, 3847, 7, 16383, 32767, 65535]
theorem shape_chain.tab6 : rtab .any (opsOf Try.f93 6) = shape_chain.T6 := by kernel_rfl
theorem shape_chain.bits6 : waitsOk shape_chain.T6.2 shape_chain.B6 = true := by kernel_rfl
set_option maxHeartbeats 8000000 in
set_option maxRecDepth 100000 in
theorem shape_chain.calls (k : Nat) (A0 : Option Addr) (c0 : Nat) (l0 : List (S41)) (r : List (S41)) (w : World) (hr0 : Kd.C k41 w A0 l0.length l0) (hc0 : l0.length ≤ c0) (h : shape_chain.f k l0 = some r) :
  Calls Try.prog 93 #[.slice A0 l0.length c0] w fun e w' => ∃ v0_ : Value, e = .returned (v0_) ∧ Kd.R k41 41 w' w.heap.size (fun _ => True) v0_ r ∧ Below w.heap.size w w' := by
 have hu41 := Try.underlying41
 have HR0 := Aside0.mk hr0
 have HC0 := Aside0.mk hc0
 clear hr0 hc0
 have HB := Aside0.mk (Below.refl w.heap.size w)
 have H : (shape_chain.l0 k ([] : List (S41)) l0 (l0.length : Int) 0) = some r := h
 clear h
 have H' := Aside0.mk H
 clear H
 go_enter Try.func93, Try.ntmps93
 go_wp2
 go_loopg [3, 9] k (fun kq v3 v9 w' => ∃ (x3_1 : List (S41)) (x9_1 : Int), v9 = .int .i64 x9_1 ∧ Aside0 (shape_chain.l0 kq x3_1 l0 (l0.length : Int) x9_1 = some r) ∧ Aside0 (kq ≤ k) ∧ Aside0 (Kd.R k41 41 w' w.heap.size (fun _ => True) v3 x3_1) ∧ Aside0 (Below w.heap.size w w'))
 case atStart => exact ⟨(([] : List (S41))), (0), sd, H', ⟨Nat.le_refl _⟩, ⟨by first | exact Kd.R_nil _ _ _ _ _ | exact Kd.N_nil _ _ _ _ _ | exact Kd.V_nil _ _ _ _ _ | exact Kd.Q_nil _ _ _ _ _ | exact Kd.S_nil _ _ _ _ _⟩, ⟨bh⟩⟩
 case round =>
  clear H'
  obtain ⟨x3_1, x9_1, rfl, HA, HK1, HO_3, HB⟩ := hrel
  cases gk with
  | zero => exact absurd HA.out (by simp [shape_chain.l0])
  | succ k1 =>
   have H := HA.out
   clear HA
   simp only [shape_chain.l0] at H
   by_cases c2 : x9_1 < (l0.length : Int)
   ·rw [if_pos c2] at H
    have c2b0 := decide_eq_true c2
    clear c2
    obtain ⟨c3, H⟩ := oi H
    have c3b0 := decide_eq_true c3
    clear c3
    obtain ⟨c4, H⟩ := oi H
    have c4b0 := decide_eq_true c4
    clear c4
    have H' := Aside0.mk H
    clear H
    have p101 : 0 ≤ (x9_1 : Int) := dt
    have q101 : x9_1 < (l0.length : Int) := dt
    obtain ⟨ad101, e101, hx101_0, hx101_1⟩ := at_T41 HR0.out x9_1 p101 q101
    cases e101
    replace hx101_0 := hc HB hx101_0
    replace hx101_1 := hc HB hx101_1
    replace p101 := eq_true p101
    replace q101 := eq_true q101
    go_wp2_with (first | ((with_reducible refine gate_dst (N := 5) rfl ?_); refine bxe 5 #[.int .i64 0, .int .i64 0] 41 ?_; intro gb102 hg w5 hbox hb; have BK102 := Aside0.mk (hbox); have GW102 := ga w hg; have GE102 := GW102; replace HO_3 := Aside0.mk (Kd.R_below (Kd.R_elderB (ro HO_3) gb102 (Nat.le_of_eq hg.symm)) hb); replace HB := bz hb; clear hb hbox hg; obtain ⟨hcz6_0, hcz6_1, hfz6_0, hfz6_1⟩ := b2 BK102; obtain ⟨Ao7, co7, eo7⟩ := Kd.R_slice HO_3.out; subst eo7))
    go_loopg [3, 6] k1 (fun kq v3 v6 w' => ∃ (x3_2 : List (S41)) (x6_2 : Int), v6 = .int .i64 x6_2 ∧ Aside0 (shape_chain.l1 kq x3_2 x6_2 l0 (l0.length : Int) x9_1 ((rd_T41 l0 x9_1).f0) ((rd_T41 l0 x9_1).f1) = some r) ∧ Aside0 (kq ≤ k1) ∧ Aside0 (Kd.R k41 41 w' w.heap.size (fun k_ => k_ ≠ gb102) v3 x3_2) ∧ Aside0 (w'.heap[gb102]? = some (.cells #[.int .i64 ((rd_T41 l0 x9_1).f0), .int .i64 ((rd_T41 l0 x9_1).f1)] 41 (0, 0))) ∧ Aside0 (Below w.heap.size w w'))
    case atStart => exact ⟨(x3_1), ((x3_1.length : Int)), sd, H', ⟨Nat.le_refl _⟩, ⟨by (with_reducible repeat (first | apply Kd.R_alloc | apply Kd.R_drewN | apply Kd.R_drew)); exact Kd.R_mono (Kd.R_far (p := ⟨gb102, 1, none⟩) (Kd.R_far (p := ⟨gb102, 0, none⟩) (Kd.R_mono HO_3.out (fun k_ hk => (⟨hk, hk.2⟩ : _ ∧ k_ ≠ gb102))) (fun _ hk => hk.2) (.int .i64 ((rd_T41 l0 x9_1).f0))) (fun _ hk => hk.2) (.int .i64 ((rd_T41 l0 x9_1).f1))) (fun _ hk => hk.1.2)⟩, ⟨by refine bd ?_; refine blk_put (cs := #[.int .i64 ((rd_T41 l0 x9_1).f0), .int .i64 0]) ?_ 1 _ rfl; refine bd ?_; refine blk_put (cs := #[.int .i64 0, .int .i64 0]) ?_ 0 _ rfl; refine bd ?_; exact BK102.out⟩, ⟨bh⟩⟩
    case round =>
     clear H'
     (try clear c2b0); (try clear c3b0); (try clear c4b0); (try clear hcz6_0); (try clear hcz6_1); (try clear hfz6_0); (try clear hfz6_1); (try clear hx101_0); (try clear hx101_1); (try clear p101); (try clear q101)
     obtain ⟨x3_2, x6_2, rfl, HA, HK2, HO_3, BK102, HB⟩ := hrel
     cases gk with
     | zero => exact absurd HA.out (by simp [shape_chain.l1])
     | succ k2 =>
      have H := HA.out
      clear HA
      simp only [shape_chain.l1] at H
      by_cases c8 : x6_2 ≥ 2
      ·rw [if_pos c8] at H
       have c8b0 := decide_eq_true c8
       clear c8
       obtain ⟨ji9, hji9⟩ : ∃ j_ : Int, (wrap64 (x6_2 - 2)) = j_ := ⟨_, rfl⟩
       first | rw [hji9] at H | simp only [hji9] at H
       have hji9w : (IntKind.i64.wrap (x6_2 - 2)) = ji9 := (i64_w _).trans hji9
       obtain ⟨c10, H⟩ := oi H
       have c10b0 := decide_eq_true c10
       clear c10
       obtain ⟨c11, H⟩ := oi H
       have c11b0 := decide_eq_true c11
       clear c11
       obtain ⟨ji12, hji12⟩ : ∃ j_ : Int, (wrap64 (x6_2 - 1)) = j_ := ⟨_, rfl⟩
       first | rw [hji12] at H | simp only [hji12] at H
       have hji12w : (IntKind.i64.wrap (x6_2 - 1)) = ji12 := (i64_w _).trans hji12
       obtain ⟨c13, H⟩ := oi H
       have c13b0 := decide_eq_true c13
       clear c13
       obtain ⟨c14, H⟩ := oi H
       have c14b0 := decide_eq_true c14
       clear c14
       replace H := Option.bind_eq_some_iff.mp H
       obtain ⟨t105, A150, H⟩ := H
       try dsimp only at H
       have A15 := Aside0.mk A150
       clear A150
       by_cases c16 : t105 ≤ 0
       ·rw [if_pos c16] at H
        have c16b0 := decide_eq_true c16
        clear c16
        obtain ⟨c17, H⟩ := oi H
        have c17b0 := eq_true c17
        have c17b1 := decide_eq_true c17
        clear c17
        obtain ⟨y106, hy106⟩ : ∃ y_ : List (S41), y_ = (x3_2.take ((ji12) : Int).toNat) := ⟨_, rfl⟩
        replace H : (shape_chain.l1 k2 y106 (y106.length : Int) l0 (l0.length : Int) x9_1 ((rd_T41 l0 x9_1).f0) ((rd_T41 l0 x9_1).f1)) = some r := by first | (rw [hy106]; with_reducible exact H) | (have H2_ := (Option.bind_some _ _).symm.trans H; rw [hy106]; with_reducible exact H2_) | (have H2_ := (Option.bind_some _ _).symm.trans H; with_reducible exact H2_) | with_reducible exact H | (rw [hy106]; exact H) | exact H
        have Ny106 := Aside0.mk hy106
        clear hy106
        have H' := Aside0.mk H
        clear H
        try go_wp2
        replace HO_3 := Aside0.mk (Kd.R_drew HO_3.out)
        replace BK102 := Aside0.mk (blk_drew BK102.out)
        replace HB := Aside0.mk (below_drew1 HB.out)
        obtain ⟨Ao19, co19, eo19⟩ := Kd.R_slice HO_3.out
        (first | subst eo19 | (injection eo19 with f1_ f2_ f3_; have f4_ := f1_.symm; have f5_ := f3_.symm; clear f1_ f2_ f3_; subst f4_; subst f5_))
        have p103 : 0 ≤ ((ji9) : Int) := dt
        have q103 : (ji9) < (x3_2.length : Int) := dt
        obtain ⟨ad103, e103, hx103_0, hx103_1⟩ := at_T41 (Kd.R_reads' HO_3.out).2.2 (ji9) p103 q103
        cases e103
        replace p103 := eq_true p103
        replace q103 := eq_true q103
        have p104 : 0 ≤ ((ji12) : Int) := dt
        have q104 : (ji12) < (x3_2.length : Int) := dt
        obtain ⟨ad104, e104, hx104_0, hx104_1⟩ := at_T41 (Kd.R_reads' HO_3.out).2.2 (ji12) p104 q104
        obtain rfl : ad103 = ad104 := (by injection e104)
        replace p104 := eq_true p104
        replace q104 := eq_true q104
        refine start_ (n := 17) (S := fun w' => w'.cell? ⟨gb102, 0, none⟩ = some (.int .i64 ((rd_T41 l0 x9_1).f0)) ∧ w'.cell? ⟨gb102, 1, none⟩ = some (.int .i64 ((rd_T41 l0 x9_1).f1)) ∧ w'.cell? (ad103.add (((ji9)).toNat * 2)) = some (.int .i64 ((rd_T41 x3_2 (ji9)).f0)) ∧ w'.cell? ⟨(ad103.add (((ji9)).toNat * 2)).block, (ad103.add (((ji9)).toNat * 2)).off + 1, none⟩ = some (.int .i64 ((rd_T41 x3_2 (ji9)).f1)) ∧ w'.cell? (ad103.add (((ji12)).toNat * 2)) = some (.int .i64 ((rd_T41 x3_2 (ji12)).f0)) ∧ w'.cell? ⟨(ad103.add (((ji12)).toNat * 2)).block, (ad103.add (((ji12)).toNat * 2)).off + 1, none⟩ = some (.int .i64 ((rd_T41 x3_2 (ji12)).f1))) (ds := []) #[N,N,N,N,N,N,N,N,N,N,N,N,N,N,N,N,N] (by kernel_rfl) rfl rfl ⟨bc BK102 0, bc BK102 1, hx103_0, hx103_1, hx104_0, hx104_1⟩ (fun hHeld => ?_); refine with_tabW shape_chain.tab6 shape_chain.bits6 (fun HT_ HW_ => ?_)
        generalize wr.drew = w18 at HO_3 BK102 HB hx103_0 hx103_1 hx104_0 hx104_1 hHeld ⊢
        refine pu 0 15 HT_ ?_
        refine pu 1 16 HT_ ?_
        refine pu 2 17 HT_ ?_
        refine pu 3 18 HT_ ?_
        refine pu 4 19 HT_ ?_
        refine pu 5 20 HT_ ?_
        refine pu 6 21 HT_ ?_
        refine pu 8 23 HT_ ?_
        refine pu 9 24 HT_ ?_
        refine pu 10 25 HT_ ?_
        refine pu 11 26 HT_ ?_
        refine tk6 7 22 hHeld HT_ HW_ ?_
        refine tk6 12 27 hHeld HT_ HW_ ?_
        refine tk6 13 28 hHeld HT_ HW_ ?_
        refine one_ (i := 14) (N := some 29) #[T,T,T,T,T,T,T,T,T,T,T,T,T,T,T,N,N] rfl rfl (on1 HT_) (by decide) (fun K hK => ?_)
        refine goes_ Try.func98 (by kernel_rfl) rfl #[.agg #[.int .i64 ((rd_T41 x3_2 (ji9)).f0), .int .i64 ((rd_T41 x3_2 (ji9)).f1)], .agg #[.int .i64 ((rd_T41 x3_2 (ji12)).f0), .int .i64 ((rd_T41 x3_2 (ji12)).f1)], .agg #[.int .i64 ((rd_T41 l0 x9_1).f0), .int .i64 ((rd_T41 l0 x9_1).f1)]] (by rfl) rfl rfl (by (try simp only [List.map_toArray, List.map_cons, List.map_nil]); first | done | (simp only [hji12, hji9]; rfl) | rfl | (simp only [List.length_drop, List.length_take]; rfl)) ?_
        with_reducible refine (shape_side.calls ((rd_T41 x3_2 (ji9)).f0) ((rd_T41 x3_2 (ji9)).f1) ((rd_T41 x3_2 (ji12)).f0) ((rd_T41 x3_2 (ji12)).f1) ((rd_T41 l0 x9_1).f0) ((rd_T41 l0 x9_1).f1) t105 _ A15.out).mono ?_
        rintro e w20 ⟨rfl, hb⟩
        have HS2_ := (hb.cell (World.block_lt_of_cell? _ _ (hHeld.2.2.1))).trans (hHeld.2.2.1)
        have HS3_ := (hb.cell (World.block_lt_of_cell? _ _ (hHeld.2.2.2.1))).trans (hHeld.2.2.2.1)
        have HS4_ := (hb.cell (World.block_lt_of_cell? _ _ (hHeld.2.2.2.2.1))).trans (hHeld.2.2.2.2.1)
        have HS5_ := (hb.cell (World.block_lt_of_cell? _ _ (hHeld.2.2.2.2.2))).trans (hHeld.2.2.2.2.2)
        refine ⟨_, rfl, ?_⟩
        replace HO_3 := Aside0.mk (Kd.R_below (ro HO_3) hb)
        replace BK102 := kb BK102 hb
        replace HB := bz hb
        (try clear hb)
        refine hK.out _ _ ⟨bc BK102 0, bc BK102 1, HS2_, HS3_, HS4_, HS5_⟩ (fun hHeld => ?_)
        clear hK K
        refine nm 29 ?_
        refine pu 15 30 HT_ ?_
        refine pu 16 31 HT_ ?_
        refine done_ (done_of HT_.out (by kernel_rfl)) ?_
        have q21 : ((ji12) : Int) ≤ ((x3_2.length : Int) : Int) := dt
        obtain ⟨i021, hi021, _, hsz21, _⟩ := info_parts info41
        have hcut21 := cut_to (P := Try.prog) 22 41 .i64 Try.underlying22 hi021 (some ad103) x3_2.length co19 (ji12) (dt) q21 (Kd.R_reads' HO_3.out).2.1
        have hr21 := Kd.R_take (m := ((ji12) : Int).toNat) HO_3.out (by omega)
        have hy21 : y106.length = ((ji12) : Int).toNat := (by rw [Ny106.out, List.length_take]; omega)
        rw [← Ny106.out] at hr21
        rw [← hy21] at hr21 hcut21
        clear hy21 hi021 hsz21 HO_3
        have HO108 := Aside0.mk hr21
        clear hr21
        replace q21 := eq_true q21
        try go_wp2
        go_roundg k2
        case measure => have := HK1.out; have := HK2.out; omega
        case rel => exact ⟨(y106), ((y106.length : Int)), sd, H', ⟨by have := HK1.out; have := HK2.out; omega⟩, ⟨ro HO108⟩, ⟨bk BK102⟩, ⟨bh⟩⟩
       ·rw [if_neg c16] at H
        have c16b0 := decide_eq_false c16
        clear c16
        obtain ⟨c22, H⟩ := oi H
        have LMc22 := Aside0.mk c22
        clear c22
        obtain ⟨y109, hy109⟩ : ∃ y_ : List (S41), y_ = (x3_2 ++ [(⟨((rd_T41 l0 x9_1).f0), ((rd_T41 l0 x9_1).f1)⟩ : S41)]) := ⟨_, rfl⟩
        replace H : (shape_chain.l0 k2 y109 l0 (l0.length : Int) (wrap64 (x9_1 + 1))) = some r := by first | (rw [hy109]; with_reducible exact H) | (have H2_ := (Option.bind_some _ _).symm.trans H; rw [hy109]; with_reducible exact H2_) | (have H2_ := (Option.bind_some _ _).symm.trans H; with_reducible exact H2_) | with_reducible exact H | (rw [hy109]; exact H) | exact H
        have Ny109 := Aside0.mk hy109
        clear hy109
        have H' := Aside0.mk H
        clear H
        try go_wp2
        replace HO_3 := Aside0.mk (Kd.R_drew HO_3.out)
        replace BK102 := Aside0.mk (blk_drew BK102.out)
        replace HB := Aside0.mk (below_drew1 HB.out)
        obtain ⟨Ao24, co24, eo24⟩ := Kd.R_slice HO_3.out
        (first | subst eo24 | (injection eo24 with f1_ f2_ f3_; have f4_ := f1_.symm; have f5_ := f3_.symm; clear f1_ f2_ f3_; subst f4_; subst f5_))
        have p103 : 0 ≤ ((ji9) : Int) := dt
        have q103 : (ji9) < (x3_2.length : Int) := dt
        obtain ⟨ad103, e103, hx103_0, hx103_1⟩ := at_T41 (Kd.R_reads' HO_3.out).2.2 (ji9) p103 q103
        cases e103
        replace p103 := eq_true p103
        replace q103 := eq_true q103
        have p104 : 0 ≤ ((ji12) : Int) := dt
        have q104 : (ji12) < (x3_2.length : Int) := dt
        obtain ⟨ad104, e104, hx104_0, hx104_1⟩ := at_T41 (Kd.R_reads' HO_3.out).2.2 (ji12) p104 q104
        obtain rfl : ad103 = ad104 := (by injection e104)
        replace p104 := eq_true p104
        replace q104 := eq_true q104
        refine start_ (n := 17) (S := fun w' => w'.cell? ⟨gb102, 0, none⟩ = some (.int .i64 ((rd_T41 l0 x9_1).f0)) ∧ w'.cell? ⟨gb102, 1, none⟩ = some (.int .i64 ((rd_T41 l0 x9_1).f1)) ∧ w'.cell? (ad103.add (((ji9)).toNat * 2)) = some (.int .i64 ((rd_T41 x3_2 (ji9)).f0)) ∧ w'.cell? ⟨(ad103.add (((ji9)).toNat * 2)).block, (ad103.add (((ji9)).toNat * 2)).off + 1, none⟩ = some (.int .i64 ((rd_T41 x3_2 (ji9)).f1)) ∧ w'.cell? (ad103.add (((ji12)).toNat * 2)) = some (.int .i64 ((rd_T41 x3_2 (ji12)).f0)) ∧ w'.cell? ⟨(ad103.add (((ji12)).toNat * 2)).block, (ad103.add (((ji12)).toNat * 2)).off + 1, none⟩ = some (.int .i64 ((rd_T41 x3_2 (ji12)).f1))) (ds := []) #[N,N,N,N,N,N,N,N,N,N,N,N,N,N,N,N,N] (by kernel_rfl) rfl rfl ⟨bc BK102 0, bc BK102 1, hx103_0, hx103_1, hx104_0, hx104_1⟩ (fun hHeld => ?_); refine with_tabW shape_chain.tab6 shape_chain.bits6 (fun HT_ HW_ => ?_)
        generalize wr.drew = w23 at HO_3 BK102 HB hx103_0 hx103_1 hx104_0 hx104_1 hHeld ⊢
        refine pu 0 15 HT_ ?_
        refine pu 1 16 HT_ ?_
        refine pu 2 17 HT_ ?_
        refine pu 3 18 HT_ ?_
        refine pu 4 19 HT_ ?_
        refine pu 5 20 HT_ ?_
        refine pu 6 21 HT_ ?_
        refine pu 8 23 HT_ ?_
        refine pu 9 24 HT_ ?_
        refine pu 10 25 HT_ ?_
        refine pu 11 26 HT_ ?_
        refine tk6 7 22 hHeld HT_ HW_ ?_
        refine tk6 12 27 hHeld HT_ HW_ ?_
        refine tk6 13 28 hHeld HT_ HW_ ?_
        refine one_ (i := 14) (N := some 29) #[T,T,T,T,T,T,T,T,T,T,T,T,T,T,T,N,N] rfl rfl (on1 HT_) (by decide) (fun K hK => ?_)
        refine goes_ Try.func98 (by kernel_rfl) rfl #[.agg #[.int .i64 ((rd_T41 x3_2 (ji9)).f0), .int .i64 ((rd_T41 x3_2 (ji9)).f1)], .agg #[.int .i64 ((rd_T41 x3_2 (ji12)).f0), .int .i64 ((rd_T41 x3_2 (ji12)).f1)], .agg #[.int .i64 ((rd_T41 l0 x9_1).f0), .int .i64 ((rd_T41 l0 x9_1).f1)]] (by rfl) rfl rfl (by (try simp only [List.map_toArray, List.map_cons, List.map_nil]); first | done | (simp only [hji12, hji9]; rfl) | rfl | (simp only [List.length_drop, List.length_take]; rfl)) ?_
        with_reducible refine (shape_side.calls ((rd_T41 x3_2 (ji9)).f0) ((rd_T41 x3_2 (ji9)).f1) ((rd_T41 x3_2 (ji12)).f0) ((rd_T41 x3_2 (ji12)).f1) ((rd_T41 l0 x9_1).f0) ((rd_T41 l0 x9_1).f1) t105 _ A15.out).mono ?_
        rintro e w25 ⟨rfl, hb⟩
        have HS2_ := (hb.cell (World.block_lt_of_cell? _ _ (hHeld.2.2.1))).trans (hHeld.2.2.1)
        have HS3_ := (hb.cell (World.block_lt_of_cell? _ _ (hHeld.2.2.2.1))).trans (hHeld.2.2.2.1)
        have HS4_ := (hb.cell (World.block_lt_of_cell? _ _ (hHeld.2.2.2.2.1))).trans (hHeld.2.2.2.2.1)
        have HS5_ := (hb.cell (World.block_lt_of_cell? _ _ (hHeld.2.2.2.2.2))).trans (hHeld.2.2.2.2.2)
        refine ⟨_, rfl, ?_⟩
        replace HO_3 := Aside0.mk (Kd.R_below (ro HO_3) hb)
        replace BK102 := kb BK102 hb
        replace HB := bz hb
        (try clear hb)
        refine hK.out _ _ ⟨bc BK102 0, bc BK102 1, HS2_, HS3_, HS4_, HS5_⟩ (fun hHeld => ?_)
        clear hK K
        refine nm 29 ?_
        refine pu 15 30 HT_ ?_
        refine pu 16 31 HT_ ?_
        refine done_ (done_of HT_.out (by kernel_rfl)) ?_
        obtain ⟨hcz26_0, hcz26_1, hfz26_0, hfz26_1⟩ := b2 BK102
        try go_wp2_with (first | ((with_reducible refine gate_builtin (b := .append) (xs := #[.tmp 38, .tmp 40]) rfl ?_); at_builtin; refine Kd.R_append k41 (w0 := w) w.heap.size rfl (.tmp 38) (.tmp 40) 22 41 (.agg #[(.int .i64 0), (.int .i64 0)]) 16 rfl Try.underlying22 info41 rfl (by decide) (by omega) (.slice (some ad103) x3_2.length co24) x3_2 (⟨((rd_T41 l0 x9_1).f0), ((rd_T41 l0 x9_1).f1)⟩ : S41) [.int .i64 ((rd_T41 l0 x9_1).f0), .int .i64 ((rd_T41 l0 x9_1).f1)] (fun k_ => k_ ≠ gb102) (fun _ => False) rfl rfl ?aP (fun _ hk => hk.elim) ?aF ?aO ?aB ?aS ?aL ?_; (case aP => exact k41_mkM _ _ _ (⟨((rd_T41 l0 x9_1).f0), ((rd_T41 l0 x9_1).f1)⟩ : S41)); (case aB => exact bh); (case aF => exact (fun k_ hk => Kd.freshB (g := gb102) (o := .cells #[.int .i64 ((rd_T41 l0 x9_1).f0), .int .i64 ((rd_T41 l0 x9_1).f1)] 41 (0, 0)) (bk BK102) k_ hk)); (case aO => exact (ro HO_3)); (case aS => exact (below_size bh)); (case aL => have := LMc22.out; omega); intro v110 w27 ho hb hg hat; rw [← Ny109.out] at ho; have HO111 := Aside0.mk (ho); replace BK102 := Aside0.mk (blk_grown (g := gb102) (o := .cells #[.int .i64 ((rd_T41 l0 x9_1).f0), .int .i64 ((rd_T41 l0 x9_1).f1)] 41 (0, 0)) (bk BK102) hg (Kd.R_away HO_3.out (fun _ hk => hk))); replace HB := Aside0.mk (hb); clear HO_3; clear ho hb hg hat))
        go_roundg k2
        case measure => have := HK1.out; have := HK2.out; omega
        case rel => exact ⟨(y109), (wrap64 (x9_1 + 1)), sd, H', ⟨by have := HK1.out; have := HK2.out; omega⟩, ⟨by (with_reducible repeat (first | apply Kd.R_alloc | apply Kd.R_drewN | apply Kd.R_drew)); exact Kd.R_mono HO111.out (fun _ hk => trivial)⟩, ⟨bh⟩⟩
      ·rw [if_neg c8] at H
       have c8b0 := decide_eq_false c8
       clear c8
       obtain ⟨c28, H⟩ := oi H
       have LMc28 := Aside0.mk c28
       clear c28
       obtain ⟨y112, hy112⟩ : ∃ y_ : List (S41), y_ = (x3_2 ++ [(⟨((rd_T41 l0 x9_1).f0), ((rd_T41 l0 x9_1).f1)⟩ : S41)]) := ⟨_, rfl⟩
       replace H : (shape_chain.l0 k2 y112 l0 (l0.length : Int) (wrap64 (x9_1 + 1))) = some r := by first | (rw [hy112]; with_reducible exact H) | (have H2_ := (Option.bind_some _ _).symm.trans H; rw [hy112]; with_reducible exact H2_) | (have H2_ := (Option.bind_some _ _).symm.trans H; with_reducible exact H2_) | with_reducible exact H | (rw [hy112]; exact H) | exact H
       have Ny112 := Aside0.mk hy112
       clear hy112
       have H' := Aside0.mk H
       clear H
       try go_wp2
       replace HO_3 := Aside0.mk (Kd.R_drew HO_3.out)
       replace BK102 := Aside0.mk (blk_drew BK102.out)
       replace HB := Aside0.mk (below_drew1 HB.out)
       refine start_ (n := 17) (S := fun w' => True) (ds := []) #[N,N,N,N,N,N,N,N,N,N,N,N,N,N,N,N,N] (by kernel_rfl) rfl rfl trivial (fun hHeld => ?_); refine with_tabW shape_chain.tab6 shape_chain.bits6 (fun HT_ HW_ => ?_)
       generalize wr.drew = w29 at HO_3 BK102 HB hHeld ⊢
       refine pu 0 15 HT_ ?_
       refine pu 1 16 HT_ ?_
       refine pu 2 17 HT_ ?_
       refine pz 3 18 HT_ ?_
       refine pz 4 19 HT_ ?_
       refine pz 5 20 HT_ ?_
       refine pz 6 21 HT_ ?_
       refine pz 7 22 HT_ ?_
       refine pz 8 23 HT_ ?_
       refine pz 9 24 HT_ ?_
       refine pz 10 25 HT_ ?_
       refine pz 11 26 HT_ ?_
       refine pz 12 27 HT_ ?_
       refine pz 13 28 HT_ ?_
       refine pz 14 29 HT_ ?_
       refine pz 15 30 HT_ ?_
       refine pu 16 31 HT_ ?_
       refine done_ (done_of HT_.out (by kernel_rfl)) ?_
       obtain ⟨hcz30_0, hcz30_1, hfz30_0, hfz30_1⟩ := b2 BK102
       try go_wp2_with (first | ((with_reducible refine gate_builtin (b := .append) (xs := #[.tmp 38, .tmp 40]) rfl ?_); at_builtin; refine Kd.R_append k41 (w0 := w) w.heap.size rfl (.tmp 38) (.tmp 40) 22 41 (.agg #[(.int .i64 0), (.int .i64 0)]) 16 rfl Try.underlying22 info41 rfl (by decide) (by omega) u3 x3_2 (⟨((rd_T41 l0 x9_1).f0), ((rd_T41 l0 x9_1).f1)⟩ : S41) [.int .i64 ((rd_T41 l0 x9_1).f0), .int .i64 ((rd_T41 l0 x9_1).f1)] (fun k_ => k_ ≠ gb102) (fun _ => False) rfl rfl ?aP (fun _ hk => hk.elim) ?aF ?aO ?aB ?aS ?aL ?_; (case aP => exact k41_mkM _ _ _ (⟨((rd_T41 l0 x9_1).f0), ((rd_T41 l0 x9_1).f1)⟩ : S41)); (case aB => exact bh); (case aF => exact (fun k_ hk => Kd.freshB (g := gb102) (o := .cells #[.int .i64 ((rd_T41 l0 x9_1).f0), .int .i64 ((rd_T41 l0 x9_1).f1)] 41 (0, 0)) (bk BK102) k_ hk)); (case aO => exact (ro HO_3)); (case aS => exact (below_size bh)); (case aL => have := LMc28.out; omega); intro v113 w31 ho hb hg hat; rw [← Ny112.out] at ho; have HO114 := Aside0.mk (ho); replace BK102 := Aside0.mk (blk_grown (g := gb102) (o := .cells #[.int .i64 ((rd_T41 l0 x9_1).f0), .int .i64 ((rd_T41 l0 x9_1).f1)] 41 (0, 0)) (bk BK102) hg (Kd.R_away HO_3.out (fun _ hk => hk))); replace HB := Aside0.mk (hb); clear HO_3; clear ho hb hg hat))
       go_roundg k2
       case measure => have := HK1.out; have := HK2.out; omega
       case rel => exact ⟨(y112), (wrap64 (x9_1 + 1)), sd, H', ⟨by have := HK1.out; have := HK2.out; omega⟩, ⟨by (with_reducible repeat (first | apply Kd.R_alloc | apply Kd.R_drewN | apply Kd.R_drew)); exact Kd.R_mono HO114.out (fun _ hk => trivial)⟩, ⟨bh⟩⟩
   ·rw [if_neg c2] at H
    have c2b0 := decide_eq_false c2
    clear c2
    obtain rfl := Option.some.inj H
    go_wp2
    go_ret
    exact ⟨_, by exact er, by (with_reducible repeat (first | apply Kd.R_alloc | apply Kd.R_drewN | apply Kd.R_drew)); exact HO_3.out, bh⟩
end Go.Proofs.Ythehmkpcddafnaa.PG
end
section
namespace Go.Proofs.Ythehmkpcddafnaa.PG
open Go.RowKit Go.Proofs.YthehmkpcddafnaaW.PrintWords Go.Proofs.YthehmkpcddafnaaW.PrintLast Go.Proofs.YthehmkpcddafnaaW.PrintMore
def Pts (cur : Array Value) (l : List S41) : Prop := ∀ j (h : j < l.length), cur[2 * j]? = some (.int .i64 l[j].f0) ∧ cur[2 * j + 1]? = some (.int .i64 l[j].f1)
theorem rd_nat (L : List S41) (i : Nat) (h : i < L.length) : rd_T41 L (i : Int) = L[i] := by
 unfold rd_T41; rw [Int.toNat_natCast, List.getD_eq_getElem?_getD, List.getElem?_eq_getElem h]; rfl
theorem pts_take {cur : Array Value} {l : List S41} (m : Nat) (h : Pts cur l) : Pts cur (l.take m) := by
 intro j hj
 have := h j (by simp at hj; omega)
 simpa using this
theorem pts_list {cur : Array Value} {l : List S41} (h : Pts cur l) : cur.toList.take (l.length * 2) = l.flatMap fun x => [Value.int .i64 x.f0, Value.int .i64 x.f1] := by
 induction l generalizing cur with
 | nil => simp
 | cons a l ih =>
  obtain ⟨a0, a1⟩ := h 0 (by simp)
  simp only [Nat.mul_zero, List.getElem_cons_zero] at a0 a1
  have e : ∃ x y t, cur.toList = x :: y :: t := by
   match hh : cur.toList with
   | [] => rw [← Array.getElem?_toList, hh] at a0; simp at a0
   | [x] => rw [← Array.getElem?_toList, hh] at a1; simp at a1
   | x :: y :: t => exact ⟨x, y, t, rfl⟩
  obtain ⟨x, y, t, e⟩ := e
  rw [← Array.getElem?_toList, e] at a0 a1
  simp at a0 a1
  subst a0; subst a1
  have h2 : Pts t.toArray l := by
   intro j hj
   have := h (j + 1) (by simp; omega)
   rw [← Array.getElem?_toList, ← Array.getElem?_toList, e] at this
   simpa [Nat.mul_add, Nat.add_assoc] using this
  have := ih h2
  rw [e, List.flatMap_cons, ← this]
  simp [Nat.add_mul]
theorem pts_reps {l : List S41} {W : World} {base : Nat} {ok : Nat → Prop} : Reps (k41.M W base ok) k41.sz l (l.flatMap fun x => [Value.int .i64 x.f0, Value.int .i64 x.f1]) := by
 suffices H : ∀ (l pre : List S41) (cs : List Value), Reps (k41.M W base ok) k41.sz pre cs → Reps (k41.M W base ok) k41.sz (pre ++ l) (cs ++ l.flatMap fun x => [Value.int .i64 x.f0, Value.int .i64 x.f1]) by
  simpa using H l [] [] (Reps.none _ _)
 intro l
 induction l with
 | nil => intro pre cs h; simpa using h
 | cons a l ih =>
  intro pre cs h
  have := ih (pre ++ [a]) (cs ++ [Value.int .i64 a.f0, Value.int .i64 a.f1]) (h.snoc (k41_mkM W base ok a) rfl)
  simpa using this
theorem row_open {w : World} {base : Nat} {P : Nat → Prop} {u : Value} {l : List S41} (h : Kd.R k41 41 w base P u l) (hl : 0 < l.length) :
  ∃ g cap cur, u = .slice (some ⟨g, 0, none⟩) l.length cap ∧ base ≤ g ∧ w.heap[g]? = some (.cells cur 41 (0, 0)) ∧ l.length ≤ cap ∧ cap ≤ maxLen ∧ cur.size = cap * 2 ∧ P g ∧ Pts cur l := by
 obtain ⟨hP, inner, ⟨hlen, ho⟩, hr⟩ := h
 rcases ho with ⟨_, h0⟩ | ⟨g, cap, cur, rfl, hb, hh, hn, hc, hs, ht⟩
 ·omega
 ·refine ⟨g, cap, cur, rfl, hb, hh, hn, hc, hs, hP g rfl, ?_⟩
  intro j hj
  have hm := hr.2 j l[j] (by simp [hj])
  obtain hm := k41_openM hm
  have hsz : k41.sz = 2 := rfl
  rw [hsz] at hm ht
  have e0 : inner[2 * j]? = some (.int .i64 l[j].f0) := by
   have := congrArg (fun z => z[0]?) hm
   simp at this
   rw [Nat.mul_comm]; exact this
  have e1 : inner[2 * j + 1]? = some (.int .i64 l[j].f1) := by
   have := congrArg (fun z => z[1]?) hm
   simp at this
   rw [Nat.mul_comm]; exact this
  rw [← ht, List.getElem?_take_of_lt (by omega), Array.getElem?_toList] at e0
  rw [← ht, List.getElem?_take_of_lt (by omega), Array.getElem?_toList] at e1
  exact ⟨e0, e1⟩
theorem row_shut {w' : World} {base g cap : Nat} {P : Nat → Prop} {cur : Array Value} {l : List S41} (hb : base ≤ g) (hh : w'.heap[g]? = some (.cells cur 41 (0, 0))) (hn : l.length ≤ cap) (hc : cap ≤ maxLen) (hs : cur.size = cap * 2) (hP : P g) (hp : Pts cur l) :
  Kd.R k41 41 w' base P (.slice (some ⟨g, 0, none⟩) l.length cap) l := by
 refine ⟨fun k hk => ?_, l.flatMap fun x => [Value.int .i64 x.f0, Value.int .i64 x.f1], ⟨?_, .inr ⟨g, cap, cur, rfl, hb, hh, hn, hc, hs, (show cur.toList.take (l.length * 2) = _ from pts_list hp)⟩⟩, pts_reps⟩
 ·simp [Value.ownBlock] at hk; subst hk; exact hP
 ·have := congrArg List.length (pts_list hp)
  rw [← this]
  simp
  have : k41.sz = 2 := rfl
  rw [this, hs]; omega
theorem pts_set {cur : Array Value} {L : List S41} {k : Nat} (x : S41) (h : Pts cur L) (hs : L.length * 2 ≤ cur.size) (hk : k < L.length) :
  Pts ((cur.setIfInBounds (k * 2) (.int .i64 x.f0)).setIfInBounds (k * 2 + 1) (.int .i64 x.f1)) (L.set k x) := by
 intro j hj
 rw [List.length_set] at hj
 have hp := h j hj
 rw [List.getElem_set]
 by_cases e : k = j
 ·subst e
  rw [if_pos rfl]
  refine ⟨?_, ?_⟩
  ·rw [Array.getElem?_setIfInBounds_ne (by omega), Nat.mul_comm 2 k, Array.getElem?_setIfInBounds_self_of_lt (by omega)]
  ·rw [Nat.mul_comm 2 k, Array.getElem?_setIfInBounds_self_of_lt (by simp; omega)]
 ·rw [if_neg e]
  refine ⟨?_, ?_⟩
  ·rw [Array.getElem?_setIfInBounds_ne (by omega), Array.getElem?_setIfInBounds_ne (by omega)]; exact hp.1
  ·rw [Array.getElem?_setIfInBounds_ne (by omega), Array.getElem?_setIfInBounds_ne (by omega)]; exact hp.2
theorem grown_set {w w1 : World} {g : Nat} (h : w.grownBy w1 (some g)) (i : Nat) (u : Value) : w.grownBy (w1.setCell ⟨g, i, none⟩ u) (some g) := by
 have hs : ∀ k, k ≠ g → (w1.setCell ⟨g, i, none⟩ u).heap[k]? = w1.heap[k]? := fun k hk => Below.heap_setCell w1 ⟨g, i, none⟩ u k hk
 refine ⟨?_, ?_, ?_, ?_, fun k hk hne => ?_⟩
 ·have := h.os; simpa [World.setCell] using this
 ·have := h.tape; simpa [World.setCell] using this
 ·have := h.output; simpa [World.setCell] using this
 ·have := h.size; simpa [World.setCell] using this
 ·rw [hs k (fun e => hne (by rw [e]))]; exact h.block k hk hne
theorem grown_drewN {w w1 : World} {r : Option Nat} (h : w.grownBy w1 r) (q : Nat) : w.grownBy (w1.drewN q) r := ⟨h.os, h.tape, h.output, h.size, h.block⟩
theorem grown_below {w0 w w1 : World} {g : Nat} (hB : Below w0.heap.size w0 w) (h : w.grownBy w1 (some g)) (hg : w0.heap.size ≤ g) : Below w0.heap.size w0 w1 :=
 pw_below_grown hB (some g) hB.size h (fun k e => by simp at e; omega)
theorem grown_kept {w w1 : World} {g : Nat} {P : Nat → Prop} (h : w.grownBy w1 (some g)) (hg : P g) : Kept w w1 P :=
 ⟨h.size, fun i hi hn => h.block i hi (fun e => hn (by simp at e; rw [e]; exact hg))⟩
end Go.Proofs.Ythehmkpcddafnaa.PG
end
section
namespace Go.Proofs.Ythehmkpcddafnaa.PG
open Go.RowKit Go.Proofs.YthehmkpcddafnaaW.PrintWords Go.Proofs.YthehmkpcddafnaaW.PrintLast Go.Proofs.YthehmkpcddafnaaW.PrintMore
def slices_Grow_nil.f (a1 : Int) : Option (List S41) := if 0 ≤ a1 ∧ a1 < 8796093022208 then some [] else none
set_option maxHeartbeats 2000000 in
theorem slices_Grow_nil.calls (a1 : Int) (r : List S41) (w : World) (h : slices_Grow_nil.f a1 = some r) :
  Calls Try.prog 118 #[.slice none 0 0, .int .i64 a1] w fun e w' => ∃ v0_ : Value, e = .returned (v0_) ∧ Kd.R k41 41 w' w.heap.size (fun _ => True) v0_ r ∧ Below w.heap.size w w' := by
 unfold slices_Grow_nil.f at h
 split at h
 ·rename_i hb
  obtain rfl := Option.some.inj h
  clear h
  have h0 : 0 ≤ a1 := hb.1
  have h1 : a1 < 8796093022208 := hb.2
  clear hb
  have HB := Aside0.mk (Below.refl w.heap.size w)
  by_cases hp : 0 < a1
  ·have HL := Aside0.mk h1
   go_enter Try.func118, Try.ntmps118
   go_wp2_with ((with_reducible refine gate_builtin (b := .append) (xs := #[.tmp 20, .tmp 21]) rfl ?_); at_builtin; refine Kd.R_append_zeros k41 (w0 := w) w.heap.size rfl (.tmp 20) (.tmp 21) 22 3 41 (.agg #[(.int .i64 0), (.int .i64 0)]) 16 rfl Try.underlying22 Try.underlying3 info41 rfl (by decide) (by omega) (.slice none 0 0) ([] : List S41) z41 a1 (fun _ => True) rfl rfl ?aZ (fun _ _ => trivial) ?aO h0 HB.out (Nat.le_refl _) ?aL ?_; (case aZ => exact k41_mkM _ _ _ z41); (case aO => exact ⟨fun k hk => by simp [Value.ownBlock] at hk, [], own_nil _ _ _ _, Reps.none _ _⟩); (case aL => have := HL.out; simp; omega); intro v1 w1 ho hb hg hat; rw [List.nil_append] at ho; obtain ⟨g, cap, cur, rfl, q1, q2, q3, q4, q5, _, _⟩ := row_open ho (by simp; omega); simp only [List.length_replicate] at q3; have HB1 := Aside0.mk hb; have Q1 := Aside0.mk q1; have Q2 := Aside0.mk q2; have Q4 := Aside0.mk q4; have Q5 := Aside0.mk q5; clear HB ho hb hg hat q1 q2 q4 q5)
   go_ret
   exact ⟨_, rfl, row_shut (l := []) Q1.out Q2.out (Nat.zero_le _) Q4.out Q5.out trivial (fun j hj => by simp at hj), HB1.out⟩
  ·have : a1 = 0 := by omega
   subst this
   go_enter Try.func118, Try.ntmps118
   go_wp2
   go_ret
   exact ⟨_, rfl, ⟨fun k hk => by simp [Value.ownBlock] at hk, [], own_nil _ _ _ _, Reps.none _ _⟩, Below.refl _ _⟩
 ·cases h
end Go.Proofs.Ythehmkpcddafnaa.PG
end
section
namespace Go.Proofs.Ythehmkpcddafnaa.PG
open Go.RowKit Go.Proofs.YthehmkpcddafnaaW.PrintWords Go.Proofs.YthehmkpcddafnaaW.PrintLast Go.Proofs.YthehmkpcddafnaaW.PrintMore
attribute [local go_sem] max2_int min2_int max_two min_two max_three min_three max_four min_four
set_option linter.unusedVariables false
set_option linter.unusedSimpArgs false
/-! ### api_Point_95: function 95 -/
mutual
def api_Point_95.l0 : Nat → List (List (S41)) → Int → List (List (S41)) → Int → Int → Option ((List (S41)))
 | 0, _, _, _, _, _ => none
 | k + 1, x0, x3, x9, x10, x11 => if x11 < x10 then (if 0 ≤ x11 then (if x11 < (x9.length : Int) then (if (wrap64 (x3 + ((rd_L2 x9 x11).length : Int))) < 0 then (none) else (api_Point_95.l0 k x0 (wrap64 (x3 + ((rd_L2 x9 x11).length : Int))) x9 x10 (wrap64 (x11 + 1)))) else (none)) else (none)) else ((slices_Grow_nil.f x3).bind fun t102 => (api_Point_95.l1 k t102 x0 (x0.length : Int) 0))
def api_Point_95.l1 : Nat → List (S41) → List (List (S41)) → Int → Int → Option ((List (S41)))
 | 0, _, _, _, _ => none
 | k + 1, x6, x25, x26, x27 => if x27 < x26 then (if 0 ≤ x27 then (if x27 < (x25.length : Int) then (if x6.length + (rd_L2 x25 x27).length < 8796093022208 then (api_Point_95.l1 k (x6 ++ (rd_L2 x25 x27)) x25 x26 (wrap64 (x27 + 1))) else (none)) else (none)) else (none)) else (some x6)
end
def api_Point_95.f (k : Nat) (l0 : List (List (S41))) : Option ((List (S41))) := api_Point_95.l0 k l0 0 l0 (l0.length : Int) 0
set_option maxHeartbeats 8000000 in
set_option maxRecDepth 100000 in
theorem api_Point_95.calls (k : Nat) (A0 : Option Addr) (c0 : Nat) (l0 : List (List (S41))) (r : List (S41)) (w : World) (hr0 : Kd.C (Kd.slice 41 k41) w A0 l0.length l0) (hc0 : l0.length ≤ c0) (h : api_Point_95.f k l0 = some r) :
  Calls Try.prog 95 #[.slice A0 l0.length c0] w fun e w' => ∃ v0_ : Value, e = .returned (v0_) ∧ Kd.R k41 41 w' w.heap.size (fun _ => True) v0_ r ∧ Below w.heap.size w w' := by
 have HR0 := Aside0.mk hr0
 have HC0 := Aside0.mk hc0
 clear hr0 hc0
 have HB := Aside0.mk (Below.refl w.heap.size w)
 have H : (api_Point_95.l0 k l0 0 l0 (l0.length : Int) 0) = some r := h
 clear h
 have H' := Aside0.mk H
 clear H
 go_enter Try.func95, Try.ntmps95
 go_wp2
 go_loopg [3, 11] k (fun kq v3 v11 w' => ∃ (x3_1 : Int) (x11_1 : Int), v3 = .int .i64 x3_1 ∧ v11 = .int .i64 x11_1 ∧ Aside0 (api_Point_95.l0 kq l0 x3_1 l0 (l0.length : Int) x11_1 = some r) ∧ Aside0 (kq ≤ k) ∧ Aside0 (Below w.heap.size w w'))
 case atStart => exact ⟨(0), (0), sd, sd, H', ⟨Nat.le_refl _⟩, ⟨bh⟩⟩
 case round =>
  clear H'
  obtain ⟨x3_1, x11_1, rfl, rfl, HA, HK1, HB⟩ := hrel
  cases gk with
  | zero => exact absurd HA.out (by simp [api_Point_95.l0])
  | succ k1 =>
   have H := HA.out
   clear HA
   simp only [api_Point_95.l0] at H
   by_cases c2 : x11_1 < (l0.length : Int)
   ·rw [if_pos c2] at H
    have c2b0 := decide_eq_true c2
    clear c2
    obtain ⟨c3, H⟩ := oi H
    have c3b0 := decide_eq_true c3
    clear c3
    obtain ⟨c4, H⟩ := oi H
    have c4b0 := decide_eq_true c4
    clear c4
    obtain ⟨c5, H⟩ := oj H
    have c5b0 := decide_eq_false c5
    clear c5
    have H' := Aside0.mk H
    clear H
    have p101 : 0 ≤ (x11_1 : Int) := dt
    have q101 : x11_1 < (l0.length : Int) := dt
    obtain ⟨ad101, A101_0, c101_0, e101, hx101_0, hl101_0, hi101_0⟩ := at_L2 HR0.out x11_1 p101 q101
    cases e101
    replace hx101_0 := hc HB hx101_0
    have HR101_0 := Aside0.mk hi101_0
    have HC101_0 := Aside0.mk hl101_0
    clear hi101_0 hl101_0
    replace p101 := eq_true p101
    replace q101 := eq_true q101
    go_wp2
    go_roundg k1
    case measure => have := HK1.out; omega
    case rel => exact ⟨(wrap64 (x3_1 + ((rd_L2 l0 x11_1).length : Int))), (wrap64 (x11_1 + 1)), sd, sd, H', ⟨by have := HK1.out; omega⟩, ⟨bh⟩⟩
   ·rw [if_neg c2] at H
    have c2b0 := decide_eq_false c2
    clear c2
    replace H := Option.bind_eq_some_iff.mp H
    obtain ⟨t102, A60, H⟩ := H
    try dsimp only at H
    have A6 := Aside0.mk A60
    clear A60
    have H' := Aside0.mk H
    clear H
    go_wp2_with (first | ((with_reducible refine gc 118 rfl ?_); refine goesL_ (some 24) rfl rfl Try.func118 (by kernel_rfl) rfl #[.slice none 0 0, .int .i64 x3_1] rfl sg ?_; (with_reducible refine (slices_Grow_nil.calls  x3_1 t102 _ A6.out).mono ?_); rintro e w7 ⟨v103, rfl, ho0, hb⟩; refine ⟨_, rfl, ?_⟩; have HO104 := Aside0.mk (Kd.R_lower ho0 (below_size bh)); replace HB := bz hb; (try clear hb); (try clear ho0)))
    go_loopg [6, 27] k1 (fun kq v6 v27 w' => ∃ (x6_2 : List (S41)) (x27_2 : Int), v27 = .int .i64 x27_2 ∧ Aside0 (api_Point_95.l1 kq x6_2 l0 (l0.length : Int) x27_2 = some r) ∧ Aside0 (kq ≤ k1) ∧ Aside0 (Kd.R k41 41 w' w.heap.size (fun _ => True) v6 x6_2) ∧ Aside0 (Below w.heap.size w w'))
    case atStart => exact ⟨(t102), (0), sd, H', ⟨Nat.le_refl _⟩, ⟨ro HO104⟩, ⟨bh⟩⟩
    case round =>
     clear H'
     (try clear c2b0)
     obtain ⟨x6_2, x27_2, rfl, HA, HK2, HO_6, HB⟩ := hrel
     cases gk with
     | zero => exact absurd HA.out (by simp [api_Point_95.l1])
     | succ k2 =>
      have H := HA.out
      clear HA
      simp only [api_Point_95.l1] at H
      by_cases c8 : x27_2 < (l0.length : Int)
      ·rw [if_pos c8] at H
       have c8b0 := decide_eq_true c8
       clear c8
       obtain ⟨c9, H⟩ := oi H
       have c9b0 := decide_eq_true c9
       clear c9
       obtain ⟨c10, H⟩ := oi H
       have c10b0 := decide_eq_true c10
       clear c10
       obtain ⟨c11, H⟩ := oi H
       have LMc11 := Aside0.mk c11
       clear c11
       obtain ⟨y106, hy106⟩ : ∃ y_ : List (S41), y_ = (x6_2 ++ (rd_L2 l0 x27_2)) := ⟨_, rfl⟩
       replace H : (api_Point_95.l1 k2 y106 l0 (l0.length : Int) (wrap64 (x27_2 + 1))) = some r := by first | (rw [hy106]; with_reducible exact H) | (have H2_ := (Option.bind_some _ _).symm.trans H; rw [hy106]; with_reducible exact H2_) | (have H2_ := (Option.bind_some _ _).symm.trans H; with_reducible exact H2_) | with_reducible exact H | (rw [hy106]; exact H) | exact H
       have Ny106 := Aside0.mk hy106
       clear hy106
       have H' := Aside0.mk H
       clear H
       have p105 : 0 ≤ (x27_2 : Int) := dt
       have q105 : x27_2 < (l0.length : Int) := dt
       obtain ⟨ad105, A105_0, c105_0, e105, hx105_0, hl105_0, hi105_0⟩ := at_L2 HR0.out x27_2 p105 q105
       cases e105
       replace hx105_0 := hc HB hx105_0
       have HR105_0 := Aside0.mk hi105_0
       have HC105_0 := Aside0.mk hl105_0
       clear hi105_0 hl105_0
       replace p105 := eq_true p105
       replace q105 := eq_true q105
       go_wp2_with (first | ((with_reducible refine gate_builtin (b := .append) (xs := #[.tmp 31, .tmp 32]) rfl ?_); at_builtin; refine Kd.R_append_rows k41 (w0 := w) w.heap.size rfl (.tmp 31) (.tmp 32) 22 41 (.agg #[(.int .i64 0), (.int .i64 0)]) 16 rfl Try.underlying22 info41 rfl (by decide) (by omega) u6 x6_2 (rd_L2 l0 x27_2) _ _ _ (fun _ => True) (fun _ => False) rfl rfl ?aO ?aR (fun _ _ h => h) (fun _ h => h.elim) ?aF ?aB ?aS ?aL ?_; (case aR => repeat (first | exact (Kd.C_below HR105_0.out HB.out) | (with_reducible refine Kd.C_alloc ?_ _) | (with_reducible refine Kd.C_drewN ?_ _) | (with_reducible refine Kd.C_drew ?_))); (case aB => exact bh); (case aF => exact (fun _ _ => trivial)); (case aO => exact (ro HO_6)); (case aS => exact (below_size bh)); (case aL => have := LMc11.out; omega); intro v107 w12 ho hb hg hat; rw [← Ny106.out] at ho; have HO108 := Aside0.mk (ho); replace HB := Aside0.mk (hb); clear HO_6; clear ho hb hg hat))
       go_roundg k2
       case measure => have := HK1.out; have := HK2.out; omega
       case rel => exact ⟨(y106), (wrap64 (x27_2 + 1)), sd, H', ⟨by have := HK1.out; have := HK2.out; omega⟩, ⟨ro HO108⟩, ⟨bh⟩⟩
      ·rw [if_neg c8] at H
       have c8b0 := decide_eq_false c8
       clear c8
       obtain rfl := Option.some.inj H
       go_wp2
       go_ret
       exact ⟨_, by exact er, by (with_reducible repeat (first | apply Kd.R_alloc | apply Kd.R_drewN | apply Kd.R_drew)); exact HO_6.out, bh⟩
attribute [local go_sem high] eqA41
/-! ### api_Point_119: function 119 -/
def api_Point_119.l0 : Nat → List (S41) → Int → Int → Int → Int → Option (Int)
 | 0, _, _, _, _, _ => none
 | k + 1, x0, x7, x8, x102000, x102001 => if x8 < x7 then (if 0 ≤ x8 then (if x8 < (x0.length : Int) then (if (x102000 == ((rd_T41 x0 x8).f0) && (x102001 == ((rd_T41 x0 x8).f1))) = true then (some x8) else (api_Point_119.l0 k x0 x7 (wrap64 (x8 + 1)) x102000 x102001)) else (none)) else (none)) else (some (-1))
def api_Point_119.f (k : Nat) (l0 : List (S41)) (a1_0 : Int) (a1_1 : Int) : Option (Int) := api_Point_119.l0 k l0 (l0.length : Int) 0 a1_0 a1_1
set_option maxHeartbeats 8000000 in
set_option maxRecDepth 100000 in
theorem api_Point_119.calls (k : Nat) (A0 : Option Addr) (c0 : Nat) (l0 : List (S41)) (a1_0 : Int) (a1_1 : Int) (r : Int) (w : World) (hr0 : Kd.C k41 w A0 l0.length l0) (hc0 : l0.length ≤ c0) (h : api_Point_119.f k l0 a1_0 a1_1 = some r) :
  Calls Try.prog 119 #[.slice A0 l0.length c0, .agg #[.int .i64 a1_0, .int .i64 a1_1]] w fun e w' => e = .returned (.int .i64 r) ∧ Below w.heap.size w w' := by
 have hu41 := Try.underlying41
 have HR0 := Aside0.mk hr0
 have HC0 := Aside0.mk hc0
 clear hr0 hc0
 have HB := Aside0.mk (Below.refl w.heap.size w)
 have H : (api_Point_119.l0 k l0 (l0.length : Int) 0 a1_0 a1_1) = some r := h
 clear h
 have H' := Aside0.mk H
 clear H
 go_enter Try.func119, Try.ntmps119
 go_wp2_with (first | ((with_reducible refine gate_dst (N := 3) rfl ?_); refine bxe 3 #[.int .i64 a1_0, .int .i64 a1_1] 41 ?_; intro gb101 hg w3 hbox hb; have BK101 := Aside0.mk (hbox); have GW101 := ga w hg; have GE101 := GW101; replace HB := bz hb; clear hb hbox hg))
 repeat (go_quiet (first | ((with_reducible refine gate_dst (N := 3) rfl ?_); refine bxe 3 #[.int .i64 a1_0, .int .i64 a1_1] 41 ?_; intro gb101 hg w3 hbox hb; have BK101 := Aside0.mk (hbox); have GW101 := ga w hg; have GE101 := GW101; replace HB := bz hb; clear hb hbox hg)); try go_wp2_with (first | ((with_reducible refine gate_dst (N := 3) rfl ?_); refine bxe 3 #[.int .i64 a1_0, .int .i64 a1_1] 41 ?_; intro gb101 hg w3 hbox hb; have BK101 := Aside0.mk (hbox); have GW101 := ga w hg; have GE101 := GW101; replace HB := bz hb; clear hb hbox hg)))
 go_loopg [8] k (fun kq v8 w' => ∃ (x8_1 : Int), v8 = .int .i64 x8_1 ∧ Aside0 (api_Point_119.l0 kq l0 (l0.length : Int) x8_1 a1_0 a1_1 = some r) ∧ Aside0 (kq ≤ k) ∧ Aside0 (w'.heap[gb101]? = some (.cells #[.int .i64 a1_0, .int .i64 a1_1] 41 (0, 0))) ∧ Aside0 (Below w.heap.size w w'))
 case atStart => exact ⟨(0), sd, H', ⟨Nat.le_refl _⟩, ⟨bk BK101⟩, ⟨bh⟩⟩
 case round =>
  clear H'
  skip
  obtain ⟨x8_1, rfl, HA, HK1, BK101, HB⟩ := hrel
  cases gk with
  | zero => exact absurd HA.out (by simp [api_Point_119.l0])
  | succ k1 =>
   have H := HA.out
   clear HA
   simp only [api_Point_119.l0] at H
   by_cases c4 : x8_1 < (l0.length : Int)
   ·rw [if_pos c4] at H
    have c4b0 := decide_eq_true c4
    clear c4
    obtain ⟨c5, H⟩ := oi H
    have c5b0 := decide_eq_true c5
    clear c5
    obtain ⟨c6, H⟩ := oi H
    have c6b0 := decide_eq_true c6
    clear c6
    by_cases c7 : (a1_0 == ((rd_T41 l0 x8_1).f0) && (a1_1 == ((rd_T41 l0 x8_1).f1))) = true
    ·rw [if_pos c7] at H
     have c7b0 : (a1_0 == ((rd_T41 l0 x8_1).f0) && (a1_1 == ((rd_T41 l0 x8_1).f1))) = true := c7
     (try (have c7b1 : decide (a1_0 = ((rd_T41 l0 x8_1).f0) && (a1_1 == ((rd_T41 l0 x8_1).f1))) = true := by simpa using c7))
     (try (have c7b2 : (a1_0 == ((rd_T41 l0 x8_1).f0) && (a1_1 == ((rd_T41 l0 x8_1).f1))) = true := by simpa using c7))
     clear c7
     obtain rfl := Option.some.inj H
     obtain ⟨hcz8_0, hcz8_1, hfz8_0, hfz8_1⟩ := b2 BK101
     have p102 : 0 ≤ (x8_1 : Int) := dt
     have q102 : x8_1 < (l0.length : Int) := dt
     obtain ⟨ad102, e102, hx102_0, hx102_1⟩ := at_T41 HR0.out x8_1 p102 q102
     cases e102
     replace hx102_0 := hc HB hx102_0
     replace hx102_1 := hc HB hx102_1
     replace p102 := eq_true p102
     replace q102 := eq_true q102
     go_wp2
     repeat (go_quiet (fail); try go_wp2)
     go_ret
     exact ⟨by exact er, bh⟩
    ·rw [if_neg c7] at H
     have c7b0 : (a1_0 == ((rd_T41 l0 x8_1).f0) && (a1_1 == ((rd_T41 l0 x8_1).f1))) = false := by simpa using c7
     (try (have c7b1 : decide (a1_0 = ((rd_T41 l0 x8_1).f0) && (a1_1 == ((rd_T41 l0 x8_1).f1))) = false := by simpa using c7))
     (try (have c7b2 : (a1_0 == ((rd_T41 l0 x8_1).f0) && (a1_1 == ((rd_T41 l0 x8_1).f1))) = false := by simpa using c7))
     (try (have c7b3 : ¬ (a1_0 = ((rd_T41 l0 x8_1).f0) && (a1_1 == ((rd_T41 l0 x8_1).f1))) := by simpa using c7))
     clear c7
     have H' := Aside0.mk H
     clear H
     obtain ⟨hcz9_0, hcz9_1, hfz9_0, hfz9_1⟩ := b2 BK101
     have p102 : 0 ≤ (x8_1 : Int) := dt
     have q102 : x8_1 < (l0.length : Int) := dt
     obtain ⟨ad102, e102, hx102_0, hx102_1⟩ := at_T41 HR0.out x8_1 p102 q102
     cases e102
     replace hx102_0 := hc HB hx102_0
     replace hx102_1 := hc HB hx102_1
     replace p102 := eq_true p102
     replace q102 := eq_true q102
     go_wp2
     repeat (go_quiet (fail); try go_wp2)
     go_roundg k1
     case measure => have := HK1.out; omega
     case rel => exact ⟨(wrap64 (x8_1 + 1)), sd, H', ⟨by have := HK1.out; omega⟩, ⟨bk BK101⟩, ⟨bh⟩⟩
   ·rw [if_neg c4] at H
    have c4b0 := decide_eq_false c4
    clear c4
    obtain rfl := Option.some.inj H
    go_wp2
    repeat (go_quiet (fail); try go_wp2)
    go_ret
    exact ⟨by exact er, bh⟩
/-! ### cmp_Or_int: function 90 -/
def cmp_Or_int.l0 : Nat → Int → List Int → Int → Int → Option (Int)
 | 0, _, _, _, _ => none
 | k + 1, x3, x6, x7, x8 => if x8 < x7 then (if 0 ≤ x8 then (if x8 < (x6.length : Int) then (if (rd x6 x8) = x3 then (cmp_Or_int.l0 k x3 x6 x7 (wrap64 (x8 + 1))) else (some (rd x6 x8))) else (none)) else (none)) else (some x3)
def cmp_Or_int.f (k : Nat) (l0 : List Int) : Option (Int) := cmp_Or_int.l0 k 0 l0 (l0.length : Int) 0
set_option maxHeartbeats 8000000 in
set_option maxRecDepth 100000 in
theorem cmp_Or_int.calls (k : Nat) (A0 : Option Addr) (c0 : Nat) (l0 : List Int) (r : Int) (w : World) (hr0 : Kd.C (Kd.int .i64) w A0 l0.length l0) (hc0 : l0.length ≤ c0) (h : cmp_Or_int.f k l0 = some r) :
  Calls Try.prog 90 #[.slice A0 l0.length c0] w fun e w' => e = .returned (.int .i64 r) ∧ Drawn0 w w' := by
 have HR0 := Aside0.mk hr0
 have HC0 := Aside0.mk hc0
 clear hr0 hc0
 have H : (cmp_Or_int.l0 k 0 l0 (l0.length : Int) 0) = some r := h
 clear h
 have H' := Aside0.mk H
 clear H
 go_enter Try.func90, Try.ntmps90
 go_wp2
 go_loopg [8] k (fun kq v8 w' => ∃ (x8_1 : Int), v8 = .int .i64 x8_1 ∧ Aside0 (cmp_Or_int.l0 kq 0 l0 (l0.length : Int) x8_1 = some r) ∧ Aside0 (kq ≤ k) ∧ Drawn0 w w')
 case atStart => exact ⟨(0), sd, H', ⟨Nat.le_refl _⟩, by repeat (first | exact Drawn0.refl _ | apply Drawn0.step)⟩
 case round =>
  clear H'
  obtain ⟨x8_1, rfl, HA, HK1, ⟨m1, rfl⟩⟩ := hrel
  cases gk with
  | zero => exact absurd HA.out (by simp [cmp_Or_int.l0])
  | succ k1 =>
   have H := HA.out
   clear HA
   simp only [cmp_Or_int.l0] at H
   by_cases c2 : x8_1 < (l0.length : Int)
   ·rw [if_pos c2] at H
    have c2b0 := decide_eq_true c2
    clear c2
    obtain ⟨c3, H⟩ := oi H
    have c3b0 := decide_eq_true c3
    clear c3
    obtain ⟨c4, H⟩ := oi H
    have c4b0 := decide_eq_true c4
    clear c4
    by_cases c5 : (rd l0 x8_1) = 0
    ·rw [if_pos c5] at H
     have c5b0 : ((rd l0 x8_1) == 0) = true := beq_iff_eq.mpr c5
     have c5b1 : ((rd l0 x8_1) != 0) = false := bne_eq_false_iff_eq.mpr c5
     clear c5
     have H' := Aside0.mk H
     clear H
     have p101 : 0 ≤ (x8_1 : Int) := dt
     have q101 : x8_1 < (l0.length : Int) := dt
     obtain ⟨ad101, e101, hx101_0⟩ := Kd.at_int HR0.out x8_1 p101 q101
     cases e101
     replace p101 := eq_true p101
     replace q101 := eq_true q101
     go_wp2
     go_roundg k1
     case measure => have := HK1.out; omega
     case rel => exact ⟨(wrap64 (x8_1 + 1)), sd, H', ⟨by have := HK1.out; omega⟩, by repeat (first | exact Drawn0.refl _ | apply Drawn0.step)⟩
    ·rw [if_neg c5] at H
     have c5b0 : ((rd l0 x8_1) == 0) = false := beq_eq_false_iff_ne.mpr c5
     have c5b1 : ((rd l0 x8_1) != 0) = true := bne_iff_ne.mpr c5
     obtain rfl := Option.some.inj H
     have p101 : 0 ≤ (x8_1 : Int) := dt
     have q101 : x8_1 < (l0.length : Int) := dt
     obtain ⟨ad101, e101, hx101_0⟩ := Kd.at_int HR0.out x8_1 p101 q101
     cases e101
     replace p101 := eq_true p101
     replace q101 := eq_true q101
     go_wp2
     go_ret
     exact ⟨by first | rfl | (simp; done) | (simp [*]; done), by repeat (first | exact Drawn0.refl _ | apply Drawn0.step)⟩
   ·rw [if_neg c2] at H
    have c2b0 := decide_eq_false c2
    clear c2
    obtain rfl := Option.some.inj H
    go_wp2
    go_ret
    exact ⟨by first | rfl | (simp; done) | (simp [*]; done), by repeat (first | exact Drawn0.refl _ | apply Drawn0.step)⟩
/-! ### shape_lower: function 100 -/
def shape_lower.f (k : Nat) (a0_0 : Int) (a0_1 : Int) (a1_0 : Int) (a1_1 : Int) : Option (Int) := (cmp_Compare_int.f a0_1 a1_1).bind fun t103 => ((cmp_Compare_int.f a0_0 a1_0).bind fun t104 => ((cmp_Or_int.f k (([t103, t104] : List Int))).bind fun t108 => (some t108)))
def shape_lower.T1 : Bool × List (List Nat × List Nat) := (true, [([], []), ([0], [0]), ([], []), ([2], [2]), ([1, 3], [1, 3]), ([], []), ([5], [5]), ([], []), ([7], [7]), ([6, 8, 4], [6, 8]), ([4, 9], [4, 9]), ([10, 9], [10]), ([11, 11, 0, 1, 2, 3, 4, 5, 6, 7, 8, 9, 10, 11], [11])])
def shape_lower.B1 : List Nat := [0, 1, 0, 4, 15, 0, 32, 0, 128, 511, 1023, 2047, 4095]
theorem shape_lower.tab1 : rtab .any (opsOf Try.f100 1) = shape_lower.T1 := by kernel_rfl
theorem shape_lower.bits1 : waitsOk shape_lower.T1.2 shape_lower.B1 = true := by kernel_rfl
set_option maxHeartbeats 8000000 in
set_option maxRecDepth 100000 in
theorem shape_lower.calls (k : Nat) (a0_0 : Int) (a0_1 : Int) (a1_0 : Int) (a1_1 : Int) (r : Int) (w : World) (h : shape_lower.f k a0_0 a0_1 a1_0 a1_1 = some r) :
  Calls Try.prog 100 #[.agg #[.int .i64 a0_0, .int .i64 a0_1], .agg #[.int .i64 a1_0, .int .i64 a1_1]] w fun e w' => e = .returned (.int .i64 r) ∧ Below w.heap.size w w' := by
 have hu41 := Try.underlying41
 have HB := Aside0.mk (Below.refl w.heap.size w)
 have H : ((cmp_Compare_int.f a0_1 a1_1).bind fun t103 => ((cmp_Compare_int.f a0_0 a1_0).bind fun t104 => ((cmp_Or_int.f k (([t103, t104] : List Int))).bind fun t108 => (some t108)))) = some r := h
 clear h
 replace H := Option.bind_eq_some_iff.mp H
 obtain ⟨t103, A30, H⟩ := H
 try dsimp only at H
 have A3 := Aside0.mk A30
 clear A30
 replace H := Option.bind_eq_some_iff.mp H
 obtain ⟨t104, A40, H⟩ := H
 try dsimp only at H
 have A4 := Aside0.mk A40
 clear A40
 obtain ⟨y105, hy105⟩ : ∃ y_ : List Int, y_ = (([t103, t104] : List Int)) := ⟨_, rfl⟩
 replace H : ((cmp_Or_int.f k y105).bind fun t108 => (some t108)) = some r := by first | (rw [hy105]; with_reducible exact H) | (have H2_ := (Option.bind_some _ _).symm.trans H; rw [hy105]; with_reducible exact H2_) | (have H2_ := (Option.bind_some _ _).symm.trans H; with_reducible exact H2_) | with_reducible exact H | (rw [hy105]; exact H) | exact H
 have Ny105 := Aside0.mk hy105
 clear hy105
 replace H := Option.bind_eq_some_iff.mp H
 obtain ⟨t108, A50, H⟩ := H
 try dsimp only at H
 have A5 := Aside0.mk A50
 clear A50
 obtain rfl := Option.some.inj H
 go_enter Try.func100, Try.ntmps100
 try go_wp2_with (first | ((with_reducible refine gate_dst (N := 2) rfl ?_); refine bxe 2 #[.int .i64 a0_0, .int .i64 a0_1] 41 ?_; intro gb101 hg w6 hbox hb; have BK101 := Aside0.mk (hbox); have GW101 := ga w hg; have GE101 := GW101; replace HB := bz hb; clear hb hbox hg) | ((with_reducible refine gate_dst (N := 3) rfl ?_); refine bxe 3 #[.int .i64 a1_0, .int .i64 a1_1] 41 ?_; intro gb102 hg w7 hbox hb; have BK102 := Aside0.mk (hbox); have GW102 := ga w hg; have GE102 := GW102; have NB101_102 := nb hg (kl BK101); have NB102_101 := bn NB101_102; replace BK101 := kb BK101 hb; replace HB := bz hb; clear hb hbox hg))
 replace BK101 := Aside0.mk (blk_drew BK101.out)
 replace BK102 := Aside0.mk (blk_drew BK102.out)
 replace HB := Aside0.mk (below_drew1 HB.out)
 refine start_ (n := 13) (S := fun w' => w'.cell? ⟨gb101, 0, none⟩ = some (.int .i64 a0_0) ∧ w'.cell? ⟨gb101, 1, none⟩ = some (.int .i64 a0_1) ∧ w'.cell? ⟨gb102, 0, none⟩ = some (.int .i64 a1_0) ∧ w'.cell? ⟨gb102, 1, none⟩ = some (.int .i64 a1_1)) (ds := []) #[N,N,N,N,N,N,N,N,N,N,N,N,N] (by kernel_rfl) rfl rfl ⟨bc BK101 0, bc BK101 1, bc BK102 0, bc BK102 1⟩ (fun hHeld => ?_); refine with_tabW shape_lower.tab1 shape_lower.bits1 (fun HT_ HW_ => ?_)
 generalize w7.drew = w8 at BK101 BK102 HB hHeld ⊢
 refine pu 0 5 HT_ ?_
 refine pu 2 7 HT_ ?_
 refine pu 5 10 HT_ ?_
 refine pu 7 12 HT_ ?_
 refine tk4 1 6 hHeld HT_ HW_ ?_
 refine tk4 3 8 hHeld HT_ HW_ ?_
 refine tk4 6 11 hHeld HT_ HW_ ?_
 refine tk4 8 13 hHeld HT_ HW_ ?_
 refine one_ (i := 4) (N := some 9) #[T,T,T,T,T,T,T,T,T,N,N,N,N] rfl rfl (on1 HT_) (by decide) (fun K hK => ?_)
 refine goes_ Try.func91 (by kernel_rfl) rfl #[.int .i64 a0_1, .int .i64 a1_1] (by rfl) rfl rfl sg ?_
 with_reducible refine (cmp_Compare_int.calls a0_1 a1_1 t103 _ A3.out).mono ?_
 rintro e w' ⟨rfl, ⟨nd, rfl⟩⟩
 refine ⟨_, rfl, ?_⟩
 refine hK.out _ _ ⟨bc BK101 0, bc BK101 1, bc BK102 0, bc BK102 1⟩ (fun hHeld => ?_)
 clear hK K
 refine nm 9 ?_
 refine one_ (i := 9) (N := some 14) #[T,T,T,T,T,T,T,T,T,T,N,N,N] rfl rfl (on1 HT_) (by decide) (fun K hK => ?_)
 refine goes_ Try.func91 (by kernel_rfl) rfl #[.int .i64 a0_0, .int .i64 a1_0] (by rfl) rfl rfl sg ?_
 with_reducible refine (cmp_Compare_int.calls a0_0 a1_0 t104 _ A4.out).mono ?_
 rintro e w' ⟨rfl, ⟨nd, rfl⟩⟩
 refine ⟨_, rfl, ?_⟩
 refine hK.out _ _ ⟨bc BK101 0, bc BK101 1, bc BK102 0, bc BK102 1⟩ (fun hHeld => ?_)
 clear hK K
 refine nm 14 ?_
 refine one_ (i := 10) (N := some 15) #[T,T,T,T,T,T,T,T,T,T,T,N,N] rfl rfl (on1 HT_) (by decide) (fun K hK => ?_)
 refine Kd.R_lit_step (Kd.int .i64) _ 3 ?hg (N := 15) ?hd (xs := ([t103, t104] : List Int)) (inner := [.int .i64 t103, .int .i64 t104]) (ok := fun _ => True) (okp := fun _ => True) ?hr ?hp (fun _ hk => hk) trivial (Below.refl _ _) (Nat.le_refl _) (by simp) ?_; (case hd => rfl); (case hg => rfl); (case hr => first | (go_simp; done) | (go_simp; rfl)); (case hp => exact (Reps.one (show Kd.M (Kd.int .i64) _ _ _ t103 [.int .i64 t103] from rfl) (Reps.one (show Kd.M (Kd.int .i64) _ _ _ t104 [.int .i64 t104] from rfl) (Reps.none _ _))))
 intro v106 w9 ho10 hb hg_ hnew_
 clear hg_ hnew_
 (first | rw [← Ny105.out] at ho10 | (simp only [Int.reduceToNat] at ho10; rw [← Ny105.out] at ho10))
 have HO107 := Aside0.mk (Kd.R_lower ho10 (below_size bh))
 replace BK101 := kb BK101 hb
 replace BK102 := kb BK102 hb
 replace HB := bz hb
 clear hb ho10
 obtain ⟨Ao11, co11, eo11⟩ := Kd.R_slice HO107.out
 (first | subst eo11 | (injection eo11 with f1_ f2_ f3_; have f4_ := f1_.symm; have f5_ := f3_.symm; clear f1_ f2_ f3_; subst f4_; subst f5_))
 refine hK.out _ _ ⟨bc BK101 0, bc BK101 1, bc BK102 0, bc BK102 1⟩ (fun hHeld => ?_)
 clear hK K
 refine nm 15 ?_
 refine one_ (i := 11) (N := some 16) #[T,T,T,T,T,T,T,T,T,T,T,T,N] rfl rfl (on1 HT_) (by decide) (fun K hK => ?_)
 refine goes_ Try.func90 (by kernel_rfl) rfl #[.slice Ao11 y105.length co11] (by rfl) rfl rfl sg ?_
 with_reducible refine (cmp_Or_int.calls k _ _ y105 t108 _ ?side1 ?side2 A5.out).mono ?_
 (case side1 => exact cs (Kd.R_reads' HO107.out).2.2)
 (case side2 => exact (Kd.R_reads' HO107.out).2.1)
 rintro e w' ⟨rfl, ⟨nd, rfl⟩⟩
 refine ⟨_, rfl, ?_⟩
 refine hK.out _ _ ⟨bc BK101 0, bc BK101 1, bc BK102 0, bc BK102 1⟩ (fun hHeld => ?_)
 clear hK K
 refine nm 16 ?_
 refine pu 12 4 HT_ ?_
 refine done_ (done_of HT_.out (by kernel_rfl)) ?_
 try go_wp2
 go_ret
 exact ⟨by exact er, bh⟩
/-! ### slices_MinFunc_lower: function 1099 -/
def slices_MinFunc_lower.l0 : Nat → List (S41) → Int → Int → Int → Option (Int × Int)
 | 0, _, _, _, _ => none
 | k + 1, x0, x6, x104000, x104001 => if x6 < (x0.length : Int) then (if 0 ≤ x6 then ((shape_lower.f k ((rd_T41 x0 x6).f0) ((rd_T41 x0 x6).f1) x104000 x104001).bind fun t105 => (if t105 < 0 then (slices_MinFunc_lower.l0 k x0 (wrap64 (x6 + 1)) ((rd_T41 x0 x6).f0) ((rd_T41 x0 x6).f1)) else (slices_MinFunc_lower.l0 k x0 (wrap64 (x6 + 1)) x104000 x104001))) else (none)) else (some (x104000, x104001))
def slices_MinFunc_lower.f (k : Nat) (l0 : List (S41))  : Option (Int × Int) := if (l0.length : Int) < 1 then (none) else (if 0 < (l0.length : Int) then (slices_MinFunc_lower.l0 k l0 1 ((rd_T41 l0 0).f0) ((rd_T41 l0 0).f1)) else (none))
def slices_MinFunc_lower.T7 : Bool × List (List Nat × List Nat) := (true, [([], []), ([], []), ([], []), ([1, 2], [1, 2]), ([3], [3]), ([], []), ([0, 4, 5], [0, 4, 5]), ([6], [6])])
def slices_MinFunc_lower.B7 : List Nat := [0, 0, 0, 6, 14, 0, 63, 127]
theorem slices_MinFunc_lower.tab7 : rtab .any (opsOf Try.f99 7) = slices_MinFunc_lower.T7 := by kernel_rfl
theorem slices_MinFunc_lower.bits7 : waitsOk slices_MinFunc_lower.T7.2 slices_MinFunc_lower.B7 = true := by kernel_rfl
set_option maxHeartbeats 8000000 in
set_option maxRecDepth 100000 in
theorem slices_MinFunc_lower.calls (k : Nat) (A0 : Option Addr) (c0 : Nat) (l0 : List (S41))  (r1 : Int) (r2 : Int) (w : World) (hr0 : Kd.C k41 w A0 l0.length l0) (hc0 : l0.length ≤ c0) (h : slices_MinFunc_lower.f k l0 = some (r1, r2)) :
  Calls Try.prog 99 #[.slice A0 l0.length c0, .func (.func 100) #[] #[]] w fun e w' => e = .returned (.agg #[.int .i64 r1, .int .i64 r2]) ∧ Below w.heap.size w w' := by
 have hu41 := Try.underlying41
 have HR0 := Aside0.mk hr0
 have HC0 := Aside0.mk hc0
 clear hr0 hc0
 have HB := Aside0.mk (Below.refl w.heap.size w)
 have H : (if (l0.length : Int) < 1 then (none) else (if 0 < (l0.length : Int) then (slices_MinFunc_lower.l0 k l0 1 ((rd_T41 l0 0).f0) ((rd_T41 l0 0).f1)) else (none))) = some (r1, r2) := h
 clear h
 obtain ⟨c3, H⟩ := oj H
 have c3b0 := decide_eq_false c3
 have c3b1 : decide (l0.length < 1) = false := decide_eq_false (by omega)
 clear c3
 obtain ⟨c4, H⟩ := oi H
 have c4b0 := decide_eq_true c4
 have c4b1 : decide (0 < l0.length) = true := decide_eq_true (by omega)
 clear c4
 have H' := Aside0.mk H
 clear H
 go_enter Try.func99, Try.ntmps99
 go_wp2_with (first | ((with_reducible refine gate_dst (N := 4) rfl ?_); refine bxe 4 #[.int .i64 0, .int .i64 0] 41 ?_; intro gb101 hg w5 hbox hb; have BK101 := Aside0.mk (hbox); have GW101 := ga w hg; have GE101 := GW101; replace HB := bz hb; clear hb hbox hg; have p102 : 0 ≤ (0 : Int) := (by omega); have q102 : 0 < (l0.length : Int) := dt; obtain ⟨ad102, e102, hx102_0, hx102_1⟩ := at_T41 HR0.out 0 p102 q102; cases e102; have qi102 : (0 < l0.length) = True := eq_true (by omega); (try rw [show ((0 : Int)).toNat = 0 from rfl] at hx102_0); (try rw [show 0 * 2 = 0 from rfl] at hx102_0); (try rw [Addr.add_zero'] at hx102_0); (try rw [show ((0 : Int)).toNat = 0 from rfl] at hx102_1); (try rw [show 0 * 2 = 0 from rfl] at hx102_1); (try rw [Addr.add_zero'] at hx102_1); replace hx102_0 := (HB.out.cell (World.block_lt_of_cell? w _ hx102_0)).trans hx102_0; replace hx102_1 := (HB.out.cell (World.block_lt_of_cell? w _ hx102_1)).trans hx102_1; replace p102 := eq_true p102; replace q102 := eq_true q102) | ((with_reducible refine gate_dst (N := 5) rfl ?_); refine bxe 5 #[.int .i64 0, .int .i64 0] 41 ?_; intro gb103 hg w6 hbox hb; have BK103 := Aside0.mk (hbox); have GW103 := ga w hg; have GE103 := GW103; have NB101_103 := nb hg (kl BK101); have NB103_101 := bn NB101_103; replace BK101 := kb BK101 hb; replace HB := bz hb; clear hb hbox hg; have hnb7 := NB103_101.out; have hnc7 := NB101_103.out; obtain ⟨hcz8_0, hcz8_1, hfz8_0, hfz8_1⟩ := b2 BK103))
 go_loopg [6] k (fun kq v6 w' => ∃ (x6_1 : Int) (x104000_1 : Int) (x104001_1 : Int), v6 = .int .i64 x6_1 ∧ Aside0 (slices_MinFunc_lower.l0 kq l0 x6_1 x104000_1 x104001_1 = some (r1, r2)) ∧ Aside0 (kq ≤ k) ∧ Aside0 (w'.heap[gb101]? = some (.cells #[.int .i64 0, .int .i64 0] 41 (0, 0))) ∧ Aside0 (w'.heap[gb103]? = some (.cells #[.int .i64 x104000_1, .int .i64 x104001_1] 41 (0, 0))) ∧ Aside0 (Below w.heap.size w w'))
 case atStart => exact ⟨(1), ((rd_T41 l0 0).f0), ((rd_T41 l0 0).f1), sd, H', ⟨Nat.le_refl _⟩, ⟨by refine bf NB101_103 ?_; refine bf NB101_103 ?_; refine bd ?_; exact BK101.out⟩, ⟨by refine bd ?_; refine blk_put (cs := #[.int .i64 ((rd_T41 l0 0).f0), .int .i64 0]) ?_ 1 _ rfl; refine bd ?_; refine blk_put (cs := #[.int .i64 0, .int .i64 0]) ?_ 0 _ rfl; refine bd ?_; exact BK103.out⟩, ⟨bh⟩⟩
 case round =>
  clear H'
  (try clear c3b0); (try clear c3b1); (try clear c4b0); (try clear c4b1); (try clear hcz8_0); (try clear hcz8_1); (try clear hfz8_0); (try clear hfz8_1); (try clear hx102_0); (try clear hx102_1); (try clear p102); (try clear q102)
  obtain ⟨x6_1, x104000_1, x104001_1, rfl, HA, HK1, BK101, BK103, HB⟩ := hrel
  cases gk with
  | zero => exact absurd HA.out (by simp [slices_MinFunc_lower.l0])
  | succ k1 =>
   have H := HA.out
   clear HA
   simp only [slices_MinFunc_lower.l0] at H
   by_cases c9 : x6_1 < (l0.length : Int)
   ·rw [if_pos c9] at H
    have c9b0 := decide_eq_true c9
    clear c9
    obtain ⟨c10, H⟩ := oi H
    have c10b0 := decide_eq_true c10
    clear c10
    replace H := Option.bind_eq_some_iff.mp H
    obtain ⟨t105, A110, H⟩ := H
    replace H : (if t105 < 0 then (slices_MinFunc_lower.l0 k1 l0 (wrap64 (x6_1 + 1)) ((rd_T41 l0 x6_1).f0) ((rd_T41 l0 x6_1).f1)) else (slices_MinFunc_lower.l0 k1 l0 (wrap64 (x6_1 + 1)) x104000_1 x104001_1)) = some (r1, r2) := H
    have A11 := Aside0.mk A110
    clear A110
    by_cases c12 : t105 < 0
    ·rw [if_pos c12] at H
     have c12b0 := decide_eq_true c12
     clear c12
     have H' := Aside0.mk H
     clear H
     try go_wp2
     replace BK101 := Aside0.mk (blk_drew BK101.out)
     replace BK103 := Aside0.mk (blk_drew BK103.out)
     replace HB := Aside0.mk (below_drew1 HB.out)
     have p104 : 0 ≤ (x6_1 : Int) := dt
     have q104 : x6_1 < (l0.length : Int) := dt
     obtain ⟨ad104, e104, hx104_0, hx104_1⟩ := at_T41 HR0.out x6_1 p104 q104
     have hw104_1 := hx104_1
     have hw104_0 := hx104_0
     obtain rfl : ad102 = ad104 := (by injection e104)
     replace hx104_0 := hc HB hx104_0
     replace hx104_1 := hc HB hx104_1
     replace p104 := eq_true p104
     replace q104 := eq_true q104
     refine start_ (n := 8) (S := fun w' => w'.cell? ⟨gb103, 0, none⟩ = some (.int .i64 x104000_1) ∧ w'.cell? ⟨gb103, 1, none⟩ = some (.int .i64 x104001_1) ∧ w'.cell? (ad102.add ((x6_1).toNat * 2)) = some (.int .i64 ((rd_T41 l0 x6_1).f0)) ∧ w'.cell? ⟨(ad102.add ((x6_1).toNat * 2)).block, (ad102.add ((x6_1).toNat * 2)).off + 1, none⟩ = some (.int .i64 ((rd_T41 l0 x6_1).f1))) (ds := []) #[N,N,N,N,N,N,N,N] (by kernel_rfl) rfl rfl ⟨bc BK103 0, bc BK103 1, (hc HB hw104_0), (hc HB hw104_1)⟩ (fun hHeld => ?_); refine with_tabW slices_MinFunc_lower.tab7 slices_MinFunc_lower.bits7 (fun HT_ HW_ => ?_)
     generalize wr.drew = w13 at BK101 BK103 HB hx104_0 hx104_1 hHeld ⊢
     refine pu 0 20 HT_ ?_
     refine pu 1 21 HT_ ?_
     refine pu 2 22 HT_ ?_
     refine pu 3 23 HT_ ?_
     refine tk4 4 24 hHeld HT_ HW_ ?_
     refine tk4 5 25 hHeld HT_ HW_ ?_
     refine one_ (i := 6) (N := some 26) #[T,T,T,T,T,T,T,N] rfl rfl (on1 HT_) (by decide) (fun K hK => ?_)
     first | (refine goes_ Try.func100 (by kernel_rfl) rfl #[.agg #[.int .i64 ((rd_T41 l0 x6_1).f0), .int .i64 ((rd_T41 l0 x6_1).f1)], .agg #[.int .i64 x104000_1, .int .i64 x104001_1]] (by rfl) rfl rfl sg ?_) | (refine goesV_ Try.func100 (by kernel_rfl) rfl #[.agg #[.int .i64 ((rd_T41 l0 x6_1).f0), .int .i64 ((rd_T41 l0 x6_1).f1)], .agg #[.int .i64 x104000_1, .int .i64 x104001_1]] (by rfl) rfl rfl sg (by rfl) ?_)
     with_reducible refine (shape_lower.calls k1 ((rd_T41 l0 x6_1).f0) ((rd_T41 l0 x6_1).f1) x104000_1 x104001_1 t105 _ A11.out).mono ?_
     rintro e w14 ⟨rfl, hb⟩
     refine ⟨_, rfl, ?_⟩
     replace BK101 := kb BK101 hb
     replace BK103 := kb BK103 hb
     replace HB := bz hb
     (try clear hb)
     refine hK.out _ _ ⟨bc BK103 0, bc BK103 1, (hc HB hw104_0), (hc HB hw104_1)⟩ (fun hHeld => ?_)
     clear hK K
     refine nm 26 ?_
     refine pu 7 27 HT_ ?_
     refine done_ (done_of HT_.out (by kernel_rfl)) ?_
     have p106 : 0 ≤ (x6_1 : Int) := dt
     have q106 : x6_1 < (l0.length : Int) := dt
     obtain ⟨ad106, e106, hx106_0, hx106_1⟩ := at_T41 HR0.out x6_1 p106 q106
     obtain rfl : ad102 = ad106 := (by injection e106)
     replace hx106_0 := hc HB hx106_0
     replace hx106_1 := hc HB hx106_1
     replace p106 := eq_true p106
     replace q106 := eq_true q106
     have hnb15 := NB103_101.out
     have hnc15 := NB101_103.out
     obtain ⟨hcz16_0, hcz16_1, hfz16_0, hfz16_1⟩ := b2 BK103
     try go_wp2
     go_roundg k1
     case measure => have := HK1.out; omega
     case rel => exact ⟨(wrap64 (x6_1 + 1)), ((rd_T41 l0 x6_1).f0), ((rd_T41 l0 x6_1).f1), sd, H', ⟨by have := HK1.out; omega⟩, ⟨by refine bf NB101_103 ?_; refine bf NB101_103 ?_; refine bd ?_; exact BK101.out⟩, ⟨by refine bd ?_; refine blk_put (cs := #[.int .i64 ((rd_T41 l0 x6_1).f0), .int .i64 x104001_1]) ?_ 1 _ rfl; refine bd ?_; refine blk_put (cs := #[.int .i64 x104000_1, .int .i64 x104001_1]) ?_ 0 _ rfl; refine bd ?_; exact BK103.out⟩, ⟨bh⟩⟩
    ·rw [if_neg c12] at H
     have c12b0 := decide_eq_false c12
     clear c12
     have H' := Aside0.mk H
     clear H
     try go_wp2
     replace BK101 := Aside0.mk (blk_drew BK101.out)
     replace BK103 := Aside0.mk (blk_drew BK103.out)
     replace HB := Aside0.mk (below_drew1 HB.out)
     have p104 : 0 ≤ (x6_1 : Int) := dt
     have q104 : x6_1 < (l0.length : Int) := dt
     obtain ⟨ad104, e104, hx104_0, hx104_1⟩ := at_T41 HR0.out x6_1 p104 q104
     have hw104_1 := hx104_1
     have hw104_0 := hx104_0
     obtain rfl : ad102 = ad104 := (by injection e104)
     replace hx104_0 := hc HB hx104_0
     replace hx104_1 := hc HB hx104_1
     replace p104 := eq_true p104
     replace q104 := eq_true q104
     refine start_ (n := 8) (S := fun w' => w'.cell? ⟨gb103, 0, none⟩ = some (.int .i64 x104000_1) ∧ w'.cell? ⟨gb103, 1, none⟩ = some (.int .i64 x104001_1) ∧ w'.cell? (ad102.add ((x6_1).toNat * 2)) = some (.int .i64 ((rd_T41 l0 x6_1).f0)) ∧ w'.cell? ⟨(ad102.add ((x6_1).toNat * 2)).block, (ad102.add ((x6_1).toNat * 2)).off + 1, none⟩ = some (.int .i64 ((rd_T41 l0 x6_1).f1))) (ds := []) #[N,N,N,N,N,N,N,N] (by kernel_rfl) rfl rfl ⟨bc BK103 0, bc BK103 1, (hc HB hw104_0), (hc HB hw104_1)⟩ (fun hHeld => ?_); refine with_tabW slices_MinFunc_lower.tab7 slices_MinFunc_lower.bits7 (fun HT_ HW_ => ?_)
     generalize wr.drew = w17 at BK101 BK103 HB hx104_0 hx104_1 hHeld ⊢
     refine pu 0 20 HT_ ?_
     refine pu 1 21 HT_ ?_
     refine pu 2 22 HT_ ?_
     refine pu 3 23 HT_ ?_
     refine tk4 4 24 hHeld HT_ HW_ ?_
     refine tk4 5 25 hHeld HT_ HW_ ?_
     refine one_ (i := 6) (N := some 26) #[T,T,T,T,T,T,T,N] rfl rfl (on1 HT_) (by decide) (fun K hK => ?_)
     first | (refine goes_ Try.func100 (by kernel_rfl) rfl #[.agg #[.int .i64 ((rd_T41 l0 x6_1).f0), .int .i64 ((rd_T41 l0 x6_1).f1)], .agg #[.int .i64 x104000_1, .int .i64 x104001_1]] (by rfl) rfl rfl sg ?_) | (refine goesV_ Try.func100 (by kernel_rfl) rfl #[.agg #[.int .i64 ((rd_T41 l0 x6_1).f0), .int .i64 ((rd_T41 l0 x6_1).f1)], .agg #[.int .i64 x104000_1, .int .i64 x104001_1]] (by rfl) rfl rfl sg (by rfl) ?_)
     with_reducible refine (shape_lower.calls k1 ((rd_T41 l0 x6_1).f0) ((rd_T41 l0 x6_1).f1) x104000_1 x104001_1 t105 _ A11.out).mono ?_
     rintro e w18 ⟨rfl, hb⟩
     refine ⟨_, rfl, ?_⟩
     replace BK101 := kb BK101 hb
     replace BK103 := kb BK103 hb
     replace HB := bz hb
     (try clear hb)
     refine hK.out _ _ ⟨bc BK103 0, bc BK103 1, (hc HB hw104_0), (hc HB hw104_1)⟩ (fun hHeld => ?_)
     clear hK K
     refine nm 26 ?_
     refine pu 7 27 HT_ ?_
     refine done_ (done_of HT_.out (by kernel_rfl)) ?_
     try go_wp2
     go_roundg k1
     case measure => have := HK1.out; omega
     case rel => exact ⟨(wrap64 (x6_1 + 1)), (x104000_1), (x104001_1), sd, H', ⟨by have := HK1.out; omega⟩, ⟨bk BK101⟩, ⟨bk BK103⟩, ⟨bh⟩⟩
   ·rw [if_neg c9] at H
    have c9b0 := decide_eq_false c9
    clear c9
    simp only [Option.some.injEq, Prod.mk.injEq] at H
    obtain ⟨rfl, rfl⟩ := H
    have hnb19 := NB103_101.out
    have hnc19 := NB101_103.out
    obtain ⟨hcz20_0, hcz20_1, hfz20_0, hfz20_1⟩ := b2 BK103
    obtain ⟨hcz21_0, hcz21_1, hfz21_0, hfz21_1⟩ := b2 BK101
    go_wp2
    refine bodyPost_ret (results_cell_row rfl _ _ gb101 41 #[.int .i64 x104000_1, .int .i64 x104001_1] (0, 0) _ rfl (by refine bd ?_; refine blk_put (cs := #[.int .i64 x104000_1, .int .i64 0]) ?_ 1 _ rfl; refine bd ?_; refine blk_put (cs := #[.int .i64 0, .int .i64 0]) ?_ 0 _ rfl; refine bd ?_; exact BK101.out) Try.underlying41 rfl (by kernel_rfl)) rfl ?_
    exact ⟨by exact er, bh⟩
/-! ### shape_begun: function 96 -/
def shape_begun.f (k : Nat) (l0 : List (S41)) : Option ((List (S41))) := (slices_MinFunc_lower.f k l0).bind fun bt101 => ((api_Point_119.f k l0 bt101.1 bt101.2).bind fun t103 => (if 0 ≤ t103 then (if t103 ≤ (l0.length : Int) then ((api_Point_95.f k (([(l0.drop (t103 : Int).toNat), (l0.take (t103 : Int).toNat)] : List (List (S41))))).bind fun t117 => (some t117)) else (none)) else (none)))
def shape_begun.T2 : Bool × List (List Nat × List Nat) := (true, [([], []), ([], []), ([0, 1], [0, 1]), ([], []), ([], []), ([3, 4], [3, 4]), ([2, 5], [2, 5]), ([6], [6]), ([7, 7, 0, 1, 2, 3, 4, 5, 6, 7], [7])])
def shape_begun.B2 : List Nat := [0, 0, 3, 0, 0, 24, 63, 127, 255]
theorem shape_begun.tab2 : rtab .any (opsOf Try.f96 2) = shape_begun.T2 := by kernel_rfl
theorem shape_begun.bits2 : waitsOk shape_begun.T2.2 shape_begun.B2 = true := by kernel_rfl
set_option maxHeartbeats 8000000 in
set_option maxRecDepth 100000 in
theorem shape_begun.calls (k : Nat) (P0_ : Nat → Prop) (A0 : Option Addr) (c0 : Nat) (l0 : List (S41)) (r : List (S41)) (w : World) (hs0 : Kd.V k41 41 w w.heap.size (fun k_ => P0_ k_) (.slice A0 l0.length c0) l0) (h : shape_begun.f k l0 = some r) :
  Calls Try.prog 96 #[.slice A0 l0.length c0] w fun e w' => ∃ v0_ : Value, e = .returned (v0_) ∧ Kd.R k41 41 w' w.heap.size (fun k_ => (w.heap.size ≤ k_)) v0_ r ∧ Below w.heap.size w w' := by
 have HO0 := Aside0.mk (show Kd.V k41 41 w w.heap.size (fun k_ => (P0_ k_ ∨ w.heap.size ≤ k_)) (.slice A0 l0.length c0) l0 from Kd.V_mono hs0 (fun k_ hk => .inl hk))
 have HB := Aside0.mk (Below.refl w.heap.size w)
 have H : ((slices_MinFunc_lower.f k l0).bind fun bt101 => ((api_Point_119.f k l0 bt101.1 bt101.2).bind fun t103 => (if 0 ≤ t103 then (if t103 ≤ (l0.length : Int) then ((api_Point_95.f k (([(l0.drop (t103 : Int).toNat), (l0.take (t103 : Int).toNat)] : List (List (S41))))).bind fun t117 => (some t117)) else (none)) else (none)))) = some r := h
 clear h
 replace H := Option.bind_eq_some_iff.mp H
 obtain ⟨⟨t101, t102⟩, A20, H⟩ := H
 try dsimp only at H
 have A2 := Aside0.mk A20
 clear A20
 replace H := Option.bind_eq_some_iff.mp H
 obtain ⟨t103, A30, H⟩ := H
 try dsimp only at H
 have A3 := Aside0.mk A30
 clear A30
 obtain ⟨c4, H⟩ := oi H
 have c4b0 := eq_true c4
 have c4b1 := decide_eq_true c4
 clear c4
 obtain ⟨c5, H⟩ := oi H
 have c5b0 := eq_true c5
 have c5b1 := decide_eq_true c5
 clear c5
 obtain ⟨y104, hy104⟩ : ∃ y_ : List (S41), y_ = (l0.drop (t103 : Int).toNat) := ⟨_, rfl⟩
 replace H : ((api_Point_95.f k (([y104, (l0.take (t103 : Int).toNat)] : List (List (S41))))).bind fun t117 => (some t117)) = some r := by first | (rw [hy104]; with_reducible exact H) | (have H2_ := (Option.bind_some _ _).symm.trans H; rw [hy104]; with_reducible exact H2_) | (have H2_ := (Option.bind_some _ _).symm.trans H; with_reducible exact H2_) | with_reducible exact H | (rw [hy104]; exact H) | exact H
 have Ny104 := Aside0.mk hy104
 clear hy104
 have c6b0 := eq_true (dt : 0 ≤ t103)
 have c7b0 := eq_true (dt : t103 ≤ (l0.length : Int))
 obtain ⟨y109, hy109⟩ : ∃ y_ : List (S41), y_ = (l0.take (t103 : Int).toNat) := ⟨_, rfl⟩
 replace H : ((api_Point_95.f k (([y104, y109] : List (List (S41))))).bind fun t117 => (some t117)) = some r := by first | (rw [hy109]; with_reducible exact H) | (have H2_ := (Option.bind_some _ _).symm.trans H; rw [hy109]; with_reducible exact H2_) | (have H2_ := (Option.bind_some _ _).symm.trans H; with_reducible exact H2_) | with_reducible exact H | (rw [hy109]; exact H) | exact H
 have Ny109 := Aside0.mk hy109
 clear hy109
 obtain ⟨y114, hy114⟩ : ∃ y_ : List (List (S41)), y_ = (([y104, y109] : List (List (S41)))) := ⟨_, rfl⟩
 replace H : ((api_Point_95.f k y114).bind fun t117 => (some t117)) = some r := by first | (rw [hy114]; with_reducible exact H) | (have H2_ := (Option.bind_some _ _).symm.trans H; rw [hy114]; with_reducible exact H2_) | (have H2_ := (Option.bind_some _ _).symm.trans H; with_reducible exact H2_) | with_reducible exact H | (rw [hy114]; exact H) | exact H
 have Ny114 := Aside0.mk hy114
 clear hy114
 replace H := Option.bind_eq_some_iff.mp H
 obtain ⟨t117, A80, H⟩ := H
 try dsimp only at H
 have A8 := Aside0.mk A80
 clear A80
 obtain rfl := Option.some.inj H
 go_enter Try.func96, Try.ntmps96
 try go_wp2_with (first | ((with_reducible refine gc 99 rfl ?_); refine goesL_ (some 6) rfl rfl Try.func99 (by kernel_rfl) rfl #[.slice A0 l0.length c0, .func (.func 100) #[] #[]] rfl sg ?_; (with_reducible refine (slices_MinFunc_lower.calls k _ _ l0  t101 t102 _ ?side1 ?side2 A2.out).mono ?_); (case side1 => exact cs (Kd.V_reads' HO0.out).2.2); (case side2 => exact (Kd.V_reads' HO0.out).2.1); rintro e w9 ⟨rfl, hb⟩; refine ⟨_, rfl, ?_⟩; replace HO0 := Aside0.mk (Kd.V_below (vo HO0) hb); replace HB := bz hb; (try clear hb)) | ((with_reducible refine gc 119 rfl ?_); refine goesL_ (some 7) rfl rfl Try.func119 (by kernel_rfl) rfl #[.slice A0 l0.length c0, .agg #[.int .i64 t101, .int .i64 t102]] rfl sg ?_; (with_reducible refine (api_Point_119.calls k _ _ l0 t101 t102 t103 _ ?side1 ?side2 A3.out).mono ?_); (case side1 => exact cs (Kd.V_reads' HO0.out).2.2); (case side2 => exact (Kd.V_reads' HO0.out).2.1); rintro e w10 ⟨rfl, hb⟩; refine ⟨_, rfl, ?_⟩; replace HO0 := Aside0.mk (Kd.V_below (vo HO0) hb); replace HB := bz hb; (try clear hb)))
 replace HO0 := Aside0.mk (Kd.V_drew HO0.out)
 replace HB := Aside0.mk (below_drew1 HB.out)
 have q12 : (t103 : Int) ≤ ((l0.length : Int) : Int) := dt
 obtain ⟨i012, hi012, _, hsz12, _⟩ := info_parts info41
 have hroom12 : l0.length ≤ c0 := (Kd.V_reads' HO0.out).2.1
 have hC12 : Kd.F k41 _ _ A0 l0.length l0 := (Kd.V_at (base := w.heap.size) HO0.out).2.2
 have q012 : (0 : Int) ≤ (t103 : Int) := dt
 have hcut12 := cut_from (P := Try.prog) 22 41 .i64 Try.underlying22 hi012 2 hsz12 A0 l0.length c0 t103 q012 q12
 have hr12 := Kd.F_cut (m := (t103 : Int).toNat) (c := c0) hC12 (by omega) hroom12
 obtain ⟨A12, hA12⟩ : ∃ A1, A1 = (if c0 = (t103 : Int).toNat then A0 else (A0 : Option Addr).map (·.add ((t103 : Int).toNat * 2))) := ⟨_, rfl⟩
 obtain ⟨c12, hc12⟩ : ∃ c1, c1 = c0 - (t103 : Int).toNat := ⟨_, rfl⟩
 have hy12 : y104.length = l0.length - (t103 : Int).toNat := (by rw [Ny104.out, List.length_drop] <;> omega)
 rw [show (l0).drop (t103 : Int).toNat = y104 from Ny104.out.symm] at hr12
 replace hr12 : Kd.F k41 _ _ A12 y104.length y104 := (by rw [hA12]; exact hr12)
 rw [← hy12, ← hA12, ← hc12] at hcut12
 have HO108 := Aside0.mk (show Kd.V k41 41 _ w.heap.size _ (.slice A12 y104.length c12) y104 from Kd.V_mk (by rw [hy12, hc12]; exact Nat.sub_le_sub_right hroom12 _) hr12)
 have HC108 := Aside0.mk (show y104.length ≤ c12 from by rw [hy12, hc12]; exact Nat.sub_le_sub_right hroom12 _)
 clear hr12 hC12 hroom12 hi012 hsz12 hc12
 have KY12 := Aside0.mk hy12
 have KA12 := Aside0.mk hA12
 clear hy12 hA12
 replace q12 := eq_true q12
 have q13 : (t103 : Int) ≤ ((l0.length : Int) : Int) := dt
 obtain ⟨i013, hi013, _, hsz13, _⟩ := info_parts info41
 have hroom13 : l0.length ≤ c0 := (Kd.V_reads' HO0.out).2.1
 have hC13 : Kd.F k41 _ _ A0 l0.length l0 := (Kd.V_at (base := w.heap.size) HO0.out).2.2
 have hcut13 := cut_to (P := Try.prog) 22 41 .i64 Try.underlying22 hi013 A0 l0.length c0 t103 (dt) q13 hroom13
 have hr13 := Kd.F_take (m := (t103 : Int).toNat) hC13 (by omega)
 have hy13 : y109.length = (t103 : Int).toNat := (by rw [Ny109.out, List.length_take]; omega)
 rw [← Ny109.out] at hr13
 rw [← hy13] at hcut13
 have HO113 := Aside0.mk (show Kd.V k41 41 _ w.heap.size _ (.slice A0 y109.length c0) y109 from Kd.V_mk (by omega) hr13)
 have HC113 := Aside0.mk (show y109.length ≤ c0 from by omega)
 clear hr13 hC13 hroom13 hi013 hsz13
 have KY13 := Aside0.mk hy13
 clear hy13
 replace q13 := eq_true q13
 refine start_ (n := 9) (S := fun w' => True) (ds := []) #[N,N,N,N,N,N,N,N,N] (by kernel_rfl) rfl rfl trivial (fun hHeld => ?_); refine with_tabW shape_begun.tab2 shape_begun.bits2 (fun HT_ HW_ => ?_)
 generalize w10.drew = w11 at HO0 HB HO108 HO113 hHeld ⊢
 refine pu 0 8 HT_ ?_
 refine pu 1 9 HT_ ?_
 refine pu 2 10 HT_ ?_
 refine pu 3 11 HT_ ?_
 refine pu 4 12 HT_ ?_
 refine pu 5 13 HT_ ?_
 refine one_ (i := 6) (N := some 14) #[T,T,T,T,T,T,T,N,N] rfl rfl (on1 HT_) (by decide) (fun K hK => ?_)
 refine Kd.N_lit_step (Kd.slice 41 k41) _ 22 ?hg (N' := 14) ?hd (xs := ([y104, y109] : List (List (S41)))) (inner := [.slice A12 y104.length c12, .slice A0 y109.length c0]) (ok := (fun k_ => (P0_ k_ ∨ w.heap.size ≤ k_))) (okp := (fun k_ => (P0_ k_ ∨ w.heap.size ≤ k_))) ?hr ?hp (fun _ hk => hk) ((show ∀ k_, w11.heap.size ≤ k_ → (fun k_ => (P0_ k_ ∨ w.heap.size ≤ k_)) k_ from fun k_ hk => (.inr (Nat.le_trans (below_size bh) hk))) _ (Nat.le_refl _)) (Below.refl _ _) (Nat.le_refl _) (by simp) ?_; (case hd => rfl); (case hg => rfl); (case hr => first | (go_simp; done) | (go_simp; rfl)); (case hp => exact (Reps.one (show Kd.FK (Kd.slice 41 k41) _ _ y104 [.slice A12 y104.length c12] from (Kd.FK_slice_mk (Kd.V_reads' (Kd.V_mono (ok' := (fun k_ => (P0_ k_ ∨ w.heap.size ≤ k_))) (HO108.out) (fun k_ hk => hk))).2.1 (Kd.V_F (Kd.V_mono (ok' := (fun k_ => (P0_ k_ ∨ w.heap.size ≤ k_))) (HO108.out) (fun k_ hk => hk))))) (Reps.one (show Kd.FK (Kd.slice 41 k41) _ _ y109 [.slice A0 y109.length c0] from (Kd.FK_slice_mk (Kd.V_reads' (Kd.V_mono (ok' := (fun k_ => (P0_ k_ ∨ w.heap.size ≤ k_))) (HO113.out) (fun k_ hk => hk))).2.1 (Kd.V_F (Kd.V_mono (ok' := (fun k_ => (P0_ k_ ∨ w.heap.size ≤ k_))) (HO113.out) (fun k_ hk => hk))))) (Reps.none _ _))))
 intro v115 w14 ho15 hb hg_ hnew_
 clear hg_ hnew_
 (first | rw [← Ny114.out] at ho15 | (simp only [Int.reduceToNat] at ho15; rw [← Ny114.out] at ho15))
 have HO116 := Aside0.mk (Kd.N_lower ho15 (below_size bh))
 replace HO0 := Aside0.mk (Kd.V_elder' (vo HO0) (Kd.N_base ho15) hb)
 replace HO108 := Aside0.mk (Kd.V_elder' (vo HO108) (Kd.N_base ho15) hb)
 replace HO113 := Aside0.mk (Kd.V_elder' (vo HO113) (Kd.N_base ho15) hb)
 replace HB := bz hb
 clear hb ho15
 obtain ⟨Ao16, co16, eo16⟩ := Kd.N_slice HO116.out
 (first | subst eo16 | (injection eo16 with f1_ f2_ f3_; have f4_ := f1_.symm; have f5_ := f3_.symm; clear f1_ f2_ f3_; subst f4_; subst f5_))
 refine hK.out _ _ trivial (fun hHeld => ?_)
 clear hK K
 refine nm 14 ?_
 refine one_ (i := 7) (N := some 15) #[T,T,T,T,T,T,T,T,N] rfl rfl (on1 HT_) (by decide) (fun K hK => ?_)
 refine goes_ Try.func95 (by kernel_rfl) rfl #[.slice Ao16 y114.length co16] (by rfl) rfl rfl sg ?_
 with_reducible refine (api_Point_95.calls k _ _ y114 t117 _ ?side1 ?side2 A8.out).mono ?_
 (case side1 => exact cs (Kd.N_reads' HO116.out).2.2)
 (case side2 => exact (Kd.N_reads' HO116.out).2.1)
 rintro e w17 ⟨v118, rfl, ho0, hb⟩
 refine ⟨_, rfl, ?_⟩
 have HO119 := Aside0.mk (Kd.R_lower (Kd.R_newM (M := fun k_ => (w.heap.size ≤ k_)) ho0 (below_size bh) (fun k_ h_ => h_)) (below_size bh))
 replace HO0 := Aside0.mk (Kd.V_elder' (vo HO0) (Kd.R_base ho0) hb)
 replace HO108 := Aside0.mk (Kd.V_elder' (vo HO108) (Kd.R_base ho0) hb)
 replace HO113 := Aside0.mk (Kd.V_elder' (vo HO113) (Kd.R_base ho0) hb)
 replace HO116 := Aside0.mk (Kd.N_elder' (no HO116) (Kd.R_base ho0) hb)
 replace HB := bz hb
 (try clear hb); (try clear ho0)
 refine hK.out _ _ trivial (fun hHeld => ?_)
 clear hK K
 refine nm 15 ?_
 refine pu 8 2 HT_ ?_
 refine done_ (done_of HT_.out (by kernel_rfl)) ?_
 try go_wp2
 go_ret
 exact ⟨_, by exact er, by (with_reducible repeat (first | apply Kd.R_alloc | apply Kd.R_drewN | apply Kd.R_drew)); exact Kd.R_mono HO119.out (fun _ hk => hk.1), bh⟩
end Go.Proofs.Ythehmkpcddafnaa.PG
end
section
namespace Go.Proofs.Ythehmkpcddafnaa.PG
open Go.RowKit Go.Proofs.YthehmkpcddafnaaW.PrintWords Go.Proofs.YthehmkpcddafnaaW.PrintLast Go.Proofs.YthehmkpcddafnaaW.PrintMore
def slices_Clone.f (l0 : List (S41)) : Option (List S41) := if l0.length < 8796093022208 then some l0 else none
set_option maxHeartbeats 2000000 in
theorem slices_Clone.calls (A0 : Option Addr) (c0 : Nat) (l0 : List (S41)) (r : List S41) (w : World) (hr0 : Kd.C k41 w A0 l0.length l0) (_hc0 : l0.length ≤ c0) (h : slices_Clone.f l0 = some r) :
  Calls Try.prog 87 #[.slice A0 l0.length c0] w fun e w' => ∃ v0_ : Value, e = .returned (v0_) ∧ Kd.R k41 41 w' w.heap.size (fun _ => True) v0_ r ∧ Below w.heap.size w w' := by
 unfold slices_Clone.f at h
 by_cases hl : l0.length < 8796093022208
 ·rw [if_pos hl] at h
  obtain rfl := Option.some.inj h
  clear h
  have q22 : ∀ (w : World) (a : Option Addr) (n c n' c' : Nat), (binOp .eql 22 (.slice a n c) (.slice none n' c')).run Try.prog w = .ok (.bool a.isNone) w := fun w a n c n' c' => Lib.run_eql_slice_nil w _ _ a n c n' c' Try.underlying22
  cases A0 with
  | none =>
   have h0 : l0 = [] := by
    cases l0 with
    | nil => rfl
    | cons x t => obtain ⟨ad, e, _⟩ := at_T41 hr0 0 (by omega) (by simp); cases e
   subst h0
   clear hr0
   go_enter Try.func87, Try.ntmps87
   go_wp2
   go_ret
   exact ⟨_, rfl, ⟨fun k hk => by simp [Value.ownBlock] at hk, [], own_nil _ _ _ _, Reps.none _ _⟩, Below.refl _ _⟩
  | some a0 =>
   have HR := Aside0.mk hr0
   have HB := Aside0.mk (Below.refl w.heap.size w)
   clear hr0
   have HL := Aside0.mk hl
   clear hl
   go_enter Try.func87, Try.ntmps87
   go_wp2_with (first | ((with_reducible refine gate_dst (N := 5) rfl ?_); refine Kd.R_lit k41 _ 41 ?hg (N := 5) ?hd (xs := ([] : List (S41))) (inner := []) (ok := fun _ => True) (okp := fun _ => True) ?hr ?hp (fun _ hk => hk) trivial (Below.refl _ _) (Nat.le_refl _) (by simp) ?_; (case hd => rfl); (case hg => rfl); (case hr => first | (go_simp; done) | (go_simp; rfl)); (case hp => exact (Reps.none _ _)); intro v5 w5 ho5 hb hg_ hnew_; clear hg_ hnew_; have HO := Aside0.mk (Kd.R_lower ho5 HB.out.size); have n1_ := Aside0.mk (below_step HB.out hb); clear HB; have HB := n1_; clear n1_; clear hb ho5) | ((with_reducible refine gate_builtin (b := .append) (xs := #[.tmp 5, .tmp 6]) rfl ?_); at_builtin; refine Kd.R_append_rows k41 (w0 := w) w.heap.size rfl (.tmp 5) (.tmp 6) 22 41 (.agg #[(.int .i64 0), (.int .i64 0)]) 16 rfl Try.underlying22 info41 rfl (by decide) (by omega) v5 ([] : List S41) l0 _ _ _ (fun _ => True) (fun _ => False) rfl rfl ?aO ?aR (fun _ _ h => h) (fun _ h => h.elim) ?aF ?aB ?aS ?aL ?_; (case aR => exact (Kd.C_below HR.out HB.out)); (case aB => exact HB.out); (case aF => exact (fun _ _ => trivial)); (case aO => exact HO.out); (case aS => exact HB.out.size); (case aL => have := HL.out; simp; omega); intro v7 w7 ho hb hg hat; clear HB; have HB := Aside0.mk hb; have HO7 := Aside0.mk ho; clear HO ho hb hg hat))
   go_ret
   exact ⟨_, rfl, by rw [List.nil_append] at HO7; exact HO7.out, HB.out⟩
 ·rw [if_neg hl] at h; cases h
end Go.Proofs.Ythehmkpcddafnaa.PG
end
section
namespace Go.Proofs.Ythehmkpcddafnaa.PG
open Go.RowKit Go.Proofs.YthehmkpcddafnaaW.PrintWords Go.Proofs.YthehmkpcddafnaaW.PrintLast Go.Proofs.YthehmkpcddafnaaW.PrintMore
attribute [local go_sem high] eqA41
def slices_Compact.g : List S41 → List S41
 | [] => []
 | [a] => [a]
 | a :: b :: l => if a.f0 = b.f0 ∧ a.f1 = b.f1 then slices_Compact.g (b :: l) else a :: slices_Compact.g (b :: l)
def slices_Compact.f (l0 : List (S41)) : Option (List S41) := some (slices_Compact.g l0)
def cg := slices_Compact.g
theorem cg_snoc (a b : S41) : ∀ q : List S41, cg (q ++ [a] ++ [b]) = if a.f0 = b.f0 ∧ a.f1 = b.f1 then cg (q ++ [a]) else cg (q ++ [a]) ++ [b] := by
 intro q
 induction q with
 | nil =>
  simp only [List.nil_append, List.cons_append, cg, slices_Compact.g]
  split
  ·rename_i h; cases a; cases b; simp at h; simp [h]
  ·rfl
 | cons c q ih =>
  cases q with
  | nil =>
   simp only [List.nil_append, List.cons_append, cg, slices_Compact.g] at ih ⊢
   by_cases h1 : c.f0 = a.f0 ∧ c.f1 = a.f1 <;> by_cases h2 : a.f0 = b.f0 ∧ a.f1 = b.f1 <;> simp [h1, h2] at ih ⊢
   all_goals (cases a; cases b; simp_all)
  | cons d q =>
   simp only [List.cons_append, cg, slices_Compact.g] at ih ⊢
   rw [ih]
   by_cases h1 : c.f0 = d.f0 ∧ c.f1 = d.f1 <;> by_cases h2 : a.f0 = b.f0 ∧ a.f1 = b.f1 <;> simp [h1, h2]
theorem cg_take (l : List S41) (m : Nat) (h1 : 1 ≤ m) (h : m < l.length) : cg (l.take (m + 1)) = if (rd_T41 l ((m : Int) - 1)).f0 = (rd_T41 l m).f0 ∧ (rd_T41 l ((m : Int) - 1)).f1 = (rd_T41 l m).f1 then cg (l.take m) else cg (l.take m) ++ [rd_T41 l m] := by
 have e1 : rd_T41 l m = l[m] := by simp [rd_T41, List.getD_eq_getElem?_getD, h]
 have e0 : rd_T41 l ((m : Int) - 1) = l[m - 1] := by
  unfold rd_T41
  rw [show ((m : Int) - 1).toNat = m - 1 by omega, List.getD_eq_getElem?_getD, List.getElem?_eq_getElem (by omega)]; rfl
 have e2 : l.take m = l.take (m - 1) ++ [l[m - 1]] := by
  have := List.take_succ_eq_append_getElem (l := l) (i := m - 1) (by omega)
  rw [show m - 1 + 1 = m by omega] at this; exact this
 rw [e0, e1, List.take_succ_eq_append_getElem h, e2, cg_snoc]
theorem cg_all (l : List S41) (m : Nat) (h1 : 1 ≤ m) (h : m ≤ l.length) (hd : ∀ j, 1 ≤ j → j < m → ¬ ((rd_T41 l ((j : Int) - 1)).f0 = (rd_T41 l j).f0 ∧ (rd_T41 l ((j : Int) - 1)).f1 = (rd_T41 l j).f1)) : cg (l.take m) = l.take m := by
 induction m with
 | zero => omega
 | succ m ih =>
  rcases Nat.eq_zero_or_pos m with rfl | hm
  ·cases l with
   | nil => simp at h
   | cons a l => simp [cg, slices_Compact.g]
  ·rw [cg_take l m hm (by omega), if_neg (hd m hm (by omega)), ih hm (by omega) (fun j h1 h2 => hd j h1 (by omega)), List.take_succ_eq_append_getElem (by omega)]
   have e1 : rd_T41 l m = l[m] := by simp [rd_T41, List.getD_eq_getElem?_getD, show m < l.length by omega]
   rw [e1]
theorem setCells_row {w : World} {g : Nat} : ∀ (vs : List Value) (o : Nat) (wr : World) (cur : Array Value), w.grownBy wr (some g) → wr.heap[g]? = some (.cells cur 41 (0, 0)) →
  w.grownBy (wr.setCells g o vs) (some g) ∧ ∃ cur', (wr.setCells g o vs).heap[g]? = some (.cells cur' 41 (0, 0)) ∧ cur'.size = cur.size ∧ ∀ i, i < o → cur'[i]? = cur[i]?
 | [], o, wr, cur, hg, hh => ⟨hg, cur, hh, rfl, fun _ _ => rfl⟩
 | v :: r, o, wr, cur, hg, hh => by
  obtain ⟨h1, cur', h2, h3, h4⟩ := setCells_row r (o + 1) (wr.setCell ⟨g, o, none⟩ v) _ (grown_set hg o v) (blk_set hh o v)
  refine ⟨h1, cur', h2, by rw [h3]; simp, fun i hi => ?_⟩
  rw [h4 i (by omega), Array.getElem?_setIfInBounds_ne (by omega)]
theorem clear_run (wr : World) (g o m c : Nat) (cur : Array Value) (ty : TypeId) (hh : wr.heap[g]? = some (.cells cur 41 (0, 0))) (hm : 0 < m) (hs : o + m * 2 ≤ cur.size) :
  (Builtin.clear_ #[22] ty #[.slice (some ⟨g, o, none⟩) m c]).run Try.prog wr = .ok (.tuple #[]) (wr.setCells g o (List.replicate (m * 2) (.int .i64 0))) := by
 have hv : ∀ w, (zeroValue 41).run Try.prog w = .ok (.agg #[.int .i64 0, .int .i64 0]) w := fun w => by kernel_rfl
 have hz : (Value.agg #[.int .i64 0, .int .i64 0]).cells = #[.int .i64 0, .int .i64 0] := by kernel_rfl
 have hzc : (Builtin.zeroCells #[Value.int .i64 0, .int .i64 0] m).toList = List.replicate (m * 2) (.int .i64 0) := by
  simp [Builtin.zeroCells]
  apply List.ext_getElem
  ·simp
  ·intro i h1 h2
   simp
   have : i % 2 = 0 ∨ i % 2 = 1 := by omega
   rcases this with e | e <;> simp [e]
 have hst := run_storeCells_cells (P := Try.prog) g o (List.replicate (m * 2) (.int .i64 0)) 0 wr (by
   intro j hj
   simp at hj
   rw [blk_cell hh, Array.getElem?_eq_getElem (by omega)]; rfl) (by intro j _; exact blk_frozen hh _) (by intro v hv'; rw [List.eq_of_mem_replicate hv']; rfl)
 simp only [Nat.add_zero] at hst
 obtain ⟨m', rfl⟩ : ∃ m', m = m' + 1 := ⟨m - 1, by omega⟩
 simp [Builtin.clear_, run_underlying Try.underlying22, hv, hz, hzc, hst]
set_option maxHeartbeats 4000000 in
set_option maxRecDepth 100000 in
theorem slices_Compact.calls (P0_ : Nat → Prop) (u9000_ : Value) (l0 : List (S41)) (r : List (S41)) (w0 w : World) (hB : Below w0.heap.size w0 w) (ho0 : Kd.R k41 41 w w0.heap.size P0_ u9000_ l0) (h : slices_Compact.f l0 = some r) :
  Calls Try.prog 92 #[u9000_] w fun e w' => ∃ v0_ : Value, e = .returned (v0_) ∧ Kd.R k41 41 w' w0.heap.size (fun k_ => (P0_ k_ ∨ w.heap.size ≤ k_)) v0_ r ∧ Below w0.heap.size w0 w' ∧ Kept w w' (fun k_ => P0_ k_) := by
 obtain rfl := Option.some.inj h
 clear h
 by_cases hn : l0.length < 2
 ·have e : slices_Compact.g l0 = l0 := by
   match l0, hn with
   | [], _ => rfl
   | [a], _ => rfl
  rw [e]
  obtain ⟨A, c, rfl⟩ := Kd.R_slice ho0
  have HO := Aside0.mk ho0
  have HB := Aside0.mk hB
  clear ho0 e hB
  have hlt : decide (l0.length < 2) = true := decide_eq_true hn
  have hlt' : decide ((l0.length : Int) < 2) = true := decide_eq_true (by omega)
  generalize hn' : l0.length = n at *
  clear hn
  go_enter Try.func92, Try.ntmps92
  go_wp2
  go_ret
  exact ⟨_, rfl, by first | exact Kd.R_mono HO.out (fun k hk => .inl hk), HB.out, ⟨Nat.le_refl _, fun _ _ _ => rfl⟩⟩
 ·obtain ⟨g, cap, cur, rfl, hb, hh, hnc, hcm, hsz, hPg, hp⟩ := row_open ho0 (by omega)
  clear ho0
  have HP := Aside0.mk hp
  have HB := Aside0.mk hB
  have HPg := Aside0.mk hPg
  have HH := Aside0.mk hh
  have HS := Aside0.mk hsz
  have hcap : cap ≤ 9223372036854775807 := by unfold maxLen at hcm; exact hcm
  have HCM := Aside0.mk hcm
  have HBG := Aside0.mk hb
  clear hp hB hPg hh hsz hcm hb
  have HR := Aside0.mk (show slices_Compact.g l0 = cg l0 from rfl)
  obtain ⟨n, hn'⟩ : ∃ n, l0.length = n := ⟨_, rfl⟩
  rw [hn'] at hn hnc ⊢
  have HN := Aside0.mk hn'
  clear hn'
  have hu29 := Try.underlying41
  have hge : ¬ ((n : Int) < 2) := by omega
  go_enter Try.func92, Try.ntmps92
  go_wp2
  go_loopg [3, 4, 5] n (fun gg s3 s4 s5 wr => ∃ kk : Nat, 1 ≤ kk ∧ kk ≤ n ∧ n - kk ≤ gg ∧ s3 = .int .i64 kk ∧ (∃ q, Aside0 (wr = w.drewN q)) ∧ Aside0 (∀ j, 1 ≤ j → j < kk → ¬ ((rd_T41 l0 ((j : Int) - 1)).f0 = (rd_T41 l0 j).f0 ∧ (rd_T41 l0 ((j : Int) - 1)).f1 = (rd_T41 l0 j).f1)))
  case atStart => exact ⟨1, by omega, by omega, by omega, by go_num, ⟨0, ⟨rfl⟩⟩, ⟨fun j h1 h2 => by omega⟩⟩
  case round =>
   obtain ⟨kk, hk1, hkn, hg, rfl, ⟨q, HW⟩, HD⟩ := hrel
   obtain ⟨wr', HW'⟩ : ∃ w', w' = wr := ⟨_, rfl⟩
   have hhr : wr.heap[g]? = some (.cells cur 41 (0, 0)) := by rw [HW.out]; exact HH.out
   by_cases hlt : kk < n
   ·have hltz : (kk : Int) < (n : Int) := by omega
    have ea := (HP.out kk (by rw [HN.out]; exact hlt))
    have eb := (HP.out (kk - 1) (by rw [HN.out]; omega))
    have hx0 : wr.cell? ⟨g, kk * 2, none⟩ = some (.int .i64 (rd_T41 l0 kk).f0) := by
     rw [blk_cell hhr, Nat.mul_comm, ea.1]; simp [rd_T41, List.getD_eq_getElem?_getD, HN.out, hlt]
    have hx1 : wr.cell? ⟨g, kk * 2 + 1, none⟩ = some (.int .i64 (rd_T41 l0 kk).f1) := by
     rw [blk_cell hhr, Nat.mul_comm, ea.2]; simp [rd_T41, List.getD_eq_getElem?_getD, HN.out, hlt]
    have hz : ((kk : Int) - 1).toNat = kk - 1 := by omega
    have hy0 : wr.cell? ⟨g, (kk - 1) * 2, none⟩ = some (.int .i64 (rd_T41 l0 ((kk : Int) - 1)).f0) := by
     rw [blk_cell hhr, Nat.mul_comm, eb.1]; simp [rd_T41, List.getD_eq_getElem?_getD, hz, HN.out, show kk - 1 < n by omega]
    have hy1 : wr.cell? ⟨g, (kk - 1) * 2 + 1, none⟩ = some (.int .i64 (rd_T41 l0 ((kk : Int) - 1)).f1) := by
     rw [blk_cell hhr, Nat.mul_comm, eb.2]; simp [rd_T41, List.getD_eq_getElem?_getD, hz, HN.out, show kk - 1 < n by omega]
    have HHR := Aside0.mk hhr
    clear ea eb hhr
    generalize hqa : rd_T41 l0 kk = qa at hx0 hx1
    generalize hqb : rd_T41 l0 ((kk : Int) - 1) = qb at hy0 hy1
    have QA := Aside0.mk hqa
    have QB := Aside0.mk hqb
    clear hqa hqb
    have hw1 : IntKind.i64.wrap ((kk : Int) - 1) = (kk : Int) - 1 := IntWalk.i64_in _ (by omega)
    have hw0 : 0 ≤ (kk : Int) - 1 := by omega
    by_cases heq : qa.f0 = qb.f0 ∧ qa.f1 = qb.f1
    ·have hb1 : (qa.f0 == qb.f0 && qa.f1 == qb.f1) = true := by simp [heq.1, heq.2]
     clear heq
     go_wp2
     repeat (go_quiet (fail); try go_wp2)
     have HK := Aside0.mk (show cg (l0.take (kk + 1)) = l0.take kk by
      rw [cg_take l0 kk hk1 (by rw [HN.out]; exact hlt), if_pos, cg_all l0 kk hk1 (by rw [HN.out]; omega) HD.out]
      rw [QA.out, QB.out]; simp at hb1; exact ⟨hb1.1.symm, hb1.2.symm⟩)
     clear hx0 hx1 hy0 hy1 hb1
     obtain ⟨wo, rfl⟩ : ∃ wo : World, wo = wr := ⟨_, rfl⟩
     go_loopg [3, 5] (n - kk) (fun gg s3 s5 wr => ∃ (k2 kw : Nat) (cur2 : Array Value) (L : List S41), 1 ≤ k2 ∧ kk + k2 ≤ n ∧ n - kk - k2 ≤ gg ∧ s5 = .int .i64 k2 ∧ s3 = .int .i64 kw ∧ kw < kk + k2 ∧ 1 ≤ kw ∧ Aside0 (L.take kw = cg (l0.take (kk + k2))) ∧ Aside0 (L.length = n) ∧ Aside0 (∀ j : Nat, kk + k2 ≤ j + 1 → j < n → rd_T41 L j = rd_T41 l0 j) ∧ Aside0 (cur2.size = cap * 2) ∧ Aside0 (Pts cur2 L) ∧ Aside0 (w.grownBy wr (some g)) ∧ Aside0 (wr.heap[g]? = some (.cells cur2 41 (0, 0))))
     case atStart =>
      refine ⟨1, kk, cur, l0, by omega, by omega, by omega, by go_num, rfl, by omega, hk1, ⟨HK.out.symm⟩, ⟨HN.out⟩, ⟨fun _ _ _ => rfl⟩, ⟨HS.out⟩, ⟨HP.out⟩, ⟨?_⟩, ⟨HHR.out⟩⟩
      rw [HW.out]
      (repeat refine grown_drewN ?_ _)
      exact ⟨rfl, rfl, rfl, Nat.le_refl _, fun _ _ _ => rfl⟩
     case round =>
      obtain ⟨k2, kw, cur2, L, h21, h2n, hg2, rfl, rfl, hkw, hkw1, HL, HLN, HLR, HS2, HP2, HG2, HH2⟩ := hrel
      by_cases hlt2 : kk + k2 < n
      ·have hltz2 : (k2 : Int) < ((n - kk : Nat) : Int) := by omega
       have elen : L.length = n := HLN.out
       have ea := (HP2.out (kk + k2) (by omega))
       have eb := (HP2.out (kk + k2 - 1) (by omega))
       have ga : rd_T41 L ((kk + k2 : Nat) : Int) = L[kk + k2]'(by omega) := rd_nat _ _ _
       have gb : rd_T41 L ((kk + k2 - 1 : Nat) : Int) = L[kk + k2 - 1]'(by omega) := rd_nat _ _ _
       have ra := HLR.out (kk + k2) (by omega) (by omega)
       have rb := HLR.out (kk + k2 - 1) (by omega) (by omega)
       rw [← ga] at ea
       rw [← gb] at eb
       rw [ra] at ea
       rw [rb] at eb
       have hx0 : wr.cell? ⟨g, kk * 2 + k2 * 2, none⟩ = some (.int .i64 (rd_T41 l0 ((kk + k2 : Nat) : Int)).f0) := by
        rw [blk_cell HH2.out, show kk * 2 + k2 * 2 = 2 * (kk + k2) by omega]; exact ea.1
       have hx1 : wr.cell? ⟨g, kk * 2 + k2 * 2 + 1, none⟩ = some (.int .i64 (rd_T41 l0 ((kk + k2 : Nat) : Int)).f1) := by
        rw [blk_cell HH2.out, show kk * 2 + k2 * 2 + 1 = 2 * (kk + k2) + 1 by omega]; exact ea.2
       have hy0 : wr.cell? ⟨g, kk * 2 + (k2 - 1) * 2, none⟩ = some (.int .i64 (rd_T41 l0 ((kk + k2 - 1 : Nat) : Int)).f0) := by
        rw [blk_cell HH2.out, show kk * 2 + (k2 - 1) * 2 = 2 * (kk + k2 - 1) by omega]; exact eb.1
       have hy1 : wr.cell? ⟨g, kk * 2 + (k2 - 1) * 2 + 1, none⟩ = some (.int .i64 (rd_T41 l0 ((kk + k2 - 1 : Nat) : Int)).f1) := by
        rw [blk_cell HH2.out, show kk * 2 + (k2 - 1) * 2 + 1 = 2 * (kk + k2 - 1) + 1 by omega]; exact eb.2
       clear ea eb ga gb ra rb
       have hw1 : IntKind.i64.wrap ((k2 : Int) - 1) = (k2 : Int) - 1 := IntWalk.i64_in _ (by omega)
       have hw0 : 0 ≤ (k2 : Int) - 1 := by omega
       have hz2 : ((k2 : Int) - 1).toNat = k2 - 1 := by omega
       have ct := cg_take l0 (kk + k2) (by omega) (by rw [HN.out]; exact hlt2)
       rw [show ((kk + k2 : Nat) : Int) - 1 = ((kk + k2 - 1 : Nat) : Int) by omega] at ct
       generalize hqa : rd_T41 l0 ((kk + k2 : Nat) : Int) = ya at hx0 hx1 ct
       generalize hqb : rd_T41 l0 ((kk + k2 - 1 : Nat) : Int) = yb at hy0 hy1 ct
       have CT := Aside0.mk ct
       have YA := Aside0.mk hqa
       clear hqa hqb ct elen
       by_cases heq : ya.f0 = yb.f0 ∧ ya.f1 = yb.f1
       ·have hb2 : (!(ya.f0 == yb.f0) || !(ya.f1 == yb.f1)) = false := by simp [heq.1, heq.2]
        have CE := Aside0.mk heq
        clear heq
        go_wp2
        repeat (go_quiet (fail); try go_wp2)
        go_roundg (n - kk - (k2 + 1))
        case measure => omega
        case rel =>
         refine ⟨k2 + 1, kw, cur2, L, by omega, by omega, Nat.le_refl _, by go_num, rfl, by omega, hkw1, ⟨?_⟩, HLN, ⟨fun j h1 h2 => HLR.out j (by omega) h2⟩, HS2, HP2, ⟨by (repeat refine grown_drewN ?_ _); exact HG2.out⟩, ⟨HH2.out⟩⟩
         rw [HL.out, show kk + (k2 + 1) = kk + k2 + 1 by omega, CT.out, if_pos ⟨CE.out.1.symm, CE.out.2.symm⟩]
       ·have hb2 : (!(ya.f0 == yb.f0) || !(ya.f1 == yb.f1)) = true := by simp; by_cases h : ya.f0 = yb.f0; (exact .inr fun h' => heq ⟨h, h'⟩); (exact .inl h)
        have CE := Aside0.mk heq
        clear heq
        have hkwn : kw < n := by omega
        have hv0 := blk_cell HH2.out (kw * 2)
        have hv1 := blk_cell HH2.out (kw * 2 + 1)
        rw [Array.getElem?_eq_getElem (by rw [HS2.out]; omega)] at hv0 hv1
        have hf0 := blk_frozen HH2.out (kw * 2)
        have hf1 := blk_frozen HH2.out (kw * 2 + 1)
        generalize cur2[kw * 2]'(by rw [HS2.out]; omega) = o0 at hv0
        generalize cur2[kw * 2 + 1]'(by rw [HS2.out]; omega) = o1 at hv1
        go_wp2
        repeat (go_quiet (fail); try go_wp2)
        go_roundg (n - kk - (k2 + 1))
        case measure => omega
        case rel =>
         have elen : L.length = n := HLN.out
         refine ⟨k2 + 1, kw + 1, _, L.set kw ya, by omega, by omega, Nat.le_refl _, by go_num, by go_num, by omega, by omega, ⟨?_⟩, ⟨by rw [List.length_set]; exact elen⟩, ⟨fun j h1 h2 => ?_⟩, ⟨?_⟩, ⟨pts_set ya HP2.out (by rw [HS2.out]; omega) (by omega)⟩, ⟨?_⟩, ⟨?_⟩⟩
         ·rw [show kk + (k2 + 1) = kk + k2 + 1 by omega, CT.out, if_neg (fun h => CE.out ⟨h.1.symm, h.2.symm⟩), List.take_succ_eq_append_getElem (by rw [List.length_set]; omega), List.getElem_set_self, List.take_set_of_le (Nat.le_refl _), HL.out]
         ·rw [rd_nat _ _ (by rw [List.length_set]; omega), List.getElem_set_ne (by omega), ← rd_nat L j (by omega)]
          exact HLR.out j (by omega) h2
         ·rw [Array.size_setIfInBounds, Array.size_setIfInBounds]; exact HS2.out
         ·refine grown_set ?_ _ _
          refine grown_set ?_ _ _
          (repeat refine grown_drewN ?_ _)
          exact HG2.out
         ·exact blk_set (blk_set HH2.out _ _) _ _
      ·have hend : kk + k2 = n := by omega
       have hnl : ¬ (k2 : Int) < ((n - kk : Nat) : Int) := by omega
       have hcl : ∀ ty, (Builtin.clear_ #[22] ty #[.slice (some ⟨g, kw * 2, none⟩) (n - kw) (cap - kw)]).run Try.prog wr = .ok (.tuple #[]) (wr.setCells g (kw * 2) (List.replicate ((n - kw) * 2) (.int .i64 0))) :=
        fun ty => clear_run wr g (kw * 2) (n - kw) (cap - kw) cur2 ty HH2.out (by omega) (by rw [HS2.out]; omega)
       have hlw : kw ≤ n := by omega
       go_wp2
       go_ret
       obtain ⟨sg, cur3, sh, ss, sp⟩ := setCells_row (List.replicate ((n - kw) * 2) (.int .i64 0)) (kw * 2) wr cur2 HG2.out HH2.out
       have e1 : L.take kw = slices_Compact.g l0 := by
        rw [HL.out, hend, HR.out, List.take_of_length_le (by rw [HN.out]; omega)]
       have e2 : kw = (slices_Compact.g l0).length := by
        rw [← e1, List.length_take, HLN.out]; omega
       refine ⟨_, rfl, ?_, grown_below HB.out sg HBG.out, grown_kept sg HPg.out⟩
       have hpt : Pts cur3 (slices_Compact.g l0) := by
        intro j hj
        have h1 := pts_take kw HP2.out
        rw [e1] at h1
        have h2 := h1 j hj
        rw [sp (2 * j) (by omega), sp (2 * j + 1) (by omega)]
        exact h2
       have := row_shut (P := fun k_ => (P0_ k_ ∨ w.heap.size ≤ k_)) HBG.out sh (l := slices_Compact.g l0) (cap := cap) (by omega) HCM.out (by rw [ss]; exact HS2.out) (.inl HPg.out) hpt
       rw [← e2] at this
       exact this
    ·have hb1 : (qa.f0 == qb.f0 && qa.f1 == qb.f1) = false := by simpa using heq
     have HNE := Aside0.mk heq
     clear heq
     go_wp2
     repeat (go_quiet (fail); try go_wp2)
     go_roundg (n - (kk + 1))
     case measure => omega
     case rel =>
      refine ⟨kk + 1, by omega, by omega, Nat.le_refl _, by go_num, ?_, ⟨fun j h1 h2 => ?_⟩⟩
      ·rw [HW.out]
       refine ⟨_, ⟨World.drewN_drewN _ _ _⟩⟩
      ·by_cases e : j = kk
       ·subst e
        rw [QA.out, QB.out]
        exact fun h => HNE.out ⟨h.1.symm, h.2.symm⟩
       ·exact HD.out j h1 (by omega)
   ·have hnl : ¬ (kk : Int) < (n : Int) := by omega
    have hkk : kk = n := by omega
    subst hkk
    have e1 : slices_Compact.g l0 = l0 := by
     have := cg_all l0 kk hk1 (by rw [HN.out]; omega) HD.out
     rw [List.take_of_length_le (by rw [HN.out]; omega)] at this
     exact this
    have E1 := Aside0.mk e1
    clear hlt e1
    go_wp2
    go_ret
    have hgr : w.grownBy wr (some g) := by rw [HW.out]; exact ⟨rfl, rfl, rfl, Nat.le_refl _, fun _ _ _ => rfl⟩
    rw [E1.out]
    refine ⟨_, rfl, ?_, grown_below HB.out hgr HBG.out, grown_kept hgr HPg.out⟩
    have := row_shut (P := fun k_ => (P0_ k_ ∨ w.heap.size ≤ k_)) HBG.out hhr (l := l0) (cap := cap) (by rw [HN.out]; omega) HCM.out HS.out (.inl HPg.out) HP.out
    rw [HN.out] at this
    exact this
end Go.Proofs.Ythehmkpcddafnaa.PG
end
section
namespace Go.Proofs.Ythehmkpcddafnaa.PG
open Go.RowKit Go.Proofs.YthehmkpcddafnaaW.PrintWords Go.Proofs.YthehmkpcddafnaaW.PrintLast Go.Proofs.YthehmkpcddafnaaW.PrintMore
instance : Inhabited S41 := ⟨z41⟩
def enc29 (x : S41) : List Value := [.int .i64 x.f0, .int .i64 x.f1]
theorem enc29_one (x : S41) : ∀ v ∈ enc29 x, v.oneCell' = true := by
 intro v hv; simp [enc29] at hv; rcases hv with rfl | rfl <;> rfl
theorem flat29 (d : Array S41) (j : Nat) (h : j < d.size) : (Go.Sort.flatK enc29 2 d)[2 * j]! = .int .i64 d[j].f0 ∧ (Go.Sort.flatK enc29 2 d)[2 * j + 1]! = .int .i64 d[j].f1 := by
 rw [Go.Sort.get_flatK _ _ _ _ (by omega), Go.Sort.get_flatK _ _ _ _ (by omega)]
 rw [show 2 * j / 2 = j by omega, show 2 * j % 2 = 0 by omega, show (2 * j + 1) / 2 = j by omega, show (2 * j + 1) % 2 = 1 by omega, getElem!_pos d j h]
 exact ⟨rfl, rfl⟩
theorem holds_of {w : World} {g : Nat} {cur : Array Value} {l : List S41} (hh : w.heap[g]? = some (.cells cur 41 (0, 0))) (hp : Pts cur l) : Go.Sort.HoldsK enc29 2 w g 0 l.toArray := by
 intro j hj
 rw [Go.Sort.size_flatK] at hj
 simp only [List.size_toArray] at hj
 refine ⟨?_, blk_frozen hh _⟩
 rw [blk_cell hh, Nat.zero_add]
 have hf := flat29 l.toArray (j / 2) (by simp; omega)
 have hc := hp (j / 2) (by omega)
 rcases Nat.mod_two_eq_zero_or_one j with e | e
 ·rw [show j = 2 * (j / 2) by omega]
  rw [hc.1]; simp only [id]; rw [hf.1]; simp
 ·rw [show j = 2 * (j / 2) + 1 by omega]
  rw [hc.2]; simp only [id]; rw [hf.2]; simp
theorem put_at {w : World} {g : Nat} {cur : Array Value} (m : Nat) (d : Array S41) (os : Array Obj) (hh : w.heap[g]? = some (.cells cur 41 (0, 0))) (hs : d.size * 2 ≤ cur.size) :
  ∃ cur', (sortWorldK enc29 2 w g 0 m d os).heap[g]? = some (.cells cur' 41 (0, 0)) ∧ cur'.size = cur.size ∧ Pts cur' d.toList ∧ w.grownBy (sortWorldK enc29 2 w g 0 m d os) (some g) := by
 have hlt : g < w.heap.size := blk_lt hh
 have e1 : (sortWorldK enc29 2 w g 0 m d os).heap = w.heap.modify g (Go.Sort.onCells (Go.Sort.putCells id 0 (Go.Sort.flatK enc29 2 d))) ++ os := rfl
 refine ⟨Go.Sort.putCells id 0 (Go.Sort.flatK enc29 2 d) cur, ?_, ?_, ?_, ?_⟩
 ·rw [e1, Array.getElem?_append_left (by simpa using hlt), Array.getElem?_modify, if_pos rfl, hh]; rfl
 ·simp [Go.Sort.putCells]
 ·intro j hj
  simp only [Array.length_toList] at hj
  have hf := flat29 d j hj
  unfold Go.Sort.putCells
  rw [Array.getElem?_mapIdx, Array.getElem?_mapIdx, Array.getElem?_eq_getElem (by omega), Array.getElem?_eq_getElem (by omega)]
  simp only [Option.map_some, Go.Sort.size_flatK, id]
  rw [if_pos (by omega), if_pos (by omega), Nat.sub_zero, Nat.sub_zero, hf.1, hf.2]
  simp
 ·refine ⟨rfl, rfl, rfl, ?_, fun k hk hne => ?_⟩
  ·rw [e1]; simp
  ·rw [e1, Array.getElem?_append_left (by simpa using hk), Array.getElem?_modify, if_neg (fun e => hne (by rw [e]))]
end Go.Proofs.Ythehmkpcddafnaa.PG
end
section
namespace Go.Proofs
open Go.Shelf
def Try.reversePt_ren : Go.Shelf.Ren := ⟨fun | 35 => 94 | n => n, fun | 22 => 22 | 23 => 41 | 3 => 3 | 4 => 4 | 0 => 0 | n => n, fun | n => n⟩
theorem Try.reversePt : Go.Proofs.SlLaysE0.n35 Try.prog Try.reversePt_ren := {
 mixed := by kernel_rfl
 f35 := ⟨Try.f94.name, by decide, Try.func94.trans (congrArg some (by kernel_rfl))⟩
 t0 := Try.underlying0
 a0 := Try.isAgg0
 z0 := Try.sizeOf0
 v0 := Try.zeroValue0
 t3 := Try.underlying3
 a3 := Try.isAgg3
 z3 := Try.sizeOf3
 v3 := Try.zeroValue3
 t4 := Try.underlying4
 a4 := Try.isAgg4
 z4 := Try.sizeOf4
 v4 := Try.zeroValue4
 t22 := Try.underlying22
 a22 := Try.isAgg22
 z22 := Try.sizeOf22
 v22 := Try.zeroValue22 }
def Try.sortPt_ren : Go.Shelf.Ren := ⟨fun | 6 => 88 | 15 => 116 | 14 => 115 | 28 => 133 | 29 => 134 | 20 => 125 | 21 => 126 | 22 => 127 | 23 => 128 | 24 => 129 | 25 => 130 | 26 => 131 | 27 => 132 | 46 => 144 | 47 => 145 | 48 => 146 | 49 => 147 | 50 => 148 | 57 => 152 | n => n, fun | 22 => 22 | 24 => 41 | 25 => 97 | 3 => 3 | 39 => 115 | 0 => 0 | 53 => 127 | 55 => 129 | 4 => 4 | 46 => 120 | 45 => 119 | 50 => 124 | 5 => 5 | 9 => 9 | 66 => 136 | 70 => 140 | 76 => 144 | 77 => 53 | n => n, fun | n => n⟩
theorem Try.sortPt : Go.Proofs.SlLaysF0.n6 Try.prog Try.sortPt_ren := {
 mixed := by kernel_rfl
 f6 := ⟨Try.f88.name, by decide, Try.func88.trans (congrArg some (by kernel_rfl))⟩
 f14 := ⟨Try.f115.name, by decide, Try.func115.trans (congrArg some (by kernel_rfl))⟩
 f15 := Try.func116.trans (congrArg some (by kernel_rfl))
 f20 := ⟨Try.f125.name, by decide, Try.func125.trans (congrArg some (by kernel_rfl))⟩
 f21 := ⟨Try.f126.name, by decide, Try.func126.trans (congrArg some (by kernel_rfl))⟩
 f22 := ⟨Try.f127.name, by decide, Try.func127.trans (congrArg some (by kernel_rfl))⟩
 f23 := ⟨Try.f128.name, by decide, Try.func128.trans (congrArg some (by kernel_rfl))⟩
 f24 := ⟨Try.f129.name, by decide, Try.func129.trans (congrArg some (by kernel_rfl))⟩
 f25 := ⟨Try.f130.name, by decide, Try.func130.trans (congrArg some (by kernel_rfl))⟩
 f26 := ⟨Try.f131.name, by decide, Try.func131.trans (congrArg some (by kernel_rfl))⟩
 f27 := ⟨Try.f132.name, by decide, Try.func132.trans (congrArg some (by kernel_rfl))⟩
 f28 := Try.func133.trans (congrArg some (by kernel_rfl))
 f29 := Try.func134.trans (congrArg some (by kernel_rfl))
 f46 := ⟨Try.f144.name, by decide, Try.func144.trans (congrArg some (by kernel_rfl))⟩
 f47 := Try.func145.trans (congrArg some (by kernel_rfl))
 f48 := Try.func146.trans (congrArg some (by kernel_rfl))
 f49 := ⟨Try.f147.name, by decide, Try.func147.trans (congrArg some (by kernel_rfl))⟩
 f50 := ⟨Try.f148.name, by decide, Try.func148.trans (congrArg some (by kernel_rfl))⟩
 f57 := ⟨Try.f152.name, by decide, Try.func152.trans (congrArg some (by kernel_rfl))⟩
 t0 := Try.underlying0
 a0 := Try.isAgg0
 z0 := Try.sizeOf0
 v0 := Try.zeroValue0
 t3 := Try.underlying3
 a3 := Try.isAgg3
 z3 := Try.sizeOf3
 v3 := Try.zeroValue3
 t4 := Try.underlying4
 a4 := Try.isAgg4
 z4 := Try.sizeOf4
 v4 := Try.zeroValue4
 t5 := Try.underlying5
 a5 := Try.isAgg5
 z5 := Try.sizeOf5
 v5 := Try.zeroValue5
 t9 := Try.underlying9
 a9 := Try.isAgg9
 z9 := Try.sizeOf9
 v9 := Try.zeroValue9
 t22 := Try.underlying22
 a22 := Try.isAgg22
 z22 := Try.sizeOf22
 v22 := Try.zeroValue22
 t25 := Try.underlying97
 a25 := Try.isAgg97
 z25 := Try.sizeOf97
 v25 := Try.zeroValue97
 t39 := Try.underlying115
 a39 := Try.isAgg115
 z39 := Try.sizeOf115
 v39 := Try.zeroValue115
 t45 := Try.underlying119
 a45 := Try.isAgg119
 z45 := Try.sizeOf119
 v45 := Try.zeroValue119
 t46 := Try.underlying120
 a46 := Try.isAgg120
 z46 := Try.sizeOf120
 v46 := Try.zeroValue120
 t50 := Try.underlying124
 a50 := Try.isAgg124
 z50 := Try.sizeOf124
 v50 := Try.zeroValue124
 t53 := Try.underlying127
 a53 := Try.isAgg127
 z53 := Try.sizeOf127
 v53 := Try.zeroValue127
 t55 := Try.underlying129
 a55 := Try.isAgg129
 z55 := Try.sizeOf129
 v55 := Try.zeroValue129
 t66 := Try.underlying136
 a66 := Try.isAgg136
 z66 := Try.sizeOf136
 v66 := Try.zeroValue136
 t70 := Try.underlying140
 a70 := Try.isAgg140
 z70 := Try.sizeOf140
 v70 := Try.zeroValue140
 t76 := Try.underlying144
 a76 := Try.isAgg144
 z76 := Try.sizeOf144
 v76 := Try.zeroValue144
 t77 := Try.underlying53
 a77 := Try.isAgg53
 z77 := Try.sizeOf53
 v77 := Try.zeroValue53 }
end Go.Proofs
end
section
namespace Go.Proofs.Ythehmkpcddafnaa.PG
open Go.RowKit Go.Proofs.YthehmkpcddafnaaW.PrintWords Go.Proofs.YthehmkpcddafnaaW.PrintLast Go.Proofs.YthehmkpcddafnaaW.PrintMore
def slices_Reverse.f (l0 : List (S41)) : Option (List S41) := some l0.reverse
theorem slices_Reverse.calls (P0_ : Nat → Prop) (u9000_ : Value) (l0 : List (S41)) (r : List (S41)) (w0 w : World) (hB : Below w0.heap.size w0 w) (ho0 : Kd.R k41 41 w w0.heap.size P0_ u9000_ l0) (h : slices_Reverse.f l0 = some r) :
  Calls Try.prog 94 #[u9000_] w fun e w' => e = .returned (.tuple #[]) ∧ Kd.R k41 41 w' w0.heap.size (fun k_ => (P0_ k_ ∨ w.heap.size ≤ k_)) u9000_ r ∧ Below w0.heap.size w0 w' ∧ Kept w w' (fun k_ => P0_ k_) := by
 obtain rfl := Option.some.inj h
 clear h
 by_cases hl : l0.length = 0
 ·obtain ⟨A, c, rfl⟩ := Kd.R_slice ho0
  have e0 : l0 = [] := List.eq_nil_of_length_eq_zero hl
  subst e0
  have hc := AnyQ.slices_Reverse_empty Try.reversePt A c w
  change Calls Try.prog 94 _ _ _ at hc
  refine hc.mono fun e w' hh => ?_
  obtain ⟨he, rfl⟩ := hh
  exact ⟨he, Kd.R_mono ho0 (fun k hk => .inl hk), hB, ⟨Nat.le_refl _, fun _ _ _ => rfl⟩⟩
 ·obtain ⟨g, cap, cur, rfl, hb, hh, hnc, hcm, hsz, hPg, hp⟩ := row_open ho0 (by omega)
  have hm : l0.length ≤ 9223372036854775807 := by unfold maxLen at hcm; omega
  have hc := AnyQ.slices_Reverse Try.reversePt 2 Try.isAgg41 Try.sizeOf41 enc29 (fun _ => rfl) enc29_one g 0 cap l0.toArray w (holds_of hh hp) (by simpa using hm)
  change Calls Try.prog 94 _ _ _ at hc
  simp only [List.size_toArray] at hc
  refine hc.mono fun e w' hx => ?_
  obtain ⟨he, n, rfl⟩ := hx
  obtain ⟨cur', p1, p2, p3, p4⟩ := put_at n l0.toArray.reverse #[] hh (by simp; omega)
  have e1 : sortWorldK enc29 2 w g 0 n l0.toArray.reverse #[] = Go.Sort.putRowK enc29 2 (Go.Sort.ahead w n) g 0 l0.toArray.reverse := by unfold sortWorldK; rw [Go.Sort.grow_empty]
  rw [e1] at p1 p4
  have e2 : l0.toArray.reverse.toList = l0.reverse := by simp
  rw [e2] at p3
  have := row_shut (P := fun k_ => (P0_ k_ ∨ w.heap.size ≤ k_)) hb p1 (l := l0.reverse) (cap := cap) (by simpa using hnc) hcm (by rw [p2]; exact hsz) (.inl hPg) p3
  rw [List.length_reverse] at this
  exact ⟨he, this, grown_below hB p4 hb, grown_kept p4 hPg⟩
end Go.Proofs.Ythehmkpcddafnaa.PG
end
section
namespace Go.Proofs.Ythehmkpcddafnaa.PG
open Go.RowKit Go.Proofs.YthehmkpcddafnaaW.PrintWords Go.Proofs.YthehmkpcddafnaaW.PrintLast Go.Proofs.YthehmkpcddafnaaW.PrintMore
attribute [local go_sem] max2_int min2_int max_two min_two max_three min_three max_four min_four
set_option linter.unusedVariables false
set_option linter.unusedSimpArgs false
/-! ### shape_Hull_1: function 89 -/
def shape_Hull_1.f (k : Nat) (a0_0 : Int) (a0_1 : Int) (a1_0 : Int) (a1_1 : Int) : Option (Int) := (cmp_Compare_int.f a0_0 a1_0).bind fun t103 => ((cmp_Compare_int.f a0_1 a1_1).bind fun t104 => ((cmp_Or_int.f k (([t103, t104] : List Int))).bind fun t108 => (some t108)))
def shape_Hull_1.T1 : Bool × List (List Nat × List Nat) := (true, [([], []), ([0], [0]), ([], []), ([2], [2]), ([1, 3], [1, 3]), ([], []), ([5], [5]), ([], []), ([7], [7]), ([6, 8, 4], [6, 8]), ([4, 9], [4, 9]), ([10, 9], [10]), ([11, 11, 0, 1, 2, 3, 4, 5, 6, 7, 8, 9, 10, 11], [11])])
def shape_Hull_1.B1 : List Nat := [0, 1, 0, 4, 15, 0, 32, 0, 128, 511, 1023, 2047, 4095]
theorem shape_Hull_1.tab1 : rtab .any (opsOf Try.f89 1) = shape_Hull_1.T1 := by kernel_rfl
theorem shape_Hull_1.bits1 : waitsOk shape_Hull_1.T1.2 shape_Hull_1.B1 = true := by kernel_rfl
set_option maxHeartbeats 8000000 in
set_option maxRecDepth 100000 in
theorem shape_Hull_1.calls (k : Nat) (a0_0 : Int) (a0_1 : Int) (a1_0 : Int) (a1_1 : Int) (r : Int) (w : World) (h : shape_Hull_1.f k a0_0 a0_1 a1_0 a1_1 = some r) :
  Calls Try.prog 89 #[.agg #[.int .i64 a0_0, .int .i64 a0_1], .agg #[.int .i64 a1_0, .int .i64 a1_1]] w fun e w' => e = .returned (.int .i64 r) ∧ Below w.heap.size w w' := by
 have hu41 := Try.underlying41
 have HB := Aside0.mk (Below.refl w.heap.size w)
 have H : ((cmp_Compare_int.f a0_0 a1_0).bind fun t103 => ((cmp_Compare_int.f a0_1 a1_1).bind fun t104 => ((cmp_Or_int.f k (([t103, t104] : List Int))).bind fun t108 => (some t108)))) = some r := h
 clear h
 replace H := Option.bind_eq_some_iff.mp H
 obtain ⟨t103, A30, H⟩ := H
 try dsimp only at H
 have A3 := Aside0.mk A30
 clear A30
 replace H := Option.bind_eq_some_iff.mp H
 obtain ⟨t104, A40, H⟩ := H
 try dsimp only at H
 have A4 := Aside0.mk A40
 clear A40
 obtain ⟨y105, hy105⟩ : ∃ y_ : List Int, y_ = (([t103, t104] : List Int)) := ⟨_, rfl⟩
 replace H : ((cmp_Or_int.f k y105).bind fun t108 => (some t108)) = some r := by first | (rw [hy105]; with_reducible exact H) | (have H2_ := (Option.bind_some _ _).symm.trans H; rw [hy105]; with_reducible exact H2_) | (have H2_ := (Option.bind_some _ _).symm.trans H; with_reducible exact H2_) | with_reducible exact H | (rw [hy105]; exact H) | exact H
 have Ny105 := Aside0.mk hy105
 clear hy105
 replace H := Option.bind_eq_some_iff.mp H
 obtain ⟨t108, A50, H⟩ := H
 try dsimp only at H
 have A5 := Aside0.mk A50
 clear A50
 obtain rfl := Option.some.inj H
 go_enter Try.func89, Try.ntmps89
 try go_wp2_with (first | ((with_reducible refine gate_dst (N := 2) rfl ?_); refine bxe 2 #[.int .i64 a0_0, .int .i64 a0_1] 41 ?_; intro gb101 hg w6 hbox hb; have BK101 := Aside0.mk (hbox); have GW101 := ga w hg; have GE101 := GW101; replace HB := bz hb; clear hb hbox hg) | ((with_reducible refine gate_dst (N := 3) rfl ?_); refine bxe 3 #[.int .i64 a1_0, .int .i64 a1_1] 41 ?_; intro gb102 hg w7 hbox hb; have BK102 := Aside0.mk (hbox); have GW102 := ga w hg; have GE102 := GW102; have NB101_102 := nb hg (kl BK101); have NB102_101 := bn NB101_102; replace BK101 := kb BK101 hb; replace HB := bz hb; clear hb hbox hg))
 replace BK101 := Aside0.mk (blk_drew BK101.out)
 replace BK102 := Aside0.mk (blk_drew BK102.out)
 replace HB := Aside0.mk (below_drew1 HB.out)
 refine start_ (n := 13) (S := fun w' => w'.cell? ⟨gb101, 0, none⟩ = some (.int .i64 a0_0) ∧ w'.cell? ⟨gb101, 1, none⟩ = some (.int .i64 a0_1) ∧ w'.cell? ⟨gb102, 0, none⟩ = some (.int .i64 a1_0) ∧ w'.cell? ⟨gb102, 1, none⟩ = some (.int .i64 a1_1)) (ds := []) #[N,N,N,N,N,N,N,N,N,N,N,N,N] (by kernel_rfl) rfl rfl ⟨bc BK101 0, bc BK101 1, bc BK102 0, bc BK102 1⟩ (fun hHeld => ?_); refine with_tabW shape_Hull_1.tab1 shape_Hull_1.bits1 (fun HT_ HW_ => ?_)
 generalize w7.drew = w8 at BK101 BK102 HB hHeld ⊢
 refine pu 0 5 HT_ ?_
 refine pu 2 7 HT_ ?_
 refine pu 5 10 HT_ ?_
 refine pu 7 12 HT_ ?_
 refine tk4 1 6 hHeld HT_ HW_ ?_
 refine tk4 3 8 hHeld HT_ HW_ ?_
 refine tk4 6 11 hHeld HT_ HW_ ?_
 refine tk4 8 13 hHeld HT_ HW_ ?_
 refine one_ (i := 4) (N := some 9) #[T,T,T,T,T,T,T,T,T,N,N,N,N] rfl rfl (on1 HT_) (by decide) (fun K hK => ?_)
 refine goes_ Try.func91 (by kernel_rfl) rfl #[.int .i64 a0_0, .int .i64 a1_0] (by rfl) rfl rfl sg ?_
 with_reducible refine (cmp_Compare_int.calls a0_0 a1_0 t103 _ A3.out).mono ?_
 rintro e w' ⟨rfl, ⟨nd, rfl⟩⟩
 refine ⟨_, rfl, ?_⟩
 refine hK.out _ _ ⟨bc BK101 0, bc BK101 1, bc BK102 0, bc BK102 1⟩ (fun hHeld => ?_)
 clear hK K
 refine nm 9 ?_
 refine one_ (i := 9) (N := some 14) #[T,T,T,T,T,T,T,T,T,T,N,N,N] rfl rfl (on1 HT_) (by decide) (fun K hK => ?_)
 refine goes_ Try.func91 (by kernel_rfl) rfl #[.int .i64 a0_1, .int .i64 a1_1] (by rfl) rfl rfl sg ?_
 with_reducible refine (cmp_Compare_int.calls a0_1 a1_1 t104 _ A4.out).mono ?_
 rintro e w' ⟨rfl, ⟨nd, rfl⟩⟩
 refine ⟨_, rfl, ?_⟩
 refine hK.out _ _ ⟨bc BK101 0, bc BK101 1, bc BK102 0, bc BK102 1⟩ (fun hHeld => ?_)
 clear hK K
 refine nm 14 ?_
 refine one_ (i := 10) (N := some 15) #[T,T,T,T,T,T,T,T,T,T,T,N,N] rfl rfl (on1 HT_) (by decide) (fun K hK => ?_)
 refine Kd.R_lit_step (Kd.int .i64) _ 3 ?hg (N := 15) ?hd (xs := ([t103, t104] : List Int)) (inner := [.int .i64 t103, .int .i64 t104]) (ok := fun _ => True) (okp := fun _ => True) ?hr ?hp (fun _ hk => hk) trivial (Below.refl _ _) (Nat.le_refl _) (by simp) ?_; (case hd => rfl); (case hg => rfl); (case hr => first | (go_simp; done) | (go_simp; rfl)); (case hp => exact (Reps.one (show Kd.M (Kd.int .i64) _ _ _ t103 [.int .i64 t103] from rfl) (Reps.one (show Kd.M (Kd.int .i64) _ _ _ t104 [.int .i64 t104] from rfl) (Reps.none _ _))))
 intro v106 w9 ho10 hb hg_ hnew_
 clear hg_ hnew_
 (first | rw [← Ny105.out] at ho10 | (simp only [Int.reduceToNat] at ho10; rw [← Ny105.out] at ho10))
 have HO107 := Aside0.mk (Kd.R_lower ho10 (below_size bh))
 replace BK101 := kb BK101 hb
 replace BK102 := kb BK102 hb
 replace HB := bz hb
 clear hb ho10
 obtain ⟨Ao11, co11, eo11⟩ := Kd.R_slice HO107.out
 (first | subst eo11 | (injection eo11 with f1_ f2_ f3_; have f4_ := f1_.symm; have f5_ := f3_.symm; clear f1_ f2_ f3_; subst f4_; subst f5_))
 refine hK.out _ _ ⟨bc BK101 0, bc BK101 1, bc BK102 0, bc BK102 1⟩ (fun hHeld => ?_)
 clear hK K
 refine nm 15 ?_
 refine one_ (i := 11) (N := some 16) #[T,T,T,T,T,T,T,T,T,T,T,T,N] rfl rfl (on1 HT_) (by decide) (fun K hK => ?_)
 refine goes_ Try.func90 (by kernel_rfl) rfl #[.slice Ao11 y105.length co11] (by rfl) rfl rfl sg ?_
 with_reducible refine (cmp_Or_int.calls k _ _ y105 t108 _ ?side1 ?side2 A5.out).mono ?_
 (case side1 => exact cs (Kd.R_reads' HO107.out).2.2)
 (case side2 => exact (Kd.R_reads' HO107.out).2.1)
 rintro e w' ⟨rfl, ⟨nd, rfl⟩⟩
 refine ⟨_, rfl, ?_⟩
 refine hK.out _ _ ⟨bc BK101 0, bc BK101 1, bc BK102 0, bc BK102 1⟩ (fun hHeld => ?_)
 clear hK K
 refine nm 16 ?_
 refine pu 12 4 HT_ ?_
 refine done_ (done_of HT_.out (by kernel_rfl)) ?_
 try go_wp2
 go_ret
 exact ⟨by exact er, bh⟩
end Go.Proofs.Ythehmkpcddafnaa.PG
end
section
namespace Go.Proofs.Ythehmkpcddafnaa.PG
open Go.RowKit Go.Proofs.YthehmkpcddafnaaW.PrintWords Go.Proofs.YthehmkpcddafnaaW.PrintLast Go.Proofs.YthehmkpcddafnaaW.PrintMore
set_option linter.unusedSimpArgs false
set_option linter.unusedVariables false
def cmpI (a b : Int) : Int := if a < b then -1 else if a > b then 1 else 0
theorem compare_is (a b : Int) : cmp_Compare_int.f a b = some (cmpI a b) := by
 unfold cmp_Compare_int.f cmp_isNaN_int.f cmpI
 simp only [bne_self_eq_false, Option.bind_some, Bool.false_eq_true, if_false]
 by_cases h1 : a < b
 ·simp [h1]
 ·by_cases h2 : a > b <;> simp [h1, h2]
def orI (x y : Int) : Int := if x = 0 then y else x
theorem or_is (x y : Int) : cmp_Or_int.f 5 [x, y] = some (orI x y) := by
 unfold cmp_Or_int.f orI
 simp only [cmp_Or_int.l0, List.length_cons, List.length_nil]
 by_cases h1 : x = 0
 ·subst h1
  by_cases h2 : y = 0
  ·subst h2; simp [rd, wrap64]
  ·simp [rd, wrap64, h2]
 ·simp [rd, h1]
def xyCmp (a b : S41) : Int := orI (cmpI a.f0 b.f0) (cmpI a.f1 b.f1)
def xyLt (a b : S41) : Bool := decide (a.f0 < b.f0) || (decide (a.f0 = b.f0) && decide (a.f1 < b.f1))
theorem xy_lt (a b : S41) : ltOf xyCmp a b = xyLt a b := by
 unfold ltOf xyCmp xyLt orI cmpI
 rw [Bool.eq_iff_iff]
 simp only [decide_eq_true_eq, Bool.or_eq_true, Bool.and_eq_true]
 repeat' split
 all_goals omega
theorem xy_swo : Go.Sort.SWO (ltOf xyCmp) where
 irrefl x := by rw [xy_lt]; simp [xyLt]
 trans x y z h1 h2 := by rw [xy_lt] at *; simp [xyLt] at *; omega
 ntrans x y z h1 h2 := by rw [xy_lt] at *; simp [xyLt] at *; omega
theorem xy_total (x y : S41) (h1 : ltOf xyCmp x y = false) (h2 : ltOf xyCmp y x = false) : x = y := by
 rw [xy_lt] at *
 cases x; cases y
 simp [xyLt] at *
 omega
/-- nothing but draws and new blocks -/
def Gr (w W : World) : Prop := ∃ q os', W = Go.Sort.grow (w.drewN q) os'
theorem Gr.refl (w : World) : Gr w w := ⟨0, #[], by rw [Go.Sort.grow_empty]; rfl⟩
theorem Gr.alloc {w W : World} (h : Gr w W) (o : Obj) : Gr w (W.alloc o) := by
 obtain ⟨q, os, rfl⟩ := h
 exact ⟨q, os ++ #[o], by rw [Go.Sort.alloc_eq_grow, Go.Sort.grow_grow]⟩
theorem Gr.drewN {w W : World} (h : Gr w W) (n : Nat) : Gr w (W.drewN n) := by
 obtain ⟨q, os, rfl⟩ := h
 exact ⟨q + n, os, by simp [Go.Sort.grow, World.drewN, Nat.add_assoc]⟩
theorem Gr.drew {w W : World} (h : Gr w W) : Gr w W.drew := by
 obtain ⟨q, os, rfl⟩ := h
 exact ⟨q + 1, os, by simp [Go.Sort.grow, World.drewN, World.drew, Nat.add_assoc]⟩
attribute [local go_sem] max2_int min2_int max_two min_two max_three min_three max_four min_four
set_option maxHeartbeats 8000000 in
set_option maxRecDepth 100000 in
theorem xy_exact (k : Nat) (a0_0 : Int) (a0_1 : Int) (a1_0 : Int) (a1_1 : Int) (r : Int) (w : World) (h : shape_Hull_1.f k a0_0 a0_1 a1_0 a1_1 = some r) :
  Calls Try.prog 89 #[.agg #[.int .i64 a0_0, .int .i64 a0_1], .agg #[.int .i64 a1_0, .int .i64 a1_1]] w fun e w' => e = .returned (.int .i64 r) ∧ Gr w w' := by
 have hu29 := Try.underlying41
 have H : ((cmp_Compare_int.f a0_0 a1_0).bind fun t103 => ((cmp_Compare_int.f a0_1 a1_1).bind fun t104 => ((cmp_Or_int.f k (([t103, t104] : List Int))).bind fun t108 => (some t108)))) = some r := h
 clear h
 replace H := Option.bind_eq_some_iff.mp H
 obtain ⟨t103, A30, H⟩ := H
 try dsimp only at H
 have A3 := Aside0.mk A30
 clear A30
 replace H := Option.bind_eq_some_iff.mp H
 obtain ⟨t104, A40, H⟩ := H
 try dsimp only at H
 have A4 := Aside0.mk A40
 clear A40
 obtain ⟨y105, hy105⟩ : ∃ y_ : List Int, y_ = (([t103, t104] : List Int)) := ⟨_, rfl⟩
 replace H : ((cmp_Or_int.f k y105).bind fun t108 => (some t108)) = some r := by first | (rw [hy105]; with_reducible exact H) | (have H2_ := (Option.bind_some _ _).symm.trans H; rw [hy105]; with_reducible exact H2_) | (have H2_ := (Option.bind_some _ _).symm.trans H; with_reducible exact H2_) | with_reducible exact H | (rw [hy105]; exact H) | exact H
 have Ny105 := Aside0.mk hy105
 clear hy105
 replace H := Option.bind_eq_some_iff.mp H
 obtain ⟨t108, A50, H⟩ := H
 try dsimp only at H
 have A5 := Aside0.mk A50
 clear A50
 obtain rfl := Option.some.inj H
 have hbk1 : ((w.alloc (.cells #[.int .i64 a0_0, .int .i64 a0_1] 41 (0, 0))).alloc (.cells #[.int .i64 a1_0, .int .i64 a1_1] 41 (0, 0))).heap[w.heap.size]? = some (.cells #[.int .i64 a0_0, .int .i64 a0_1] 41 (0, 0)) := blk_alloc (blk_new w _) _
 have hbk2 : ((w.alloc (.cells #[.int .i64 a0_0, .int .i64 a0_1] 41 (0, 0))).alloc (.cells #[.int .i64 a1_0, .int .i64 a1_1] 41 (0, 0))).heap[w.heap.size + 1]? = some (.cells #[.int .i64 a1_0, .int .i64 a1_1] 41 (0, 0)) := by
  rw [show w.heap.size + 1 = (w.alloc (.cells #[.int .i64 a0_0, .int .i64 a0_1] 41 (0, 0))).heap.size by simp]; exact blk_new _ _
 have BK101 := Aside0.mk hbk1
 have BK102 := Aside0.mk hbk2
 clear hbk1 hbk2
 have HB := Aside0.mk (((Gr.refl w).alloc (.cells #[.int .i64 a0_0, .int .i64 a0_1] 41 (0, 0))).alloc (.cells #[.int .i64 a1_0, .int .i64 a1_1] 41 (0, 0)))
 go_enter Try.func89, Try.ntmps89
 go_wp2
 generalize (w.alloc (.cells #[.int .i64 a0_0, .int .i64 a0_1] 41 (0, 0))).alloc (.cells #[.int .i64 a1_0, .int .i64 a1_1] 41 (0, 0)) = w7 at BK101 BK102 HB ⊢
 replace BK101 := Aside0.mk (blk_drew BK101.out)
 replace BK102 := Aside0.mk (blk_drew BK102.out)
 replace HB := Aside0.mk HB.out.drew
 refine start_ (n := 13) (S := fun w' => w'.cell? ⟨w.heap.size, 0, none⟩ = some (.int .i64 a0_0) ∧ w'.cell? ⟨w.heap.size, 1, none⟩ = some (.int .i64 a0_1) ∧ w'.cell? ⟨w.heap.size + 1, 0, none⟩ = some (.int .i64 a1_0) ∧ w'.cell? ⟨w.heap.size + 1, 1, none⟩ = some (.int .i64 a1_1)) (ds := []) #[N,N,N,N,N,N,N,N,N,N,N,N,N] (by kernel_rfl) rfl rfl ⟨bc BK101 0, bc BK101 1, bc BK102 0, bc BK102 1⟩ (fun hHeld => ?_); refine with_tabW shape_Hull_1.tab1 shape_Hull_1.bits1 (fun HT_ HW_ => ?_)
 generalize w7.drew = w8 at BK101 BK102 HB hHeld ⊢
 refine pu 0 5 HT_ ?_
 refine pu 2 7 HT_ ?_
 refine pu 5 10 HT_ ?_
 refine pu 7 12 HT_ ?_
 refine tk4 1 6 hHeld HT_ HW_ ?_
 refine tk4 3 8 hHeld HT_ HW_ ?_
 refine tk4 6 11 hHeld HT_ HW_ ?_
 refine tk4 8 13 hHeld HT_ HW_ ?_
 refine one_ (i := 4) (N := some 9) #[T,T,T,T,T,T,T,T,T,N,N,N,N] rfl rfl (on1 HT_) (by decide) (fun K hK => ?_)
 refine goes_ Try.func91 (by kernel_rfl) rfl #[.int .i64 a0_0, .int .i64 a1_0] (by rfl) rfl rfl sg ?_
 with_reducible refine (cmp_Compare_int.calls a0_0 a1_0 t103 _ A3.out).mono ?_
 rintro e w' ⟨rfl, ⟨nd1, rfl⟩⟩
 refine ⟨_, rfl, ?_⟩
 refine hK.out _ _ ⟨bc BK101 0, bc BK101 1, bc BK102 0, bc BK102 1⟩ (fun hHeld => ?_)
 clear hK K
 refine nm 9 ?_
 refine one_ (i := 9) (N := some 14) #[T,T,T,T,T,T,T,T,T,T,N,N,N] rfl rfl (on1 HT_) (by decide) (fun K hK => ?_)
 refine goes_ Try.func91 (by kernel_rfl) rfl #[.int .i64 a0_1, .int .i64 a1_1] (by rfl) rfl rfl sg ?_
 with_reducible refine (cmp_Compare_int.calls a0_1 a1_1 t104 _ A4.out).mono ?_
 rintro e w' ⟨rfl, ⟨nd2, rfl⟩⟩
 refine ⟨_, rfl, ?_⟩
 refine hK.out _ _ ⟨bc BK101 0, bc BK101 1, bc BK102 0, bc BK102 1⟩ (fun hHeld => ?_)
 clear hK K
 refine nm 14 ?_
 refine one_ (i := 10) (N := some 15) #[T,T,T,T,T,T,T,T,T,T,T,N,N] rfl rfl (on1 HT_) (by decide) (fun K hK => ?_)
 refine value_ (v := .slice (some ⟨w8.heap.size, 0, none⟩) 2 2) (w1 := World.alloc (w8.drewN (nd1 + nd2)) (.cells #[.int .i64 t103, .int .i64 t104] 3 (0, 0))) rfl rfl (by go_simp) ?_
 have n0_ := Aside0.mk (blk_alloc (blk_drewN BK101.out (nd1 + nd2)) (.cells #[.int .i64 t103, .int .i64 t104] 3 (0, 0)))
 have n1_ := Aside0.mk (blk_alloc (blk_drewN BK102.out (nd1 + nd2)) (.cells #[.int .i64 t103, .int .i64 t104] 3 (0, 0)))
 have n2_ := Aside0.mk ((HB.out.drewN (nd1 + nd2)).alloc (.cells #[.int .i64 t103, .int .i64 t104] 3 (0, 0)))
 have HY : y105.length = 2 := by rw [Ny105.out]; rfl
 have n3_ := Aside0.mk (Kd.R_reads' (Kd.R_of_own (h1 := fun _ => rfl) (ok := fun _ => True) (own_lit (w8.drewN (nd1 + nd2)) w8.heap.size 3 .i64 [t103, t104] (Nat.le_refl _) (by simp)) (fun _ _ => trivial))).2.2
 clear BK101 BK102 HB
 have BK101 := n0_
 have BK102 := n1_
 have HB := n2_
 clear n0_ n1_ n2_
 have n4_ : Aside0 (Kd.C (Kd.int .i64) (World.alloc (w8.drewN (nd1 + nd2)) (.cells #[.int .i64 t103, .int .i64 t104] 3 (0, 0))) (some ⟨w8.heap.size, 0, none⟩) y105.length y105) := by rw [Ny105.out]; exact n3_
 clear n3_
 have HYY := Aside0.mk HY
 clear HY
 generalize World.alloc (w8.drewN (nd1 + nd2)) (.cells #[.int .i64 t103, .int .i64 t104] 3 (0, 0)) = w9 at BK101 BK102 HB n4_ ⊢
 refine hK.out _ _ ⟨bc BK101 0, bc BK101 1, bc BK102 0, bc BK102 1⟩ (fun hHeld => ?_)
 clear hK K
 refine nm 15 ?_
 refine one_ (i := 11) (N := some 16) #[T,T,T,T,T,T,T,T,T,T,T,T,N] rfl rfl (on1 HT_) (by decide) (fun K hK => ?_)
 refine goes_ Try.func90 (by kernel_rfl) rfl #[.slice (some ⟨w8.heap.size, 0, none⟩) 2 2] (by rfl) rfl rfl sg ?_
 refine calls_of_args (args' := #[.slice (some ⟨w8.heap.size, 0, none⟩) y105.length 2]) (by rw [HYY.out]) ?_
 with_reducible refine (cmp_Or_int.calls k _ _ y105 t108 _ ?side1 ?side2 A5.out).mono ?_
 (case side1 => exact n4_.out)
 (case side2 => rw [HYY.out]; exact Nat.le_refl _)
 rintro e w' ⟨rfl, ⟨nd, rfl⟩⟩
 refine ⟨_, rfl, ?_⟩
 refine hK.out _ _ ⟨bc BK101 0, bc BK101 1, bc BK102 0, bc BK102 1⟩ (fun hHeld => ?_)
 clear hK K
 refine nm 16 ?_
 refine pu 12 4 HT_ ?_
 refine done_ (done_of HT_.out (by kernel_rfl)) ?_
 try go_wp2
 go_ret
 exact ⟨by first | rfl | (simp; done), HB.out.drewN _⟩
def slices_SortFunc_xy.f (l0 : List (S41)) : Option (List S41) := if l0.length < 4611686018427387904 then some (l0.mergeSort fun x y => !xyLt y x) else none
theorem hull1_is (a b : S41) : shape_Hull_1.f 5 a.f0 a.f1 b.f0 b.f1 = some (xyCmp a b) := by
 unfold shape_Hull_1.f xyCmp
 rw [compare_is, Option.bind_some, compare_is, Option.bind_some, or_is]; rfl
theorem xy_lays (blk off size : Nat) (w : World) : CmpLays Try.prog 89 #[] enc29 2 xyCmp blk off size w :=
 fun _ _ _ _ x y => (xy_exact 5 x.f0 x.f1 y.f0 y.f1 _ _ (hull1_is x y)).mono fun _ _ h => h
theorem slices_SortFunc_xy.calls (P0_ : Nat → Prop) (u9000_ : Value) (l0 : List (S41)) (r : List (S41)) (w0 w : World) (hB : Below w0.heap.size w0 w) (ho0 : Kd.R k41 41 w w0.heap.size P0_ u9000_ l0) (h : slices_SortFunc_xy.f l0 = some r) :
  Calls Try.prog 88 #[u9000_, .func (.func 89) #[] #[]] w fun e w' => e = .returned (.tuple #[]) ∧ Kd.R k41 41 w' w0.heap.size (fun k_ => (P0_ k_ ∨ w.heap.size ≤ k_)) u9000_ r ∧ Below w0.heap.size w0 w' ∧ Kept w w' (fun k_ => P0_ k_) := by
 unfold slices_SortFunc_xy.f at h
 split at h
 ·rename_i hlt
  obtain rfl := Option.some.inj h
  clear h
  by_cases hl : l0.length = 0
  ·obtain ⟨A, c, rfl⟩ := Kd.R_slice ho0
   have e0 : l0 = [] := List.eq_nil_of_length_eq_zero hl
   subst e0
   have hc := AnyF.slices_SortFunc_none Try.sortPt A c (.func (.func 89) #[] #[]) w
   change Calls Try.prog 88 _ _ _ at hc
   refine hc.mono fun e w' hh => ?_
   obtain ⟨he, rfl⟩ := hh
   exact ⟨he, Kd.R_mono (by simpa using ho0) (fun k hk => .inl hk), hB, ⟨Nat.le_refl _, fun _ _ _ => rfl⟩⟩
  ·obtain ⟨g, cap, cur, rfl, hb, hh, hnc, hcm, hsz, hPg, hp⟩ := row_open ho0 (by omega)
   have eg : ∀ args w, (callFunc 89 args).run Try.prog w = .ok (.enter 89 args) w := enters_of Try.func89 (by kernel_rfl) rfl
   have hc := AnyQ.slices_SortFunc_total Try.sortPt 2 Try.isAgg41 Try.sizeOf41 enc29 (fun _ => rfl) enc29_one xyCmp xy_swo 89 #[] g 0 cap l0.toArray w eg (xy_lays _ _ _ _) (holds_of hh hp) (blk_lt hh) (by simpa using hlt) xy_total
   change Calls Try.prog 88 _ _ _ at hc
   simp only [List.size_toArray] at hc
   refine hc.mono fun e w' hx => ?_
   obtain ⟨he, n, os, rfl⟩ := hx
   have e1 : (fun x y => !ltOf xyCmp y x) = fun x y => !xyLt y x := by funext x y; rw [xy_lt]
   rw [e1]
   have hlen : (l0.mergeSort fun x y => !xyLt y x).length = l0.length := List.length_mergeSort l0
   obtain ⟨cur', p1, p2, p3, p4⟩ := put_at n (l0.mergeSort fun x y => !xyLt y x).toArray os hh (by simp [hlen]; omega)
   have := row_shut (P := fun k_ => (P0_ k_ ∨ w.heap.size ≤ k_)) hb p1 (l := l0.mergeSort fun x y => !xyLt y x) (cap := cap) (by rw [hlen]; exact hnc) hcm (by rw [p2]; exact hsz) (.inl hPg) p3
   rw [hlen] at this
   exact ⟨he, this, grown_below hB p4 hb, grown_kept p4 hPg⟩
 ·cases h
end Go.Proofs.Ythehmkpcddafnaa.PG
end
