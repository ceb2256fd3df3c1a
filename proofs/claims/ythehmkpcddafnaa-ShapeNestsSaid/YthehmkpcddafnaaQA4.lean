/- Parts of the proof of YthehmkpcddafnaaLawShapeNests: printed walks, their words, and plain laws. -/
import Derived.Test.YthehmkpcddafnaaQA1
import Derived.Test.YthehmkpcddafnaaQA3
import Derived.WalkSpells
import Derived.IntWalk
import Derived.Lib.SliceRun
import Derived.Shelf.GgSortFunc.InsertionK
import Derived.Shelf.SlicesQ.Reverse
import Derived.Shelf.SlSortCmp.NoneTotal
import Derived.Ground.SlgnProg
import Derived.Ground.SlsfProg
import Derived.Shelf.SlGeneric
import Derived.Test.YthehmkpcddafnaaProg
import Derived.Test.YthehmkpcddafnaaQA2
import Derived.RegionTactic
import Derived.ChangeAlike
import Derived.BigRegion
section
namespace Go.Proofs.Ythehmkpcddafnaa.PG
open Go.RowKit Go.Proofs.YthehmkpcddafnaaW.PrintWords Go.Proofs.YthehmkpcddafnaaW.PrintLast Go.Proofs.YthehmkpcddafnaaW.PrintMore
attribute [local go_sem] max2_int min2_int max_two min_two max_three min_three max_four min_four
set_option linter.unusedVariables false
set_option linter.unusedSimpArgs false
/-! ### slices_MinFunc_lower: function 1099 -/
def slices_MinFunc_lower.l0 : Nat → List (S41) → Int → Int → Int → Option (Int × Int)
 | 0, _, _, _, _ => none
 | k + 1, x0, x6, x104000, x104001 => if x6 < (x0.length : Int) then (if 0 ≤ x6 then ((shape_lower.f k ((rd_T41 x0 x6).f0) ((rd_T41 x0 x6).f1) x104000 x104001).bind fun t105 => (if t105 < 0 then (slices_MinFunc_lower.l0 k x0 (wrap64 (x6 + 1)) ((rd_T41 x0 x6).f0) ((rd_T41 x0 x6).f1)) else (slices_MinFunc_lower.l0 k x0 (wrap64 (x6 + 1)) x104000 x104001))) else (none)) else (some (x104000, x104001))
def slices_MinFunc_lower.f (k : Nat) (l0 : List (S41))  : Option (Int × Int) := if (l0.length : Int) < 1 then (none) else (if 0 < (l0.length : Int) then (slices_MinFunc_lower.l0 k l0 1 ((rd_T41 l0 0).f0) ((rd_T41 l0 0).f1)) else (none))
def slices_MinFunc_lower.T7 : Bool × List (List Nat × List Nat) := (true, [([], []), ([], []), ([], []), ([1, 2], [1, 2]), ([3], [3]), ([], []), ([0, 4, 5], [0, 4, 5]), ([6], [6])])
def slices_MinFunc_lower.B7 : List Nat := [0, 0, 0, 6, 14, 0, 63, 127]
theorem slices_MinFunc_lower.tab7 : rtab .any (opsOf Try.f99 7) = slices_MinFunc_lower.T7 := by kernel_rfl
theorem slices_MinFunc_lower.bits7 : waitsOk slices_MinFunc_lower.T7.2 slices_MinFunc_lower.B7 = true := by kernel_rfl
set_option maxHeartbeats 8000000 in
set_option maxRecDepth 100000 in
theorem slices_MinFunc_lower.calls (k : Nat) (A0 : Option Addr) (c0 : Nat) (l0 : List (S41))  (r1 : Int) (r2 : Int) (w : World) (hr0 : Kd.C k41 w A0 l0.length l0) (hc0 : l0.length ≤ c0) (h : slices_MinFunc_lower.f k l0 = some (r1, r2)) :
  Calls Try.prog 99 #[.slice A0 l0.length c0, .func (.func 100) #[] #[]] w fun e w' => e = .returned (.agg #[.int .i64 r1, .int .i64 r2]) ∧ Below w.heap.size w w' := by
 have hu41 := Try.underlying41
 have HR0 := Aside0.mk hr0
 have HC0 := Aside0.mk hc0
 clear hr0 hc0
 have HB := Aside0.mk (Below.refl w.heap.size w)
 have H : (if (l0.length : Int) < 1 then (none) else (if 0 < (l0.length : Int) then (slices_MinFunc_lower.l0 k l0 1 ((rd_T41 l0 0).f0) ((rd_T41 l0 0).f1)) else (none))) = some (r1, r2) := h
 clear h
 obtain ⟨c3, H⟩ := oj H
 have c3b0 := decide_eq_false c3
 have c3b1 : decide (l0.length < 1) = false := decide_eq_false (by omega)
 clear c3
 obtain ⟨c4, H⟩ := oi H
 have c4b0 := decide_eq_true c4
 have c4b1 : decide (0 < l0.length) = true := decide_eq_true (by omega)
 clear c4
 have H' := Aside0.mk H
 clear H
 go_enter Try.func99, Try.ntmps99
 go_wp2_with (first | ((with_reducible refine gate_dst (N := 4) rfl ?_); refine bxe 4 #[.int .i64 0, .int .i64 0] 41 ?_; intro gb101 hg w5 hbox hb; have BK101 := Aside0.mk (hbox); have GW101 := ga w hg; have GE101 := GW101; replace HB := bz hb; clear hb hbox hg; have p102 : 0 ≤ (0 : Int) := (by omega); have q102 : 0 < (l0.length : Int) := dt; obtain ⟨ad102, e102, hx102_0, hx102_1⟩ := at_T41 HR0.out 0 p102 q102; cases e102; have qi102 : (0 < l0.length) = True := eq_true (by omega); (try rw [show ((0 : Int)).toNat = 0 from rfl] at hx102_0); (try rw [show 0 * 2 = 0 from rfl] at hx102_0); (try rw [Addr.add_zero'] at hx102_0); (try rw [show ((0 : Int)).toNat = 0 from rfl] at hx102_1); (try rw [show 0 * 2 = 0 from rfl] at hx102_1); (try rw [Addr.add_zero'] at hx102_1); replace hx102_0 := (HB.out.cell (World.block_lt_of_cell? w _ hx102_0)).trans hx102_0; replace hx102_1 := (HB.out.cell (World.block_lt_of_cell? w _ hx102_1)).trans hx102_1; replace p102 := eq_true p102; replace q102 := eq_true q102) | ((with_reducible refine gate_dst (N := 5) rfl ?_); refine bxe 5 #[.int .i64 0, .int .i64 0] 41 ?_; intro gb103 hg w6 hbox hb; have BK103 := Aside0.mk (hbox); have GW103 := ga w hg; have GE103 := GW103; have NB101_103 := nb hg (kl BK101); have NB103_101 := bn NB101_103; replace BK101 := kb BK101 hb; replace HB := bz hb; clear hb hbox hg; have hnb7 := NB103_101.out; have hnc7 := NB101_103.out; obtain ⟨hcz8_0, hcz8_1, hfz8_0, hfz8_1⟩ := b2 BK103))
 go_loopg [6] k (fun kq v6 w' => ∃ (x6_1 : Int) (x104000_1 : Int) (x104001_1 : Int), v6 = .int .i64 x6_1 ∧ Aside0 (slices_MinFunc_lower.l0 kq l0 x6_1 x104000_1 x104001_1 = some (r1, r2)) ∧ Aside0 (kq ≤ k) ∧ Aside0 (w'.heap[gb101]? = some (.cells #[.int .i64 0, .int .i64 0] 41 (0, 0))) ∧ Aside0 (w'.heap[gb103]? = some (.cells #[.int .i64 x104000_1, .int .i64 x104001_1] 41 (0, 0))) ∧ Aside0 (Below w.heap.size w w'))
 case atStart => exact ⟨(1), ((rd_T41 l0 0).f0), ((rd_T41 l0 0).f1), sd, H', ⟨Nat.le_refl _⟩, ⟨by refine bf NB101_103 ?_; refine bf NB101_103 ?_; refine bd ?_; exact BK101.out⟩, ⟨by refine bd ?_; refine blk_put (cs := #[.int .i64 ((rd_T41 l0 0).f0), .int .i64 0]) ?_ 1 _ rfl; refine bd ?_; refine blk_put (cs := #[.int .i64 0, .int .i64 0]) ?_ 0 _ rfl; refine bd ?_; exact BK103.out⟩, ⟨bh⟩⟩
 case round =>
  clear H'
  (try clear c3b0); (try clear c3b1); (try clear c4b0); (try clear c4b1); (try clear hcz8_0); (try clear hcz8_1); (try clear hfz8_0); (try clear hfz8_1); (try clear hx102_0); (try clear hx102_1); (try clear p102); (try clear q102)
  obtain ⟨x6_1, x104000_1, x104001_1, rfl, HA, HK1, BK101, BK103, HB⟩ := hrel
  cases gk with
  | zero => exact absurd HA.out (by simp [slices_MinFunc_lower.l0])
  | succ k1 =>
   have H := HA.out
   clear HA
   simp only [slices_MinFunc_lower.l0] at H
   by_cases c9 : x6_1 < (l0.length : Int)
   ·rw [if_pos c9] at H
    have c9b0 := decide_eq_true c9
    clear c9
    obtain ⟨c10, H⟩ := oi H
    have c10b0 := decide_eq_true c10
    clear c10
    replace H := Option.bind_eq_some_iff.mp H
    obtain ⟨t105, A110, H⟩ := H
    replace H : (if t105 < 0 then (slices_MinFunc_lower.l0 k1 l0 (wrap64 (x6_1 + 1)) ((rd_T41 l0 x6_1).f0) ((rd_T41 l0 x6_1).f1)) else (slices_MinFunc_lower.l0 k1 l0 (wrap64 (x6_1 + 1)) x104000_1 x104001_1)) = some (r1, r2) := H
    have A11 := Aside0.mk A110
    clear A110
    by_cases c12 : t105 < 0
    ·rw [if_pos c12] at H
     have c12b0 := decide_eq_true c12
     clear c12
     have H' := Aside0.mk H
     clear H
     try go_wp2
     replace BK101 := Aside0.mk (blk_drew BK101.out)
     replace BK103 := Aside0.mk (blk_drew BK103.out)
     replace HB := Aside0.mk (below_drew1 HB.out)
     have p104 : 0 ≤ (x6_1 : Int) := dt
     have q104 : x6_1 < (l0.length : Int) := dt
     obtain ⟨ad104, e104, hx104_0, hx104_1⟩ := at_T41 HR0.out x6_1 p104 q104
     have hw104_1 := hx104_1
     have hw104_0 := hx104_0
     obtain rfl : ad102 = ad104 := (by injection e104)
     replace hx104_0 := hc HB hx104_0
     replace hx104_1 := hc HB hx104_1
     replace p104 := eq_true p104
     replace q104 := eq_true q104
     refine start_ (n := 8) (S := fun w' => w'.cell? ⟨gb103, 0, none⟩ = some (.int .i64 x104000_1) ∧ w'.cell? ⟨gb103, 1, none⟩ = some (.int .i64 x104001_1) ∧ w'.cell? (ad102.add ((x6_1).toNat * 2)) = some (.int .i64 ((rd_T41 l0 x6_1).f0)) ∧ w'.cell? ⟨(ad102.add ((x6_1).toNat * 2)).block, (ad102.add ((x6_1).toNat * 2)).off + 1, none⟩ = some (.int .i64 ((rd_T41 l0 x6_1).f1))) (ds := []) #[N,N,N,N,N,N,N,N] (by kernel_rfl) rfl rfl ⟨bc BK103 0, bc BK103 1, (hc HB hw104_0), (hc HB hw104_1)⟩ (fun hHeld => ?_); refine with_tabW slices_MinFunc_lower.tab7 slices_MinFunc_lower.bits7 (fun HT_ HW_ => ?_)
     generalize wr.drew = w13 at BK101 BK103 HB hx104_0 hx104_1 hHeld ⊢
     refine pu 0 20 HT_ ?_
     refine pu 1 21 HT_ ?_
     refine pu 2 22 HT_ ?_
     refine pu 3 23 HT_ ?_
     refine tk4 4 24 hHeld HT_ HW_ ?_
     refine tk4 5 25 hHeld HT_ HW_ ?_
     refine one_ (i := 6) (N := some 26) #[T,T,T,T,T,T,T,N] rfl rfl (on1 HT_) (by decide) (fun K hK => ?_)
     first | (refine goes_ Try.func100 (by kernel_rfl) rfl #[.agg #[.int .i64 ((rd_T41 l0 x6_1).f0), .int .i64 ((rd_T41 l0 x6_1).f1)], .agg #[.int .i64 x104000_1, .int .i64 x104001_1]] (by rfl) rfl rfl sg ?_) | (refine goesV_ Try.func100 (by kernel_rfl) rfl #[.agg #[.int .i64 ((rd_T41 l0 x6_1).f0), .int .i64 ((rd_T41 l0 x6_1).f1)], .agg #[.int .i64 x104000_1, .int .i64 x104001_1]] (by rfl) rfl rfl sg (by rfl) ?_)
     with_reducible refine (shape_lower.calls k1 ((rd_T41 l0 x6_1).f0) ((rd_T41 l0 x6_1).f1) x104000_1 x104001_1 t105 _ A11.out).mono ?_
     rintro e w14 ⟨rfl, hb⟩
     refine ⟨_, rfl, ?_⟩
     replace BK101 := kb BK101 hb
     replace BK103 := kb BK103 hb
     replace HB := bz hb
     (try clear hb)
     refine hK.out _ _ ⟨bc BK103 0, bc BK103 1, (hc HB hw104_0), (hc HB hw104_1)⟩ (fun hHeld => ?_)
     clear hK K
     refine nm 26 ?_
     refine pu 7 27 HT_ ?_
     refine done_ (done_of HT_.out (by kernel_rfl)) ?_
     have p106 : 0 ≤ (x6_1 : Int) := dt
     have q106 : x6_1 < (l0.length : Int) := dt
     obtain ⟨ad106, e106, hx106_0, hx106_1⟩ := at_T41 HR0.out x6_1 p106 q106
     obtain rfl : ad102 = ad106 := (by injection e106)
     replace hx106_0 := hc HB hx106_0
     replace hx106_1 := hc HB hx106_1
     replace p106 := eq_true p106
     replace q106 := eq_true q106
     have hnb15 := NB103_101.out
     have hnc15 := NB101_103.out
     obtain ⟨hcz16_0, hcz16_1, hfz16_0, hfz16_1⟩ := b2 BK103
     try go_wp2
     go_roundg k1
     case measure => have := HK1.out; omega
     case rel => exact ⟨(wrap64 (x6_1 + 1)), ((rd_T41 l0 x6_1).f0), ((rd_T41 l0 x6_1).f1), sd, H', ⟨by have := HK1.out; omega⟩, ⟨by refine bf NB101_103 ?_; refine bf NB101_103 ?_; refine bd ?_; exact BK101.out⟩, ⟨by refine bd ?_; refine blk_put (cs := #[.int .i64 ((rd_T41 l0 x6_1).f0), .int .i64 x104001_1]) ?_ 1 _ rfl; refine bd ?_; refine blk_put (cs := #[.int .i64 x104000_1, .int .i64 x104001_1]) ?_ 0 _ rfl; refine bd ?_; exact BK103.out⟩, ⟨bh⟩⟩
    ·rw [if_neg c12] at H
     have c12b0 := decide_eq_false c12
     clear c12
     have H' := Aside0.mk H
     clear H
     try go_wp2
     replace BK101 := Aside0.mk (blk_drew BK101.out)
     replace BK103 := Aside0.mk (blk_drew BK103.out)
     replace HB := Aside0.mk (below_drew1 HB.out)
     have p104 : 0 ≤ (x6_1 : Int) := dt
     have q104 : x6_1 < (l0.length : Int) := dt
     obtain ⟨ad104, e104, hx104_0, hx104_1⟩ := at_T41 HR0.out x6_1 p104 q104
     have hw104_1 := hx104_1
     have hw104_0 := hx104_0
     obtain rfl : ad102 = ad104 := (by injection e104)
     replace hx104_0 := hc HB hx104_0
     replace hx104_1 := hc HB hx104_1
     replace p104 := eq_true p104
     replace q104 := eq_true q104
     refine start_ (n := 8) (S := fun w' => w'.cell? ⟨gb103, 0, none⟩ = some (.int .i64 x104000_1) ∧ w'.cell? ⟨gb103, 1, none⟩ = some (.int .i64 x104001_1) ∧ w'.cell? (ad102.add ((x6_1).toNat * 2)) = some (.int .i64 ((rd_T41 l0 x6_1).f0)) ∧ w'.cell? ⟨(ad102.add ((x6_1).toNat * 2)).block, (ad102.add ((x6_1).toNat * 2)).off + 1, none⟩ = some (.int .i64 ((rd_T41 l0 x6_1).f1))) (ds := []) #[N,N,N,N,N,N,N,N] (by kernel_rfl) rfl rfl ⟨bc BK103 0, bc BK103 1, (hc HB hw104_0), (hc HB hw104_1)⟩ (fun hHeld => ?_); refine with_tabW slices_MinFunc_lower.tab7 slices_MinFunc_lower.bits7 (fun HT_ HW_ => ?_)
     generalize wr.drew = w17 at BK101 BK103 HB hx104_0 hx104_1 hHeld ⊢
     refine pu 0 20 HT_ ?_
     refine pu 1 21 HT_ ?_
     refine pu 2 22 HT_ ?_
     refine pu 3 23 HT_ ?_
     refine tk4 4 24 hHeld HT_ HW_ ?_
     refine tk4 5 25 hHeld HT_ HW_ ?_
     refine one_ (i := 6) (N := some 26) #[T,T,T,T,T,T,T,N] rfl rfl (on1 HT_) (by decide) (fun K hK => ?_)
     first | (refine goes_ Try.func100 (by kernel_rfl) rfl #[.agg #[.int .i64 ((rd_T41 l0 x6_1).f0), .int .i64 ((rd_T41 l0 x6_1).f1)], .agg #[.int .i64 x104000_1, .int .i64 x104001_1]] (by rfl) rfl rfl sg ?_) | (refine goesV_ Try.func100 (by kernel_rfl) rfl #[.agg #[.int .i64 ((rd_T41 l0 x6_1).f0), .int .i64 ((rd_T41 l0 x6_1).f1)], .agg #[.int .i64 x104000_1, .int .i64 x104001_1]] (by rfl) rfl rfl sg (by rfl) ?_)
     with_reducible refine (shape_lower.calls k1 ((rd_T41 l0 x6_1).f0) ((rd_T41 l0 x6_1).f1) x104000_1 x104001_1 t105 _ A11.out).mono ?_
     rintro e w18 ⟨rfl, hb⟩
     refine ⟨_, rfl, ?_⟩
     replace BK101 := kb BK101 hb
     replace BK103 := kb BK103 hb
     replace HB := bz hb
     (try clear hb)
     refine hK.out _ _ ⟨bc BK103 0, bc BK103 1, (hc HB hw104_0), (hc HB hw104_1)⟩ (fun hHeld => ?_)
     clear hK K
     refine nm 26 ?_
     refine pu 7 27 HT_ ?_
     refine done_ (done_of HT_.out (by kernel_rfl)) ?_
     try go_wp2
     go_roundg k1
     case measure => have := HK1.out; omega
     case rel => exact ⟨(wrap64 (x6_1 + 1)), (x104000_1), (x104001_1), sd, H', ⟨by have := HK1.out; omega⟩, ⟨bk BK101⟩, ⟨bk BK103⟩, ⟨bh⟩⟩
   ·rw [if_neg c9] at H
    have c9b0 := decide_eq_false c9
    clear c9
    simp only [Option.some.injEq, Prod.mk.injEq] at H
    obtain ⟨rfl, rfl⟩ := H
    have hnb19 := NB103_101.out
    have hnc19 := NB101_103.out
    obtain ⟨hcz20_0, hcz20_1, hfz20_0, hfz20_1⟩ := b2 BK103
    obtain ⟨hcz21_0, hcz21_1, hfz21_0, hfz21_1⟩ := b2 BK101
    go_wp2
    refine bodyPost_ret (results_cell_row rfl _ _ gb101 41 #[.int .i64 x104000_1, .int .i64 x104001_1] (0, 0) _ rfl (by refine bd ?_; refine blk_put (cs := #[.int .i64 x104000_1, .int .i64 0]) ?_ 1 _ rfl; refine bd ?_; refine blk_put (cs := #[.int .i64 0, .int .i64 0]) ?_ 0 _ rfl; refine bd ?_; exact BK101.out) Try.underlying41 rfl (by kernel_rfl)) rfl ?_
    exact ⟨by exact er, bh⟩
/-! ### shape_begun: function 96 -/
def shape_begun.f (k : Nat) (l0 : List (S41)) : Option ((List (S41))) := (slices_MinFunc_lower.f k l0).bind fun bt101 => ((api_Point_119.f k l0 bt101.1 bt101.2).bind fun t103 => (if 0 ≤ t103 then (if t103 ≤ (l0.length : Int) then ((api_Point_95.f k (([(l0.drop (t103 : Int).toNat), (l0.take (t103 : Int).toNat)] : List (List (S41))))).bind fun t117 => (some t117)) else (none)) else (none)))
def shape_begun.T2 : Bool × List (List Nat × List Nat) := (true, [([], []), ([], []), ([0, 1], [0, 1]), ([], []), ([], []), ([3, 4], [3, 4]), ([2, 5], [2, 5]), ([6], [6]), ([7, 7, 0, 1, 2, 3, 4, 5, 6, 7], [7])])
def shape_begun.B2 : List Nat := [0, 0, 3, 0, 0, 24, 63, 127, 255]
theorem shape_begun.tab2 : rtab .any (opsOf Try.f96 2) = shape_begun.T2 := by kernel_rfl
theorem shape_begun.bits2 : waitsOk shape_begun.T2.2 shape_begun.B2 = true := by kernel_rfl
set_option maxHeartbeats 8000000 in
set_option maxRecDepth 100000 in
theorem shape_begun.calls (k : Nat) (P0_ : Nat → Prop) (A0 : Option Addr) (c0 : Nat) (l0 : List (S41)) (r : List (S41)) (w : World) (hs0 : Kd.V k41 41 w w.heap.size (fun k_ => P0_ k_) (.slice A0 l0.length c0) l0) (h : shape_begun.f k l0 = some r) :
  Calls Try.prog 96 #[.slice A0 l0.length c0] w fun e w' => ∃ v0_ : Value, e = .returned (v0_) ∧ Kd.R k41 41 w' w.heap.size (fun k_ => (w.heap.size ≤ k_)) v0_ r ∧ Below w.heap.size w w' := by
 have HO0 := Aside0.mk (show Kd.V k41 41 w w.heap.size (fun k_ => (P0_ k_ ∨ w.heap.size ≤ k_)) (.slice A0 l0.length c0) l0 from Kd.V_mono hs0 (fun k_ hk => .inl hk))
 have HB := Aside0.mk (Below.refl w.heap.size w)
 have H : ((slices_MinFunc_lower.f k l0).bind fun bt101 => ((api_Point_119.f k l0 bt101.1 bt101.2).bind fun t103 => (if 0 ≤ t103 then (if t103 ≤ (l0.length : Int) then ((api_Point_95.f k (([(l0.drop (t103 : Int).toNat), (l0.take (t103 : Int).toNat)] : List (List (S41))))).bind fun t117 => (some t117)) else (none)) else (none)))) = some r := h
 clear h
 replace H := Option.bind_eq_some_iff.mp H
 obtain ⟨⟨t101, t102⟩, A20, H⟩ := H
 try dsimp only at H
 have A2 := Aside0.mk A20
 clear A20
 replace H := Option.bind_eq_some_iff.mp H
 obtain ⟨t103, A30, H⟩ := H
 try dsimp only at H
 have A3 := Aside0.mk A30
 clear A30
 obtain ⟨c4, H⟩ := oi H
 have c4b0 := eq_true c4
 have c4b1 := decide_eq_true c4
 clear c4
 obtain ⟨c5, H⟩ := oi H
 have c5b0 := eq_true c5
 have c5b1 := decide_eq_true c5
 clear c5
 obtain ⟨y104, hy104⟩ : ∃ y_ : List (S41), y_ = (l0.drop (t103 : Int).toNat) := ⟨_, rfl⟩
 replace H : ((api_Point_95.f k (([y104, (l0.take (t103 : Int).toNat)] : List (List (S41))))).bind fun t117 => (some t117)) = some r := by first | (rw [hy104]; with_reducible exact H) | (have H2_ := (Option.bind_some _ _).symm.trans H; rw [hy104]; with_reducible exact H2_) | (have H2_ := (Option.bind_some _ _).symm.trans H; with_reducible exact H2_) | with_reducible exact H | (rw [hy104]; exact H) | exact H
 have Ny104 := Aside0.mk hy104
 clear hy104
 have c6b0 := eq_true (dt : 0 ≤ t103)
 have c7b0 := eq_true (dt : t103 ≤ (l0.length : Int))
 obtain ⟨y109, hy109⟩ : ∃ y_ : List (S41), y_ = (l0.take (t103 : Int).toNat) := ⟨_, rfl⟩
 replace H : ((api_Point_95.f k (([y104, y109] : List (List (S41))))).bind fun t117 => (some t117)) = some r := by first | (rw [hy109]; with_reducible exact H) | (have H2_ := (Option.bind_some _ _).symm.trans H; rw [hy109]; with_reducible exact H2_) | (have H2_ := (Option.bind_some _ _).symm.trans H; with_reducible exact H2_) | with_reducible exact H | (rw [hy109]; exact H) | exact H
 have Ny109 := Aside0.mk hy109
 clear hy109
 obtain ⟨y114, hy114⟩ : ∃ y_ : List (List (S41)), y_ = (([y104, y109] : List (List (S41)))) := ⟨_, rfl⟩
 replace H : ((api_Point_95.f k y114).bind fun t117 => (some t117)) = some r := by first | (rw [hy114]; with_reducible exact H) | (have H2_ := (Option.bind_some _ _).symm.trans H; rw [hy114]; with_reducible exact H2_) | (have H2_ := (Option.bind_some _ _).symm.trans H; with_reducible exact H2_) | with_reducible exact H | (rw [hy114]; exact H) | exact H
 have Ny114 := Aside0.mk hy114
 clear hy114
 replace H := Option.bind_eq_some_iff.mp H
 obtain ⟨t117, A80, H⟩ := H
 try dsimp only at H
 have A8 := Aside0.mk A80
 clear A80
 obtain rfl := Option.some.inj H
 go_enter Try.func96, Try.ntmps96
 try go_wp2_with (first | ((with_reducible refine gc 99 rfl ?_); refine goesL_ (some 6) rfl rfl Try.func99 (by kernel_rfl) rfl #[.slice A0 l0.length c0, .func (.func 100) #[] #[]] rfl sg ?_; (with_reducible refine (slices_MinFunc_lower.calls k _ _ l0  t101 t102 _ ?side1 ?side2 A2.out).mono ?_); (case side1 => exact cs (Kd.V_reads' HO0.out).2.2); (case side2 => exact (Kd.V_reads' HO0.out).2.1); rintro e w9 ⟨rfl, hb⟩; refine ⟨_, rfl, ?_⟩; replace HO0 := Aside0.mk (Kd.V_below (vo HO0) hb); replace HB := bz hb; (try clear hb)) | ((with_reducible refine gc 119 rfl ?_); refine goesL_ (some 7) rfl rfl Try.func119 (by kernel_rfl) rfl #[.slice A0 l0.length c0, .agg #[.int .i64 t101, .int .i64 t102]] rfl sg ?_; (with_reducible refine (api_Point_119.calls k _ _ l0 t101 t102 t103 _ ?side1 ?side2 A3.out).mono ?_); (case side1 => exact cs (Kd.V_reads' HO0.out).2.2); (case side2 => exact (Kd.V_reads' HO0.out).2.1); rintro e w10 ⟨rfl, hb⟩; refine ⟨_, rfl, ?_⟩; replace HO0 := Aside0.mk (Kd.V_below (vo HO0) hb); replace HB := bz hb; (try clear hb)))
 replace HO0 := Aside0.mk (Kd.V_drew HO0.out)
 replace HB := Aside0.mk (below_drew1 HB.out)
 have q12 : (t103 : Int) ≤ ((l0.length : Int) : Int) := dt
 obtain ⟨i012, hi012, _, hsz12, _⟩ := info_parts info41
 have hroom12 : l0.length ≤ c0 := (Kd.V_reads' HO0.out).2.1
 have hC12 : Kd.F k41 _ _ A0 l0.length l0 := (Kd.V_at (base := w.heap.size) HO0.out).2.2
 have q012 : (0 : Int) ≤ (t103 : Int) := dt
 have hcut12 := cut_from (P := Try.prog) 22 41 .i64 Try.underlying22 hi012 2 hsz12 A0 l0.length c0 t103 q012 q12
 have hr12 := Kd.F_cut (m := (t103 : Int).toNat) (c := c0) hC12 (by omega) hroom12
 obtain ⟨A12, hA12⟩ : ∃ A1, A1 = (if c0 = (t103 : Int).toNat then A0 else (A0 : Option Addr).map (·.add ((t103 : Int).toNat * 2))) := ⟨_, rfl⟩
 obtain ⟨c12, hc12⟩ : ∃ c1, c1 = c0 - (t103 : Int).toNat := ⟨_, rfl⟩
 have hy12 : y104.length = l0.length - (t103 : Int).toNat := (by rw [Ny104.out, List.length_drop] <;> omega)
 rw [show (l0).drop (t103 : Int).toNat = y104 from Ny104.out.symm] at hr12
 replace hr12 : Kd.F k41 _ _ A12 y104.length y104 := (by rw [hA12]; exact hr12)
 rw [← hy12, ← hA12, ← hc12] at hcut12
 have HO108 := Aside0.mk (show Kd.V k41 41 _ w.heap.size _ (.slice A12 y104.length c12) y104 from Kd.V_mk (by rw [hy12, hc12]; exact Nat.sub_le_sub_right hroom12 _) hr12)
 have HC108 := Aside0.mk (show y104.length ≤ c12 from by rw [hy12, hc12]; exact Nat.sub_le_sub_right hroom12 _)
 clear hr12 hC12 hroom12 hi012 hsz12 hc12
 have KY12 := Aside0.mk hy12
 have KA12 := Aside0.mk hA12
 clear hy12 hA12
 replace q12 := eq_true q12
 have q13 : (t103 : Int) ≤ ((l0.length : Int) : Int) := dt
 obtain ⟨i013, hi013, _, hsz13, _⟩ := info_parts info41
 have hroom13 : l0.length ≤ c0 := (Kd.V_reads' HO0.out).2.1
 have hC13 : Kd.F k41 _ _ A0 l0.length l0 := (Kd.V_at (base := w.heap.size) HO0.out).2.2
 have hcut13 := cut_to (P := Try.prog) 22 41 .i64 Try.underlying22 hi013 A0 l0.length c0 t103 (dt) q13 hroom13
 have hr13 := Kd.F_take (m := (t103 : Int).toNat) hC13 (by omega)
 have hy13 : y109.length = (t103 : Int).toNat := (by rw [Ny109.out, List.length_take]; omega)
 rw [← Ny109.out] at hr13
 rw [← hy13] at hcut13
 have HO113 := Aside0.mk (show Kd.V k41 41 _ w.heap.size _ (.slice A0 y109.length c0) y109 from Kd.V_mk (by omega) hr13)
 have HC113 := Aside0.mk (show y109.length ≤ c0 from by omega)
 clear hr13 hC13 hroom13 hi013 hsz13
 have KY13 := Aside0.mk hy13
 clear hy13
 replace q13 := eq_true q13
 refine start_ (n := 9) (S := fun w' => True) (ds := []) #[N,N,N,N,N,N,N,N,N] (by kernel_rfl) rfl rfl trivial (fun hHeld => ?_); refine with_tabW shape_begun.tab2 shape_begun.bits2 (fun HT_ HW_ => ?_)
 generalize w10.drew = w11 at HO0 HB HO108 HO113 hHeld ⊢
 refine pu 0 8 HT_ ?_
 refine pu 1 9 HT_ ?_
 refine pu 2 10 HT_ ?_
 refine pu 3 11 HT_ ?_
 refine pu 4 12 HT_ ?_
 refine pu 5 13 HT_ ?_
 refine one_ (i := 6) (N := some 14) #[T,T,T,T,T,T,T,N,N] rfl rfl (on1 HT_) (by decide) (fun K hK => ?_)
 refine Kd.N_lit_step (Kd.slice 41 k41) _ 22 ?hg (N' := 14) ?hd (xs := ([y104, y109] : List (List (S41)))) (inner := [.slice A12 y104.length c12, .slice A0 y109.length c0]) (ok := (fun k_ => (P0_ k_ ∨ w.heap.size ≤ k_))) (okp := (fun k_ => (P0_ k_ ∨ w.heap.size ≤ k_))) ?hr ?hp (fun _ hk => hk) ((show ∀ k_, w11.heap.size ≤ k_ → (fun k_ => (P0_ k_ ∨ w.heap.size ≤ k_)) k_ from fun k_ hk => (.inr (Nat.le_trans (below_size bh) hk))) _ (Nat.le_refl _)) (Below.refl _ _) (Nat.le_refl _) (by simp) ?_; (case hd => rfl); (case hg => rfl); (case hr => first | (go_simp; done) | (go_simp; rfl)); (case hp => exact (Reps.one (show Kd.FK (Kd.slice 41 k41) _ _ y104 [.slice A12 y104.length c12] from (Kd.FK_slice_mk (Kd.V_reads' (Kd.V_mono (ok' := (fun k_ => (P0_ k_ ∨ w.heap.size ≤ k_))) (HO108.out) (fun k_ hk => hk))).2.1 (Kd.V_F (Kd.V_mono (ok' := (fun k_ => (P0_ k_ ∨ w.heap.size ≤ k_))) (HO108.out) (fun k_ hk => hk))))) (Reps.one (show Kd.FK (Kd.slice 41 k41) _ _ y109 [.slice A0 y109.length c0] from (Kd.FK_slice_mk (Kd.V_reads' (Kd.V_mono (ok' := (fun k_ => (P0_ k_ ∨ w.heap.size ≤ k_))) (HO113.out) (fun k_ hk => hk))).2.1 (Kd.V_F (Kd.V_mono (ok' := (fun k_ => (P0_ k_ ∨ w.heap.size ≤ k_))) (HO113.out) (fun k_ hk => hk))))) (Reps.none _ _))))
 intro v115 w14 ho15 hb hg_ hnew_
 clear hg_ hnew_
 (first | rw [← Ny114.out] at ho15 | (simp only [Int.reduceToNat] at ho15; rw [← Ny114.out] at ho15))
 have HO116 := Aside0.mk (Kd.N_lower ho15 (below_size bh))
 replace HO0 := Aside0.mk (Kd.V_elder' (vo HO0) (Kd.N_base ho15) hb)
 replace HO108 := Aside0.mk (Kd.V_elder' (vo HO108) (Kd.N_base ho15) hb)
 replace HO113 := Aside0.mk (Kd.V_elder' (vo HO113) (Kd.N_base ho15) hb)
 replace HB := bz hb
 clear hb ho15
 obtain ⟨Ao16, co16, eo16⟩ := Kd.N_slice HO116.out
 (first | subst eo16 | (injection eo16 with f1_ f2_ f3_; have f4_ := f1_.symm; have f5_ := f3_.symm; clear f1_ f2_ f3_; subst f4_; subst f5_))
 refine hK.out _ _ trivial (fun hHeld => ?_)
 clear hK K
 refine nm 14 ?_
 refine one_ (i := 7) (N := some 15) #[T,T,T,T,T,T,T,T,N] rfl rfl (on1 HT_) (by decide) (fun K hK => ?_)
 refine goes_ Try.func95 (by kernel_rfl) rfl #[.slice Ao16 y114.length co16] (by rfl) rfl rfl sg ?_
 with_reducible refine (api_Point_95.calls k _ _ y114 t117 _ ?side1 ?side2 A8.out).mono ?_
 (case side1 => exact cs (Kd.N_reads' HO116.out).2.2)
 (case side2 => exact (Kd.N_reads' HO116.out).2.1)
 rintro e w17 ⟨v118, rfl, ho0, hb⟩
 refine ⟨_, rfl, ?_⟩
 have HO119 := Aside0.mk (Kd.R_lower (Kd.R_newM (M := fun k_ => (w.heap.size ≤ k_)) ho0 (below_size bh) (fun k_ h_ => h_)) (below_size bh))
 replace HO0 := Aside0.mk (Kd.V_elder' (vo HO0) (Kd.R_base ho0) hb)
 replace HO108 := Aside0.mk (Kd.V_elder' (vo HO108) (Kd.R_base ho0) hb)
 replace HO113 := Aside0.mk (Kd.V_elder' (vo HO113) (Kd.R_base ho0) hb)
 replace HO116 := Aside0.mk (Kd.N_elder' (no HO116) (Kd.R_base ho0) hb)
 replace HB := bz hb
 (try clear hb); (try clear ho0)
 refine hK.out _ _ trivial (fun hHeld => ?_)
 clear hK K
 refine nm 15 ?_
 refine pu 8 2 HT_ ?_
 refine done_ (done_of HT_.out (by kernel_rfl)) ?_
 try go_wp2
 go_ret
 exact ⟨_, by exact er, by (with_reducible repeat (first | apply Kd.R_alloc | apply Kd.R_drewN | apply Kd.R_drew)); exact Kd.R_mono HO119.out (fun _ hk => hk.1), bh⟩
end Go.Proofs.Ythehmkpcddafnaa.PG
end
section
namespace Go.Proofs.Ythehmkpcddafnaa.PG
open Go.RowKit Go.Proofs.YthehmkpcddafnaaW.PrintWords Go.Proofs.YthehmkpcddafnaaW.PrintLast Go.Proofs.YthehmkpcddafnaaW.PrintMore
def slices_Clone.f (l0 : List (S41)) : Option (List S41) := if l0.length < 8796093022208 then some l0 else none
set_option maxHeartbeats 2000000 in
theorem slices_Clone.calls (A0 : Option Addr) (c0 : Nat) (l0 : List (S41)) (r : List S41) (w : World) (hr0 : Kd.C k41 w A0 l0.length l0) (_hc0 : l0.length ≤ c0) (h : slices_Clone.f l0 = some r) :
  Calls Try.prog 87 #[.slice A0 l0.length c0] w fun e w' => ∃ v0_ : Value, e = .returned (v0_) ∧ Kd.R k41 41 w' w.heap.size (fun _ => True) v0_ r ∧ Below w.heap.size w w' := by
 unfold slices_Clone.f at h
 by_cases hl : l0.length < 8796093022208
 ·rw [if_pos hl] at h
  obtain rfl := Option.some.inj h
  clear h
  have q22 : ∀ (w : World) (a : Option Addr) (n c n' c' : Nat), (binOp .eql 22 (.slice a n c) (.slice none n' c')).run Try.prog w = .ok (.bool a.isNone) w := fun w a n c n' c' => Lib.run_eql_slice_nil w _ _ a n c n' c' Try.underlying22
  cases A0 with
  | none =>
   have h0 : l0 = [] := by
    cases l0 with
    | nil => rfl
    | cons x t => obtain ⟨ad, e, _⟩ := at_T41 hr0 0 (by omega) (by simp); cases e
   subst h0
   clear hr0
   go_enter Try.func87, Try.ntmps87
   go_wp2
   go_ret
   exact ⟨_, rfl, ⟨fun k hk => by simp [Value.ownBlock] at hk, [], own_nil _ _ _ _, Reps.none _ _⟩, Below.refl _ _⟩
  | some a0 =>
   have HR := Aside0.mk hr0
   have HB := Aside0.mk (Below.refl w.heap.size w)
   clear hr0
   have HL := Aside0.mk hl
   clear hl
   go_enter Try.func87, Try.ntmps87
   go_wp2_with (first | ((with_reducible refine gate_dst (N := 5) rfl ?_); refine Kd.R_lit k41 _ 41 ?hg (N := 5) ?hd (xs := ([] : List (S41))) (inner := []) (ok := fun _ => True) (okp := fun _ => True) ?hr ?hp (fun _ hk => hk) trivial (Below.refl _ _) (Nat.le_refl _) (by simp) ?_; (case hd => rfl); (case hg => rfl); (case hr => first | (go_simp; done) | (go_simp; rfl)); (case hp => exact (Reps.none _ _)); intro v5 w5 ho5 hb hg_ hnew_; clear hg_ hnew_; have HO := Aside0.mk (Kd.R_lower ho5 HB.out.size); have n1_ := Aside0.mk (below_step HB.out hb); clear HB; have HB := n1_; clear n1_; clear hb ho5) | ((with_reducible refine gate_builtin (b := .append) (xs := #[.tmp 5, .tmp 6]) rfl ?_); at_builtin; refine Kd.R_append_rows k41 (w0 := w) w.heap.size rfl (.tmp 5) (.tmp 6) 22 41 (.agg #[(.int .i64 0), (.int .i64 0)]) 16 rfl Try.underlying22 info41 rfl (by decide) (by omega) v5 ([] : List S41) l0 _ _ _ (fun _ => True) (fun _ => False) rfl rfl ?aO ?aR (fun _ _ h => h) (fun _ h => h.elim) ?aF ?aB ?aS ?aL ?_; (case aR => exact (Kd.C_below HR.out HB.out)); (case aB => exact HB.out); (case aF => exact (fun _ _ => trivial)); (case aO => exact HO.out); (case aS => exact HB.out.size); (case aL => have := HL.out; simp; omega); intro v7 w7 ho hb hg hat; clear HB; have HB := Aside0.mk hb; have HO7 := Aside0.mk ho; clear HO ho hb hg hat))
   go_ret
   exact ⟨_, rfl, by rw [List.nil_append] at HO7; exact HO7.out, HB.out⟩
 ·rw [if_neg hl] at h; cases h
end Go.Proofs.Ythehmkpcddafnaa.PG
end
section
namespace Go.Proofs.Ythehmkpcddafnaa.PG
open Go.RowKit Go.Proofs.YthehmkpcddafnaaW.PrintWords Go.Proofs.YthehmkpcddafnaaW.PrintLast Go.Proofs.YthehmkpcddafnaaW.PrintMore
attribute [local go_sem high] eqA41
def slices_Compact.g : List S41 → List S41
 | [] => []
 | [a] => [a]
 | a :: b :: l => if a.f0 = b.f0 ∧ a.f1 = b.f1 then slices_Compact.g (b :: l) else a :: slices_Compact.g (b :: l)
def slices_Compact.f (l0 : List (S41)) : Option (List S41) := some (slices_Compact.g l0)
def cg := slices_Compact.g
theorem cg_snoc (a b : S41) : ∀ q : List S41, cg (q ++ [a] ++ [b]) = if a.f0 = b.f0 ∧ a.f1 = b.f1 then cg (q ++ [a]) else cg (q ++ [a]) ++ [b] := by
 intro q
 induction q with
 | nil =>
  simp only [List.nil_append, List.cons_append, cg, slices_Compact.g]
  split
  ·rename_i h; cases a; cases b; simp at h; simp [h]
  ·rfl
 | cons c q ih =>
  cases q with
  | nil =>
   simp only [List.nil_append, List.cons_append, cg, slices_Compact.g] at ih ⊢
   by_cases h1 : c.f0 = a.f0 ∧ c.f1 = a.f1 <;> by_cases h2 : a.f0 = b.f0 ∧ a.f1 = b.f1 <;> simp [h1, h2] at ih ⊢
   all_goals (cases a; cases b; simp_all)
  | cons d q =>
   simp only [List.cons_append, cg, slices_Compact.g] at ih ⊢
   rw [ih]
   by_cases h1 : c.f0 = d.f0 ∧ c.f1 = d.f1 <;> by_cases h2 : a.f0 = b.f0 ∧ a.f1 = b.f1 <;> simp [h1, h2]
theorem cg_take (l : List S41) (m : Nat) (h1 : 1 ≤ m) (h : m < l.length) : cg (l.take (m + 1)) = if (rd_T41 l ((m : Int) - 1)).f0 = (rd_T41 l m).f0 ∧ (rd_T41 l ((m : Int) - 1)).f1 = (rd_T41 l m).f1 then cg (l.take m) else cg (l.take m) ++ [rd_T41 l m] := by
 have e1 : rd_T41 l m = l[m] := by simp [rd_T41, List.getD_eq_getElem?_getD, h]
 have e0 : rd_T41 l ((m : Int) - 1) = l[m - 1] := by
  unfold rd_T41
  rw [show ((m : Int) - 1).toNat = m - 1 by omega, List.getD_eq_getElem?_getD, List.getElem?_eq_getElem (by omega)]; rfl
 have e2 : l.take m = l.take (m - 1) ++ [l[m - 1]] := by
  have := List.take_succ_eq_append_getElem (l := l) (i := m - 1) (by omega)
  rw [show m - 1 + 1 = m by omega] at this; exact this
 rw [e0, e1, List.take_succ_eq_append_getElem h, e2, cg_snoc]
theorem cg_all (l : List S41) (m : Nat) (h1 : 1 ≤ m) (h : m ≤ l.length) (hd : ∀ j, 1 ≤ j → j < m → ¬ ((rd_T41 l ((j : Int) - 1)).f0 = (rd_T41 l j).f0 ∧ (rd_T41 l ((j : Int) - 1)).f1 = (rd_T41 l j).f1)) : cg (l.take m) = l.take m := by
 induction m with
 | zero => omega
 | succ m ih =>
  rcases Nat.eq_zero_or_pos m with rfl | hm
  ·cases l with
   | nil => simp at h
   | cons a l => simp [cg, slices_Compact.g]
  ·rw [cg_take l m hm (by omega), if_neg (hd m hm (by omega)), ih hm (by omega) (fun j h1 h2 => hd j h1 (by omega)), List.take_succ_eq_append_getElem (by omega)]
   have e1 : rd_T41 l m = l[m] := by simp [rd_T41, List.getD_eq_getElem?_getD, show m < l.length by omega]
   rw [e1]
theorem setCells_row {w : World} {g : Nat} : ∀ (vs : List Value) (o : Nat) (wr : World) (cur : Array Value), w.grownBy wr (some g) → wr.heap[g]? = some (.cells cur 41 (0, 0)) →
  w.grownBy (wr.setCells g o vs) (some g) ∧ ∃ cur', (wr.setCells g o vs).heap[g]? = some (.cells cur' 41 (0, 0)) ∧ cur'.size = cur.size ∧ ∀ i, i < o → cur'[i]? = cur[i]?
 | [], o, wr, cur, hg, hh => ⟨hg, cur, hh, rfl, fun _ _ => rfl⟩
 | v :: r, o, wr, cur, hg, hh => by
  obtain ⟨h1, cur', h2, h3, h4⟩ := setCells_row r (o + 1) (wr.setCell ⟨g, o, none⟩ v) _ (grown_set hg o v) (blk_set hh o v)
  refine ⟨h1, cur', h2, by rw [h3]; simp, fun i hi => ?_⟩
  rw [h4 i (by omega), Array.getElem?_setIfInBounds_ne (by omega)]
theorem clear_run (wr : World) (g o m c : Nat) (cur : Array Value) (ty : TypeId) (hh : wr.heap[g]? = some (.cells cur 41 (0, 0))) (hm : 0 < m) (hs : o + m * 2 ≤ cur.size) :
  (Builtin.clear_ #[22] ty #[.slice (some ⟨g, o, none⟩) m c]).run Try.prog wr = .ok (.tuple #[]) (wr.setCells g o (List.replicate (m * 2) (.int .i64 0))) := by
 have hv : ∀ w, (zeroValue 41).run Try.prog w = .ok (.agg #[.int .i64 0, .int .i64 0]) w := fun w => by kernel_rfl
 have hz : (Value.agg #[.int .i64 0, .int .i64 0]).cells = #[.int .i64 0, .int .i64 0] := by kernel_rfl
 have hzc : (Builtin.zeroCells #[Value.int .i64 0, .int .i64 0] m).toList = List.replicate (m * 2) (.int .i64 0) := by
  simp [Builtin.zeroCells]
  apply List.ext_getElem
  ·simp
  ·intro i h1 h2
   simp
   have : i % 2 = 0 ∨ i % 2 = 1 := by omega
   rcases this with e | e <;> simp [e]
 have hst := run_storeCells_cells (P := Try.prog) g o (List.replicate (m * 2) (.int .i64 0)) 0 wr (by
   intro j hj
   simp at hj
   rw [blk_cell hh, Array.getElem?_eq_getElem (by omega)]; rfl) (by intro j _; exact blk_frozen hh _) (by intro v hv'; rw [List.eq_of_mem_replicate hv']; rfl)
 simp only [Nat.add_zero] at hst
 obtain ⟨m', rfl⟩ : ∃ m', m = m' + 1 := ⟨m - 1, by omega⟩
 simp [Builtin.clear_, run_underlying Try.underlying22, hv, hz, hzc, hst]
set_option maxHeartbeats 4000000 in
set_option maxRecDepth 100000 in
theorem slices_Compact.calls (P0_ : Nat → Prop) (u9000_ : Value) (l0 : List (S41)) (r : List (S41)) (w0 w : World) (hB : Below w0.heap.size w0 w) (ho0 : Kd.R k41 41 w w0.heap.size P0_ u9000_ l0) (h : slices_Compact.f l0 = some r) :
  Calls Try.prog 92 #[u9000_] w fun e w' => ∃ v0_ : Value, e = .returned (v0_) ∧ Kd.R k41 41 w' w0.heap.size (fun k_ => (P0_ k_ ∨ w.heap.size ≤ k_)) v0_ r ∧ Below w0.heap.size w0 w' ∧ Kept w w' (fun k_ => P0_ k_) := by
 obtain rfl := Option.some.inj h
 clear h
 by_cases hn : l0.length < 2
 ·have e : slices_Compact.g l0 = l0 := by
   match l0, hn with
   | [], _ => rfl
   | [a], _ => rfl
  rw [e]
  obtain ⟨A, c, rfl⟩ := Kd.R_slice ho0
  have HO := Aside0.mk ho0
  have HB := Aside0.mk hB
  clear ho0 e hB
  have hlt : decide (l0.length < 2) = true := decide_eq_true hn
  have hlt' : decide ((l0.length : Int) < 2) = true := decide_eq_true (by omega)
  generalize hn' : l0.length = n at *
  clear hn
  go_enter Try.func92, Try.ntmps92
  go_wp2
  go_ret
  exact ⟨_, rfl, by first | exact Kd.R_mono HO.out (fun k hk => .inl hk), HB.out, ⟨Nat.le_refl _, fun _ _ _ => rfl⟩⟩
 ·obtain ⟨g, cap, cur, rfl, hb, hh, hnc, hcm, hsz, hPg, hp⟩ := row_open ho0 (by omega)
  clear ho0
  have HP := Aside0.mk hp
  have HB := Aside0.mk hB
  have HPg := Aside0.mk hPg
  have HH := Aside0.mk hh
  have HS := Aside0.mk hsz
  have hcap : cap ≤ 9223372036854775807 := by unfold maxLen at hcm; exact hcm
  have HCM := Aside0.mk hcm
  have HBG := Aside0.mk hb
  clear hp hB hPg hh hsz hcm hb
  have HR := Aside0.mk (show slices_Compact.g l0 = cg l0 from rfl)
  obtain ⟨n, hn'⟩ : ∃ n, l0.length = n := ⟨_, rfl⟩
  rw [hn'] at hn hnc ⊢
  have HN := Aside0.mk hn'
  clear hn'
  have hu29 := Try.underlying41
  have hge : ¬ ((n : Int) < 2) := by omega
  go_enter Try.func92, Try.ntmps92
  go_wp2
  go_loopg [3, 4, 5] n (fun gg s3 s4 s5 wr => ∃ kk : Nat, 1 ≤ kk ∧ kk ≤ n ∧ n - kk ≤ gg ∧ s3 = .int .i64 kk ∧ (∃ q, Aside0 (wr = w.drewN q)) ∧ Aside0 (∀ j, 1 ≤ j → j < kk → ¬ ((rd_T41 l0 ((j : Int) - 1)).f0 = (rd_T41 l0 j).f0 ∧ (rd_T41 l0 ((j : Int) - 1)).f1 = (rd_T41 l0 j).f1)))
  case atStart => exact ⟨1, by omega, by omega, by omega, by go_num, ⟨0, ⟨rfl⟩⟩, ⟨fun j h1 h2 => by omega⟩⟩
  case round =>
   obtain ⟨kk, hk1, hkn, hg, rfl, ⟨q, HW⟩, HD⟩ := hrel
   obtain ⟨wr', HW'⟩ : ∃ w', w' = wr := ⟨_, rfl⟩
   have hhr : wr.heap[g]? = some (.cells cur 41 (0, 0)) := by rw [HW.out]; exact HH.out
   by_cases hlt : kk < n
   ·have hltz : (kk : Int) < (n : Int) := by omega
    have ea := (HP.out kk (by rw [HN.out]; exact hlt))
    have eb := (HP.out (kk - 1) (by rw [HN.out]; omega))
    have hx0 : wr.cell? ⟨g, kk * 2, none⟩ = some (.int .i64 (rd_T41 l0 kk).f0) := by
     rw [blk_cell hhr, Nat.mul_comm, ea.1]; simp [rd_T41, List.getD_eq_getElem?_getD, HN.out, hlt]
    have hx1 : wr.cell? ⟨g, kk * 2 + 1, none⟩ = some (.int .i64 (rd_T41 l0 kk).f1) := by
     rw [blk_cell hhr, Nat.mul_comm, ea.2]; simp [rd_T41, List.getD_eq_getElem?_getD, HN.out, hlt]
    have hz : ((kk : Int) - 1).toNat = kk - 1 := by omega
    have hy0 : wr.cell? ⟨g, (kk - 1) * 2, none⟩ = some (.int .i64 (rd_T41 l0 ((kk : Int) - 1)).f0) := by
     rw [blk_cell hhr, Nat.mul_comm, eb.1]; simp [rd_T41, List.getD_eq_getElem?_getD, hz, HN.out, show kk - 1 < n by omega]
    have hy1 : wr.cell? ⟨g, (kk - 1) * 2 + 1, none⟩ = some (.int .i64 (rd_T41 l0 ((kk : Int) - 1)).f1) := by
     rw [blk_cell hhr, Nat.mul_comm, eb.2]; simp [rd_T41, List.getD_eq_getElem?_getD, hz, HN.out, show kk - 1 < n by omega]
    have HHR := Aside0.mk hhr
    clear ea eb hhr
    generalize hqa : rd_T41 l0 kk = qa at hx0 hx1
    generalize hqb : rd_T41 l0 ((kk : Int) - 1) = qb at hy0 hy1
    have QA := Aside0.mk hqa
    have QB := Aside0.mk hqb
    clear hqa hqb
    have hw1 : IntKind.i64.wrap ((kk : Int) - 1) = (kk : Int) - 1 := IntWalk.i64_in _ (by omega)
    have hw0 : 0 ≤ (kk : Int) - 1 := by omega
    by_cases heq : qa.f0 = qb.f0 ∧ qa.f1 = qb.f1
    ·have hb1 : (qa.f0 == qb.f0 && qa.f1 == qb.f1) = true := by simp [heq.1, heq.2]
     clear heq
     go_wp2
     repeat (go_quiet (fail); try go_wp2)
     have HK := Aside0.mk (show cg (l0.take (kk + 1)) = l0.take kk by
      rw [cg_take l0 kk hk1 (by rw [HN.out]; exact hlt), if_pos, cg_all l0 kk hk1 (by rw [HN.out]; omega) HD.out]
      rw [QA.out, QB.out]; simp at hb1; exact ⟨hb1.1.symm, hb1.2.symm⟩)
     clear hx0 hx1 hy0 hy1 hb1
     obtain ⟨wo, rfl⟩ : ∃ wo : World, wo = wr := ⟨_, rfl⟩
     go_loopg [3, 5] (n - kk) (fun gg s3 s5 wr => ∃ (k2 kw : Nat) (cur2 : Array Value) (L : List S41), 1 ≤ k2 ∧ kk + k2 ≤ n ∧ n - kk - k2 ≤ gg ∧ s5 = .int .i64 k2 ∧ s3 = .int .i64 kw ∧ kw < kk + k2 ∧ 1 ≤ kw ∧ Aside0 (L.take kw = cg (l0.take (kk + k2))) ∧ Aside0 (L.length = n) ∧ Aside0 (∀ j : Nat, kk + k2 ≤ j + 1 → j < n → rd_T41 L j = rd_T41 l0 j) ∧ Aside0 (cur2.size = cap * 2) ∧ Aside0 (Pts cur2 L) ∧ Aside0 (w.grownBy wr (some g)) ∧ Aside0 (wr.heap[g]? = some (.cells cur2 41 (0, 0))))
     case atStart =>
      refine ⟨1, kk, cur, l0, by omega, by omega, by omega, by go_num, rfl, by omega, hk1, ⟨HK.out.symm⟩, ⟨HN.out⟩, ⟨fun _ _ _ => rfl⟩, ⟨HS.out⟩, ⟨HP.out⟩, ⟨?_⟩, ⟨HHR.out⟩⟩
      rw [HW.out]
      (repeat refine grown_drewN ?_ _)
      exact ⟨rfl, rfl, rfl, Nat.le_refl _, fun _ _ _ => rfl⟩
     case round =>
      obtain ⟨k2, kw, cur2, L, h21, h2n, hg2, rfl, rfl, hkw, hkw1, HL, HLN, HLR, HS2, HP2, HG2, HH2⟩ := hrel
      by_cases hlt2 : kk + k2 < n
      ·have hltz2 : (k2 : Int) < ((n - kk : Nat) : Int) := by omega
       have elen : L.length = n := HLN.out
       have ea := (HP2.out (kk + k2) (by omega))
       have eb := (HP2.out (kk + k2 - 1) (by omega))
       have ga : rd_T41 L ((kk + k2 : Nat) : Int) = L[kk + k2]'(by omega) := rd_nat _ _ _
       have gb : rd_T41 L ((kk + k2 - 1 : Nat) : Int) = L[kk + k2 - 1]'(by omega) := rd_nat _ _ _
       have ra := HLR.out (kk + k2) (by omega) (by omega)
       have rb := HLR.out (kk + k2 - 1) (by omega) (by omega)
       rw [← ga] at ea
       rw [← gb] at eb
       rw [ra] at ea
       rw [rb] at eb
       have hx0 : wr.cell? ⟨g, kk * 2 + k2 * 2, none⟩ = some (.int .i64 (rd_T41 l0 ((kk + k2 : Nat) : Int)).f0) := by
        rw [blk_cell HH2.out, show kk * 2 + k2 * 2 = 2 * (kk + k2) by omega]; exact ea.1
       have hx1 : wr.cell? ⟨g, kk * 2 + k2 * 2 + 1, none⟩ = some (.int .i64 (rd_T41 l0 ((kk + k2 : Nat) : Int)).f1) := by
        rw [blk_cell HH2.out, show kk * 2 + k2 * 2 + 1 = 2 * (kk + k2) + 1 by omega]; exact ea.2
       have hy0 : wr.cell? ⟨g, kk * 2 + (k2 - 1) * 2, none⟩ = some (.int .i64 (rd_T41 l0 ((kk + k2 - 1 : Nat) : Int)).f0) := by
        rw [blk_cell HH2.out, show kk * 2 + (k2 - 1) * 2 = 2 * (kk + k2 - 1) by omega]; exact eb.1
       have hy1 : wr.cell? ⟨g, kk * 2 + (k2 - 1) * 2 + 1, none⟩ = some (.int .i64 (rd_T41 l0 ((kk + k2 - 1 : Nat) : Int)).f1) := by
        rw [blk_cell HH2.out, show kk * 2 + (k2 - 1) * 2 + 1 = 2 * (kk + k2 - 1) + 1 by omega]; exact eb.2
       clear ea eb ga gb ra rb
       have hw1 : IntKind.i64.wrap ((k2 : Int) - 1) = (k2 : Int) - 1 := IntWalk.i64_in _ (by omega)
       have hw0 : 0 ≤ (k2 : Int) - 1 := by omega
       have hz2 : ((k2 : Int) - 1).toNat = k2 - 1 := by omega
       have ct := cg_take l0 (kk + k2) (by omega) (by rw [HN.out]; exact hlt2)
       rw [show ((kk + k2 : Nat) : Int) - 1 = ((kk + k2 - 1 : Nat) : Int) by omega] at ct
       generalize hqa : rd_T41 l0 ((kk + k2 : Nat) : Int) = ya at hx0 hx1 ct
       generalize hqb : rd_T41 l0 ((kk + k2 - 1 : Nat) : Int) = yb at hy0 hy1 ct
       have CT := Aside0.mk ct
       have YA := Aside0.mk hqa
       clear hqa hqb ct elen
       by_cases heq : ya.f0 = yb.f0 ∧ ya.f1 = yb.f1
       ·have hb2 : (!(ya.f0 == yb.f0) || !(ya.f1 == yb.f1)) = false := by simp [heq.1, heq.2]
        have CE := Aside0.mk heq
        clear heq
        go_wp2
        repeat (go_quiet (fail); try go_wp2)
        go_roundg (n - kk - (k2 + 1))
        case measure => omega
        case rel =>
         refine ⟨k2 + 1, kw, cur2, L, by omega, by omega, Nat.le_refl _, by go_num, rfl, by omega, hkw1, ⟨?_⟩, HLN, ⟨fun j h1 h2 => HLR.out j (by omega) h2⟩, HS2, HP2, ⟨by (repeat refine grown_drewN ?_ _); exact HG2.out⟩, ⟨HH2.out⟩⟩
         rw [HL.out, show kk + (k2 + 1) = kk + k2 + 1 by omega, CT.out, if_pos ⟨CE.out.1.symm, CE.out.2.symm⟩]
       ·have hb2 : (!(ya.f0 == yb.f0) || !(ya.f1 == yb.f1)) = true := by simp; by_cases h : ya.f0 = yb.f0; (exact .inr fun h' => heq ⟨h, h'⟩); (exact .inl h)
        have CE := Aside0.mk heq
        clear heq
        have hkwn : kw < n := by omega
        have hv0 := blk_cell HH2.out (kw * 2)
        have hv1 := blk_cell HH2.out (kw * 2 + 1)
        rw [Array.getElem?_eq_getElem (by rw [HS2.out]; omega)] at hv0 hv1
        have hf0 := blk_frozen HH2.out (kw * 2)
        have hf1 := blk_frozen HH2.out (kw * 2 + 1)
        generalize cur2[kw * 2]'(by rw [HS2.out]; omega) = o0 at hv0
        generalize cur2[kw * 2 + 1]'(by rw [HS2.out]; omega) = o1 at hv1
        go_wp2
        repeat (go_quiet (fail); try go_wp2)
        go_roundg (n - kk - (k2 + 1))
        case measure => omega
        case rel =>
         have elen : L.length = n := HLN.out
         refine ⟨k2 + 1, kw + 1, _, L.set kw ya, by omega, by omega, Nat.le_refl _, by go_num, by go_num, by omega, by omega, ⟨?_⟩, ⟨by rw [List.length_set]; exact elen⟩, ⟨fun j h1 h2 => ?_⟩, ⟨?_⟩, ⟨pts_set ya HP2.out (by rw [HS2.out]; omega) (by omega)⟩, ⟨?_⟩, ⟨?_⟩⟩
         ·rw [show kk + (k2 + 1) = kk + k2 + 1 by omega, CT.out, if_neg (fun h => CE.out ⟨h.1.symm, h.2.symm⟩), List.take_succ_eq_append_getElem (by rw [List.length_set]; omega), List.getElem_set_self, List.take_set_of_le (Nat.le_refl _), HL.out]
         ·rw [rd_nat _ _ (by rw [List.length_set]; omega), List.getElem_set_ne (by omega), ← rd_nat L j (by omega)]
          exact HLR.out j (by omega) h2
         ·rw [Array.size_setIfInBounds, Array.size_setIfInBounds]; exact HS2.out
         ·refine grown_set ?_ _ _
          refine grown_set ?_ _ _
          (repeat refine grown_drewN ?_ _)
          exact HG2.out
         ·exact blk_set (blk_set HH2.out _ _) _ _
      ·have hend : kk + k2 = n := by omega
       have hnl : ¬ (k2 : Int) < ((n - kk : Nat) : Int) := by omega
       have hcl : ∀ ty, (Builtin.clear_ #[22] ty #[.slice (some ⟨g, kw * 2, none⟩) (n - kw) (cap - kw)]).run Try.prog wr = .ok (.tuple #[]) (wr.setCells g (kw * 2) (List.replicate ((n - kw) * 2) (.int .i64 0))) :=
        fun ty => clear_run wr g (kw * 2) (n - kw) (cap - kw) cur2 ty HH2.out (by omega) (by rw [HS2.out]; omega)
       have hlw : kw ≤ n := by omega
       go_wp2
       go_ret
       obtain ⟨sg, cur3, sh, ss, sp⟩ := setCells_row (List.replicate ((n - kw) * 2) (.int .i64 0)) (kw * 2) wr cur2 HG2.out HH2.out
       have e1 : L.take kw = slices_Compact.g l0 := by
        rw [HL.out, hend, HR.out, List.take_of_length_le (by rw [HN.out]; omega)]
       have e2 : kw = (slices_Compact.g l0).length := by
        rw [← e1, List.length_take, HLN.out]; omega
       refine ⟨_, rfl, ?_, grown_below HB.out sg HBG.out, grown_kept sg HPg.out⟩
       have hpt : Pts cur3 (slices_Compact.g l0) := by
        intro j hj
        have h1 := pts_take kw HP2.out
        rw [e1] at h1
        have h2 := h1 j hj
        rw [sp (2 * j) (by omega), sp (2 * j + 1) (by omega)]
        exact h2
       have := row_shut (P := fun k_ => (P0_ k_ ∨ w.heap.size ≤ k_)) HBG.out sh (l := slices_Compact.g l0) (cap := cap) (by omega) HCM.out (by rw [ss]; exact HS2.out) (.inl HPg.out) hpt
       rw [← e2] at this
       exact this
    ·have hb1 : (qa.f0 == qb.f0 && qa.f1 == qb.f1) = false := by simpa using heq
     have HNE := Aside0.mk heq
     clear heq
     go_wp2
     repeat (go_quiet (fail); try go_wp2)
     go_roundg (n - (kk + 1))
     case measure => omega
     case rel =>
      refine ⟨kk + 1, by omega, by omega, Nat.le_refl _, by go_num, ?_, ⟨fun j h1 h2 => ?_⟩⟩
      ·rw [HW.out]
       refine ⟨_, ⟨World.drewN_drewN _ _ _⟩⟩
      ·by_cases e : j = kk
       ·subst e
        rw [QA.out, QB.out]
        exact fun h => HNE.out ⟨h.1.symm, h.2.symm⟩
       ·exact HD.out j h1 (by omega)
   ·have hnl : ¬ (kk : Int) < (n : Int) := by omega
    have hkk : kk = n := by omega
    subst hkk
    have e1 : slices_Compact.g l0 = l0 := by
     have := cg_all l0 kk hk1 (by rw [HN.out]; omega) HD.out
     rw [List.take_of_length_le (by rw [HN.out]; omega)] at this
     exact this
    have E1 := Aside0.mk e1
    clear hlt e1
    go_wp2
    go_ret
    have hgr : w.grownBy wr (some g) := by rw [HW.out]; exact ⟨rfl, rfl, rfl, Nat.le_refl _, fun _ _ _ => rfl⟩
    rw [E1.out]
    refine ⟨_, rfl, ?_, grown_below HB.out hgr HBG.out, grown_kept hgr HPg.out⟩
    have := row_shut (P := fun k_ => (P0_ k_ ∨ w.heap.size ≤ k_)) HBG.out hhr (l := l0) (cap := cap) (by rw [HN.out]; omega) HCM.out HS.out (.inl HPg.out) HP.out
    rw [HN.out] at this
    exact this
end Go.Proofs.Ythehmkpcddafnaa.PG
end
section
namespace Go.Proofs.Ythehmkpcddafnaa.PG
open Go.RowKit Go.Proofs.YthehmkpcddafnaaW.PrintWords Go.Proofs.YthehmkpcddafnaaW.PrintLast Go.Proofs.YthehmkpcddafnaaW.PrintMore
instance : Inhabited S41 := ⟨z41⟩
def enc29 (x : S41) : List Value := [.int .i64 x.f0, .int .i64 x.f1]
theorem enc29_one (x : S41) : ∀ v ∈ enc29 x, v.oneCell' = true := by
 intro v hv; simp [enc29] at hv; rcases hv with rfl | rfl <;> rfl
theorem flat29 (d : Array S41) (j : Nat) (h : j < d.size) : (Go.Sort.flatK enc29 2 d)[2 * j]! = .int .i64 d[j].f0 ∧ (Go.Sort.flatK enc29 2 d)[2 * j + 1]! = .int .i64 d[j].f1 := by
 rw [Go.Sort.get_flatK _ _ _ _ (by omega), Go.Sort.get_flatK _ _ _ _ (by omega)]
 rw [show 2 * j / 2 = j by omega, show 2 * j % 2 = 0 by omega, show (2 * j + 1) / 2 = j by omega, show (2 * j + 1) % 2 = 1 by omega, getElem!_pos d j h]
 exact ⟨rfl, rfl⟩
theorem holds_of {w : World} {g : Nat} {cur : Array Value} {l : List S41} (hh : w.heap[g]? = some (.cells cur 41 (0, 0))) (hp : Pts cur l) : Go.Sort.HoldsK enc29 2 w g 0 l.toArray := by
 intro j hj
 rw [Go.Sort.size_flatK] at hj
 simp only [List.size_toArray] at hj
 refine ⟨?_, blk_frozen hh _⟩
 rw [blk_cell hh, Nat.zero_add]
 have hf := flat29 l.toArray (j / 2) (by simp; omega)
 have hc := hp (j / 2) (by omega)
 rcases Nat.mod_two_eq_zero_or_one j with e | e
 ·rw [show j = 2 * (j / 2) by omega]
  rw [hc.1]; simp only [id]; rw [hf.1]; simp
 ·rw [show j = 2 * (j / 2) + 1 by omega]
  rw [hc.2]; simp only [id]; rw [hf.2]; simp
theorem put_at {w : World} {g : Nat} {cur : Array Value} (m : Nat) (d : Array S41) (os : Array Obj) (hh : w.heap[g]? = some (.cells cur 41 (0, 0))) (hs : d.size * 2 ≤ cur.size) :
  ∃ cur', (sortWorldK enc29 2 w g 0 m d os).heap[g]? = some (.cells cur' 41 (0, 0)) ∧ cur'.size = cur.size ∧ Pts cur' d.toList ∧ w.grownBy (sortWorldK enc29 2 w g 0 m d os) (some g) := by
 have hlt : g < w.heap.size := blk_lt hh
 have e1 : (sortWorldK enc29 2 w g 0 m d os).heap = w.heap.modify g (Go.Sort.onCells (Go.Sort.putCells id 0 (Go.Sort.flatK enc29 2 d))) ++ os := rfl
 refine ⟨Go.Sort.putCells id 0 (Go.Sort.flatK enc29 2 d) cur, ?_, ?_, ?_, ?_⟩
 ·rw [e1, Array.getElem?_append_left (by simpa using hlt), Array.getElem?_modify, if_pos rfl, hh]; rfl
 ·simp [Go.Sort.putCells]
 ·intro j hj
  simp only [Array.length_toList] at hj
  have hf := flat29 d j hj
  unfold Go.Sort.putCells
  rw [Array.getElem?_mapIdx, Array.getElem?_mapIdx, Array.getElem?_eq_getElem (by omega), Array.getElem?_eq_getElem (by omega)]
  simp only [Option.map_some, Go.Sort.size_flatK, id]
  rw [if_pos (by omega), if_pos (by omega), Nat.sub_zero, Nat.sub_zero, hf.1, hf.2]
  simp
 ·refine ⟨rfl, rfl, rfl, ?_, fun k hk hne => ?_⟩
  ·rw [e1]; simp
  ·rw [e1, Array.getElem?_append_left (by simpa using hk), Array.getElem?_modify, if_neg (fun e => hne (by rw [e]))]
end Go.Proofs.Ythehmkpcddafnaa.PG
end
section
namespace Go.Proofs
open Go.Shelf
def Try.reversePt_ren : Go.Shelf.Ren := ⟨fun | 35 => 94 | n => n, fun | 22 => 22 | 23 => 41 | 3 => 3 | 4 => 4 | 0 => 0 | n => n, fun | n => n⟩
theorem Try.reversePt : Go.Proofs.SlLaysE0.n35 Try.prog Try.reversePt_ren := {
 mixed := by kernel_rfl
 f35 := ⟨Try.f94.name, by decide, Try.func94.trans (congrArg some (by kernel_rfl))⟩
 t0 := Try.underlying0
 a0 := Try.isAgg0
 z0 := Try.sizeOf0
 v0 := Try.zeroValue0
 t3 := Try.underlying3
 a3 := Try.isAgg3
 z3 := Try.sizeOf3
 v3 := Try.zeroValue3
 t4 := Try.underlying4
 a4 := Try.isAgg4
 z4 := Try.sizeOf4
 v4 := Try.zeroValue4
 t22 := Try.underlying22
 a22 := Try.isAgg22
 z22 := Try.sizeOf22
 v22 := Try.zeroValue22 }
def Try.sortPt_ren : Go.Shelf.Ren := ⟨fun | 6 => 88 | 15 => 116 | 14 => 115 | 28 => 133 | 29 => 134 | 20 => 125 | 21 => 126 | 22 => 127 | 23 => 128 | 24 => 129 | 25 => 130 | 26 => 131 | 27 => 132 | 46 => 144 | 47 => 145 | 48 => 146 | 49 => 147 | 50 => 148 | 57 => 152 | n => n, fun | 22 => 22 | 24 => 41 | 25 => 97 | 3 => 3 | 39 => 115 | 0 => 0 | 53 => 127 | 55 => 129 | 4 => 4 | 46 => 120 | 45 => 119 | 50 => 124 | 5 => 5 | 9 => 9 | 66 => 136 | 70 => 140 | 76 => 144 | 77 => 53 | n => n, fun | n => n⟩
theorem Try.sortPt : Go.Proofs.SlLaysF0.n6 Try.prog Try.sortPt_ren := {
 mixed := by kernel_rfl
 f6 := ⟨Try.f88.name, by decide, Try.func88.trans (congrArg some (by kernel_rfl))⟩
 f14 := ⟨Try.f115.name, by decide, Try.func115.trans (congrArg some (by kernel_rfl))⟩
 f15 := Try.func116.trans (congrArg some (by kernel_rfl))
 f20 := ⟨Try.f125.name, by decide, Try.func125.trans (congrArg some (by kernel_rfl))⟩
 f21 := ⟨Try.f126.name, by decide, Try.func126.trans (congrArg some (by kernel_rfl))⟩
 f22 := ⟨Try.f127.name, by decide, Try.func127.trans (congrArg some (by kernel_rfl))⟩
 f23 := ⟨Try.f128.name, by decide, Try.func128.trans (congrArg some (by kernel_rfl))⟩
 f24 := ⟨Try.f129.name, by decide, Try.func129.trans (congrArg some (by kernel_rfl))⟩
 f25 := ⟨Try.f130.name, by decide, Try.func130.trans (congrArg some (by kernel_rfl))⟩
 f26 := ⟨Try.f131.name, by decide, Try.func131.trans (congrArg some (by kernel_rfl))⟩
 f27 := ⟨Try.f132.name, by decide, Try.func132.trans (congrArg some (by kernel_rfl))⟩
 f28 := Try.func133.trans (congrArg some (by kernel_rfl))
 f29 := Try.func134.trans (congrArg some (by kernel_rfl))
 f46 := ⟨Try.f144.name, by decide, Try.func144.trans (congrArg some (by kernel_rfl))⟩
 f47 := Try.func145.trans (congrArg some (by kernel_rfl))
 f48 := Try.func146.trans (congrArg some (by kernel_rfl))
 f49 := ⟨Try.f147.name, by decide, Try.func147.trans (congrArg some (by kernel_rfl))⟩
 f50 := ⟨Try.f148.name, by decide, Try.func148.trans (congrArg some (by kernel_rfl))⟩
 f57 := ⟨Try.f152.name, by decide, Try.func152.trans (congrArg some (by kernel_rfl))⟩
 t0 := Try.underlying0
 a0 := Try.isAgg0
 z0 := Try.sizeOf0
 v0 := Try.zeroValue0
 t3 := Try.underlying3
 a3 := Try.isAgg3
 z3 := Try.sizeOf3
 v3 := Try.zeroValue3
 t4 := Try.underlying4
 a4 := Try.isAgg4
 z4 := Try.sizeOf4
 v4 := Try.zeroValue4
 t5 := Try.underlying5
 a5 := Try.isAgg5
 z5 := Try.sizeOf5
 v5 := Try.zeroValue5
 t9 := Try.underlying9
 a9 := Try.isAgg9
 z9 := Try.sizeOf9
 v9 := Try.zeroValue9
 t22 := Try.underlying22
 a22 := Try.isAgg22
 z22 := Try.sizeOf22
 v22 := Try.zeroValue22
 t25 := Try.underlying97
 a25 := Try.isAgg97
 z25 := Try.sizeOf97
 v25 := Try.zeroValue97
 t39 := Try.underlying115
 a39 := Try.isAgg115
 z39 := Try.sizeOf115
 v39 := Try.zeroValue115
 t45 := Try.underlying119
 a45 := Try.isAgg119
 z45 := Try.sizeOf119
 v45 := Try.zeroValue119
 t46 := Try.underlying120
 a46 := Try.isAgg120
 z46 := Try.sizeOf120
 v46 := Try.zeroValue120
 t50 := Try.underlying124
 a50 := Try.isAgg124
 z50 := Try.sizeOf124
 v50 := Try.zeroValue124
 t53 := Try.underlying127
 a53 := Try.isAgg127
 z53 := Try.sizeOf127
 v53 := Try.zeroValue127
 t55 := Try.underlying129
 a55 := Try.isAgg129
 z55 := Try.sizeOf129
 v55 := Try.zeroValue129
 t66 := Try.underlying136
 a66 := Try.isAgg136
 z66 := Try.sizeOf136
 v66 := Try.zeroValue136
 t70 := Try.underlying140
 a70 := Try.isAgg140
 z70 := Try.sizeOf140
 v70 := Try.zeroValue140
 t76 := Try.underlying144
 a76 := Try.isAgg144
 z76 := Try.sizeOf144
 v76 := Try.zeroValue144
 t77 := Try.underlying53
 a77 := Try.isAgg53
 z77 := Try.sizeOf53
 v77 := Try.zeroValue53 }
end Go.Proofs
end
section
namespace Go.Proofs.Ythehmkpcddafnaa.PG
open Go.RowKit Go.Proofs.YthehmkpcddafnaaW.PrintWords Go.Proofs.YthehmkpcddafnaaW.PrintLast Go.Proofs.YthehmkpcddafnaaW.PrintMore
def slices_Reverse.f (l0 : List (S41)) : Option (List S41) := some l0.reverse
theorem slices_Reverse.calls (P0_ : Nat → Prop) (u9000_ : Value) (l0 : List (S41)) (r : List (S41)) (w0 w : World) (hB : Below w0.heap.size w0 w) (ho0 : Kd.R k41 41 w w0.heap.size P0_ u9000_ l0) (h : slices_Reverse.f l0 = some r) :
  Calls Try.prog 94 #[u9000_] w fun e w' => e = .returned (.tuple #[]) ∧ Kd.R k41 41 w' w0.heap.size (fun k_ => (P0_ k_ ∨ w.heap.size ≤ k_)) u9000_ r ∧ Below w0.heap.size w0 w' ∧ Kept w w' (fun k_ => P0_ k_) := by
 obtain rfl := Option.some.inj h
 clear h
 by_cases hl : l0.length = 0
 ·obtain ⟨A, c, rfl⟩ := Kd.R_slice ho0
  have e0 : l0 = [] := List.eq_nil_of_length_eq_zero hl
  subst e0
  have hc := AnyQ.slices_Reverse_empty Try.reversePt A c w
  change Calls Try.prog 94 _ _ _ at hc
  refine hc.mono fun e w' hh => ?_
  obtain ⟨he, rfl⟩ := hh
  exact ⟨he, Kd.R_mono ho0 (fun k hk => .inl hk), hB, ⟨Nat.le_refl _, fun _ _ _ => rfl⟩⟩
 ·obtain ⟨g, cap, cur, rfl, hb, hh, hnc, hcm, hsz, hPg, hp⟩ := row_open ho0 (by omega)
  have hm : l0.length ≤ 9223372036854775807 := by unfold maxLen at hcm; omega
  have hc := AnyQ.slices_Reverse Try.reversePt 2 Try.isAgg41 Try.sizeOf41 enc29 (fun _ => rfl) enc29_one g 0 cap l0.toArray w (holds_of hh hp) (by simpa using hm)
  change Calls Try.prog 94 _ _ _ at hc
  simp only [List.size_toArray] at hc
  refine hc.mono fun e w' hx => ?_
  obtain ⟨he, n, rfl⟩ := hx
  obtain ⟨cur', p1, p2, p3, p4⟩ := put_at n l0.toArray.reverse #[] hh (by simp; omega)
  have e1 : sortWorldK enc29 2 w g 0 n l0.toArray.reverse #[] = Go.Sort.putRowK enc29 2 (Go.Sort.ahead w n) g 0 l0.toArray.reverse := by unfold sortWorldK; rw [Go.Sort.grow_empty]
  rw [e1] at p1 p4
  have e2 : l0.toArray.reverse.toList = l0.reverse := by simp
  rw [e2] at p3
  have := row_shut (P := fun k_ => (P0_ k_ ∨ w.heap.size ≤ k_)) hb p1 (l := l0.reverse) (cap := cap) (by simpa using hnc) hcm (by rw [p2]; exact hsz) (.inl hPg) p3
  rw [List.length_reverse] at this
  exact ⟨he, this, grown_below hB p4 hb, grown_kept p4 hPg⟩
end Go.Proofs.Ythehmkpcddafnaa.PG
end
section
namespace Go.Proofs.Ythehmkpcddafnaa.PG
open Go.RowKit Go.Proofs.YthehmkpcddafnaaW.PrintWords Go.Proofs.YthehmkpcddafnaaW.PrintLast Go.Proofs.YthehmkpcddafnaaW.PrintMore
attribute [local go_sem] max2_int min2_int max_two min_two max_three min_three max_four min_four
set_option linter.unusedVariables false
set_option linter.unusedSimpArgs false
/-! ### shape_Hull_1: function 89 -/
def shape_Hull_1.f (k : Nat) (a0_0 : Int) (a0_1 : Int) (a1_0 : Int) (a1_1 : Int) : Option (Int) := (cmp_Compare_int.f a0_0 a1_0).bind fun t103 => ((cmp_Compare_int.f a0_1 a1_1).bind fun t104 => ((cmp_Or_int.f k (([t103, t104] : List Int))).bind fun t108 => (some t108)))
def shape_Hull_1.T1 : Bool × List (List Nat × List Nat) := (true, [([], []), ([0], [0]), ([], []), ([2], [2]), ([1, 3], [1, 3]), ([], []), ([5], [5]), ([], []), ([7], [7]), ([6, 8, 4], [6, 8]), ([4, 9], [4, 9]), ([10, 9], [10]), ([11, 11, 0, 1, 2, 3, 4, 5, 6, 7, 8, 9, 10, 11], [11])])
def shape_Hull_1.B1 : List Nat := [0, 1, 0, 4, 15, 0, 32, 0, 128, 511, 1023, 2047, 4095]
theorem shape_Hull_1.tab1 : rtab .any (opsOf Try.f89 1) = shape_Hull_1.T1 := by kernel_rfl
theorem shape_Hull_1.bits1 : waitsOk shape_Hull_1.T1.2 shape_Hull_1.B1 = true := by kernel_rfl
set_option maxHeartbeats 8000000 in
set_option maxRecDepth 100000 in
theorem shape_Hull_1.calls (k : Nat) (a0_0 : Int) (a0_1 : Int) (a1_0 : Int) (a1_1 : Int) (r : Int) (w : World) (h : shape_Hull_1.f k a0_0 a0_1 a1_0 a1_1 = some r) :
  Calls Try.prog 89 #[.agg #[.int .i64 a0_0, .int .i64 a0_1], .agg #[.int .i64 a1_0, .int .i64 a1_1]] w fun e w' => e = .returned (.int .i64 r) ∧ Below w.heap.size w w' := by
 have hu41 := Try.underlying41
 have HB := Aside0.mk (Below.refl w.heap.size w)
 have H : ((cmp_Compare_int.f a0_0 a1_0).bind fun t103 => ((cmp_Compare_int.f a0_1 a1_1).bind fun t104 => ((cmp_Or_int.f k (([t103, t104] : List Int))).bind fun t108 => (some t108)))) = some r := h
 clear h
 replace H := Option.bind_eq_some_iff.mp H
 obtain ⟨t103, A30, H⟩ := H
 try dsimp only at H
 have A3 := Aside0.mk A30
 clear A30
 replace H := Option.bind_eq_some_iff.mp H
 obtain ⟨t104, A40, H⟩ := H
 try dsimp only at H
 have A4 := Aside0.mk A40
 clear A40
 obtain ⟨y105, hy105⟩ : ∃ y_ : List Int, y_ = (([t103, t104] : List Int)) := ⟨_, rfl⟩
 replace H : ((cmp_Or_int.f k y105).bind fun t108 => (some t108)) = some r := by first | (rw [hy105]; with_reducible exact H) | (have H2_ := (Option.bind_some _ _).symm.trans H; rw [hy105]; with_reducible exact H2_) | (have H2_ := (Option.bind_some _ _).symm.trans H; with_reducible exact H2_) | with_reducible exact H | (rw [hy105]; exact H) | exact H
 have Ny105 := Aside0.mk hy105
 clear hy105
 replace H := Option.bind_eq_some_iff.mp H
 obtain ⟨t108, A50, H⟩ := H
 try dsimp only at H
 have A5 := Aside0.mk A50
 clear A50
 obtain rfl := Option.some.inj H
 go_enter Try.func89, Try.ntmps89
 try go_wp2_with (first | ((with_reducible refine gate_dst (N := 2) rfl ?_); refine bxe 2 #[.int .i64 a0_0, .int .i64 a0_1] 41 ?_; intro gb101 hg w6 hbox hb; have BK101 := Aside0.mk (hbox); have GW101 := ga w hg; have GE101 := GW101; replace HB := bz hb; clear hb hbox hg) | ((with_reducible refine gate_dst (N := 3) rfl ?_); refine bxe 3 #[.int .i64 a1_0, .int .i64 a1_1] 41 ?_; intro gb102 hg w7 hbox hb; have BK102 := Aside0.mk (hbox); have GW102 := ga w hg; have GE102 := GW102; have NB101_102 := nb hg (kl BK101); have NB102_101 := bn NB101_102; replace BK101 := kb BK101 hb; replace HB := bz hb; clear hb hbox hg))
 replace BK101 := Aside0.mk (blk_drew BK101.out)
 replace BK102 := Aside0.mk (blk_drew BK102.out)
 replace HB := Aside0.mk (below_drew1 HB.out)
 refine start_ (n := 13) (S := fun w' => w'.cell? ⟨gb101, 0, none⟩ = some (.int .i64 a0_0) ∧ w'.cell? ⟨gb101, 1, none⟩ = some (.int .i64 a0_1) ∧ w'.cell? ⟨gb102, 0, none⟩ = some (.int .i64 a1_0) ∧ w'.cell? ⟨gb102, 1, none⟩ = some (.int .i64 a1_1)) (ds := []) #[N,N,N,N,N,N,N,N,N,N,N,N,N] (by kernel_rfl) rfl rfl ⟨bc BK101 0, bc BK101 1, bc BK102 0, bc BK102 1⟩ (fun hHeld => ?_); refine with_tabW shape_Hull_1.tab1 shape_Hull_1.bits1 (fun HT_ HW_ => ?_)
 generalize w7.drew = w8 at BK101 BK102 HB hHeld ⊢
 refine pu 0 5 HT_ ?_
 refine pu 2 7 HT_ ?_
 refine pu 5 10 HT_ ?_
 refine pu 7 12 HT_ ?_
 refine tk4 1 6 hHeld HT_ HW_ ?_
 refine tk4 3 8 hHeld HT_ HW_ ?_
 refine tk4 6 11 hHeld HT_ HW_ ?_
 refine tk4 8 13 hHeld HT_ HW_ ?_
 refine one_ (i := 4) (N := some 9) #[T,T,T,T,T,T,T,T,T,N,N,N,N] rfl rfl (on1 HT_) (by decide) (fun K hK => ?_)
 refine goes_ Try.func91 (by kernel_rfl) rfl #[.int .i64 a0_0, .int .i64 a1_0] (by rfl) rfl rfl sg ?_
 with_reducible refine (cmp_Compare_int.calls a0_0 a1_0 t103 _ A3.out).mono ?_
 rintro e w' ⟨rfl, ⟨nd, rfl⟩⟩
 refine ⟨_, rfl, ?_⟩
 refine hK.out _ _ ⟨bc BK101 0, bc BK101 1, bc BK102 0, bc BK102 1⟩ (fun hHeld => ?_)
 clear hK K
 refine nm 9 ?_
 refine one_ (i := 9) (N := some 14) #[T,T,T,T,T,T,T,T,T,T,N,N,N] rfl rfl (on1 HT_) (by decide) (fun K hK => ?_)
 refine goes_ Try.func91 (by kernel_rfl) rfl #[.int .i64 a0_1, .int .i64 a1_1] (by rfl) rfl rfl sg ?_
 with_reducible refine (cmp_Compare_int.calls a0_1 a1_1 t104 _ A4.out).mono ?_
 rintro e w' ⟨rfl, ⟨nd, rfl⟩⟩
 refine ⟨_, rfl, ?_⟩
 refine hK.out _ _ ⟨bc BK101 0, bc BK101 1, bc BK102 0, bc BK102 1⟩ (fun hHeld => ?_)
 clear hK K
 refine nm 14 ?_
 refine one_ (i := 10) (N := some 15) #[T,T,T,T,T,T,T,T,T,T,T,N,N] rfl rfl (on1 HT_) (by decide) (fun K hK => ?_)
 refine Kd.R_lit_step (Kd.int .i64) _ 3 ?hg (N := 15) ?hd (xs := ([t103, t104] : List Int)) (inner := [.int .i64 t103, .int .i64 t104]) (ok := fun _ => True) (okp := fun _ => True) ?hr ?hp (fun _ hk => hk) trivial (Below.refl _ _) (Nat.le_refl _) (by simp) ?_; (case hd => rfl); (case hg => rfl); (case hr => first | (go_simp; done) | (go_simp; rfl)); (case hp => exact (Reps.one (show Kd.M (Kd.int .i64) _ _ _ t103 [.int .i64 t103] from rfl) (Reps.one (show Kd.M (Kd.int .i64) _ _ _ t104 [.int .i64 t104] from rfl) (Reps.none _ _))))
 intro v106 w9 ho10 hb hg_ hnew_
 clear hg_ hnew_
 (first | rw [← Ny105.out] at ho10 | (simp only [Int.reduceToNat] at ho10; rw [← Ny105.out] at ho10))
 have HO107 := Aside0.mk (Kd.R_lower ho10 (below_size bh))
 replace BK101 := kb BK101 hb
 replace BK102 := kb BK102 hb
 replace HB := bz hb
 clear hb ho10
 obtain ⟨Ao11, co11, eo11⟩ := Kd.R_slice HO107.out
 (first | subst eo11 | (injection eo11 with f1_ f2_ f3_; have f4_ := f1_.symm; have f5_ := f3_.symm; clear f1_ f2_ f3_; subst f4_; subst f5_))
 refine hK.out _ _ ⟨bc BK101 0, bc BK101 1, bc BK102 0, bc BK102 1⟩ (fun hHeld => ?_)
 clear hK K
 refine nm 15 ?_
 refine one_ (i := 11) (N := some 16) #[T,T,T,T,T,T,T,T,T,T,T,T,N] rfl rfl (on1 HT_) (by decide) (fun K hK => ?_)
 refine goes_ Try.func90 (by kernel_rfl) rfl #[.slice Ao11 y105.length co11] (by rfl) rfl rfl sg ?_
 with_reducible refine (cmp_Or_int.calls k _ _ y105 t108 _ ?side1 ?side2 A5.out).mono ?_
 (case side1 => exact cs (Kd.R_reads' HO107.out).2.2)
 (case side2 => exact (Kd.R_reads' HO107.out).2.1)
 rintro e w' ⟨rfl, ⟨nd, rfl⟩⟩
 refine ⟨_, rfl, ?_⟩
 refine hK.out _ _ ⟨bc BK101 0, bc BK101 1, bc BK102 0, bc BK102 1⟩ (fun hHeld => ?_)
 clear hK K
 refine nm 16 ?_
 refine pu 12 4 HT_ ?_
 refine done_ (done_of HT_.out (by kernel_rfl)) ?_
 try go_wp2
 go_ret
 exact ⟨by exact er, bh⟩
end Go.Proofs.Ythehmkpcddafnaa.PG
end
section
namespace Go.Proofs.Ythehmkpcddafnaa.PG
open Go.RowKit Go.Proofs.YthehmkpcddafnaaW.PrintWords Go.Proofs.YthehmkpcddafnaaW.PrintLast Go.Proofs.YthehmkpcddafnaaW.PrintMore
set_option linter.unusedSimpArgs false
set_option linter.unusedVariables false
def cmpI (a b : Int) : Int := if a < b then -1 else if a > b then 1 else 0
theorem compare_is (a b : Int) : cmp_Compare_int.f a b = some (cmpI a b) := by
 unfold cmp_Compare_int.f cmp_isNaN_int.f cmpI
 simp only [bne_self_eq_false, Option.bind_some, Bool.false_eq_true, if_false]
 by_cases h1 : a < b
 ·simp [h1]
 ·by_cases h2 : a > b <;> simp [h1, h2]
def orI (x y : Int) : Int := if x = 0 then y else x
theorem or_is (x y : Int) : cmp_Or_int.f 5 [x, y] = some (orI x y) := by
 unfold cmp_Or_int.f orI
 simp only [cmp_Or_int.l0, List.length_cons, List.length_nil]
 by_cases h1 : x = 0
 ·subst h1
  by_cases h2 : y = 0
  ·subst h2; simp [rd, wrap64]
  ·simp [rd, wrap64, h2]
 ·simp [rd, h1]
def xyCmp (a b : S41) : Int := orI (cmpI a.f0 b.f0) (cmpI a.f1 b.f1)
def xyLt (a b : S41) : Bool := decide (a.f0 < b.f0) || (decide (a.f0 = b.f0) && decide (a.f1 < b.f1))
theorem xy_lt (a b : S41) : ltOf xyCmp a b = xyLt a b := by
 unfold ltOf xyCmp xyLt orI cmpI
 rw [Bool.eq_iff_iff]
 simp only [decide_eq_true_eq, Bool.or_eq_true, Bool.and_eq_true]
 repeat' split
 all_goals omega
theorem xy_swo : Go.Sort.SWO (ltOf xyCmp) where
 irrefl x := by rw [xy_lt]; simp [xyLt]
 trans x y z h1 h2 := by rw [xy_lt] at *; simp [xyLt] at *; omega
 ntrans x y z h1 h2 := by rw [xy_lt] at *; simp [xyLt] at *; omega
theorem xy_total (x y : S41) (h1 : ltOf xyCmp x y = false) (h2 : ltOf xyCmp y x = false) : x = y := by
 rw [xy_lt] at *
 cases x; cases y
 simp [xyLt] at *
 omega
/-- nothing but draws and new blocks -/
def Gr (w W : World) : Prop := ∃ q os', W = Go.Sort.grow (w.drewN q) os'
theorem Gr.refl (w : World) : Gr w w := ⟨0, #[], by rw [Go.Sort.grow_empty]; rfl⟩
theorem Gr.alloc {w W : World} (h : Gr w W) (o : Obj) : Gr w (W.alloc o) := by
 obtain ⟨q, os, rfl⟩ := h
 exact ⟨q, os ++ #[o], by rw [Go.Sort.alloc_eq_grow, Go.Sort.grow_grow]⟩
theorem Gr.drewN {w W : World} (h : Gr w W) (n : Nat) : Gr w (W.drewN n) := by
 obtain ⟨q, os, rfl⟩ := h
 exact ⟨q + n, os, by simp [Go.Sort.grow, World.drewN, Nat.add_assoc]⟩
theorem Gr.drew {w W : World} (h : Gr w W) : Gr w W.drew := by
 obtain ⟨q, os, rfl⟩ := h
 exact ⟨q + 1, os, by simp [Go.Sort.grow, World.drewN, World.drew, Nat.add_assoc]⟩
attribute [local go_sem] max2_int min2_int max_two min_two max_three min_three max_four min_four
set_option maxHeartbeats 8000000 in
set_option maxRecDepth 100000 in
theorem xy_exact (k : Nat) (a0_0 : Int) (a0_1 : Int) (a1_0 : Int) (a1_1 : Int) (r : Int) (w : World) (h : shape_Hull_1.f k a0_0 a0_1 a1_0 a1_1 = some r) :
  Calls Try.prog 89 #[.agg #[.int .i64 a0_0, .int .i64 a0_1], .agg #[.int .i64 a1_0, .int .i64 a1_1]] w fun e w' => e = .returned (.int .i64 r) ∧ Gr w w' := by
 have hu29 := Try.underlying41
 have H : ((cmp_Compare_int.f a0_0 a1_0).bind fun t103 => ((cmp_Compare_int.f a0_1 a1_1).bind fun t104 => ((cmp_Or_int.f k (([t103, t104] : List Int))).bind fun t108 => (some t108)))) = some r := h
 clear h
 replace H := Option.bind_eq_some_iff.mp H
 obtain ⟨t103, A30, H⟩ := H
 try dsimp only at H
 have A3 := Aside0.mk A30
 clear A30
 replace H := Option.bind_eq_some_iff.mp H
 obtain ⟨t104, A40, H⟩ := H
 try dsimp only at H
 have A4 := Aside0.mk A40
 clear A40
 obtain ⟨y105, hy105⟩ : ∃ y_ : List Int, y_ = (([t103, t104] : List Int)) := ⟨_, rfl⟩
 replace H : ((cmp_Or_int.f k y105).bind fun t108 => (some t108)) = some r := by first | (rw [hy105]; with_reducible exact H) | (have H2_ := (Option.bind_some _ _).symm.trans H; rw [hy105]; with_reducible exact H2_) | (have H2_ := (Option.bind_some _ _).symm.trans H; with_reducible exact H2_) | with_reducible exact H | (rw [hy105]; exact H) | exact H
 have Ny105 := Aside0.mk hy105
 clear hy105
 replace H := Option.bind_eq_some_iff.mp H
 obtain ⟨t108, A50, H⟩ := H
 try dsimp only at H
 have A5 := Aside0.mk A50
 clear A50
 obtain rfl := Option.some.inj H
 have hbk1 : ((w.alloc (.cells #[.int .i64 a0_0, .int .i64 a0_1] 41 (0, 0))).alloc (.cells #[.int .i64 a1_0, .int .i64 a1_1] 41 (0, 0))).heap[w.heap.size]? = some (.cells #[.int .i64 a0_0, .int .i64 a0_1] 41 (0, 0)) := blk_alloc (blk_new w _) _
 have hbk2 : ((w.alloc (.cells #[.int .i64 a0_0, .int .i64 a0_1] 41 (0, 0))).alloc (.cells #[.int .i64 a1_0, .int .i64 a1_1] 41 (0, 0))).heap[w.heap.size + 1]? = some (.cells #[.int .i64 a1_0, .int .i64 a1_1] 41 (0, 0)) := by
  rw [show w.heap.size + 1 = (w.alloc (.cells #[.int .i64 a0_0, .int .i64 a0_1] 41 (0, 0))).heap.size by simp]; exact blk_new _ _
 have BK101 := Aside0.mk hbk1
 have BK102 := Aside0.mk hbk2
 clear hbk1 hbk2
 have HB := Aside0.mk (((Gr.refl w).alloc (.cells #[.int .i64 a0_0, .int .i64 a0_1] 41 (0, 0))).alloc (.cells #[.int .i64 a1_0, .int .i64 a1_1] 41 (0, 0)))
 go_enter Try.func89, Try.ntmps89
 go_wp2
 generalize (w.alloc (.cells #[.int .i64 a0_0, .int .i64 a0_1] 41 (0, 0))).alloc (.cells #[.int .i64 a1_0, .int .i64 a1_1] 41 (0, 0)) = w7 at BK101 BK102 HB ⊢
 replace BK101 := Aside0.mk (blk_drew BK101.out)
 replace BK102 := Aside0.mk (blk_drew BK102.out)
 replace HB := Aside0.mk HB.out.drew
 refine start_ (n := 13) (S := fun w' => w'.cell? ⟨w.heap.size, 0, none⟩ = some (.int .i64 a0_0) ∧ w'.cell? ⟨w.heap.size, 1, none⟩ = some (.int .i64 a0_1) ∧ w'.cell? ⟨w.heap.size + 1, 0, none⟩ = some (.int .i64 a1_0) ∧ w'.cell? ⟨w.heap.size + 1, 1, none⟩ = some (.int .i64 a1_1)) (ds := []) #[N,N,N,N,N,N,N,N,N,N,N,N,N] (by kernel_rfl) rfl rfl ⟨bc BK101 0, bc BK101 1, bc BK102 0, bc BK102 1⟩ (fun hHeld => ?_); refine with_tabW shape_Hull_1.tab1 shape_Hull_1.bits1 (fun HT_ HW_ => ?_)
 generalize w7.drew = w8 at BK101 BK102 HB hHeld ⊢
 refine pu 0 5 HT_ ?_
 refine pu 2 7 HT_ ?_
 refine pu 5 10 HT_ ?_
 refine pu 7 12 HT_ ?_
 refine tk4 1 6 hHeld HT_ HW_ ?_
 refine tk4 3 8 hHeld HT_ HW_ ?_
 refine tk4 6 11 hHeld HT_ HW_ ?_
 refine tk4 8 13 hHeld HT_ HW_ ?_
 refine one_ (i := 4) (N := some 9) #[T,T,T,T,T,T,T,T,T,N,N,N,N] rfl rfl (on1 HT_) (by decide) (fun K hK => ?_)
 refine goes_ Try.func91 (by kernel_rfl) rfl #[.int .i64 a0_0, .int .i64 a1_0] (by rfl) rfl rfl sg ?_
 with_reducible refine (cmp_Compare_int.calls a0_0 a1_0 t103 _ A3.out).mono ?_
 rintro e w' ⟨rfl, ⟨nd1, rfl⟩⟩
 refine ⟨_, rfl, ?_⟩
 refine hK.out _ _ ⟨bc BK101 0, bc BK101 1, bc BK102 0, bc BK102 1⟩ (fun hHeld => ?_)
 clear hK K
 refine nm 9 ?_
 refine one_ (i := 9) (N := some 14) #[T,T,T,T,T,T,T,T,T,T,N,N,N] rfl rfl (on1 HT_) (by decide) (fun K hK => ?_)
 refine goes_ Try.func91 (by kernel_rfl) rfl #[.int .i64 a0_1, .int .i64 a1_1] (by rfl) rfl rfl sg ?_
 with_reducible refine (cmp_Compare_int.calls a0_1 a1_1 t104 _ A4.out).mono ?_
 rintro e w' ⟨rfl, ⟨nd2, rfl⟩⟩
 refine ⟨_, rfl, ?_⟩
 refine hK.out _ _ ⟨bc BK101 0, bc BK101 1, bc BK102 0, bc BK102 1⟩ (fun hHeld => ?_)
 clear hK K
 refine nm 14 ?_
 refine one_ (i := 10) (N := some 15) #[T,T,T,T,T,T,T,T,T,T,T,N,N] rfl rfl (on1 HT_) (by decide) (fun K hK => ?_)
 refine value_ (v := .slice (some ⟨w8.heap.size, 0, none⟩) 2 2) (w1 := World.alloc (w8.drewN (nd1 + nd2)) (.cells #[.int .i64 t103, .int .i64 t104] 3 (0, 0))) rfl rfl (by go_simp) ?_
 have n0_ := Aside0.mk (blk_alloc (blk_drewN BK101.out (nd1 + nd2)) (.cells #[.int .i64 t103, .int .i64 t104] 3 (0, 0)))
 have n1_ := Aside0.mk (blk_alloc (blk_drewN BK102.out (nd1 + nd2)) (.cells #[.int .i64 t103, .int .i64 t104] 3 (0, 0)))
 have n2_ := Aside0.mk ((HB.out.drewN (nd1 + nd2)).alloc (.cells #[.int .i64 t103, .int .i64 t104] 3 (0, 0)))
 have HY : y105.length = 2 := by rw [Ny105.out]; rfl
 have n3_ := Aside0.mk (Kd.R_reads' (Kd.R_of_own (h1 := fun _ => rfl) (ok := fun _ => True) (own_lit (w8.drewN (nd1 + nd2)) w8.heap.size 3 .i64 [t103, t104] (Nat.le_refl _) (by simp)) (fun _ _ => trivial))).2.2
 clear BK101 BK102 HB
 have BK101 := n0_
 have BK102 := n1_
 have HB := n2_
 clear n0_ n1_ n2_
 have n4_ : Aside0 (Kd.C (Kd.int .i64) (World.alloc (w8.drewN (nd1 + nd2)) (.cells #[.int .i64 t103, .int .i64 t104] 3 (0, 0))) (some ⟨w8.heap.size, 0, none⟩) y105.length y105) := by rw [Ny105.out]; exact n3_
 clear n3_
 have HYY := Aside0.mk HY
 clear HY
 generalize World.alloc (w8.drewN (nd1 + nd2)) (.cells #[.int .i64 t103, .int .i64 t104] 3 (0, 0)) = w9 at BK101 BK102 HB n4_ ⊢
 refine hK.out _ _ ⟨bc BK101 0, bc BK101 1, bc BK102 0, bc BK102 1⟩ (fun hHeld => ?_)
 clear hK K
 refine nm 15 ?_
 refine one_ (i := 11) (N := some 16) #[T,T,T,T,T,T,T,T,T,T,T,T,N] rfl rfl (on1 HT_) (by decide) (fun K hK => ?_)
 refine goes_ Try.func90 (by kernel_rfl) rfl #[.slice (some ⟨w8.heap.size, 0, none⟩) 2 2] (by rfl) rfl rfl sg ?_
 refine calls_of_args (args' := #[.slice (some ⟨w8.heap.size, 0, none⟩) y105.length 2]) (by rw [HYY.out]) ?_
 with_reducible refine (cmp_Or_int.calls k _ _ y105 t108 _ ?side1 ?side2 A5.out).mono ?_
 (case side1 => exact n4_.out)
 (case side2 => rw [HYY.out]; exact Nat.le_refl _)
 rintro e w' ⟨rfl, ⟨nd, rfl⟩⟩
 refine ⟨_, rfl, ?_⟩
 refine hK.out _ _ ⟨bc BK101 0, bc BK101 1, bc BK102 0, bc BK102 1⟩ (fun hHeld => ?_)
 clear hK K
 refine nm 16 ?_
 refine pu 12 4 HT_ ?_
 refine done_ (done_of HT_.out (by kernel_rfl)) ?_
 try go_wp2
 go_ret
 exact ⟨by first | rfl | (simp; done), HB.out.drewN _⟩
def slices_SortFunc_xy.f (l0 : List (S41)) : Option (List S41) := if l0.length < 4611686018427387904 then some (l0.mergeSort fun x y => !xyLt y x) else none
theorem hull1_is (a b : S41) : shape_Hull_1.f 5 a.f0 a.f1 b.f0 b.f1 = some (xyCmp a b) := by
 unfold shape_Hull_1.f xyCmp
 rw [compare_is, Option.bind_some, compare_is, Option.bind_some, or_is]; rfl
theorem xy_lays (blk off size : Nat) (w : World) : CmpLays Try.prog 89 #[] enc29 2 xyCmp blk off size w :=
 fun _ _ _ _ x y => (xy_exact 5 x.f0 x.f1 y.f0 y.f1 _ _ (hull1_is x y)).mono fun _ _ h => h
theorem slices_SortFunc_xy.calls (P0_ : Nat → Prop) (u9000_ : Value) (l0 : List (S41)) (r : List (S41)) (w0 w : World) (hB : Below w0.heap.size w0 w) (ho0 : Kd.R k41 41 w w0.heap.size P0_ u9000_ l0) (h : slices_SortFunc_xy.f l0 = some r) :
  Calls Try.prog 88 #[u9000_, .func (.func 89) #[] #[]] w fun e w' => e = .returned (.tuple #[]) ∧ Kd.R k41 41 w' w0.heap.size (fun k_ => (P0_ k_ ∨ w.heap.size ≤ k_)) u9000_ r ∧ Below w0.heap.size w0 w' ∧ Kept w w' (fun k_ => P0_ k_) := by
 unfold slices_SortFunc_xy.f at h
 split at h
 ·rename_i hlt
  obtain rfl := Option.some.inj h
  clear h
  by_cases hl : l0.length = 0
  ·obtain ⟨A, c, rfl⟩ := Kd.R_slice ho0
   have e0 : l0 = [] := List.eq_nil_of_length_eq_zero hl
   subst e0
   have hc := AnyF.slices_SortFunc_none Try.sortPt A c (.func (.func 89) #[] #[]) w
   change Calls Try.prog 88 _ _ _ at hc
   refine hc.mono fun e w' hh => ?_
   obtain ⟨he, rfl⟩ := hh
   exact ⟨he, Kd.R_mono (by simpa using ho0) (fun k hk => .inl hk), hB, ⟨Nat.le_refl _, fun _ _ _ => rfl⟩⟩
  ·obtain ⟨g, cap, cur, rfl, hb, hh, hnc, hcm, hsz, hPg, hp⟩ := row_open ho0 (by omega)
   have eg : ∀ args w, (callFunc 89 args).run Try.prog w = .ok (.enter 89 args) w := enters_of Try.func89 (by kernel_rfl) rfl
   have hc := AnyQ.slices_SortFunc_total Try.sortPt 2 Try.isAgg41 Try.sizeOf41 enc29 (fun _ => rfl) enc29_one xyCmp xy_swo 89 #[] g 0 cap l0.toArray w eg (xy_lays _ _ _ _) (holds_of hh hp) (blk_lt hh) (by simpa using hlt) xy_total
   change Calls Try.prog 88 _ _ _ at hc
   simp only [List.size_toArray] at hc
   refine hc.mono fun e w' hx => ?_
   obtain ⟨he, n, os, rfl⟩ := hx
   have e1 : (fun x y => !ltOf xyCmp y x) = fun x y => !xyLt y x := by funext x y; rw [xy_lt]
   rw [e1]
   have hlen : (l0.mergeSort fun x y => !xyLt y x).length = l0.length := List.length_mergeSort l0
   obtain ⟨cur', p1, p2, p3, p4⟩ := put_at n (l0.mergeSort fun x y => !xyLt y x).toArray os hh (by simp [hlen]; omega)
   have := row_shut (P := fun k_ => (P0_ k_ ∨ w.heap.size ≤ k_)) hb p1 (l := l0.mergeSort fun x y => !xyLt y x) (cap := cap) (by rw [hlen]; exact hnc) hcm (by rw [p2]; exact hsz) (.inl hPg) p3
   rw [hlen] at this
   exact ⟨he, this, grown_below hB p4 hb, grown_kept p4 hPg⟩
 ·cases h
end Go.Proofs.Ythehmkpcddafnaa.PG
end
section
namespace Go.Proofs.Ythehmkpcddafnaa.PG
open Go.RowKit Go.Proofs.YthehmkpcddafnaaW.PrintWords Go.Proofs.YthehmkpcddafnaaW.PrintLast Go.Proofs.YthehmkpcddafnaaW.PrintMore
attribute [local go_sem] max2_int min2_int max_two min_two max_three min_three max_four min_four
set_option linter.unusedVariables false
set_option linter.unusedSimpArgs false
/-! ### shape_Hull: function 40 -/
def shape_Hull.j0 : Nat → List (S41) → Bool → Option ((List (S41)) × Int)
 | 0, _, _ => none
 | k + 1, x0, x20 => if x20 = true then (some (([] : List (S41)), 1)) else ((slices_Clone.f x0).bind fun t102 => ((slices_SortFunc_xy.f t102).bind fun t105 => ((slices_Compact.f t105).bind fun t106 => ((shape_chain.f k t106).bind fun t109 => ((slices_Reverse.f t106).bind fun t112 => ((shape_chain.f k t112).bind fun t113 => (if 0 ≤ (wrap64 ((t109.length : Int) - 1)) then (if (wrap64 ((t109.length : Int) - 1)) ≤ (t109.length : Int) then (if 0 ≤ (wrap64 ((t113.length : Int) - 1)) then (if (wrap64 ((t113.length : Int) - 1)) ≤ (t113.length : Int) then ((api_Point_95.f k (([(t109.take ((wrap64 ((t109.length : Int) - 1)) : Int).toNat), (t113.take ((wrap64 ((t113.length : Int) - 1)) : Int).toNat)] : List (List (S41))))).bind fun t129 => (if (t129.length : Int) < 3 then (some (([] : List (S41)), 6)) else ((shape_begun.f k t129).bind fun t132 => (some (t132, 0))))) else (none)) else (none)) else (none)) else (none))))))))
def shape_Hull.f (k : Nat) (l0 : List (S41)) : Option ((List (S41)) × Int) := if (l0.length : Int) < 1 then (shape_Hull.j0 k l0 true) else (if (l0.length : Int) > 32 then (shape_Hull.j0 k l0 true) else ((shape_within.f l0 10000).bind fun t101 => (shape_Hull.j0 k l0 (!t101))))
def shape_Hull.T9 : Bool × List (List Nat × List Nat) := (true, [([], []), ([], []), ([1], [1]), ([2], [2]), ([0, 3], [0, 3]), ([], []), ([], []), ([6], [6]), ([7], [7]), ([5, 8], [5, 8]), ([4, 9], [4, 9]), ([10], [10]), ([11, 11, 0, 1, 2, 3, 4, 5, 6, 7, 8, 9, 10, 11], [11])])
def shape_Hull.B9 : List Nat := [0, 0, 2, 6, 15, 0, 0, 64, 192, 480, 1023, 2047, 4095]
theorem shape_Hull.tab9 : rtab .any (opsOf Try.f40 9) = shape_Hull.T9 := by kernel_rfl
theorem shape_Hull.bits9 : waitsOk shape_Hull.T9.2 shape_Hull.B9 = true := by kernel_rfl
set_option maxHeartbeats 8000000 in
set_option maxRecDepth 100000 in
theorem shape_Hull.calls (k : Nat) (A0 : Option Addr) (c0 : Nat) (l0 : List (S41)) (r1 : List (S41)) (r2 : Int) (w : World) (hr0 : Kd.C k41 w A0 l0.length l0) (hc0 : l0.length ≤ c0) (h : shape_Hull.f k l0 = some (r1, r2)) :
  Calls Try.prog 40 #[.slice A0 l0.length c0] w fun e w' => ∃ v0_ : Value, e = .returned (.tuple #[v0_, .int .i64 r2]) ∧ Kd.R k41 41 w' w.heap.size (fun _ => True) v0_ r1 ∧ Below w.heap.size w w' := by
 have HR0 := Aside0.mk hr0
 have HC0 := Aside0.mk hc0
 clear hr0 hc0
 have HB := Aside0.mk (Below.refl w.heap.size w)
 have H : (if (l0.length : Int) < 1 then (shape_Hull.j0 k l0 true) else (if (l0.length : Int) > 32 then (shape_Hull.j0 k l0 true) else ((shape_within.f l0 10000).bind fun t101 => (shape_Hull.j0 k l0 (!t101))))) = some (r1, r2) := h
 clear h
 have HC2 := Aside0.mk H
 clear H
 go_enter Try.func40, Try.ntmps40
 go_upto_region 1 with (fail)
 go_cut [20] (fun v20 wc => ∃ (kq : Nat) (x20_1 : Bool), v20 = .bool x20_1 ∧ Aside0 (shape_Hull.j0 kq l0 x20_1 = some (r1, r2)) ∧ Aside0 (kq ≤ k) ∧ Aside0 (Below w.heap.size w wc))
 case first =>
  have H := HC2.out
  clear HC2
  by_cases c3 : (l0.length : Int) < 1
  ·rw [if_pos c3] at H
   have c3b0 := decide_eq_true c3
   have c3b1 : decide (l0.length < 1) = true := decide_eq_true (by omega)
   clear c3
   (first | rw [c3b0] | (simp only [i64_w, i32_w]; rw [c3b0]) | skip)
   have H' := Aside0.mk H
   clear H
   go_wp2
   go_meet
   case rel => exact ⟨_, (true), sd, H', ⟨om⟩, ⟨bh⟩⟩
  ·rw [if_neg c3] at H
   have c3b0 := decide_eq_false c3
   have c3b1 : decide (l0.length < 1) = false := decide_eq_false (by omega)
   clear c3
   (first | rw [c3b0] | (simp only [i64_w, i32_w]; rw [c3b0]) | skip)
   by_cases c4 : (l0.length : Int) > 32
   ·rw [if_pos c4] at H
    have c4b0 := decide_eq_true c4
    have c4b1 : decide (32 < l0.length) = true := decide_eq_true (by omega)
    clear c4
    have H' := Aside0.mk H
    clear H
    go_wp2
    go_meet
    case rel => exact ⟨_, (true), sd, H', ⟨om⟩, ⟨bh⟩⟩
   ·rw [if_neg c4] at H
    have c4b0 := decide_eq_false c4
    have c4b1 : decide (32 < l0.length) = false := decide_eq_false (by omega)
    clear c4
    replace H := Option.bind_eq_some_iff.mp H
    obtain ⟨t101, A50, H⟩ := H
    replace H : (shape_Hull.j0 k l0 (!t101)) = some (r1, r2) := H
    have A5 := Aside0.mk A50
    clear A50
    have H' := Aside0.mk H
    clear H
    go_wp2_with (first | (go_at_call 72; (with_reducible refine (shape_within.calls _ _ l0 10000 t101 _ ?side1 ?side2 A5.out).mono ?_); (case side1 => exact cs (Kd.C_below HR0.out HB.out)); (case side2 => exact HC0.out); rintro e w6 ⟨rfl, hb⟩; replace HB := bz hb; (try clear hb)))
    go_meet
    case rel => exact ⟨_, (!t101), sd, H', ⟨om⟩, ⟨bh⟩⟩
 case rest =>
  clear HC2
  skip
  obtain ⟨kq, x20_1, rfl, HA, HJ1, HB⟩ := hcut
  cases kq with
  | zero => exact absurd HA.out (by simp [shape_Hull.j0])
  | succ kj1 =>
   have H := HA.out
   clear HA
   simp only [shape_Hull.j0] at H
   by_cases c7 : x20_1 = true
   ·subst c7
    rw [if_pos rfl] at H
    simp only [Option.some.injEq, Prod.mk.injEq] at H
    obtain ⟨rfl, rfl⟩ := H
    go_wp2
    go_ret2
    exact ⟨_, by exact er, by first | exact Kd.R_nil _ _ _ _ _ | exact Kd.N_nil _ _ _ _ _ | exact Kd.V_nil _ _ _ _ _ | exact Kd.Q_nil _ _ _ _ _ | exact Kd.S_nil _ _ _ _ _, bh⟩
   ·replace c7 := Bool.eq_false_iff.mpr c7
    subst c7
    rw [if_neg (show ¬ (false = true) by decide)] at H
    replace H := Option.bind_eq_some_iff.mp H
    obtain ⟨t102, A80, H⟩ := H
    replace H : ((slices_SortFunc_xy.f t102).bind fun t105 => ((slices_Compact.f t105).bind fun t106 => ((shape_chain.f kj1 t106).bind fun t109 => ((slices_Reverse.f t106).bind fun t112 => ((shape_chain.f kj1 t112).bind fun t113 => (if 0 ≤ (wrap64 ((t109.length : Int) - 1)) then (if (wrap64 ((t109.length : Int) - 1)) ≤ (t109.length : Int) then (if 0 ≤ (wrap64 ((t113.length : Int) - 1)) then (if (wrap64 ((t113.length : Int) - 1)) ≤ (t113.length : Int) then ((api_Point_95.f kj1 (([(t109.take ((wrap64 ((t109.length : Int) - 1)) : Int).toNat), (t113.take ((wrap64 ((t113.length : Int) - 1)) : Int).toNat)] : List (List (S41))))).bind fun t129 => (if (t129.length : Int) < 3 then (some (([] : List (S41)), 6)) else ((shape_begun.f kj1 t129).bind fun t132 => (some (t132, 0))))) else (none)) else (none)) else (none)) else (none))))))) = some (r1, r2) := H
    have A8 := Aside0.mk A80
    clear A80
    replace H := Option.bind_eq_some_iff.mp H
    obtain ⟨t105, A90, H⟩ := H
    replace H : ((slices_Compact.f t105).bind fun t106 => ((shape_chain.f kj1 t106).bind fun t109 => ((slices_Reverse.f t106).bind fun t112 => ((shape_chain.f kj1 t112).bind fun t113 => (if 0 ≤ (wrap64 ((t109.length : Int) - 1)) then (if (wrap64 ((t109.length : Int) - 1)) ≤ (t109.length : Int) then (if 0 ≤ (wrap64 ((t113.length : Int) - 1)) then (if (wrap64 ((t113.length : Int) - 1)) ≤ (t113.length : Int) then ((api_Point_95.f kj1 (([(t109.take ((wrap64 ((t109.length : Int) - 1)) : Int).toNat), (t113.take ((wrap64 ((t113.length : Int) - 1)) : Int).toNat)] : List (List (S41))))).bind fun t129 => (if (t129.length : Int) < 3 then (some (([] : List (S41)), 6)) else ((shape_begun.f kj1 t129).bind fun t132 => (some (t132, 0))))) else (none)) else (none)) else (none)) else (none)))))) = some (r1, r2) := H
    have A9 := Aside0.mk A90
    clear A90
    replace H := Option.bind_eq_some_iff.mp H
    obtain ⟨t106, A100, H⟩ := H
    replace H : ((shape_chain.f kj1 t106).bind fun t109 => ((slices_Reverse.f t106).bind fun t112 => ((shape_chain.f kj1 t112).bind fun t113 => (if 0 ≤ (wrap64 ((t109.length : Int) - 1)) then (if (wrap64 ((t109.length : Int) - 1)) ≤ (t109.length : Int) then (if 0 ≤ (wrap64 ((t113.length : Int) - 1)) then (if (wrap64 ((t113.length : Int) - 1)) ≤ (t113.length : Int) then ((api_Point_95.f kj1 (([(t109.take ((wrap64 ((t109.length : Int) - 1)) : Int).toNat), (t113.take ((wrap64 ((t113.length : Int) - 1)) : Int).toNat)] : List (List (S41))))).bind fun t129 => (if (t129.length : Int) < 3 then (some (([] : List (S41)), 6)) else ((shape_begun.f kj1 t129).bind fun t132 => (some (t132, 0))))) else (none)) else (none)) else (none)) else (none))))) = some (r1, r2) := H
    have A10 := Aside0.mk A100
    clear A100
    replace H := Option.bind_eq_some_iff.mp H
    obtain ⟨t109, A110, H⟩ := H
    replace H : ((slices_Reverse.f t106).bind fun t112 => ((shape_chain.f kj1 t112).bind fun t113 => (if 0 ≤ (wrap64 ((t109.length : Int) - 1)) then (if (wrap64 ((t109.length : Int) - 1)) ≤ (t109.length : Int) then (if 0 ≤ (wrap64 ((t113.length : Int) - 1)) then (if (wrap64 ((t113.length : Int) - 1)) ≤ (t113.length : Int) then ((api_Point_95.f kj1 (([(t109.take ((wrap64 ((t109.length : Int) - 1)) : Int).toNat), (t113.take ((wrap64 ((t113.length : Int) - 1)) : Int).toNat)] : List (List (S41))))).bind fun t129 => (if (t129.length : Int) < 3 then (some (([] : List (S41)), 6)) else ((shape_begun.f kj1 t129).bind fun t132 => (some (t132, 0))))) else (none)) else (none)) else (none)) else (none)))) = some (r1, r2) := H
    have A11 := Aside0.mk A110
    clear A110
    replace H := Option.bind_eq_some_iff.mp H
    obtain ⟨t112, A120, H⟩ := H
    replace H : ((shape_chain.f kj1 t112).bind fun t113 => (if 0 ≤ (wrap64 ((t109.length : Int) - 1)) then (if (wrap64 ((t109.length : Int) - 1)) ≤ (t109.length : Int) then (if 0 ≤ (wrap64 ((t113.length : Int) - 1)) then (if (wrap64 ((t113.length : Int) - 1)) ≤ (t113.length : Int) then ((api_Point_95.f kj1 (([(t109.take ((wrap64 ((t109.length : Int) - 1)) : Int).toNat), (t113.take ((wrap64 ((t113.length : Int) - 1)) : Int).toNat)] : List (List (S41))))).bind fun t129 => (if (t129.length : Int) < 3 then (some (([] : List (S41)), 6)) else ((shape_begun.f kj1 t129).bind fun t132 => (some (t132, 0))))) else (none)) else (none)) else (none)) else (none))) = some (r1, r2) := H
    have A12 := Aside0.mk A120
    clear A120
    replace H := Option.bind_eq_some_iff.mp H
    obtain ⟨t113, A130, H⟩ := H
    replace H : (if 0 ≤ (wrap64 ((t109.length : Int) - 1)) then (if (wrap64 ((t109.length : Int) - 1)) ≤ (t109.length : Int) then (if 0 ≤ (wrap64 ((t113.length : Int) - 1)) then (if (wrap64 ((t113.length : Int) - 1)) ≤ (t113.length : Int) then ((api_Point_95.f kj1 (([(t109.take ((wrap64 ((t109.length : Int) - 1)) : Int).toNat), (t113.take ((wrap64 ((t113.length : Int) - 1)) : Int).toNat)] : List (List (S41))))).bind fun t129 => (if (t129.length : Int) < 3 then (some (([] : List (S41)), 6)) else ((shape_begun.f kj1 t129).bind fun t132 => (some (t132, 0))))) else (none)) else (none)) else (none)) else (none)) = some (r1, r2) := H
    have A13 := Aside0.mk A130
    clear A130
    obtain ⟨ji14, hji14⟩ : ∃ j_ : Int, (wrap64 ((t109.length : Int) - 1)) = j_ := ⟨_, rfl⟩
    replace H : (if 0 ≤ (ji14) then (if (ji14) ≤ (t109.length : Int) then (if 0 ≤ (wrap64 ((t113.length : Int) - 1)) then (if (wrap64 ((t113.length : Int) - 1)) ≤ (t113.length : Int) then ((api_Point_95.f kj1 (([(t109.take ((ji14) : Int).toNat), (t113.take ((wrap64 ((t113.length : Int) - 1)) : Int).toNat)] : List (List (S41))))).bind fun t129 => (if (t129.length : Int) < 3 then (some (([] : List (S41)), 6)) else ((shape_begun.f kj1 t129).bind fun t132 => (some (t132, 0))))) else (none)) else (none)) else (none)) else (none)) = some (r1, r2) := by first | (rw [hji14] at H; exact H) | (simp only [hji14] at H ⊢; exact H)
    (try rw [hji14] at A8)
    (try rw [hji14] at A9)
    (try rw [hji14] at A10)
    (try rw [hji14] at A11)
    (try rw [hji14] at A12)
    (try rw [hji14] at A13)
    have hji14w : (IntKind.i64.wrap ((t109.length : Int) - 1)) = ji14 := (i64_w _).trans hji14
    obtain ⟨c15, H⟩ := oi H
    have c15b0 := eq_true c15
    have c15b1 := decide_eq_true c15
    clear c15
    obtain ⟨c16, H⟩ := oi H
    have c16b0 := eq_true c16
    have c16b1 := decide_eq_true c16
    clear c16
    obtain ⟨y116, hy116⟩ : ∃ y_ : List (S41), y_ = (t109.take ((ji14) : Int).toNat) := ⟨_, rfl⟩
    replace H : (if 0 ≤ (wrap64 ((t113.length : Int) - 1)) then (if (wrap64 ((t113.length : Int) - 1)) ≤ (t113.length : Int) then ((api_Point_95.f kj1 (([y116, (t113.take ((wrap64 ((t113.length : Int) - 1)) : Int).toNat)] : List (List (S41))))).bind fun t129 => (if (t129.length : Int) < 3 then (some (([] : List (S41)), 6)) else ((shape_begun.f kj1 t129).bind fun t132 => (some (t132, 0))))) else (none)) else (none)) = some (r1, r2) := by first | (rw [hy116]; with_reducible exact H) | (have H2_ := (Option.bind_some _ _).symm.trans H; rw [hy116]; with_reducible exact H2_) | (have H2_ := (Option.bind_some _ _).symm.trans H; with_reducible exact H2_) | with_reducible exact H | (rw [hy116]; exact H) | exact H
    have Ny116 := Aside0.mk hy116
    clear hy116
    obtain ⟨ji17, hji17⟩ : ∃ j_ : Int, (wrap64 ((t113.length : Int) - 1)) = j_ := ⟨_, rfl⟩
    replace H : (if 0 ≤ (ji17) then (if (ji17) ≤ (t113.length : Int) then ((api_Point_95.f kj1 (([y116, (t113.take ((ji17) : Int).toNat)] : List (List (S41))))).bind fun t129 => (if (t129.length : Int) < 3 then (some (([] : List (S41)), 6)) else ((shape_begun.f kj1 t129).bind fun t132 => (some (t132, 0))))) else (none)) else (none)) = some (r1, r2) := by first | (rw [hji17] at H; exact H) | (simp only [hji17] at H ⊢; exact H)
    (try rw [hji17] at A8)
    (try rw [hji17] at A9)
    (try rw [hji17] at A10)
    (try rw [hji17] at A11)
    (try rw [hji17] at A12)
    (try rw [hji17] at A13)
    have hji17w : (IntKind.i64.wrap ((t113.length : Int) - 1)) = ji17 := (i64_w _).trans hji17
    obtain ⟨c18, H⟩ := oi H
    have c18b0 := eq_true c18
    have c18b1 := decide_eq_true c18
    clear c18
    obtain ⟨c19, H⟩ := oi H
    have c19b0 := eq_true c19
    have c19b1 := decide_eq_true c19
    clear c19
    obtain ⟨y121, hy121⟩ : ∃ y_ : List (S41), y_ = (t113.take ((ji17) : Int).toNat) := ⟨_, rfl⟩
    replace H : ((api_Point_95.f kj1 (([y116, y121] : List (List (S41))))).bind fun t129 => (if (t129.length : Int) < 3 then (some (([] : List (S41)), 6)) else ((shape_begun.f kj1 t129).bind fun t132 => (some (t132, 0))))) = some (r1, r2) := by first | (rw [hy121]; with_reducible exact H) | (have H2_ := (Option.bind_some _ _).symm.trans H; rw [hy121]; with_reducible exact H2_) | (have H2_ := (Option.bind_some _ _).symm.trans H; with_reducible exact H2_) | with_reducible exact H | (rw [hy121]; exact H) | exact H
    have Ny121 := Aside0.mk hy121
    clear hy121
    obtain ⟨y126, hy126⟩ : ∃ y_ : List (List (S41)), y_ = (([y116, y121] : List (List (S41)))) := ⟨_, rfl⟩
    replace H : ((api_Point_95.f kj1 y126).bind fun t129 => (if (t129.length : Int) < 3 then (some (([] : List (S41)), 6)) else ((shape_begun.f kj1 t129).bind fun t132 => (some (t132, 0))))) = some (r1, r2) := by first | (rw [hy126]; with_reducible exact H) | (have H2_ := (Option.bind_some _ _).symm.trans H; rw [hy126]; with_reducible exact H2_) | (have H2_ := (Option.bind_some _ _).symm.trans H; with_reducible exact H2_) | with_reducible exact H | (rw [hy126]; exact H) | exact H
    have Ny126 := Aside0.mk hy126
    clear hy126
    replace H := Option.bind_eq_some_iff.mp H
    obtain ⟨t129, A200, H⟩ := H
    replace H : (if (t129.length : Int) < 3 then (some (([] : List (S41)), 6)) else ((shape_begun.f kj1 t129).bind fun t132 => (some (t132, 0)))) = some (r1, r2) := H
    have A20 := Aside0.mk A200
    clear A200
    by_cases c21 : (t129.length : Int) < 3
    ·rw [if_pos c21] at H
     have c21b0 := decide_eq_true c21
     have c21b1 : decide (t129.length < 3) = true := decide_eq_true (by omega)
     clear c21
     simp only [Option.some.injEq, Prod.mk.injEq] at H
     obtain ⟨rfl, rfl⟩ := H
     try go_wp2_with (first | ((with_reducible refine gc 87 rfl ?_); refine goesL_ (some 22) rfl rfl Try.func87 (by kernel_rfl) rfl #[.slice A0 l0.length c0] rfl sg ?_; (with_reducible refine (slices_Clone.calls _ _ l0 t102 _ ?side1 ?side2 A8.out).mono ?_); (case side1 => exact cs (Kd.C_below HR0.out HB.out)); (case side2 => exact HC0.out); rintro e w22 ⟨v103, rfl, ho0, hb⟩; refine ⟨_, rfl, ?_⟩; have HO104 := Aside0.mk (Kd.R_lower ho0 (below_size bh)); replace HB := bz hb; (try clear hb); (try clear ho0); obtain ⟨Ao23, co23, eo23⟩ := Kd.R_slice HO104.out; subst eo23) | ((with_reducible refine gc 88 rfl ?_); refine goesL_ (some 24) rfl rfl Try.func88 (by kernel_rfl) rfl #[.slice Ao23 t102.length co23, .func (.func 89) #[] #[]] rfl sg ?_; (with_reducible refine (slices_SortFunc_xy.calls (fun k_ => some k_ = (.slice Ao23 t102.length co23 : Value).ownBlock) (.slice Ao23 t102.length co23) t102  t105 w _ ?side1 ?side2 A9.out).mono ?_); (case side1 => repeat (first | (with_reducible first | exact HB.out | apply below_alloc | apply pw_below_drewN | apply below_drew1) | exact HB.out)); (case side2 => exact Kd.R_tight rfl HO104.out); rintro e w24 ⟨rfl, hy0, hb, hkp⟩; refine ⟨_, rfl, ?_⟩; replace HO104 := Aside0.mk (Kd.R_reok rfl hy0 (fun k_ e_ => HO104.out.1 k_ e_)); replace HB := Aside0.mk (hb); (try clear hb); (try clear hkp); (try clear hy0)) | ((with_reducible refine gc 92 rfl ?_); refine goesL_ (some 26) rfl rfl Try.func92 (by kernel_rfl) rfl #[.slice Ao23 t102.length co23] rfl sg ?_; (with_reducible refine (slices_Compact.calls (fun k_ => some k_ = (.slice Ao23 t102.length co23 : Value).ownBlock) (.slice Ao23 t102.length co23) t105 t106 w _ ?side1 ?side2 A10.out).mono ?_); (case side1 => repeat (first | (with_reducible first | exact HB.out | apply below_alloc | apply pw_below_drewN | apply below_drew1) | exact HB.out)); (case side2 => exact Kd.R_tight rfl HO104.out); rintro e w25 ⟨v107, rfl, ho0, hb, hkp⟩; refine ⟨_, rfl, ?_⟩; have HO108 := Aside0.mk (Kd.R_mono (ok' := fun k_ => True) ho0 (fun k_ hk_ => trivial)); replace HB := Aside0.mk (hb); clear HO104; (try clear hb); (try clear hkp); (try clear ho0); obtain ⟨Ao26, co26, eo26⟩ := Kd.R_slice HO108.out; subst eo26) | ((with_reducible refine gc 93 rfl ?_); refine goesL_ (some 28) rfl rfl Try.func93 (by kernel_rfl) rfl #[.slice Ao26 t106.length co26] rfl sg ?_; (with_reducible refine (shape_chain.calls kj1 _ _ t106 t109 _ ?side1 ?side2 A11.out).mono ?_); (case side1 => exact cs (Kd.R_reads' HO108.out).2.2); (case side2 => exact (Kd.R_reads' HO108.out).2.1); rintro e w27 ⟨v110, rfl, ho0, hb⟩; refine ⟨_, rfl, ?_⟩; have HO111 := Aside0.mk (Kd.R_lower (Kd.R_new' ho0 (Kd.R_lt (ro HO108))) (below_size bh)); replace HO108 := Aside0.mk (Kd.R_elder' (ro HO108) (Kd.R_base ho0) hb); replace HB := bz hb; (try clear hb); (try clear ho0)) | ((with_reducible refine gc 94 rfl ?_); refine goesL_ (some 30) rfl rfl Try.func94 (by kernel_rfl) rfl #[.slice Ao26 t106.length co26] rfl sg ?_; (with_reducible refine (slices_Reverse.calls (fun k_ => some k_ = (.slice Ao26 t106.length co26 : Value).ownBlock) (.slice Ao26 t106.length co26) t106 t112 w _ ?side1 ?side2 A12.out).mono ?_); (case side1 => repeat (first | (with_reducible first | exact HB.out | apply below_alloc | apply pw_below_drewN | apply below_drew1) | exact HB.out)); (case side2 => exact Kd.R_tight rfl HO108.out); rintro e w28 ⟨rfl, hy0, hb, hkp⟩; refine ⟨_, rfl, ?_⟩; replace HO108 := Aside0.mk (Kd.R_reok rfl hy0 (fun k_ e_ => HO108.out.1 k_ e_)); replace HO111 := Aside0.mk (Kd.R_mono (ok' := fun k_ => some k_ ≠ (.slice Ao26 t106.length co26 : Value).ownBlock) (Kd.R_keptB (HO111.out) hkp (fun k_ hk_ hs_ => (hk_.2) hs_)) (fun k_ hk_ => hk_.1.2)); replace HB := Aside0.mk (hb); (try clear hb); (try clear hkp); (try clear hy0)) | ((with_reducible refine gc 93 rfl ?_); refine goesL_ (some 32) rfl rfl Try.func93 (by kernel_rfl) rfl #[.slice Ao26 t112.length co26] rfl (by (try simp only [List.map_toArray, List.map_cons, List.map_nil]); first | done | (rw [show t112.length = t106.length from (Kd.R_reads' HO108.out).1.symm] <;> rfl) | rfl | (simp only [List.length_drop, List.length_take]; rfl)) ?_; (with_reducible refine (shape_chain.calls kj1 _ _ t112 t113 _ ?side1 ?side2 A13.out).mono ?_); (case side1 => exact cs (Kd.R_reads' HO108.out).2.2); (case side2 => rw [show t112.length = t106.length from (Kd.R_reads' HO108.out).1.symm]; exact (Kd.R_reads' HO108.out).2.1); rintro e w29 ⟨v114, rfl, ho0, hb⟩; refine ⟨_, rfl, ?_⟩; have HO115 := Aside0.mk (Kd.R_lower (Kd.R_new' (Kd.R_new' ho0 (Kd.R_lt (ro HO108))) (Kd.R_lt (ro HO111))) (below_size bh)); replace HO108 := Aside0.mk (Kd.R_elder' (ro HO108) (Kd.R_base ho0) hb); replace HO111 := Aside0.mk (Kd.R_elder' (ro HO111) (Kd.R_base ho0) hb); replace HB := bz hb; (try clear hb); (try clear ho0)))
     replace HO108 := Aside0.mk (Kd.R_drew HO108.out)
     replace HO111 := Aside0.mk (Kd.R_drew HO111.out)
     replace HO115 := Aside0.mk (Kd.R_drew HO115.out)
     replace HB := Aside0.mk (below_drew1 HB.out)
     obtain ⟨Ao31, co31, eo31⟩ := Kd.R_slice HO111.out
     (first | subst eo31 | (injection eo31 with f1_ f2_ f3_; have f4_ := f1_.symm; have f5_ := f3_.symm; clear f1_ f2_ f3_; subst f4_; subst f5_))
     have q32 : ((ji14) : Int) ≤ ((t109.length : Int) : Int) := dt
     obtain ⟨i032, hi032, _, hsz32, _⟩ := info_parts info41
     have hroom32 : t109.length ≤ co31 := (Kd.R_reads' HO111.out).2.1
     have hC32 : Kd.F k41 _ _ Ao31 t109.length t109 := (Kd.V_at (base := w.heap.size) (Kd.R_V HO111.out)).2.2
     have hcut32 := cut_to (P := Try.prog) 22 41 .i64 Try.underlying22 hi032 Ao31 t109.length co31 (ji14) (dt) q32 hroom32
     have hr32 := Kd.F_take (m := ((ji14) : Int).toNat) hC32 (by omega)
     have hy32 : y116.length = ((ji14) : Int).toNat := (by rw [Ny116.out, List.length_take]; omega)
     rw [← Ny116.out] at hr32
     rw [← hy32] at hcut32
     have HO120 := Aside0.mk (show Kd.V k41 41 _ w.heap.size _ (.slice Ao31 y116.length co31) y116 from Kd.V_mk (by omega) hr32)
     have HC120 := Aside0.mk (show y116.length ≤ co31 from by omega)
     clear hr32 hC32 hroom32 hi032 hsz32
     have KY32 := Aside0.mk hy32
     clear hy32
     replace q32 := eq_true q32
     obtain ⟨Ao33, co33, eo33⟩ := Kd.R_slice HO115.out
     (first | subst eo33 | (injection eo33 with f1_ f2_ f3_; have f4_ := f1_.symm; have f5_ := f3_.symm; clear f1_ f2_ f3_; subst f4_; subst f5_))
     have q34 : ((ji17) : Int) ≤ ((t113.length : Int) : Int) := dt
     obtain ⟨i034, hi034, _, hsz34, _⟩ := info_parts info41
     have hroom34 : t113.length ≤ co33 := (Kd.R_reads' HO115.out).2.1
     have hC34 : Kd.F k41 _ _ Ao33 t113.length t113 := (Kd.V_at (base := w.heap.size) (Kd.R_V HO115.out)).2.2
     have hcut34 := cut_to (P := Try.prog) 22 41 .i64 Try.underlying22 hi034 Ao33 t113.length co33 (ji17) (dt) q34 hroom34
     have hr34 := Kd.F_take (m := ((ji17) : Int).toNat) hC34 (by omega)
     have hy34 : y121.length = ((ji17) : Int).toNat := (by rw [Ny121.out, List.length_take]; omega)
     rw [← Ny121.out] at hr34
     rw [← hy34] at hcut34
     have HO125 := Aside0.mk (show Kd.V k41 41 _ w.heap.size _ (.slice Ao33 y121.length co33) y121 from Kd.V_mk (by omega) hr34)
     have HC125 := Aside0.mk (show y121.length ≤ co33 from by omega)
     clear hr34 hC34 hroom34 hi034 hsz34
     have KY34 := Aside0.mk hy34
     clear hy34
     replace q34 := eq_true q34
     refine start_ (n := 13) (S := fun w' => True) (ds := []) #[N,N,N,N,N,N,N,N,N,N,N,N,N] (by kernel_rfl) rfl rfl trivial (fun hHeld => ?_); refine with_tabW shape_Hull.tab9 shape_Hull.bits9 (fun HT_ HW_ => ?_)
     generalize w29.drew = w30 at HO108 HO111 HO115 HB HO120 HO125 hHeld ⊢
     refine pu 0 33 HT_ ?_
     refine pu 1 34 HT_ ?_
     refine pu 2 35 HT_ ?_
     refine pu 3 36 HT_ ?_
     refine pu 4 37 HT_ ?_
     refine pu 5 38 HT_ ?_
     refine pu 6 39 HT_ ?_
     refine pu 7 40 HT_ ?_
     refine pu 8 41 HT_ ?_
     refine pu 9 42 HT_ ?_
     refine one_ (i := 10) (N := some 43) #[T,T,T,T,T,T,T,T,T,T,T,N,N] rfl rfl (on1 HT_) (by decide) (fun K hK => ?_)
     refine Kd.N_lit_step (Kd.slice 41 k41) _ 22 ?hg (N' := 43) ?hd (xs := ([y116, y121] : List (List (S41)))) (inner := [.slice Ao31 y116.length co31, .slice Ao33 y121.length co33]) (ok := (fun k_ => some k_ ≠ (.slice Ao26 t106.length co26 : Value).ownBlock)) (okp := (fun k_ => some k_ ≠ (.slice Ao26 t106.length co26 : Value).ownBlock)) ?hr ?hp (fun _ hk => hk) ((show ∀ k_, w30.heap.size ≤ k_ → (fun k_ => some k_ ≠ (.slice Ao26 t106.length co26 : Value).ownBlock) k_ from fun k_ hk => Kd.fresh' (Kd.R_lt (ro HO108)) k_ hk) _ (Nat.le_refl _)) (Below.refl _ _) (Nat.le_refl _) (by simp) ?_; (case hd => rfl); (case hg => rfl); (case hr => first | (go_simp; done) | (go_simp; rfl)); (case hp => exact (Reps.one (show Kd.FK (Kd.slice 41 k41) _ _ y116 [.slice Ao31 y116.length co31] from (Kd.FK_slice_mk (Kd.V_reads' (Kd.V_mono (ok' := (fun k_ => some k_ ≠ (.slice Ao26 t106.length co26 : Value).ownBlock)) (HO120.out) (fun k_ hk => hk.1))).2.1 (Kd.V_F (Kd.V_mono (ok' := (fun k_ => some k_ ≠ (.slice Ao26 t106.length co26 : Value).ownBlock)) (HO120.out) (fun k_ hk => hk.1))))) (Reps.one (show Kd.FK (Kd.slice 41 k41) _ _ y121 [.slice Ao33 y121.length co33] from (Kd.FK_slice_mk (Kd.V_reads' (Kd.V_mono (ok' := (fun k_ => some k_ ≠ (.slice Ao26 t106.length co26 : Value).ownBlock)) (HO125.out) (fun k_ hk => hk.1.2))).2.1 (Kd.V_F (Kd.V_mono (ok' := (fun k_ => some k_ ≠ (.slice Ao26 t106.length co26 : Value).ownBlock)) (HO125.out) (fun k_ hk => hk.1.2))))) (Reps.none _ _))))
     intro v127 w35 ho36 hb hg_ hnew_
     clear hg_ hnew_
     (first | rw [← Ny126.out] at ho36 | (simp only [Int.reduceToNat] at ho36; rw [← Ny126.out] at ho36))
     have HO128 := Aside0.mk (Kd.N_lower ho36 (below_size bh))
     replace HO108 := Aside0.mk (Kd.R_below (ro HO108) hb)
     replace HO111 := Aside0.mk (Kd.R_below (ro HO111) hb)
     replace HO115 := Aside0.mk (Kd.R_below (ro HO115) hb)
     replace HO120 := Aside0.mk (Kd.V_elder' (vo HO120) (Kd.N_base ho36) hb)
     replace HO125 := Aside0.mk (Kd.V_elder' (vo HO125) (Kd.N_base ho36) hb)
     replace HB := bz hb
     clear hb ho36
     obtain ⟨Ao37, co37, eo37⟩ := Kd.N_slice HO128.out
     (first | subst eo37 | (injection eo37 with f1_ f2_ f3_; have f4_ := f1_.symm; have f5_ := f3_.symm; clear f1_ f2_ f3_; subst f4_; subst f5_))
     refine hK.out _ _ trivial (fun hHeld => ?_)
     clear hK K
     refine nm 43 ?_
     refine one_ (i := 11) (N := some 44) #[T,T,T,T,T,T,T,T,T,T,T,T,N] rfl rfl (on1 HT_) (by decide) (fun K hK => ?_)
     refine goes_ Try.func95 (by kernel_rfl) rfl #[.slice Ao37 y126.length co37] (by rfl) rfl rfl sg ?_
     with_reducible refine (api_Point_95.calls kj1 _ _ y126 t129 _ ?side1 ?side2 A20.out).mono ?_
     (case side1 => exact cs (Kd.N_reads' HO128.out).2.2)
     (case side2 => exact (Kd.N_reads' HO128.out).2.1)
     rintro e w38 ⟨v130, rfl, ho0, hb⟩
     refine ⟨_, rfl, ?_⟩
     have HO131 := Aside0.mk (Kd.R_lower (Kd.R_new' (Kd.R_new' (Kd.R_new' ho0 (Kd.R_lt (ro HO108))) (Kd.R_lt (ro HO111))) (Kd.R_lt (ro HO115))) (below_size bh))
     replace HO108 := Aside0.mk (Kd.R_elder' (ro HO108) (Kd.R_base ho0) hb)
     replace HO111 := Aside0.mk (Kd.R_elder' (ro HO111) (Kd.R_base ho0) hb)
     replace HO115 := Aside0.mk (Kd.R_elder' (ro HO115) (Kd.R_base ho0) hb)
     replace HO120 := Aside0.mk (Kd.V_elder' (vo HO120) (Kd.R_base ho0) hb)
     replace HO125 := Aside0.mk (Kd.V_elder' (vo HO125) (Kd.R_base ho0) hb)
     replace HO128 := Aside0.mk (Kd.N_elder' (no HO128) (Kd.R_base ho0) hb)
     replace HB := bz hb
     (try clear hb); (try clear ho0)
     refine hK.out _ _ trivial (fun hHeld => ?_)
     clear hK K
     refine nm 44 ?_
     refine pu 12 7 HT_ ?_
     refine done_ (done_of HT_.out (by kernel_rfl)) ?_
     obtain ⟨Ao39, co39, eo39⟩ := Kd.R_slice HO131.out
     subst eo39
     try go_wp2
     go_ret2
     exact ⟨_, by first | rfl | (simp [errW_none, errW_some] <;> rfl) | (simp only [← hji14, ← hji17]; first | rfl | (simp [errW_none, errW_some] <;> rfl)) | (simp [*, errW_none, errW_some] <;> rfl), by first | exact Kd.R_nil _ _ _ _ _ | exact Kd.N_nil _ _ _ _ _ | exact Kd.V_nil _ _ _ _ _ | exact Kd.Q_nil _ _ _ _ _ | exact Kd.S_nil _ _ _ _ _, bh⟩
    ·rw [if_neg c21] at H
     have c21b0 := decide_eq_false c21
     have c21b1 : decide (t129.length < 3) = false := decide_eq_false (by omega)
     clear c21
     replace H := Option.bind_eq_some_iff.mp H
     obtain ⟨t132, A400, H⟩ := H
     replace H : (some (t132, 0)) = some (r1, r2) := H
     have A40 := Aside0.mk A400
     clear A400
     simp only [Option.some.injEq, Prod.mk.injEq] at H
     obtain ⟨rfl, rfl⟩ := H
     try go_wp2_with (first | ((with_reducible refine gc 87 rfl ?_); refine goesL_ (some 22) rfl rfl Try.func87 (by kernel_rfl) rfl #[.slice A0 l0.length c0] rfl sg ?_; (with_reducible refine (slices_Clone.calls _ _ l0 t102 _ ?side1 ?side2 A8.out).mono ?_); (case side1 => exact cs (Kd.C_below HR0.out HB.out)); (case side2 => exact HC0.out); rintro e w41 ⟨v103, rfl, ho0, hb⟩; refine ⟨_, rfl, ?_⟩; have HO104 := Aside0.mk (Kd.R_lower ho0 (below_size bh)); replace HB := bz hb; (try clear hb); (try clear ho0); obtain ⟨Ao42, co42, eo42⟩ := Kd.R_slice HO104.out; subst eo42) | ((with_reducible refine gc 88 rfl ?_); refine goesL_ (some 24) rfl rfl Try.func88 (by kernel_rfl) rfl #[.slice Ao42 t102.length co42, .func (.func 89) #[] #[]] rfl sg ?_; (with_reducible refine (slices_SortFunc_xy.calls (fun k_ => some k_ = (.slice Ao42 t102.length co42 : Value).ownBlock) (.slice Ao42 t102.length co42) t102  t105 w _ ?side1 ?side2 A9.out).mono ?_); (case side1 => repeat (first | (with_reducible first | exact HB.out | apply below_alloc | apply pw_below_drewN | apply below_drew1) | exact HB.out)); (case side2 => exact Kd.R_tight rfl HO104.out); rintro e w43 ⟨rfl, hy0, hb, hkp⟩; refine ⟨_, rfl, ?_⟩; replace HO104 := Aside0.mk (Kd.R_reok rfl hy0 (fun k_ e_ => HO104.out.1 k_ e_)); replace HB := Aside0.mk (hb); (try clear hb); (try clear hkp); (try clear hy0)) | ((with_reducible refine gc 92 rfl ?_); refine goesL_ (some 26) rfl rfl Try.func92 (by kernel_rfl) rfl #[.slice Ao42 t102.length co42] rfl sg ?_; (with_reducible refine (slices_Compact.calls (fun k_ => some k_ = (.slice Ao42 t102.length co42 : Value).ownBlock) (.slice Ao42 t102.length co42) t105 t106 w _ ?side1 ?side2 A10.out).mono ?_); (case side1 => repeat (first | (with_reducible first | exact HB.out | apply below_alloc | apply pw_below_drewN | apply below_drew1) | exact HB.out)); (case side2 => exact Kd.R_tight rfl HO104.out); rintro e w44 ⟨v107, rfl, ho0, hb, hkp⟩; refine ⟨_, rfl, ?_⟩; have HO108 := Aside0.mk (Kd.R_mono (ok' := fun k_ => True) ho0 (fun k_ hk_ => trivial)); replace HB := Aside0.mk (hb); clear HO104; (try clear hb); (try clear hkp); (try clear ho0); obtain ⟨Ao45, co45, eo45⟩ := Kd.R_slice HO108.out; subst eo45) | ((with_reducible refine gc 93 rfl ?_); refine goesL_ (some 28) rfl rfl Try.func93 (by kernel_rfl) rfl #[.slice Ao45 t106.length co45] rfl sg ?_; (with_reducible refine (shape_chain.calls kj1 _ _ t106 t109 _ ?side1 ?side2 A11.out).mono ?_); (case side1 => exact cs (Kd.R_reads' HO108.out).2.2); (case side2 => exact (Kd.R_reads' HO108.out).2.1); rintro e w46 ⟨v110, rfl, ho0, hb⟩; refine ⟨_, rfl, ?_⟩; have HO111 := Aside0.mk (Kd.R_lower (Kd.R_new' ho0 (Kd.R_lt (ro HO108))) (below_size bh)); replace HO108 := Aside0.mk (Kd.R_elder' (ro HO108) (Kd.R_base ho0) hb); replace HB := bz hb; (try clear hb); (try clear ho0)) | ((with_reducible refine gc 94 rfl ?_); refine goesL_ (some 30) rfl rfl Try.func94 (by kernel_rfl) rfl #[.slice Ao45 t106.length co45] rfl sg ?_; (with_reducible refine (slices_Reverse.calls (fun k_ => some k_ = (.slice Ao45 t106.length co45 : Value).ownBlock) (.slice Ao45 t106.length co45) t106 t112 w _ ?side1 ?side2 A12.out).mono ?_); (case side1 => repeat (first | (with_reducible first | exact HB.out | apply below_alloc | apply pw_below_drewN | apply below_drew1) | exact HB.out)); (case side2 => exact Kd.R_tight rfl HO108.out); rintro e w47 ⟨rfl, hy0, hb, hkp⟩; refine ⟨_, rfl, ?_⟩; replace HO108 := Aside0.mk (Kd.R_reok rfl hy0 (fun k_ e_ => HO108.out.1 k_ e_)); replace HO111 := Aside0.mk (Kd.R_mono (ok' := fun k_ => some k_ ≠ (.slice Ao45 t106.length co45 : Value).ownBlock) (Kd.R_keptB (HO111.out) hkp (fun k_ hk_ hs_ => (hk_.2) hs_)) (fun k_ hk_ => hk_.1.2)); replace HB := Aside0.mk (hb); (try clear hb); (try clear hkp); (try clear hy0)) | ((with_reducible refine gc 93 rfl ?_); refine goesL_ (some 32) rfl rfl Try.func93 (by kernel_rfl) rfl #[.slice Ao45 t112.length co45] rfl (by (try simp only [List.map_toArray, List.map_cons, List.map_nil]); first | done | (rw [show t112.length = t106.length from (Kd.R_reads' HO108.out).1.symm] <;> rfl) | rfl | (simp only [List.length_drop, List.length_take]; rfl)) ?_; (with_reducible refine (shape_chain.calls kj1 _ _ t112 t113 _ ?side1 ?side2 A13.out).mono ?_); (case side1 => exact cs (Kd.R_reads' HO108.out).2.2); (case side2 => rw [show t112.length = t106.length from (Kd.R_reads' HO108.out).1.symm]; exact (Kd.R_reads' HO108.out).2.1); rintro e w48 ⟨v114, rfl, ho0, hb⟩; refine ⟨_, rfl, ?_⟩; have HO115 := Aside0.mk (Kd.R_lower (Kd.R_new' (Kd.R_new' ho0 (Kd.R_lt (ro HO108))) (Kd.R_lt (ro HO111))) (below_size bh)); replace HO108 := Aside0.mk (Kd.R_elder' (ro HO108) (Kd.R_base ho0) hb); replace HO111 := Aside0.mk (Kd.R_elder' (ro HO111) (Kd.R_base ho0) hb); replace HB := bz hb; (try clear hb); (try clear ho0)))
     replace HO108 := Aside0.mk (Kd.R_drew HO108.out)
     replace HO111 := Aside0.mk (Kd.R_drew HO111.out)
     replace HO115 := Aside0.mk (Kd.R_drew HO115.out)
     replace HB := Aside0.mk (below_drew1 HB.out)
     obtain ⟨Ao50, co50, eo50⟩ := Kd.R_slice HO111.out
     (first | subst eo50 | (injection eo50 with f1_ f2_ f3_; have f4_ := f1_.symm; have f5_ := f3_.symm; clear f1_ f2_ f3_; subst f4_; subst f5_))
     have q51 : ((ji14) : Int) ≤ ((t109.length : Int) : Int) := dt
     obtain ⟨i051, hi051, _, hsz51, _⟩ := info_parts info41
     have hroom51 : t109.length ≤ co50 := (Kd.R_reads' HO111.out).2.1
     have hC51 : Kd.F k41 _ _ Ao50 t109.length t109 := (Kd.V_at (base := w.heap.size) (Kd.R_V HO111.out)).2.2
     have hcut51 := cut_to (P := Try.prog) 22 41 .i64 Try.underlying22 hi051 Ao50 t109.length co50 (ji14) (dt) q51 hroom51
     have hr51 := Kd.F_take (m := ((ji14) : Int).toNat) hC51 (by omega)
     have hy51 : y116.length = ((ji14) : Int).toNat := (by rw [Ny116.out, List.length_take]; omega)
     rw [← Ny116.out] at hr51
     rw [← hy51] at hcut51
     have HO120 := Aside0.mk (show Kd.V k41 41 _ w.heap.size _ (.slice Ao50 y116.length co50) y116 from Kd.V_mk (by omega) hr51)
     have HC120 := Aside0.mk (show y116.length ≤ co50 from by omega)
     clear hr51 hC51 hroom51 hi051 hsz51
     have KY51 := Aside0.mk hy51
     clear hy51
     replace q51 := eq_true q51
     obtain ⟨Ao52, co52, eo52⟩ := Kd.R_slice HO115.out
     (first | subst eo52 | (injection eo52 with f1_ f2_ f3_; have f4_ := f1_.symm; have f5_ := f3_.symm; clear f1_ f2_ f3_; subst f4_; subst f5_))
     have q53 : ((ji17) : Int) ≤ ((t113.length : Int) : Int) := dt
     obtain ⟨i053, hi053, _, hsz53, _⟩ := info_parts info41
     have hroom53 : t113.length ≤ co52 := (Kd.R_reads' HO115.out).2.1
     have hC53 : Kd.F k41 _ _ Ao52 t113.length t113 := (Kd.V_at (base := w.heap.size) (Kd.R_V HO115.out)).2.2
     have hcut53 := cut_to (P := Try.prog) 22 41 .i64 Try.underlying22 hi053 Ao52 t113.length co52 (ji17) (dt) q53 hroom53
     have hr53 := Kd.F_take (m := ((ji17) : Int).toNat) hC53 (by omega)
     have hy53 : y121.length = ((ji17) : Int).toNat := (by rw [Ny121.out, List.length_take]; omega)
     rw [← Ny121.out] at hr53
     rw [← hy53] at hcut53
     have HO125 := Aside0.mk (show Kd.V k41 41 _ w.heap.size _ (.slice Ao52 y121.length co52) y121 from Kd.V_mk (by omega) hr53)
     have HC125 := Aside0.mk (show y121.length ≤ co52 from by omega)
     clear hr53 hC53 hroom53 hi053 hsz53
     have KY53 := Aside0.mk hy53
     clear hy53
     replace q53 := eq_true q53
     refine start_ (n := 13) (S := fun w' => True) (ds := []) #[N,N,N,N,N,N,N,N,N,N,N,N,N] (by kernel_rfl) rfl rfl trivial (fun hHeld => ?_); refine with_tabW shape_Hull.tab9 shape_Hull.bits9 (fun HT_ HW_ => ?_)
     generalize w48.drew = w49 at HO108 HO111 HO115 HB HO120 HO125 hHeld ⊢
     refine pu 0 33 HT_ ?_
     refine pu 1 34 HT_ ?_
     refine pu 2 35 HT_ ?_
     refine pu 3 36 HT_ ?_
     refine pu 4 37 HT_ ?_
     refine pu 5 38 HT_ ?_
     refine pu 6 39 HT_ ?_
     refine pu 7 40 HT_ ?_
     refine pu 8 41 HT_ ?_
     refine pu 9 42 HT_ ?_
     refine one_ (i := 10) (N := some 43) #[T,T,T,T,T,T,T,T,T,T,T,N,N] rfl rfl (on1 HT_) (by decide) (fun K hK => ?_)
     refine Kd.N_lit_step (Kd.slice 41 k41) _ 22 ?hg (N' := 43) ?hd (xs := ([y116, y121] : List (List (S41)))) (inner := [.slice Ao50 y116.length co50, .slice Ao52 y121.length co52]) (ok := (fun k_ => some k_ ≠ (.slice Ao45 t106.length co45 : Value).ownBlock)) (okp := (fun k_ => some k_ ≠ (.slice Ao45 t106.length co45 : Value).ownBlock)) ?hr ?hp (fun _ hk => hk) ((show ∀ k_, w49.heap.size ≤ k_ → (fun k_ => some k_ ≠ (.slice Ao45 t106.length co45 : Value).ownBlock) k_ from fun k_ hk => Kd.fresh' (Kd.R_lt (ro HO108)) k_ hk) _ (Nat.le_refl _)) (Below.refl _ _) (Nat.le_refl _) (by simp) ?_; (case hd => rfl); (case hg => rfl); (case hr => first | (go_simp; done) | (go_simp; rfl)); (case hp => exact (Reps.one (show Kd.FK (Kd.slice 41 k41) _ _ y116 [.slice Ao50 y116.length co50] from (Kd.FK_slice_mk (Kd.V_reads' (Kd.V_mono (ok' := (fun k_ => some k_ ≠ (.slice Ao45 t106.length co45 : Value).ownBlock)) (HO120.out) (fun k_ hk => hk.1))).2.1 (Kd.V_F (Kd.V_mono (ok' := (fun k_ => some k_ ≠ (.slice Ao45 t106.length co45 : Value).ownBlock)) (HO120.out) (fun k_ hk => hk.1))))) (Reps.one (show Kd.FK (Kd.slice 41 k41) _ _ y121 [.slice Ao52 y121.length co52] from (Kd.FK_slice_mk (Kd.V_reads' (Kd.V_mono (ok' := (fun k_ => some k_ ≠ (.slice Ao45 t106.length co45 : Value).ownBlock)) (HO125.out) (fun k_ hk => hk.1.2))).2.1 (Kd.V_F (Kd.V_mono (ok' := (fun k_ => some k_ ≠ (.slice Ao45 t106.length co45 : Value).ownBlock)) (HO125.out) (fun k_ hk => hk.1.2))))) (Reps.none _ _))))
     intro v127 w54 ho55 hb hg_ hnew_
     clear hg_ hnew_
     (first | rw [← Ny126.out] at ho55 | (simp only [Int.reduceToNat] at ho55; rw [← Ny126.out] at ho55))
     have HO128 := Aside0.mk (Kd.N_lower ho55 (below_size bh))
     replace HO108 := Aside0.mk (Kd.R_below (ro HO108) hb)
     replace HO111 := Aside0.mk (Kd.R_below (ro HO111) hb)
     replace HO115 := Aside0.mk (Kd.R_below (ro HO115) hb)
     replace HO120 := Aside0.mk (Kd.V_elder' (vo HO120) (Kd.N_base ho55) hb)
     replace HO125 := Aside0.mk (Kd.V_elder' (vo HO125) (Kd.N_base ho55) hb)
     replace HB := bz hb
     clear hb ho55
     obtain ⟨Ao56, co56, eo56⟩ := Kd.N_slice HO128.out
     (first | subst eo56 | (injection eo56 with f1_ f2_ f3_; have f4_ := f1_.symm; have f5_ := f3_.symm; clear f1_ f2_ f3_; subst f4_; subst f5_))
     refine hK.out _ _ trivial (fun hHeld => ?_)
     clear hK K
     refine nm 43 ?_
     refine one_ (i := 11) (N := some 44) #[T,T,T,T,T,T,T,T,T,T,T,T,N] rfl rfl (on1 HT_) (by decide) (fun K hK => ?_)
     refine goes_ Try.func95 (by kernel_rfl) rfl #[.slice Ao56 y126.length co56] (by rfl) rfl rfl sg ?_
     with_reducible refine (api_Point_95.calls kj1 _ _ y126 t129 _ ?side1 ?side2 A20.out).mono ?_
     (case side1 => exact cs (Kd.N_reads' HO128.out).2.2)
     (case side2 => exact (Kd.N_reads' HO128.out).2.1)
     rintro e w57 ⟨v130, rfl, ho0, hb⟩
     refine ⟨_, rfl, ?_⟩
     have HO131 := Aside0.mk (Kd.R_lower (Kd.R_new' (Kd.R_new' (Kd.R_new' ho0 (Kd.R_lt (ro HO108))) (Kd.R_lt (ro HO111))) (Kd.R_lt (ro HO115))) (below_size bh))
     replace HO108 := Aside0.mk (Kd.R_elder' (ro HO108) (Kd.R_base ho0) hb)
     replace HO111 := Aside0.mk (Kd.R_elder' (ro HO111) (Kd.R_base ho0) hb)
     replace HO115 := Aside0.mk (Kd.R_elder' (ro HO115) (Kd.R_base ho0) hb)
     replace HO120 := Aside0.mk (Kd.V_elder' (vo HO120) (Kd.R_base ho0) hb)
     replace HO125 := Aside0.mk (Kd.V_elder' (vo HO125) (Kd.R_base ho0) hb)
     replace HO128 := Aside0.mk (Kd.N_elder' (no HO128) (Kd.R_base ho0) hb)
     replace HB := bz hb
     (try clear hb); (try clear ho0)
     refine hK.out _ _ trivial (fun hHeld => ?_)
     clear hK K
     refine nm 44 ?_
     refine pu 12 7 HT_ ?_
     refine done_ (done_of HT_.out (by kernel_rfl)) ?_
     obtain ⟨Ao58, co58, eo58⟩ := Kd.R_slice HO131.out
     subst eo58
     try go_wp2_with (first | ((with_reducible refine gc 96 rfl ?_); refine goesL_ (some 49) rfl rfl Try.func96 (by kernel_rfl) rfl #[.slice Ao58 t129.length co58] rfl sg ?_; (with_reducible refine (shape_begun.calls kj1 (fun k_ => some k_ = (.slice Ao58 t129.length co58 : Value).ownBlock) _ _ t129 t132 _ ?side1 A40.out).mono ?_); (case side1 => exact Kd.R_V (Kd.R_tight rfl (Kd.R_apart' (HO131.out) (Kd.N_typed HO128.out) (by decide)))); rintro e w59 ⟨v133, rfl, ho0, hb⟩; refine ⟨_, rfl, ?_⟩; have HO134 := Aside0.mk (Kd.R_lower (Kd.R_new' (Kd.R_new' (Kd.R_new' (Kd.R_new' (Kd.R_mono (ok' := fun k_ => True) ho0 (fun _ hk_ => trivial)) (Kd.R_lt (ro HO108))) (Kd.R_lt (ro HO111))) (Kd.R_lt (ro HO115))) (Kd.R_lt (ro HO131))) (below_size bh)); replace HO108 := Aside0.mk (Kd.R_elder' (ro HO108) (Kd.R_base ho0) hb); replace HO111 := Aside0.mk (Kd.R_elder' (ro HO111) (Kd.R_base ho0) hb); replace HO115 := Aside0.mk (Kd.R_elder' (ro HO115) (Kd.R_base ho0) hb); replace HO120 := Aside0.mk (Kd.V_elder' (vo HO120) (Kd.R_base ho0) hb); replace HO125 := Aside0.mk (Kd.V_elder' (vo HO125) (Kd.R_base ho0) hb); replace HO128 := Aside0.mk (Kd.N_elder' (no HO128) (Kd.R_base ho0) hb); replace HO131 := Aside0.mk (Kd.R_elder' (ro HO131) (Kd.R_base ho0) hb); replace HB := bz hb; (try clear hb); (try clear ho0)))
     go_ret2
     exact ⟨_, by first | rfl | (simp [errW_none, errW_some] <;> rfl) | (simp only [← hji14, ← hji17]; first | rfl | (simp [errW_none, errW_some] <;> rfl)) | (simp [*, errW_none, errW_some] <;> rfl), by (with_reducible repeat (first | apply Kd.R_alloc | apply Kd.R_drewN | apply Kd.R_drew)); exact Kd.R_mono HO134.out (fun _ hk => trivial), bh⟩
/-! ### cracknellaw04_lives: function 12 -/
def cracknellaw04_lives.f (k : Nat)  : Option (Bool) := (some (([(⟨0, 0⟩ : S41), (⟨2, 0⟩ : S41), (⟨2, 2⟩ : S41), (⟨0, 2⟩ : S41)] : List (S41)) : List (S41))).bind fun y101 => ((shape_Area2.f k y101).bind fun bt104 => ((shape_Lattice.f k y101).bind fun bt106 => ((shape_Hull.f k (([(⟨0, 0⟩ : S41), (⟨1, 0⟩ : S41), (⟨2, 0⟩ : S41), (⟨0, 2⟩ : S41), (⟨1, 1⟩ : S41)] : List (S41)))).bind fun bt112 => (if bt104.1 = 8 then (if bt104.2 = 0 then (if bt106.1 = 1 then (if bt106.2.1 = 8 then (if bt106.2.2 = 0 then (if bt112.2 = 0 then ((cracknelref04_Same.f k bt112.1 (([(⟨0, 0⟩ : S41), (⟨2, 0⟩ : S41), (⟨0, 2⟩ : S41)] : List (S41)))).bind fun t119 => (some t119)) else (some false)) else (some false)) else (some false)) else (some false)) else (some false)) else (some false)))))
set_option maxHeartbeats 8000000 in
set_option maxRecDepth 100000 in
theorem cracknellaw04_lives.calls (k : Nat)  (r : Bool) (w : World) (h : cracknellaw04_lives.f k  = some r) (hr : r = true) :
  Calls Try.prog 12 #[] w fun e w' => e = .returned (.bool r) ∧ Below w.heap.size w w' := by
 have hu41 := Try.underlying41
 have HB := Aside0.mk (Below.refl w.heap.size w)
 have H : ((some (([(⟨0, 0⟩ : S41), (⟨2, 0⟩ : S41), (⟨2, 2⟩ : S41), (⟨0, 2⟩ : S41)] : List (S41)) : List (S41))).bind fun y101 => ((shape_Area2.f k y101).bind fun bt104 => ((shape_Lattice.f k y101).bind fun bt106 => ((shape_Hull.f k (([(⟨0, 0⟩ : S41), (⟨1, 0⟩ : S41), (⟨2, 0⟩ : S41), (⟨0, 2⟩ : S41), (⟨1, 1⟩ : S41)] : List (S41)))).bind fun bt112 => (if bt104.1 = 8 then (if bt104.2 = 0 then (if bt106.1 = 1 then (if bt106.2.1 = 8 then (if bt106.2.2 = 0 then (if bt112.2 = 0 then ((cracknelref04_Same.f k bt112.1 (([(⟨0, 0⟩ : S41), (⟨2, 0⟩ : S41), (⟨0, 2⟩ : S41)] : List (S41)))).bind fun t119 => (some t119)) else (some false)) else (some false)) else (some false)) else (some false)) else (some false)) else (some false)))))) = some r := h
 clear h
 obtain ⟨y101, hy101⟩ : ∃ y_ : List (S41), y_ = (([(⟨0, 0⟩ : S41), (⟨2, 0⟩ : S41), (⟨2, 2⟩ : S41), (⟨0, 2⟩ : S41)] : List (S41))) := ⟨_, rfl⟩
 replace H : ((shape_Area2.f k y101).bind fun bt104 => ((shape_Lattice.f k y101).bind fun bt106 => ((shape_Hull.f k (([(⟨0, 0⟩ : S41), (⟨1, 0⟩ : S41), (⟨2, 0⟩ : S41), (⟨0, 2⟩ : S41), (⟨1, 1⟩ : S41)] : List (S41)))).bind fun bt112 => (if bt104.1 = 8 then (if bt104.2 = 0 then (if bt106.1 = 1 then (if bt106.2.1 = 8 then (if bt106.2.2 = 0 then (if bt112.2 = 0 then ((cracknelref04_Same.f k bt112.1 (([(⟨0, 0⟩ : S41), (⟨2, 0⟩ : S41), (⟨0, 2⟩ : S41)] : List (S41)))).bind fun t119 => (some t119)) else (some false)) else (some false)) else (some false)) else (some false)) else (some false)) else (some false))))) = some r := by first | (rw [hy101]; with_reducible exact H) | (have H2_ := (Option.bind_some _ _).symm.trans H; rw [hy101]; with_reducible exact H2_) | (have H2_ := (Option.bind_some _ _).symm.trans H; with_reducible exact H2_) | with_reducible exact H | (rw [hy101]; exact H) | exact H
 have Ny101 := Aside0.mk hy101
 clear hy101
 replace H := Option.bind_eq_some_iff.mp H
 obtain ⟨⟨t104, t105⟩, A10, H⟩ := H
 try dsimp only at H
 have A1 := Aside0.mk A10
 clear A10
 replace H := Option.bind_eq_some_iff.mp H
 obtain ⟨⟨t106, t107, t108⟩, A20, H⟩ := H
 try dsimp only at H
 have A2 := Aside0.mk A20
 clear A20
 obtain ⟨y109, hy109⟩ : ∃ y_ : List (S41), y_ = (([(⟨0, 0⟩ : S41), (⟨1, 0⟩ : S41), (⟨2, 0⟩ : S41), (⟨0, 2⟩ : S41), (⟨1, 1⟩ : S41)] : List (S41))) := ⟨_, rfl⟩
 replace H : ((shape_Hull.f k y109).bind fun bt112 => (if t104 = 8 then (if t105 = 0 then (if t106 = 1 then (if t107 = 8 then (if t108 = 0 then (if bt112.2 = 0 then ((cracknelref04_Same.f k bt112.1 (([(⟨0, 0⟩ : S41), (⟨2, 0⟩ : S41), (⟨0, 2⟩ : S41)] : List (S41)))).bind fun t119 => (some t119)) else (some false)) else (some false)) else (some false)) else (some false)) else (some false)) else (some false))) = some r := by first | (rw [hy109]; with_reducible exact H) | (have H2_ := (Option.bind_some _ _).symm.trans H; rw [hy109]; with_reducible exact H2_) | (have H2_ := (Option.bind_some _ _).symm.trans H; with_reducible exact H2_) | with_reducible exact H | (rw [hy109]; exact H) | exact H
 have Ny109 := Aside0.mk hy109
 clear hy109
 replace H := Option.bind_eq_some_iff.mp H
 obtain ⟨⟨t112, t113⟩, A30, H⟩ := H
 try dsimp only at H
 have A3 := Aside0.mk A30
 clear A30
 by_cases c4 : t104 = 8
 ·rw [if_pos c4] at H
  have c4b0 : (t104 == 8) = true := beq_iff_eq.mpr c4
  have c4b1 : (t104 != 8) = false := bne_eq_false_iff_eq.mpr c4
  clear c4
  by_cases c5 : t105 = 0
  ·rw [if_pos c5] at H
   have c5b0 : (t105 == 0) = true := beq_iff_eq.mpr c5
   have c5b1 : (t105 != 0) = false := bne_eq_false_iff_eq.mpr c5
   clear c5
   by_cases c6 : t106 = 1
   ·rw [if_pos c6] at H
    have c6b0 : (t106 == 1) = true := beq_iff_eq.mpr c6
    have c6b1 : (t106 != 1) = false := bne_eq_false_iff_eq.mpr c6
    clear c6
    by_cases c7 : t107 = 8
    ·rw [if_pos c7] at H
     have c7b0 : (t107 == 8) = true := beq_iff_eq.mpr c7
     have c7b1 : (t107 != 8) = false := bne_eq_false_iff_eq.mpr c7
     clear c7
     by_cases c8 : t108 = 0
     ·rw [if_pos c8] at H
      have c8b0 : (t108 == 0) = true := beq_iff_eq.mpr c8
      have c8b1 : (t108 != 0) = false := bne_eq_false_iff_eq.mpr c8
      clear c8
      by_cases c9 : t113 = 0
      ·rw [if_pos c9] at H
       have c9b0 : (t113 == 0) = true := beq_iff_eq.mpr c9
       have c9b1 : (t113 != 0) = false := bne_eq_false_iff_eq.mpr c9
       clear c9
       obtain ⟨y116, hy116⟩ : ∃ y_ : List (S41), y_ = (([(⟨0, 0⟩ : S41), (⟨2, 0⟩ : S41), (⟨0, 2⟩ : S41)] : List (S41))) := ⟨_, rfl⟩
       replace H : ((cracknelref04_Same.f k t112 y116).bind fun t119 => (some t119)) = some r := by first | (rw [hy116]; with_reducible exact H) | (have H2_ := (Option.bind_some _ _).symm.trans H; rw [hy116]; with_reducible exact H2_) | (have H2_ := (Option.bind_some _ _).symm.trans H; with_reducible exact H2_) | with_reducible exact H | (rw [hy116]; exact H) | exact H
       have Ny116 := Aside0.mk hy116
       clear hy116
       replace H := Option.bind_eq_some_iff.mp H
       obtain ⟨t119, A100, H⟩ := H
       try dsimp only at H
       have A10 := Aside0.mk A100
       clear A100
       obtain rfl := Option.some.inj H
       go_enter Try.func12, Try.ntmps12
       go_wp2_with (first | ((with_reducible refine gate_dst (N := 13) rfl ?_); (try (refine gate_guard (by rfl) ?_; dsimp only)); refine Kd.R_lit k41 _ 41 ?hg (N := 13) ?hd (xs := ([(⟨0, 0⟩ : S41), (⟨2, 0⟩ : S41), (⟨2, 2⟩ : S41), (⟨0, 2⟩ : S41)] : List (S41))) (inner := [.int .i64 0, .int .i64 0, .int .i64 2, .int .i64 0, .int .i64 2, .int .i64 2, .int .i64 0, .int .i64 2]) (ok := fun _ => True) (okp := fun _ => True) ?hr ?hp (fun _ hk => hk) trivial (Below.refl _ _) (Nat.le_refl _) (by simp) ?_; (case hd => rfl); (case hg => rfl); (case hr => first | (go_simp; done) | (go_simp; rfl)); (case hp => exact (Reps.c2 (k41_mkM _ _ _ (⟨0, 0⟩ : S41)) (Reps.c2 (k41_mkM _ _ _ (⟨2, 0⟩ : S41)) (Reps.c2 (k41_mkM _ _ _ (⟨2, 2⟩ : S41)) (Reps.c2 (k41_mkM _ _ _ (⟨0, 2⟩ : S41)) (Reps.none _ _)))))); intro v102 w11 ho12 hb hg_ hnew_; clear hg_ hnew_; (first | rw [← Ny101.out] at ho12 | (simp only [Int.reduceToNat] at ho12; rw [← Ny101.out] at ho12)); have HO103 := Aside0.mk (Kd.R_lower ho12 (below_size bh)); replace HB := bz hb; clear hb ho12; obtain ⟨Ao13, co13, eo13⟩ := Kd.R_slice HO103.out; subst eo13) | ((with_reducible refine gc 29 rfl ?_); refine goesL_ (some 16) rfl rfl Try.func29 (by kernel_rfl) rfl #[.slice Ao13 y101.length co13] rfl sg ?_; (with_reducible refine (shape_Area2.calls k _ _ y101 t104 t105 _ ?side1 ?side2 A1.out).mono ?_); (case side1 => exact cs (Kd.R_reads' HO103.out).2.2); (case side2 => exact (Kd.R_reads' HO103.out).2.1); rintro e w14 ⟨rfl, hb⟩; refine ⟨_, rfl, ?_⟩; replace HO103 := Aside0.mk (Kd.R_below (ro HO103) hb); replace HB := bz hb; (try clear hb)) | ((with_reducible refine gc 23 rfl ?_); refine goesL_ (some 21) rfl rfl Try.func23 (by kernel_rfl) rfl #[.slice Ao13 y101.length co13] rfl sg ?_; (with_reducible refine (shape_Lattice.calls k _ _ y101 t106 t107 t108 _ ?side1 ?side2 A2.out).mono ?_); (case side1 => exact cs (Kd.R_reads' HO103.out).2.2); (case side2 => exact (Kd.R_reads' HO103.out).2.1); rintro e w15 ⟨rfl, hb⟩; refine ⟨_, rfl, ?_⟩; replace HO103 := Aside0.mk (Kd.R_below (ro HO103) hb); replace HB := bz hb; (try clear hb)) | ((with_reducible refine gate_dst (N := 31) rfl ?_); (try (refine gate_guard (by rfl) ?_; dsimp only)); refine Kd.R_lit k41 _ 41 ?hg (N := 31) ?hd (xs := ([(⟨0, 0⟩ : S41), (⟨1, 0⟩ : S41), (⟨2, 0⟩ : S41), (⟨0, 2⟩ : S41), (⟨1, 1⟩ : S41)] : List (S41))) (inner := [.int .i64 0, .int .i64 0, .int .i64 1, .int .i64 0, .int .i64 2, .int .i64 0, .int .i64 0, .int .i64 2, .int .i64 1, .int .i64 1]) (ok := fun _ => True) (okp := fun _ => True) ?hr ?hp (fun _ hk => hk) trivial (Below.refl _ _) (Nat.le_refl _) (by simp) ?_; (case hd => rfl); (case hg => rfl); (case hr => first | (go_simp; done) | (go_simp; rfl)); (case hp => exact (Reps.c2 (k41_mkM _ _ _ (⟨0, 0⟩ : S41)) (Reps.c2 (k41_mkM _ _ _ (⟨1, 0⟩ : S41)) (Reps.c2 (k41_mkM _ _ _ (⟨2, 0⟩ : S41)) (Reps.c2 (k41_mkM _ _ _ (⟨0, 2⟩ : S41)) (Reps.c2 (k41_mkM _ _ _ (⟨1, 1⟩ : S41)) (Reps.none _ _))))))); intro v110 w16 ho17 hb hg_ hnew_; clear hg_ hnew_; (first | rw [← Ny109.out] at ho17 | (simp only [Int.reduceToNat] at ho17; rw [← Ny109.out] at ho17)); have HO111 := Aside0.mk (Kd.R_lower (Kd.R_new' ho17 (Kd.R_lt (ro HO103))) (below_size bh)); replace HO103 := Aside0.mk (Kd.R_elder' (ro HO103) (Kd.R_base ho17) hb); replace HB := bz hb; clear hb ho17; obtain ⟨Ao18, co18, eo18⟩ := Kd.R_slice HO111.out; subst eo18) | ((with_reducible refine gc 40 rfl ?_); refine goesL_ (some 32) rfl rfl Try.func40 (by kernel_rfl) rfl #[.slice Ao18 y109.length co18] rfl sg ?_; (with_reducible refine (shape_Hull.calls k _ _ y109 t112 t113 _ ?side1 ?side2 A3.out).mono ?_); (case side1 => exact cs (Kd.R_reads' HO111.out).2.2); (case side2 => exact (Kd.R_reads' HO111.out).2.1); rintro e w19 ⟨v114, rfl, ho0, hb⟩; refine ⟨_, rfl, ?_⟩; have HO115 := Aside0.mk (Kd.R_lower (Kd.R_new' (Kd.R_new' ho0 (Kd.R_lt (ro HO103))) (Kd.R_lt (ro HO111))) (below_size bh)); replace HO103 := Aside0.mk (Kd.R_elder' (ro HO103) (Kd.R_base ho0) hb); replace HO111 := Aside0.mk (Kd.R_elder' (ro HO111) (Kd.R_base ho0) hb); replace HB := bz hb; (try clear hb); (try clear ho0)) | ((with_reducible refine gate_dst (N := 62) rfl ?_); (try (refine gate_guard (by rfl) ?_; dsimp only)); refine Kd.R_lit k41 _ 41 ?hg (N := 62) ?hd (xs := ([(⟨0, 0⟩ : S41), (⟨2, 0⟩ : S41), (⟨0, 2⟩ : S41)] : List (S41))) (inner := [.int .i64 0, .int .i64 0, .int .i64 2, .int .i64 0, .int .i64 0, .int .i64 2]) (ok := fun _ => True) (okp := fun _ => True) ?hr ?hp (fun _ hk => hk) trivial (Below.refl _ _) (Nat.le_refl _) (by simp) ?_; (case hd => rfl); (case hg => rfl); (case hr => first | (go_simp; done) | (go_simp; rfl)); (case hp => exact (Reps.c2 (k41_mkM _ _ _ (⟨0, 0⟩ : S41)) (Reps.c2 (k41_mkM _ _ _ (⟨2, 0⟩ : S41)) (Reps.c2 (k41_mkM _ _ _ (⟨0, 2⟩ : S41)) (Reps.none _ _))))); intro v117 w20 ho21 hb hg_ hnew_; clear hg_ hnew_; (first | rw [← Ny116.out] at ho21 | (simp only [Int.reduceToNat] at ho21; rw [← Ny116.out] at ho21)); have HO118 := Aside0.mk (Kd.R_lower (Kd.R_new' (Kd.R_new' (Kd.R_new' ho21 (Kd.R_lt (ro HO103))) (Kd.R_lt (ro HO111))) (Kd.R_lt (ro HO115))) (below_size bh)); replace HO103 := Aside0.mk (Kd.R_elder' (ro HO103) (Kd.R_base ho21) hb); replace HO111 := Aside0.mk (Kd.R_elder' (ro HO111) (Kd.R_base ho21) hb); replace HO115 := Aside0.mk (Kd.R_elder' (ro HO115) (Kd.R_base ho21) hb); replace HB := bz hb; clear hb ho21; obtain ⟨Ao22, co22, eo22⟩ := Kd.R_slice HO115.out; subst eo22; obtain ⟨Ao23, co23, eo23⟩ := Kd.R_slice HO118.out; subst eo23) | (go_at_call 41; (with_reducible refine (cracknelref04_Same.calls k _ _ t112 _ _ y116 t119 _ ?side1 ?side2 ?side3 ?side4 A10.out).mono ?_); (case side1 => exact cs (Kd.R_reads' HO115.out).2.2); (case side2 => exact (Kd.R_reads' HO115.out).2.1); (case side3 => exact cs (Kd.R_reads' HO118.out).2.2); (case side4 => exact (Kd.R_reads' HO118.out).2.1); rintro e w' ⟨rfl, ⟨nd, rfl⟩⟩))
       go_ret
       exact ⟨by exact er, bh⟩
      ·rw [if_neg c9] at H
       have c9b0 : (t113 == 0) = false := beq_eq_false_iff_ne.mpr c9
       have c9b1 : (t113 != 0) = true := bne_iff_ne.mpr c9
       obtain rfl := Option.some.inj H
       cases hr
     ·rw [if_neg c8] at H
      have c8b0 : (t108 == 0) = false := beq_eq_false_iff_ne.mpr c8
      have c8b1 : (t108 != 0) = true := bne_iff_ne.mpr c8
      obtain rfl := Option.some.inj H
      cases hr
    ·rw [if_neg c7] at H
     have c7b0 : (t107 == 8) = false := beq_eq_false_iff_ne.mpr c7
     have c7b1 : (t107 != 8) = true := bne_iff_ne.mpr c7
     obtain rfl := Option.some.inj H
     cases hr
   ·rw [if_neg c6] at H
    have c6b0 : (t106 == 1) = false := beq_eq_false_iff_ne.mpr c6
    have c6b1 : (t106 != 1) = true := bne_iff_ne.mpr c6
    obtain rfl := Option.some.inj H
    cases hr
  ·rw [if_neg c5] at H
   have c5b0 : (t105 == 0) = false := beq_eq_false_iff_ne.mpr c5
   have c5b1 : (t105 != 0) = true := bne_iff_ne.mpr c5
   obtain rfl := Option.some.inj H
   cases hr
 ·rw [if_neg c4] at H
  have c4b0 : (t104 == 8) = false := beq_eq_false_iff_ne.mpr c4
  have c4b1 : (t104 != 8) = true := bne_iff_ne.mpr c4
  obtain rfl := Option.some.inj H
  cases hr
attribute [local go_sem high] eqA41
/-! ### shape_normal: function 46 -/
def shape_normal.l0 : Nat → List (S41) → Int → Int → Option (Bool)
 | 0, _, _, _ => none
 | k + 1, x0, x5, x6 => if x6 < x5 then (if 0 ≤ x6 then (if x6 < (x0.length : Int) then (if (x0.length : Int) = 0 then (none) else (if 0 ≤ (Int.tmod (wrap64 (x6 + 1)) (x0.length : Int)) then (if (Int.tmod (wrap64 (x6 + 1)) (x0.length : Int)) < (x0.length : Int) then (if 0 ≤ (Int.tmod (wrap64 (x6 + 2)) (x0.length : Int)) then (if (Int.tmod (wrap64 (x6 + 2)) (x0.length : Int)) < (x0.length : Int) then ((shape_side.f ((rd_T41 x0 x6).f0) ((rd_T41 x0 x6).f1) ((rd_T41 x0 (Int.tmod (wrap64 (x6 + 1)) (x0.length : Int))).f0) ((rd_T41 x0 (Int.tmod (wrap64 (x6 + 1)) (x0.length : Int))).f1) ((rd_T41 x0 (Int.tmod (wrap64 (x6 + 2)) (x0.length : Int))).f0) ((rd_T41 x0 (Int.tmod (wrap64 (x6 + 2)) (x0.length : Int))).f1)).bind fun t104 => (if t104 ≤ 0 then (some false) else (shape_normal.l0 k x0 x5 (wrap64 (x6 + 1))))) else (none)) else (none)) else (none)) else (none))) else (none)) else (none)) else (if 0 < (x0.length : Int) then ((slices_MinFunc_lower.f k x0).bind fun bt106 => (if (((rd_T41 x0 0).f0) == bt106.1 && (((rd_T41 x0 0).f1) == bt106.2)) = true then ((shape_simple.f k x0).bind fun t108 => (some t108)) else (some false))) else (none))
def shape_normal.f (k : Nat) (l0 : List (S41)) : Option (Bool) := shape_normal.l0 k l0 (l0.length : Int) 0
def shape_normal.T4 : Bool × List (List Nat × List Nat) := (true, [([], []), ([], []), ([0, 1], [0, 1]), ([2], [2]), ([], []), ([], []), ([5], [5]), ([], []), ([7], [7]), ([6, 8], [6, 8]), ([4, 9], [4, 9]), ([10], [10]), ([], []), ([], []), ([13], [13]), ([], []), ([15], [15]), ([14, 16], [14, 16]), ([12, 17], [12, 17]), ([18], [18]), ([3, 11, 19], [3, 11, 19]), ([20], [20])])
def shape_normal.B4 : List Nat := [0, 0, 3, 7, 0, 0, 32, 0, 128, 480, 1008, 2032, 0, 0, 8192, 0, 32768, 122880, 258048, 520192, 1048575, 2097151]
theorem shape_normal.tab4 : rtab .any (opsOf Try.f46 4) = shape_normal.T4 := by kernel_rfl
theorem shape_normal.bits4 : waitsOk shape_normal.T4.2 shape_normal.B4 = true := by kernel_rfl
def shape_normal.T7 : Bool × List (List Nat × List Nat) := (true, [([], []), ([0], [0]), ([1], [1]), ([], []), ([3], [3]), ([2, 4], [2, 4]), ([5, 4], [5]), ([6], [6]), ([7, 6, 6], [6, 7]), ([6, 8], [6, 8]), ([9, 8, 0, 1, 2, 3, 4, 5, 6, 7, 8, 9], [9])])
def shape_normal.B7 : List Nat := [0, 1, 3, 0, 8, 31, 63, 127, 255, 511, 1023]
theorem shape_normal.tab7 : rtab .any (opsOf Try.f46 7) = shape_normal.T7 := by kernel_rfl
theorem shape_normal.bits7 : waitsOk shape_normal.T7.2 shape_normal.B7 = true := by kernel_rfl
set_option maxHeartbeats 8000000 in
set_option maxRecDepth 100000 in
theorem shape_normal.calls (k : Nat) (A0 : Option Addr) (c0 : Nat) (l0 : List (S41)) (r : Bool) (w : World) (hr0 : Kd.C k41 w A0 l0.length l0) (hc0 : l0.length ≤ c0) (h : shape_normal.f k l0 = some r) :
  Calls Try.prog 46 #[.slice A0 l0.length c0] w fun e w' => e = .returned (.bool r) ∧ Below w.heap.size w w' := by
 have hu41 := Try.underlying41
 have HR0 := Aside0.mk hr0
 have HC0 := Aside0.mk hc0
 clear hr0 hc0
 have HB := Aside0.mk (Below.refl w.heap.size w)
 have H : (shape_normal.l0 k l0 (l0.length : Int) 0) = some r := h
 clear h
 have H' := Aside0.mk H
 clear H
 go_enter Try.func46, Try.ntmps46
 go_wp2
 go_loopg [6] k (fun kq v6 w' => ∃ (x6_1 : Int), v6 = .int .i64 x6_1 ∧ Aside0 (shape_normal.l0 kq l0 (l0.length : Int) x6_1 = some r) ∧ Aside0 (kq ≤ k) ∧ Aside0 (Below w.heap.size w w'))
 case atStart => exact ⟨(0), sd, H', ⟨Nat.le_refl _⟩, ⟨bh⟩⟩
 case round =>
  clear H'
  obtain ⟨x6_1, rfl, HA, HK1, HB⟩ := hrel
  cases gk with
  | zero => exact absurd HA.out (by simp [shape_normal.l0])
  | succ k1 =>
   have H := HA.out
   clear HA
   simp only [shape_normal.l0] at H
   by_cases c2 : x6_1 < (l0.length : Int)
   ·rw [if_pos c2] at H
    have c2b0 := decide_eq_true c2
    clear c2
    obtain ⟨c3, H⟩ := oi H
    have c3b0 := decide_eq_true c3
    clear c3
    obtain ⟨c4, H⟩ := oi H
    have c4b0 := decide_eq_true c4
    clear c4
    obtain ⟨c5, H⟩ := oj H
    have c5b0 : ((l0.length : Int) == 0) = false := beq_eq_false_iff_ne.mpr c5
    have c5b1 : ((l0.length : Int) != 0) = true := bne_iff_ne.mpr c5
    have c5b2 : ¬ (l0 = []) := fun h_ => c5 (by rw [h_]; rfl)
    obtain ⟨ji6, hji6⟩ : ∃ j_ : Int, (Int.tmod (wrap64 (x6_1 + 1)) (l0.length : Int)) = j_ := ⟨_, rfl⟩
    first | rw [hji6] at H | simp only [hji6] at H
    obtain ⟨c7, H⟩ := oi H
    have c7b0 := decide_eq_true c7
    clear c7
    obtain ⟨c8, H⟩ := oi H
    have c8b0 := decide_eq_true c8
    clear c8
    obtain ⟨ji9, hji9⟩ : ∃ j_ : Int, (Int.tmod (wrap64 (x6_1 + 2)) (l0.length : Int)) = j_ := ⟨_, rfl⟩
    first | rw [hji9] at H | simp only [hji9] at H
    obtain ⟨c10, H⟩ := oi H
    have c10b0 := decide_eq_true c10
    clear c10
    obtain ⟨c11, H⟩ := oi H
    have c11b0 := decide_eq_true c11
    clear c11
    replace H := Option.bind_eq_some_iff.mp H
    obtain ⟨t104, A120, H⟩ := H
    try dsimp only at H
    have A12 := Aside0.mk A120
    clear A120
    by_cases c13 : t104 ≤ 0
    ·rw [if_pos c13] at H
     have c13b0 := decide_eq_true c13
     clear c13
     obtain rfl := Option.some.inj H
     try go_wp2
     replace HB := Aside0.mk (below_drew1 HB.out)
     have p101 : 0 ≤ (x6_1 : Int) := dt
     have q101 : x6_1 < (l0.length : Int) := dt
     obtain ⟨ad101, e101, hx101_0, hx101_1⟩ := at_T41 HR0.out x6_1 p101 q101
     have hw101_1 := hx101_1
     have hw101_0 := hx101_0
     cases e101
     replace hx101_0 := hc HB hx101_0
     replace hx101_1 := hc HB hx101_1
     replace p101 := eq_true p101
     replace q101 := eq_true q101
     have p102 : 0 ≤ ((ji6) : Int) := dt
     have q102 : (ji6) < (l0.length : Int) := dt
     obtain ⟨ad102, e102, hx102_0, hx102_1⟩ := at_T41 HR0.out (ji6) p102 q102
     have hw102_1 := hx102_1
     have hw102_0 := hx102_0
     obtain rfl : ad101 = ad102 := (by injection e102)
     replace hx102_0 := hc HB hx102_0
     replace hx102_1 := hc HB hx102_1
     replace p102 := eq_true p102
     replace q102 := eq_true q102
     have p103 : 0 ≤ ((ji9) : Int) := dt
     have q103 : (ji9) < (l0.length : Int) := dt
     obtain ⟨ad103, e103, hx103_0, hx103_1⟩ := at_T41 HR0.out (ji9) p103 q103
     have hw103_1 := hx103_1
     have hw103_0 := hx103_0
     obtain rfl : ad101 = ad103 := (by injection e103)
     replace hx103_0 := hc HB hx103_0
     replace hx103_1 := hc HB hx103_1
     replace p103 := eq_true p103
     replace q103 := eq_true q103
     refine start_ (n := 22) (S := fun w' => w'.cell? (ad101.add ((x6_1).toNat * 2)) = some (.int .i64 ((rd_T41 l0 x6_1).f0)) ∧ w'.cell? ⟨(ad101.add ((x6_1).toNat * 2)).block, (ad101.add ((x6_1).toNat * 2)).off + 1, none⟩ = some (.int .i64 ((rd_T41 l0 x6_1).f1)) ∧ w'.cell? (ad101.add (((ji6)).toNat * 2)) = some (.int .i64 ((rd_T41 l0 (ji6)).f0)) ∧ w'.cell? ⟨(ad101.add (((ji6)).toNat * 2)).block, (ad101.add (((ji6)).toNat * 2)).off + 1, none⟩ = some (.int .i64 ((rd_T41 l0 (ji6)).f1)) ∧ w'.cell? (ad101.add (((ji9)).toNat * 2)) = some (.int .i64 ((rd_T41 l0 (ji9)).f0)) ∧ w'.cell? ⟨(ad101.add (((ji9)).toNat * 2)).block, (ad101.add (((ji9)).toNat * 2)).off + 1, none⟩ = some (.int .i64 ((rd_T41 l0 (ji9)).f1))) (ds := []) #[N,N,N,N,N,N,N,N,N,N,N,N,N,N,N,N,N,N,N,N,N,N] (by kernel_rfl) rfl rfl ⟨(hc HB hw101_0), (hc HB hw101_1), (hc HB hw102_0), (hc HB hw102_1), (hc HB hw103_0), (hc HB hw103_1)⟩ (fun hHeld => ?_); refine with_tabW shape_normal.tab4 shape_normal.bits4 (fun HT_ HW_ => ?_)
     generalize wr.drew = w14 at HB hx101_0 hx101_1 hx102_0 hx102_1 hx103_0 hx103_1 hHeld ⊢
     refine pu 0 9 HT_ ?_
     refine pu 1 10 HT_ ?_
     refine pu 2 11 HT_ ?_
     refine pu 4 13 HT_ ?_
     refine pu 5 14 HT_ ?_
     refine pu 6 15 HT_ ?_
     refine pu 7 16 HT_ ?_
     refine pu 8 17 HT_ ?_
     refine pu 9 18 HT_ ?_
     refine pu 10 19 HT_ ?_
     refine pu 12 21 HT_ ?_
     refine pu 13 22 HT_ ?_
     refine pu 14 23 HT_ ?_
     refine pu 15 24 HT_ ?_
     refine pu 16 25 HT_ ?_
     refine pu 17 26 HT_ ?_
     refine pu 18 27 HT_ ?_
     refine tk6 3 12 hHeld HT_ HW_ ?_
     refine tk6 11 20 hHeld HT_ HW_ ?_
     refine tk6 19 28 hHeld HT_ HW_ ?_
     refine one_ (i := 20) (N := some 29) #[T,T,T,T,T,T,T,T,T,T,T,T,T,T,T,T,T,T,T,T,T,N] rfl rfl (on1 HT_) (by decide) (fun K hK => ?_)
     refine goes_ Try.func98 (by kernel_rfl) rfl #[.agg #[.int .i64 ((rd_T41 l0 x6_1).f0), .int .i64 ((rd_T41 l0 x6_1).f1)], .agg #[.int .i64 ((rd_T41 l0 (ji6)).f0), .int .i64 ((rd_T41 l0 (ji6)).f1)], .agg #[.int .i64 ((rd_T41 l0 (ji9)).f0), .int .i64 ((rd_T41 l0 (ji9)).f1)]] (by rfl) rfl rfl (by (try simp only [List.map_toArray, List.map_cons, List.map_nil]); first | done | (simp only [hji6, hji9]; rfl) | rfl | (simp only [List.length_drop, List.length_take]; rfl)) ?_
     with_reducible refine (shape_side.calls ((rd_T41 l0 x6_1).f0) ((rd_T41 l0 x6_1).f1) ((rd_T41 l0 (ji6)).f0) ((rd_T41 l0 (ji6)).f1) ((rd_T41 l0 (ji9)).f0) ((rd_T41 l0 (ji9)).f1) t104 _ A12.out).mono ?_
     rintro e w15 ⟨rfl, hb⟩
     refine ⟨_, rfl, ?_⟩
     replace HB := bz hb
     (try clear hb)
     refine hK.out _ _ ⟨(hc HB hw101_0), (hc HB hw101_1), (hc HB hw102_0), (hc HB hw102_1), (hc HB hw103_0), (hc HB hw103_1)⟩ (fun hHeld => ?_)
     clear hK K
     refine nm 29 ?_
     refine pu 21 30 HT_ ?_
     refine done_ (done_of HT_.out (by kernel_rfl)) ?_
     try go_wp2
     go_ret
     exact ⟨by first | rfl | (simp [errW_none, errW_some] <;> rfl) | (simp only [← hji6, ← hji9]; first | rfl | (simp [errW_none, errW_some] <;> rfl)) | (simp [*, errW_none, errW_some] <;> rfl), bh⟩
    ·rw [if_neg c13] at H
     have c13b0 := decide_eq_false c13
     clear c13
     have H' := Aside0.mk H
     clear H
     try go_wp2
     replace HB := Aside0.mk (below_drew1 HB.out)
     have p101 : 0 ≤ (x6_1 : Int) := dt
     have q101 : x6_1 < (l0.length : Int) := dt
     obtain ⟨ad101, e101, hx101_0, hx101_1⟩ := at_T41 HR0.out x6_1 p101 q101
     have hw101_1 := hx101_1
     have hw101_0 := hx101_0
     cases e101
     replace hx101_0 := hc HB hx101_0
     replace hx101_1 := hc HB hx101_1
     replace p101 := eq_true p101
     replace q101 := eq_true q101
     have p102 : 0 ≤ ((ji6) : Int) := dt
     have q102 : (ji6) < (l0.length : Int) := dt
     obtain ⟨ad102, e102, hx102_0, hx102_1⟩ := at_T41 HR0.out (ji6) p102 q102
     have hw102_1 := hx102_1
     have hw102_0 := hx102_0
     obtain rfl : ad101 = ad102 := (by injection e102)
     replace hx102_0 := hc HB hx102_0
     replace hx102_1 := hc HB hx102_1
     replace p102 := eq_true p102
     replace q102 := eq_true q102
     have p103 : 0 ≤ ((ji9) : Int) := dt
     have q103 : (ji9) < (l0.length : Int) := dt
     obtain ⟨ad103, e103, hx103_0, hx103_1⟩ := at_T41 HR0.out (ji9) p103 q103
     have hw103_1 := hx103_1
     have hw103_0 := hx103_0
     obtain rfl : ad101 = ad103 := (by injection e103)
     replace hx103_0 := hc HB hx103_0
     replace hx103_1 := hc HB hx103_1
     replace p103 := eq_true p103
     replace q103 := eq_true q103
     refine start_ (n := 22) (S := fun w' => w'.cell? (ad101.add ((x6_1).toNat * 2)) = some (.int .i64 ((rd_T41 l0 x6_1).f0)) ∧ w'.cell? ⟨(ad101.add ((x6_1).toNat * 2)).block, (ad101.add ((x6_1).toNat * 2)).off + 1, none⟩ = some (.int .i64 ((rd_T41 l0 x6_1).f1)) ∧ w'.cell? (ad101.add (((ji6)).toNat * 2)) = some (.int .i64 ((rd_T41 l0 (ji6)).f0)) ∧ w'.cell? ⟨(ad101.add (((ji6)).toNat * 2)).block, (ad101.add (((ji6)).toNat * 2)).off + 1, none⟩ = some (.int .i64 ((rd_T41 l0 (ji6)).f1)) ∧ w'.cell? (ad101.add (((ji9)).toNat * 2)) = some (.int .i64 ((rd_T41 l0 (ji9)).f0)) ∧ w'.cell? ⟨(ad101.add (((ji9)).toNat * 2)).block, (ad101.add (((ji9)).toNat * 2)).off + 1, none⟩ = some (.int .i64 ((rd_T41 l0 (ji9)).f1))) (ds := []) #[N,N,N,N,N,N,N,N,N,N,N,N,N,N,N,N,N,N,N,N,N,N] (by kernel_rfl) rfl rfl ⟨(hc HB hw101_0), (hc HB hw101_1), (hc HB hw102_0), (hc HB hw102_1), (hc HB hw103_0), (hc HB hw103_1)⟩ (fun hHeld => ?_); refine with_tabW shape_normal.tab4 shape_normal.bits4 (fun HT_ HW_ => ?_)
     generalize wr.drew = w16 at HB hx101_0 hx101_1 hx102_0 hx102_1 hx103_0 hx103_1 hHeld ⊢
     refine pu 0 9 HT_ ?_
     refine pu 1 10 HT_ ?_
     refine pu 2 11 HT_ ?_
     refine pu 4 13 HT_ ?_
     refine pu 5 14 HT_ ?_
     refine pu 6 15 HT_ ?_
     refine pu 7 16 HT_ ?_
     refine pu 8 17 HT_ ?_
     refine pu 9 18 HT_ ?_
     refine pu 10 19 HT_ ?_
     refine pu 12 21 HT_ ?_
     refine pu 13 22 HT_ ?_
     refine pu 14 23 HT_ ?_
     refine pu 15 24 HT_ ?_
     refine pu 16 25 HT_ ?_
     refine pu 17 26 HT_ ?_
     refine pu 18 27 HT_ ?_
     refine tk6 3 12 hHeld HT_ HW_ ?_
     refine tk6 11 20 hHeld HT_ HW_ ?_
     refine tk6 19 28 hHeld HT_ HW_ ?_
     refine one_ (i := 20) (N := some 29) #[T,T,T,T,T,T,T,T,T,T,T,T,T,T,T,T,T,T,T,T,T,N] rfl rfl (on1 HT_) (by decide) (fun K hK => ?_)
     refine goes_ Try.func98 (by kernel_rfl) rfl #[.agg #[.int .i64 ((rd_T41 l0 x6_1).f0), .int .i64 ((rd_T41 l0 x6_1).f1)], .agg #[.int .i64 ((rd_T41 l0 (ji6)).f0), .int .i64 ((rd_T41 l0 (ji6)).f1)], .agg #[.int .i64 ((rd_T41 l0 (ji9)).f0), .int .i64 ((rd_T41 l0 (ji9)).f1)]] (by rfl) rfl rfl (by (try simp only [List.map_toArray, List.map_cons, List.map_nil]); first | done | (simp only [hji6, hji9]; rfl) | rfl | (simp only [List.length_drop, List.length_take]; rfl)) ?_
     with_reducible refine (shape_side.calls ((rd_T41 l0 x6_1).f0) ((rd_T41 l0 x6_1).f1) ((rd_T41 l0 (ji6)).f0) ((rd_T41 l0 (ji6)).f1) ((rd_T41 l0 (ji9)).f0) ((rd_T41 l0 (ji9)).f1) t104 _ A12.out).mono ?_
     rintro e w17 ⟨rfl, hb⟩
     refine ⟨_, rfl, ?_⟩
     replace HB := bz hb
     (try clear hb)
     refine hK.out _ _ ⟨(hc HB hw101_0), (hc HB hw101_1), (hc HB hw102_0), (hc HB hw102_1), (hc HB hw103_0), (hc HB hw103_1)⟩ (fun hHeld => ?_)
     clear hK K
     refine nm 29 ?_
     refine pu 21 30 HT_ ?_
     refine done_ (done_of HT_.out (by kernel_rfl)) ?_
     try go_wp2
     go_roundg k1
     case measure => have := HK1.out; omega
     case rel => exact ⟨(wrap64 (x6_1 + 1)), sd, H', ⟨by have := HK1.out; omega⟩, ⟨bh⟩⟩
   ·rw [if_neg c2] at H
    have c2b0 := decide_eq_false c2
    clear c2
    obtain ⟨c18, H⟩ := oi H
    have c18b0 := decide_eq_true c18
    have c18b1 : decide (0 < l0.length) = true := decide_eq_true (by omega)
    clear c18
    replace H := Option.bind_eq_some_iff.mp H
    obtain ⟨⟨t106, t107⟩, A190, H⟩ := H
    try dsimp only at H
    have A19 := Aside0.mk A190
    clear A190
    by_cases c20 : (((rd_T41 l0 0).f0) == t106 && (((rd_T41 l0 0).f1) == t107)) = true
    ·rw [if_pos c20] at H
     have c20b0 : (((rd_T41 l0 0).f0) == t106 && (((rd_T41 l0 0).f1) == t107)) = true := c20
     (try (have c20b1 : decide (((rd_T41 l0 0).f0) = t106 && (((rd_T41 l0 0).f1) == t107)) = true := by simpa using c20))
     (try (have c20b2 : (((rd_T41 l0 0).f0) == t106 && (((rd_T41 l0 0).f1) == t107)) = true := by simpa using c20))
     clear c20
     replace H := Option.bind_eq_some_iff.mp H
     obtain ⟨t108, A210, H⟩ := H
     try dsimp only at H
     have A21 := Aside0.mk A210
     clear A210
     obtain rfl := Option.some.inj H
     try go_wp2
     replace HB := Aside0.mk (below_drew1 HB.out)
     have p105 : 0 ≤ (0 : Int) := (by omega)
     have q105 : 0 < (l0.length : Int) := dt
     obtain ⟨ad105, e105, hx105_0, hx105_1⟩ := at_T41 HR0.out 0 p105 q105
     have hw105_1 := hx105_1
     (try rw [show ((0 : Int)).toNat = 0 from rfl] at hw105_1)
     (try rw [show 0 * 2 = 0 from rfl] at hw105_1)
     (try rw [Addr.add_zero'] at hw105_1)
     have hw105_0 := hx105_0
     (try rw [show ((0 : Int)).toNat = 0 from rfl] at hw105_0)
     (try rw [show 0 * 2 = 0 from rfl] at hw105_0)
     (try rw [Addr.add_zero'] at hw105_0)
     cases e105
     have qi105 : (0 < l0.length) = True := eq_true (by omega)
     (try rw [show ((0 : Int)).toNat = 0 from rfl] at hx105_0)
     (try rw [show 0 * 2 = 0 from rfl] at hx105_0)
     (try rw [Addr.add_zero'] at hx105_0)
     (try rw [show ((0 : Int)).toNat = 0 from rfl] at hx105_1)
     (try rw [show 0 * 2 = 0 from rfl] at hx105_1)
     (try rw [Addr.add_zero'] at hx105_1)
     replace hx105_0 := hc HB hx105_0
     replace hx105_1 := hc HB hx105_1
     replace p105 := eq_true p105
     replace q105 := eq_true q105
     refine start_ (n := 11) (S := fun w' => w'.cell? ad105 = some (.int .i64 ((rd_T41 l0 0).f0)) ∧ w'.cell? ⟨ad105.block, ad105.off + 1, none⟩ = some (.int .i64 ((rd_T41 l0 0).f1))) (ds := []) #[N,N,N,N,N,N,N,N,N,N,N] (by kernel_rfl) rfl rfl ⟨(hc HB hw105_0), (hc HB hw105_1)⟩ (fun hHeld => ?_); refine with_tabW shape_normal.tab7 shape_normal.bits7 (fun HT_ HW_ => ?_)
     generalize wr.drew = w22 at HB hx105_0 hx105_1 hHeld ⊢
     refine pu 0 32 HT_ ?_
     refine pu 1 33 HT_ ?_
     refine pu 3 35 HT_ ?_
     refine tk2 2 34 hHeld HT_ HW_ ?_
     refine one_ (i := 4) (N := some 36) #[T,T,T,T,T,N,N,N,N,N,N] rfl rfl (on1 HT_) (by decide) (fun K hK => ?_)
     refine goes_ Try.func99 (by kernel_rfl) rfl #[.slice (some ad105) l0.length c0, .func (.func 100) #[] #[]] (by rfl) rfl rfl sg ?_
     with_reducible refine (slices_MinFunc_lower.calls k1 _ _ l0  t106 t107 _ ?side1 ?side2 A19.out).mono ?_
     (case side1 => exact cs (Kd.C_below HR0.out HB.out))
     (case side2 => exact HC0.out)
     rintro e w23 ⟨rfl, hb⟩
     refine ⟨_, rfl, ?_⟩
     replace HB := bz hb
     (try clear hb)
     refine hK.out _ _ ⟨(hc HB hw105_0), (hc HB hw105_1)⟩ (fun hHeld => ?_)
     clear hK K
     refine nm 36 ?_
     refine pu 5 37 HT_ ?_
     refine pu 6 38 HT_ ?_
     refine pu 7 39 HT_ ?_
     refine one_ (i := 8) (N := some 40) #[T,T,T,T,T,T,T,T,T,N,N] rfl rfl (on1 HT_) (by decide) (fun K hK => ?_)
     refine goes_ Try.func37 (by kernel_rfl) rfl #[.slice (some ad105) l0.length c0] (by rfl) rfl rfl sg ?_
     with_reducible refine (shape_simple.calls k1 _ _ l0 t108 _ ?side1 ?side2 A21.out).mono ?_
     (case side1 => exact cs (Kd.C_below HR0.out HB.out))
     (case side2 => exact HC0.out)
     rintro e w24 ⟨rfl, hb⟩
     refine ⟨_, rfl, ?_⟩
     replace HB := bz hb
     (try clear hb)
     refine hK.out _ _ ⟨(hc HB hw105_0), (hc HB hw105_1)⟩ (fun hHeld => ?_)
     clear hK K
     refine nm 40 ?_
     refine pu 9 41 HT_ ?_
     refine pu 10 2 HT_ ?_
     refine done_ (done_of HT_.out (by kernel_rfl)) ?_
     try go_wp2
     go_ret
     exact ⟨by exact er, bh⟩
    ·rw [if_neg c20] at H
     have c20b0 : (((rd_T41 l0 0).f0) == t106 && (((rd_T41 l0 0).f1) == t107)) = false := by simpa using c20
     (try (have c20b1 : decide (((rd_T41 l0 0).f0) = t106 && (((rd_T41 l0 0).f1) == t107)) = false := by simpa using c20))
     (try (have c20b2 : (((rd_T41 l0 0).f0) == t106 && (((rd_T41 l0 0).f1) == t107)) = false := by simpa using c20))
     (try (have c20b3 : ¬ (((rd_T41 l0 0).f0) = t106 && (((rd_T41 l0 0).f1) == t107)) := by simpa using c20))
     clear c20
     obtain rfl := Option.some.inj H
     try go_wp2
     replace HB := Aside0.mk (below_drew1 HB.out)
     have p105 : 0 ≤ (0 : Int) := (by omega)
     have q105 : 0 < (l0.length : Int) := dt
     obtain ⟨ad105, e105, hx105_0, hx105_1⟩ := at_T41 HR0.out 0 p105 q105
     have hw105_1 := hx105_1
     (try rw [show ((0 : Int)).toNat = 0 from rfl] at hw105_1)
     (try rw [show 0 * 2 = 0 from rfl] at hw105_1)
     (try rw [Addr.add_zero'] at hw105_1)
     have hw105_0 := hx105_0
     (try rw [show ((0 : Int)).toNat = 0 from rfl] at hw105_0)
     (try rw [show 0 * 2 = 0 from rfl] at hw105_0)
     (try rw [Addr.add_zero'] at hw105_0)
     cases e105
     have qi105 : (0 < l0.length) = True := eq_true (by omega)
     (try rw [show ((0 : Int)).toNat = 0 from rfl] at hx105_0)
     (try rw [show 0 * 2 = 0 from rfl] at hx105_0)
     (try rw [Addr.add_zero'] at hx105_0)
     (try rw [show ((0 : Int)).toNat = 0 from rfl] at hx105_1)
     (try rw [show 0 * 2 = 0 from rfl] at hx105_1)
     (try rw [Addr.add_zero'] at hx105_1)
     replace hx105_0 := hc HB hx105_0
     replace hx105_1 := hc HB hx105_1
     replace p105 := eq_true p105
     replace q105 := eq_true q105
     refine start_ (n := 11) (S := fun w' => w'.cell? ad105 = some (.int .i64 ((rd_T41 l0 0).f0)) ∧ w'.cell? ⟨ad105.block, ad105.off + 1, none⟩ = some (.int .i64 ((rd_T41 l0 0).f1))) (ds := []) #[N,N,N,N,N,N,N,N,N,N,N] (by kernel_rfl) rfl rfl ⟨(hc HB hw105_0), (hc HB hw105_1)⟩ (fun hHeld => ?_); refine with_tabW shape_normal.tab7 shape_normal.bits7 (fun HT_ HW_ => ?_)
     generalize wr.drew = w25 at HB hx105_0 hx105_1 hHeld ⊢
     refine pu 0 32 HT_ ?_
     refine pu 1 33 HT_ ?_
     refine pu 3 35 HT_ ?_
     refine tk2 2 34 hHeld HT_ HW_ ?_
     refine one_ (i := 4) (N := some 36) #[T,T,T,T,T,N,N,N,N,N,N] rfl rfl (on1 HT_) (by decide) (fun K hK => ?_)
     refine goes_ Try.func99 (by kernel_rfl) rfl #[.slice (some ad105) l0.length c0, .func (.func 100) #[] #[]] (by rfl) rfl rfl sg ?_
     with_reducible refine (slices_MinFunc_lower.calls k1 _ _ l0  t106 t107 _ ?side1 ?side2 A19.out).mono ?_
     (case side1 => exact cs (Kd.C_below HR0.out HB.out))
     (case side2 => exact HC0.out)
     rintro e w26 ⟨rfl, hb⟩
     refine ⟨_, rfl, ?_⟩
     replace HB := bz hb
     (try clear hb)
     refine hK.out _ _ ⟨(hc HB hw105_0), (hc HB hw105_1)⟩ (fun hHeld => ?_)
     clear hK K
     refine nm 36 ?_
     refine pu 5 37 HT_ ?_
     refine pu 6 38 HT_ ?_
     refine pz 7 39 HT_ ?_
     refine pz 8 40 HT_ ?_
     refine pu 9 41 HT_ ?_
     refine pu 10 2 HT_ ?_
     refine done_ (done_of HT_.out (by kernel_rfl)) ?_
     try go_wp2
     go_ret
     exact ⟨by exact er, bh⟩
/-! ### shape_refused_normal: function 2036 -/
def shape_refused_normal.f (k : Nat) (l0 : List (S41))  : Option (Int) := (shape_polygon.f l0).bind fun t101 => (if t101 = true then ((shape_normal.f k l0).bind fun t102 => (if t102 = true then (some 0) else (some 2))) else (some 1))
set_option maxHeartbeats 8000000 in
set_option maxRecDepth 100000 in
theorem shape_refused_normal.calls (k : Nat) (A0 : Option Addr) (c0 : Nat) (l0 : List (S41))  (r : Int) (w : World) (hr0 : Kd.C k41 w A0 l0.length l0) (hc0 : l0.length ≤ c0) (h : shape_refused_normal.f k l0 = some r) :
  Calls Try.prog 36 #[.slice A0 l0.length c0, .func (.func 46) #[] #[]] w fun e w' => e = .returned (.int .i64 r) ∧ Below w.heap.size w w' := by
 have HR0 := Aside0.mk hr0
 have HC0 := Aside0.mk hc0
 clear hr0 hc0
 have HB := Aside0.mk (Below.refl w.heap.size w)
 have H : ((shape_polygon.f l0).bind fun t101 => (if t101 = true then ((shape_normal.f k l0).bind fun t102 => (if t102 = true then (some 0) else (some 2))) else (some 1))) = some r := h
 clear h
 replace H := Option.bind_eq_some_iff.mp H
 obtain ⟨t101, A30, H⟩ := H
 try dsimp only at H
 have A3 := Aside0.mk A30
 clear A30
 by_cases c4 : t101 = true
 ·subst c4
  rw [if_pos rfl] at H
  replace H := Option.bind_eq_some_iff.mp H
  obtain ⟨t102, A50, H⟩ := H
  try dsimp only at H
  have A5 := Aside0.mk A50
  clear A50
  by_cases c6 : t102 = true
  ·subst c6
   rw [if_pos rfl] at H
   obtain rfl := Option.some.inj H
   go_enter Try.func36, Try.ntmps36
   go_wp2_with (first | ((first | ((with_reducible refine gc 71 rfl ?_); refine goesL_ (some 7) rfl rfl Try.func71 (by kernel_rfl) rfl #[.slice A0 l0.length c0] rfl sg ?_) | ((with_reducible refine gate_value 71 rfl rfl ?_); refine goesLV_ (some 7) rfl rfl Try.func71 (by kernel_rfl) rfl #[.slice A0 l0.length c0] rfl sg rfl ?_)); (with_reducible refine (shape_polygon.calls _ _ l0 true _ ?side1 ?side2 A3.out).mono ?_); (case side1 => exact cs HR0.out); (case side2 => exact HC0.out); rintro e w7 ⟨rfl, hb⟩; refine ⟨_, rfl, ?_⟩; replace HB := bz hb; (try clear hb)) | ((first | ((with_reducible refine gc 46 rfl ?_); refine goesL_ (some 12) rfl rfl Try.func46 (by kernel_rfl) rfl #[.slice A0 l0.length c0] rfl sg ?_) | ((with_reducible refine gate_value 46 rfl rfl ?_); refine goesLV_ (some 12) rfl rfl Try.func46 (by kernel_rfl) rfl #[.slice A0 l0.length c0] rfl sg rfl ?_)); (with_reducible refine (shape_normal.calls k _ _ l0 true _ ?side1 ?side2 A5.out).mono ?_); (case side1 => exact cs (Kd.C_below HR0.out HB.out)); (case side2 => exact HC0.out); rintro e w8 ⟨rfl, hb⟩; refine ⟨_, rfl, ?_⟩; replace HB := bz hb; (try clear hb)))
   go_ret
   exact ⟨by exact er, bh⟩
  ·replace c6 := Bool.eq_false_iff.mpr c6
   subst c6
   rw [if_neg (show ¬ (false = true) by decide)] at H
   obtain rfl := Option.some.inj H
   go_enter Try.func36, Try.ntmps36
   go_wp2_with (first | ((first | ((with_reducible refine gc 71 rfl ?_); refine goesL_ (some 7) rfl rfl Try.func71 (by kernel_rfl) rfl #[.slice A0 l0.length c0] rfl sg ?_) | ((with_reducible refine gate_value 71 rfl rfl ?_); refine goesLV_ (some 7) rfl rfl Try.func71 (by kernel_rfl) rfl #[.slice A0 l0.length c0] rfl sg rfl ?_)); (with_reducible refine (shape_polygon.calls _ _ l0 true _ ?side1 ?side2 A3.out).mono ?_); (case side1 => exact cs HR0.out); (case side2 => exact HC0.out); rintro e w9 ⟨rfl, hb⟩; refine ⟨_, rfl, ?_⟩; replace HB := bz hb; (try clear hb)) | ((first | ((with_reducible refine gc 46 rfl ?_); refine goesL_ (some 12) rfl rfl Try.func46 (by kernel_rfl) rfl #[.slice A0 l0.length c0] rfl sg ?_) | ((with_reducible refine gate_value 46 rfl rfl ?_); refine goesLV_ (some 12) rfl rfl Try.func46 (by kernel_rfl) rfl #[.slice A0 l0.length c0] rfl sg rfl ?_)); (with_reducible refine (shape_normal.calls k _ _ l0 false _ ?side1 ?side2 A5.out).mono ?_); (case side1 => exact cs (Kd.C_below HR0.out HB.out)); (case side2 => exact HC0.out); rintro e w10 ⟨rfl, hb⟩; refine ⟨_, rfl, ?_⟩; replace HB := bz hb; (try clear hb)))
   go_ret
   exact ⟨by exact er, bh⟩
 ·replace c4 := Bool.eq_false_iff.mpr c4
  subst c4
  rw [if_neg (show ¬ (false = true) by decide)] at H
  obtain rfl := Option.some.inj H
  go_enter Try.func36, Try.ntmps36
  go_wp2_with (first | ((first | ((with_reducible refine gc 71 rfl ?_); refine goesL_ (some 7) rfl rfl Try.func71 (by kernel_rfl) rfl #[.slice A0 l0.length c0] rfl sg ?_) | ((with_reducible refine gate_value 71 rfl rfl ?_); refine goesLV_ (some 7) rfl rfl Try.func71 (by kernel_rfl) rfl #[.slice A0 l0.length c0] rfl sg rfl ?_)); (with_reducible refine (shape_polygon.calls _ _ l0 false _ ?side1 ?side2 A3.out).mono ?_); (case side1 => exact cs HR0.out); (case side2 => exact HC0.out); rintro e w11 ⟨rfl, hb⟩; refine ⟨_, rfl, ?_⟩; replace HB := bz hb; (try clear hb)))
  go_ret
  exact ⟨by exact er, bh⟩
/-! ### shape_add: function 76 -/
def shape_add.f (a0_0 : Int) (a0_1 : Int) (a1_0 : Int) (a1_1 : Int) : Option (Int × Int) := some (wrap64 (a0_0 + a1_0), wrap64 (a0_1 + a1_1))
set_option maxHeartbeats 8000000 in
set_option maxRecDepth 100000 in
theorem shape_add.calls (a0_0 : Int) (a0_1 : Int) (a1_0 : Int) (a1_1 : Int) (r1 : Int) (r2 : Int) (w : World) (h : shape_add.f a0_0 a0_1 a1_0 a1_1 = some (r1, r2)) :
  Calls Try.prog 76 #[.agg #[.int .i64 a0_0, .int .i64 a0_1], .agg #[.int .i64 a1_0, .int .i64 a1_1]] w fun e w' => e = .returned (.agg #[.int .i64 r1, .int .i64 r2]) ∧ Below w.heap.size w w' := by
 have hu41 := Try.underlying41
 have HB := Aside0.mk (Below.refl w.heap.size w)
 have H : (some (wrap64 (a0_0 + a1_0), wrap64 (a0_1 + a1_1))) = some (r1, r2) := h
 clear h
 simp only [Option.some.injEq, Prod.mk.injEq] at H
 obtain ⟨rfl, rfl⟩ := H
 go_enter Try.func76, Try.ntmps76
 go_wp2_with (first | ((with_reducible refine gate_dst (N := 2) rfl ?_); refine bxe 2 #[.int .i64 a0_0, .int .i64 a0_1] 41 ?_; intro gb101 hg w3 hbox hb; have BK101 := Aside0.mk (hbox); have GW101 := ga w hg; have GE101 := GW101; replace HB := bz hb; clear hb hbox hg) | ((with_reducible refine gate_dst (N := 3) rfl ?_); refine bxe 3 #[.int .i64 a1_0, .int .i64 a1_1] 41 ?_; intro gb102 hg w4 hbox hb; have BK102 := Aside0.mk (hbox); have GW102 := ga w hg; have GE102 := GW102; have NB101_102 := nb hg (kl BK101); have NB102_101 := bn NB101_102; replace BK101 := kb BK101 hb; replace HB := bz hb; clear hb hbox hg) | ((with_reducible refine gate_dst (N := 4) rfl ?_); refine bxe 4 #[.int .i64 0, .int .i64 0] 41 ?_; intro gb103 hg w5 hbox hb; have BK103 := Aside0.mk (hbox); have GW103 := ga w hg; have GE103 := GW103; have NB101_103 := nb hg (kl BK101); have NB103_101 := bn NB101_103; have NB102_103 := nb hg (kl BK102); have NB103_102 := bn NB102_103; replace BK101 := kb BK101 hb; replace BK102 := kb BK102 hb; replace HB := bz hb; clear hb hbox hg; have hnb6 := NB101_102.out; have hnc6 := NB102_101.out; have hnb7 := NB101_103.out; have hnc7 := NB103_101.out; obtain ⟨hcz8_0, hcz8_1, hfz8_0, hfz8_1⟩ := b2 BK101; have hnb9 := NB102_103.out; have hnc9 := NB103_102.out; obtain ⟨hcz10_0, hcz10_1, hfz10_0, hfz10_1⟩ := b2 BK102; obtain ⟨hcz11_0, hcz11_1, hfz11_0, hfz11_1⟩ := b2 BK103))
 refine bodyPost_ret (results_cell_row rfl _ _ gb103 41 #[.int .i64 (wrap64 (a0_0 + a1_0)), .int .i64 (wrap64 (a0_1 + a1_1))] (0, 0) _ rfl (by refine bd ?_; refine blk_put (cs := #[.int .i64 (wrap64 (a0_0 + a1_0)), .int .i64 0]) ?_ 1 _ rfl; refine bd ?_; refine blk_put (cs := #[.int .i64 0, .int .i64 0]) ?_ 0 _ rfl; refine bd ?_; exact BK103.out) Try.underlying41 rfl (by kernel_rfl)) rfl ?_
 exact ⟨by exact er, bh⟩
/-! ### shape_moved: function 79 -/
def shape_moved.l0 : Nat → List (S41) → List (S41) → Int → Int → Int → Int → Option ((List (S41)))
 | 0, _, _, _, _, _, _ => none
 | k + 1, x5, x8, x9, x10, x102000, x102001 => if x10 < x9 then (if 0 ≤ x10 then (if x10 < (x8.length : Int) then ((shape_add.f ((rd_T41 x8 x10).f0) ((rd_T41 x8 x10).f1) x102000 x102001).bind fun bt104 => (if x5.length < 8796093022208 then (shape_moved.l0 k (x5 ++ [(⟨bt104.1, bt104.2⟩ : S41)]) x8 x9 (wrap64 (x10 + 1)) x102000 x102001) else (none))) else (none)) else (none)) else (some x5)
def shape_moved.f (k : Nat) (l0 : List (S41)) (a1_0 : Int) (a1_1 : Int) : Option ((List (S41))) := shape_moved.l0 k ([] : List (S41)) l0 (l0.length : Int) 0 a1_0 a1_1
set_option maxHeartbeats 8000000 in
set_option maxRecDepth 100000 in
theorem shape_moved.calls (k : Nat) (A0 : Option Addr) (c0 : Nat) (l0 : List (S41)) (a1_0 : Int) (a1_1 : Int) (r : List (S41)) (w : World) (hr0 : Kd.C k41 w A0 l0.length l0) (hc0 : l0.length ≤ c0) (h : shape_moved.f k l0 a1_0 a1_1 = some r) :
  Calls Try.prog 79 #[.slice A0 l0.length c0, .agg #[.int .i64 a1_0, .int .i64 a1_1]] w fun e w' => ∃ v0_ : Value, e = .returned (v0_) ∧ Kd.R k41 41 w' w.heap.size (fun _ => True) v0_ r ∧ Below w.heap.size w w' := by
 have hu41 := Try.underlying41
 have HR0 := Aside0.mk hr0
 have HC0 := Aside0.mk hc0
 clear hr0 hc0
 have HB := Aside0.mk (Below.refl w.heap.size w)
 have H : (shape_moved.l0 k ([] : List (S41)) l0 (l0.length : Int) 0 a1_0 a1_1) = some r := h
 clear h
 have H' := Aside0.mk H
 clear H
 go_enter Try.func79, Try.ntmps79
 go_wp2_with (first | ((with_reducible refine gate_dst (N := 3) rfl ?_); refine bxe 3 #[.int .i64 a1_0, .int .i64 a1_1] 41 ?_; intro gb101 hg w3 hbox hb; have BK101 := Aside0.mk (hbox); have GW101 := ga w hg; have GE101 := GW101; replace HB := bz hb; clear hb hbox hg))
 go_loopg [5, 10] k (fun kq v5 v10 w' => ∃ (x5_1 : List (S41)) (x10_1 : Int), v10 = .int .i64 x10_1 ∧ Aside0 (shape_moved.l0 kq x5_1 l0 (l0.length : Int) x10_1 a1_0 a1_1 = some r) ∧ Aside0 (kq ≤ k) ∧ Aside0 (Kd.R k41 41 w' w.heap.size (fun k_ => k_ ≠ gb101) v5 x5_1) ∧ Aside0 (w'.heap[gb101]? = some (.cells #[.int .i64 a1_0, .int .i64 a1_1] 41 (0, 0))) ∧ Aside0 (Below w.heap.size w w'))
 case atStart => exact ⟨(([] : List (S41))), (0), sd, H', ⟨Nat.le_refl _⟩, ⟨by first | exact Kd.R_nil _ _ _ _ _ | exact Kd.N_nil _ _ _ _ _ | exact Kd.V_nil _ _ _ _ _ | exact Kd.Q_nil _ _ _ _ _ | exact Kd.S_nil _ _ _ _ _⟩, ⟨bk BK101⟩, ⟨bh⟩⟩
 case round =>
  clear H'
  skip
  obtain ⟨x5_1, x10_1, rfl, HA, HK1, HO_5, BK101, HB⟩ := hrel
  cases gk with
  | zero => exact absurd HA.out (by simp [shape_moved.l0])
  | succ k1 =>
   have H := HA.out
   clear HA
   simp only [shape_moved.l0] at H
   by_cases c4 : x10_1 < (l0.length : Int)
   ·rw [if_pos c4] at H
    have c4b0 := decide_eq_true c4
    clear c4
    obtain ⟨c5, H⟩ := oi H
    have c5b0 := decide_eq_true c5
    clear c5
    obtain ⟨c6, H⟩ := oi H
    have c6b0 := decide_eq_true c6
    clear c6
    replace H := Option.bind_eq_some_iff.mp H
    obtain ⟨⟨t104, t105⟩, A70, H⟩ := H
    try dsimp only at H
    have A7 := Aside0.mk A70
    clear A70
    obtain ⟨c8, H⟩ := oi H
    have LMc8 := Aside0.mk c8
    clear c8
    obtain ⟨y106, hy106⟩ : ∃ y_ : List (S41), y_ = (x5_1 ++ [(⟨t104, t105⟩ : S41)]) := ⟨_, rfl⟩
    replace H : (shape_moved.l0 k1 y106 l0 (l0.length : Int) (wrap64 (x10_1 + 1)) a1_0 a1_1) = some r := by first | (rw [hy106]; with_reducible exact H) | (have H2_ := (Option.bind_some _ _).symm.trans H; rw [hy106]; with_reducible exact H2_) | (have H2_ := (Option.bind_some _ _).symm.trans H; with_reducible exact H2_) | with_reducible exact H | (rw [hy106]; exact H) | exact H
    have Ny106 := Aside0.mk hy106
    clear hy106
    have H' := Aside0.mk H
    clear H
    have p102 : 0 ≤ (x10_1 : Int) := dt
    have q102 : x10_1 < (l0.length : Int) := dt
    obtain ⟨ad102, e102, hx102_0, hx102_1⟩ := at_T41 HR0.out x10_1 p102 q102
    cases e102
    replace hx102_0 := hc HB hx102_0
    replace hx102_1 := hc HB hx102_1
    replace p102 := eq_true p102
    replace q102 := eq_true q102
    go_wp2_with (first | ((with_reducible refine gate_dst (N := 7) rfl ?_); refine bxe 7 #[.int .i64 0, .int .i64 0] 41 ?_; intro gb103 hg w9 hbox hb; have BK103 := Aside0.mk (hbox); have GW103 := ga w hg; have GE103 := GW103; have NB101_103 := nb hg (kl BK101); have NB103_101 := bn NB101_103; replace HO_5 := Aside0.mk (Kd.R_below (Kd.R_elderB (ro HO_5) gb103 (Nat.le_of_eq hg.symm)) hb); replace BK101 := kb BK101 hb; replace HB := bz hb; clear hb hbox hg; have hnb10 := NB103_101.out; have hnc10 := NB101_103.out; obtain ⟨hcz11_0, hcz11_1, hfz11_0, hfz11_1⟩ := b2 BK103; obtain ⟨hcz12_0, hcz12_1, hfz12_0, hfz12_1⟩ := b2 BK101) | ((with_reducible refine gc 76 rfl ?_); refine goesL_ (some 17) rfl rfl Try.func76 (by kernel_rfl) rfl #[.agg #[.int .i64 ((rd_T41 l0 x10_1).f0), .int .i64 ((rd_T41 l0 x10_1).f1)], .agg #[.int .i64 a1_0, .int .i64 a1_1]] rfl sg ?_; (with_reducible refine (shape_add.calls ((rd_T41 l0 x10_1).f0) ((rd_T41 l0 x10_1).f1) a1_0 a1_1 t104 t105 _ A7.out).mono ?_); rintro e w13 ⟨rfl, hb⟩; refine ⟨_, rfl, ?_⟩; replace HO_5 := Aside0.mk (Kd.R_below (by (with_reducible repeat (first | apply Kd.R_alloc | apply Kd.R_drewN | apply Kd.R_drew)); exact (Kd.R_mono (Kd.R_far (p := ⟨gb103, 1, none⟩) (Kd.R_far (p := ⟨gb103, 0, none⟩) (Kd.R_mono HO_5.out (fun k_ hk => (⟨hk, hk.2⟩ : _ ∧ k_ ≠ gb103))) (fun _ hk => hk.2) (.int .i64 ((rd_T41 l0 x10_1).f0))) (fun _ hk => hk.2) (.int .i64 ((rd_T41 l0 x10_1).f1))) (fun _ h_ => h_.1))) hb); replace BK101 := Aside0.mk (blk_below (g := gb101) (o := .cells #[.int .i64 a1_0, .int .i64 a1_1] 41 (0, 0)) (by refine bf NB101_103 ?_; refine bf NB101_103 ?_; refine bd ?_; exact BK101.out) hb); replace BK103 := Aside0.mk (blk_below (g := gb103) (o := .cells #[.int .i64 ((rd_T41 l0 x10_1).f0), .int .i64 ((rd_T41 l0 x10_1).f1)] 41 (0, 0)) (by refine bd ?_; refine blk_put (cs := #[.int .i64 ((rd_T41 l0 x10_1).f0), .int .i64 0]) ?_ 1 _ rfl; refine bd ?_; refine blk_put (cs := #[.int .i64 0, .int .i64 0]) ?_ 0 _ rfl; refine bd ?_; exact BK103.out) hb); replace HB := bz hb; (try clear hb); (try clear hk)) | ((with_reducible refine gate_builtin (b := .append) (xs := #[.tmp 14, .tmp 18]) rfl ?_); at_builtin; refine Kd.R_append k41 (w0 := w) w.heap.size rfl (.tmp 14) (.tmp 18) 22 41 (.agg #[(.int .i64 0), (.int .i64 0)]) 16 rfl Try.underlying22 info41 rfl (by decide) (by omega) u5 x5_1 (⟨t104, t105⟩ : S41) [.int .i64 t104, .int .i64 t105] (fun k_ => k_ ≠ gb101 ∧ k_ ≠ gb103) (fun _ => False) rfl rfl ?aP (fun _ hk => hk.elim) ?aF ?aO ?aB ?aS ?aL ?_; (case aP => exact k41_mkM _ _ _ (⟨t104, t105⟩ : S41)); (case aB => exact bh); (case aF => exact (fun k_ hk => ⟨Kd.freshB (g := gb101) (o := .cells #[.int .i64 a1_0, .int .i64 a1_1] 41 (0, 0)) (bk BK101) k_ hk, Kd.freshB (g := gb103) (o := .cells #[.int .i64 ((rd_T41 l0 x10_1).f0), .int .i64 ((rd_T41 l0 x10_1).f1)] 41 (0, 0)) (bk BK103) k_ hk⟩)); (case aO => exact (ro HO_5)); (case aS => exact (below_size bh)); (case aL => have := LMc8.out; omega); intro v107 w14 ho hb hg hat; rw [← Ny106.out] at ho; have HO108 := Aside0.mk (ho); replace BK101 := Aside0.mk (blk_grown (g := gb101) (o := .cells #[.int .i64 a1_0, .int .i64 a1_1] 41 (0, 0)) (bk BK101) hg (Kd.R_away HO_5.out (fun _ hk => hk.1))); replace BK103 := Aside0.mk (blk_grown (g := gb103) (o := .cells #[.int .i64 ((rd_T41 l0 x10_1).f0), .int .i64 ((rd_T41 l0 x10_1).f1)] 41 (0, 0)) (bk BK103) hg (Kd.R_away HO_5.out (fun _ hk => hk.2))); replace HB := Aside0.mk (hb); clear HO_5; clear ho hb hg hat))
    go_roundg k1
    case measure => have := HK1.out; omega
    case rel => exact ⟨(y106), (wrap64 (x10_1 + 1)), sd, H', ⟨by have := HK1.out; omega⟩, ⟨by (with_reducible repeat (first | apply Kd.R_alloc | apply Kd.R_drewN | apply Kd.R_drew)); exact Kd.R_mono HO108.out (fun _ hk => hk.1)⟩, ⟨bk BK101⟩, ⟨bh⟩⟩
   ·rw [if_neg c4] at H
    have c4b0 := decide_eq_false c4
    clear c4
    obtain rfl := Option.some.inj H
    go_wp2
    go_ret
    exact ⟨_, by exact er, by (with_reducible repeat (first | apply Kd.R_alloc | apply Kd.R_drewN | apply Kd.R_drew)); exact Kd.R_mono HO_5.out (fun _ hk => trivial), bh⟩
/-! ### shape_corners: function 101 -/
def shape_corners.l0 : Nat → List (S41) → Int → Int → Int → Int → Int → Int → Option (Int × Int × Int × Int)
 | 0, _, _, _, _, _, _, _ => none
 | k + 1, x12, x13, x14, x102000, x102001, x103000, x103001 => if x14 < x13 then (if 0 ≤ x14 then (if x14 < (x12.length : Int) then (shape_corners.l0 k x12 x13 (wrap64 (x14 + 1)) (mn x102000 ((rd_T41 x12 x14).f0)) (mn x102001 ((rd_T41 x12 x14).f1)) (mx x103000 ((rd_T41 x12 x14).f0)) (mx x103001 ((rd_T41 x12 x14).f1))) else (none)) else (none)) else (some (x102000, x102001, x103000, x103001))
def shape_corners.f (k : Nat) (l0 : List (S41)) : Option (Int × Int × Int × Int) := if 0 < (l0.length : Int) then (shape_corners.l0 k l0 (l0.length : Int) 0 ((rd_T41 l0 0).f0) ((rd_T41 l0 0).f1) ((rd_T41 l0 0).f0) ((rd_T41 l0 0).f1)) else (none)
theorem shape_corners.mono_l : ∀ k, (∀ y0 y1 y2 y3 y4 y5 y6, LeO (shape_corners.l0 k y0 y1 y2 y3 y4 y5 y6) (shape_corners.l0 (k + 1) y0 y1 y2 y3 y4 y5 y6))
 | 0 => fun _ _ _ _ _ _ _ r h => by simp [shape_corners.l0] at h
 | k + 1 => by
  have ih0 := shape_corners.mono_l k
  ·intro y0 y1 y2 y3 y4 y5 y6
   unfold shape_corners.l0
   repeat' first
   | (with_reducible exact ih0 _ _ _ _ _ _ _)
   | (with_reducible exact LeO.refl _)
   | (with_reducible exact LeO.none _)
   | (with_reducible refine LeO.ite ?_ ?_)
   | (with_reducible refine LeO.bind ?_ (fun _ => ?_))
   | exact ih0 _ _ _ _ _ _ _
   | exact LeO.none _
   | refine LeO.ite ?_ ?_
   | refine LeO.bind ?_ (fun _ => ?_)
theorem shape_corners.mono : ∀ a0 k, LeO (shape_corners.f k a0) (shape_corners.f (k + 1) a0) := by
 intro a0 k
 have ih0 := shape_corners.mono_l k
 unfold shape_corners.f
 repeat' first
  | (with_reducible exact ih0 _ _ _ _ _ _ _)
  | (with_reducible exact LeO.refl _)
  | (with_reducible exact LeO.none _)
  | (with_reducible refine LeO.ite ?_ ?_)
  | (with_reducible refine LeO.bind ?_ (fun _ => ?_))
  | exact ih0 _ _ _ _ _ _ _
  | exact LeO.none _
  | refine LeO.ite ?_ ?_
  | refine LeO.bind ?_ (fun _ => ?_)
def shape_corners.T1 : Bool × List (List Nat × List Nat) := (true, [([], []), ([0], [0]), ([1], [1]), ([], []), ([3], [3]), ([4], [4]), ([2, 0, 1, 2], [2]), ([5, 6, 0, 1, 2, 3, 4, 5, 6], [5])])
def shape_corners.B1 : List Nat := [0, 1, 3, 0, 8, 24, 7, 127]
theorem shape_corners.tab1 : rtab .any (opsOf Try.f101 1) = shape_corners.T1 := by kernel_rfl
theorem shape_corners.bits1 : waitsOk shape_corners.T1.2 shape_corners.B1 = true := by kernel_rfl
set_option maxHeartbeats 8000000 in
set_option maxRecDepth 100000 in
theorem shape_corners.calls (k : Nat) (A0 : Option Addr) (c0 : Nat) (l0 : List (S41)) (r1 : Int) (r2 : Int) (r3 : Int) (r4 : Int) (w : World) (hr0 : Kd.C k41 w A0 l0.length l0) (hc0 : l0.length ≤ c0) (h : shape_corners.f k l0 = some (r1, r2, r3, r4)) :
  Calls Try.prog 101 #[.slice A0 l0.length c0] w fun e w' => e = .returned (.tuple #[.agg #[.int .i64 r1, .int .i64 r2], .agg #[.int .i64 r3, .int .i64 r4]]) ∧ Below w.heap.size w w' := by
 have hu41 := Try.underlying41
 have HR0 := Aside0.mk hr0
 have HC0 := Aside0.mk hc0
 clear hr0 hc0
 have HB := Aside0.mk (Below.refl w.heap.size w)
 have H : (if 0 < (l0.length : Int) then (shape_corners.l0 k l0 (l0.length : Int) 0 ((rd_T41 l0 0).f0) ((rd_T41 l0 0).f1) ((rd_T41 l0 0).f0) ((rd_T41 l0 0).f1)) else (none)) = some (r1, r2, r3, r4) := h
 clear h
 obtain ⟨c2, H⟩ := oi H
 have c2b0 := decide_eq_true c2
 have c2b1 : decide (0 < l0.length) = true := decide_eq_true (by omega)
 clear c2
 have H' := Aside0.mk H
 clear H
 go_enter Try.func101, Try.ntmps101
 try go_wp2_with (first | ((with_reducible refine gate_dst (N := 2) rfl ?_); refine bxe 2 #[.int .i64 0, .int .i64 0] 41 ?_; intro gb101 hg w3 hbox hb; have BK101 := Aside0.mk (hbox); have GW101 := ga w hg; have GE101 := GW101; replace HB := bz hb; clear hb hbox hg) | ((with_reducible refine gate_dst (N := 3) rfl ?_); refine bxe 3 #[.int .i64 0, .int .i64 0] 41 ?_; intro gb102 hg w4 hbox hb; have BK102 := Aside0.mk (hbox); have GW102 := ga w hg; have GE102 := GW102; have NB101_102 := nb hg (kl BK101); have NB102_101 := bn NB101_102; replace BK101 := kb BK101 hb; replace HB := bz hb; clear hb hbox hg))
 replace BK101 := Aside0.mk (blk_drew BK101.out)
 replace BK102 := Aside0.mk (blk_drew BK102.out)
 replace HB := Aside0.mk (below_drew1 HB.out)
 have p103 : 0 ≤ (0 : Int) := (by omega)
 have q103 : 0 < (l0.length : Int) := dt
 obtain ⟨ad103, e103, hx103_0, hx103_1⟩ := at_T41 HR0.out 0 p103 q103
 have hw103_1 := hx103_1
 (try rw [show ((0 : Int)).toNat = 0 from rfl] at hw103_1)
 (try rw [show 0 * 2 = 0 from rfl] at hw103_1)
 (try rw [Addr.add_zero'] at hw103_1)
 have hw103_0 := hx103_0
 (try rw [show ((0 : Int)).toNat = 0 from rfl] at hw103_0)
 (try rw [show 0 * 2 = 0 from rfl] at hw103_0)
 (try rw [Addr.add_zero'] at hw103_0)
 cases e103
 have qi103 : (0 < l0.length) = True := eq_true (by omega)
 (try rw [show ((0 : Int)).toNat = 0 from rfl] at hx103_0)
 (try rw [show 0 * 2 = 0 from rfl] at hx103_0)
 (try rw [Addr.add_zero'] at hx103_0)
 (try rw [show ((0 : Int)).toNat = 0 from rfl] at hx103_1)
 (try rw [show 0 * 2 = 0 from rfl] at hx103_1)
 (try rw [Addr.add_zero'] at hx103_1)
 replace hx103_0 := hc HB hx103_0
 replace hx103_1 := hc HB hx103_1
 replace p103 := eq_true p103
 replace q103 := eq_true q103
 have p104 : 0 ≤ (0 : Int) := (by omega)
 have q104 : 0 < (l0.length : Int) := dt
 obtain ⟨ad104, e104, hx104_0, hx104_1⟩ := at_T41 HR0.out 0 p104 q104
 have hw104_1 := hx104_1
 (try rw [show ((0 : Int)).toNat = 0 from rfl] at hw104_1)
 (try rw [show 0 * 2 = 0 from rfl] at hw104_1)
 (try rw [Addr.add_zero'] at hw104_1)
 have hw104_0 := hx104_0
 (try rw [show ((0 : Int)).toNat = 0 from rfl] at hw104_0)
 (try rw [show 0 * 2 = 0 from rfl] at hw104_0)
 (try rw [Addr.add_zero'] at hw104_0)
 obtain rfl : ad103 = ad104 := (by injection e104)
 have qi104 : (0 < l0.length) = True := eq_true (by omega)
 (try rw [show ((0 : Int)).toNat = 0 from rfl] at hx104_0)
 (try rw [show 0 * 2 = 0 from rfl] at hx104_0)
 (try rw [Addr.add_zero'] at hx104_0)
 (try rw [show ((0 : Int)).toNat = 0 from rfl] at hx104_1)
 (try rw [show 0 * 2 = 0 from rfl] at hx104_1)
 (try rw [Addr.add_zero'] at hx104_1)
 replace hx104_0 := hc HB hx104_0
 replace hx104_1 := hc HB hx104_1
 replace p104 := eq_true p104
 replace q104 := eq_true q104
 refine start_ (n := 8) (S := fun w' => w'.cell? ad103 = some (.int .i64 ((rd_T41 l0 0).f0)) ∧ w'.cell? ⟨ad103.block, ad103.off + 1, none⟩ = some (.int .i64 ((rd_T41 l0 0).f1)) ∧ w'.cell? ad103 = some (.int .i64 ((rd_T41 l0 0).f0)) ∧ w'.cell? ⟨ad103.block, ad103.off + 1, none⟩ = some (.int .i64 ((rd_T41 l0 0).f1))) (ds := []) #[N,N,N,N,N,N,N,N] (by kernel_rfl) rfl rfl ⟨(hc HB hw103_0), (hc HB hw103_1), (hc HB hw104_0), (hc HB hw104_1)⟩ (fun hHeld => ?_); refine with_tabW shape_corners.tab1 shape_corners.bits1 (fun HT_ HW_ => ?_)
 generalize w4.drew = w5 at BK101 BK102 HB hx103_0 hx103_1 hx104_0 hx104_1 hHeld ⊢
 refine pu 0 6 HT_ ?_
 refine pu 1 7 HT_ ?_
 refine pu 3 9 HT_ ?_
 refine pu 4 10 HT_ ?_
 refine tk4 2 8 hHeld HT_ HW_ ?_
 refine tk4 5 11 hHeld HT_ HW_ ?_
 refine one_ (i := 6) (N := none) #[T,T,T,T,T,T,T,N] rfl rfl (on1 HT_) (by decide) (fun K hK => ?_)
 have hs6 : w5.cell? ⟨gb101, 0, none⟩ = some (.int .i64 0) := bc BK101 0
 have hfs6 := blk_frozen BK101.out 0
 have hns6_1 := NB102_101.out
 have hms6_1 := NB101_102.out
 have hs7 : w5.cell? ⟨gb101, 1, none⟩ = some (.int .i64 0) := bc BK101 1
 have hfs7 := blk_frozen BK101.out 1
 have hns7_1 := NB102_101.out
 have hms7_1 := NB101_102.out
 refine skip_ (w1 := ?_) (by rfl) rfl ?_ ?_
 rotate_left
 ·go_simp
  rfl
 refine hK.out _ _ ⟨((cell_far (p := ⟨gb101, _, none⟩) (fr hw103_0 GW101) _).trans (((cell_far (p := ⟨gb101, _, none⟩) (fr hw103_0 GW101) _).trans (hHeld.1)))), ((cell_far (p := ⟨gb101, _, none⟩) (fr hw103_1 GW101) _).trans (((cell_far (p := ⟨gb101, _, none⟩) (fr hw103_1 GW101) _).trans (hHeld.2.1)))), ((cell_far (p := ⟨gb101, _, none⟩) (fr hw104_0 GW101) _).trans (((cell_far (p := ⟨gb101, _, none⟩) (fr hw104_0 GW101) _).trans (hHeld.2.2.1)))), ((cell_far (p := ⟨gb101, _, none⟩) (fr hw104_1 GW101) _).trans (((cell_far (p := ⟨gb101, _, none⟩) (fr hw104_1 GW101) _).trans (hHeld.2.2.2))))⟩ (fun hHeld => ?_)
 clear hK K
 refine one_ (i := 7) (N := none) #[T,T,T,T,T,T,T,T] rfl rfl (on1 HT_) (by decide) (fun K hK => ?_)
 have hs8 : w5.cell? ⟨gb102, 0, none⟩ = some (.int .i64 0) := bc BK102 0
 have hfs8 := blk_frozen BK102.out 0
 have hns8_0 := NB101_102.out
 have hms8_0 := NB102_101.out
 have hs9 : w5.cell? ⟨gb102, 1, none⟩ = some (.int .i64 0) := bc BK102 1
 have hfs9 := blk_frozen BK102.out 1
 have hns9_0 := NB101_102.out
 have hms9_0 := NB102_101.out
 refine skip_ (w1 := ?_) (by rfl) rfl ?_ ?_
 rotate_left
 ·go_simp
  rfl
 refine hK.out _ _ ⟨((cell_far (p := ⟨gb102, _, none⟩) (fr hw103_0 GW102) _).trans (((cell_far (p := ⟨gb102, _, none⟩) (fr hw103_0 GW102) _).trans (hHeld.1)))), ((cell_far (p := ⟨gb102, _, none⟩) (fr hw103_1 GW102) _).trans (((cell_far (p := ⟨gb102, _, none⟩) (fr hw103_1 GW102) _).trans (hHeld.2.1)))), ((cell_far (p := ⟨gb102, _, none⟩) (fr hw104_0 GW102) _).trans (((cell_far (p := ⟨gb102, _, none⟩) (fr hw104_0 GW102) _).trans (hHeld.2.2.1)))), ((cell_far (p := ⟨gb102, _, none⟩) (fr hw104_1 GW102) _).trans (((cell_far (p := ⟨gb102, _, none⟩) (fr hw104_1 GW102) _).trans (hHeld.2.2.2))))⟩ (fun hHeld => ?_)
 clear hK K
 refine done_ (done_of HT_.out (by kernel_rfl)) ?_
 try go_wp2
 go_loopg [14] k (fun kq v14 w' => ∃ (x14_1 : Int) (x102000_1 : Int) (x102001_1 : Int) (x103000_1 : Int) (x103001_1 : Int), v14 = .int .i64 x14_1 ∧ Aside0 (shape_corners.l0 kq l0 (l0.length : Int) x14_1 x102000_1 x102001_1 x103000_1 x103001_1 = some (r1, r2, r3, r4)) ∧ Aside0 (kq ≤ k) ∧ Aside0 (w'.heap[gb101]? = some (.cells #[.int .i64 x102000_1, .int .i64 x102001_1] 41 (0, 0))) ∧ Aside0 (w'.heap[gb102]? = some (.cells #[.int .i64 x103000_1, .int .i64 x103001_1] 41 (0, 0))) ∧ Aside0 (Below w.heap.size w w'))
 case atStart => exact ⟨(0), ((rd_T41 l0 0).f0), ((rd_T41 l0 0).f1), ((rd_T41 l0 0).f0), ((rd_T41 l0 0).f1), sd, H', ⟨Nat.le_refl _⟩, ⟨by refine bf NB101_102 ?_; refine bf NB101_102 ?_; refine bd ?_; refine blk_put (cs := #[.int .i64 ((rd_T41 l0 0).f0), .int .i64 0]) ?_ 1 _ rfl; refine bd ?_; refine blk_put (cs := #[.int .i64 0, .int .i64 0]) ?_ 0 _ rfl; refine bd ?_; exact BK101.out⟩, ⟨by refine bd ?_; refine blk_put (cs := #[.int .i64 ((rd_T41 l0 0).f0), .int .i64 0]) ?_ 1 _ rfl; refine bd ?_; refine blk_put (cs := #[.int .i64 0, .int .i64 0]) ?_ 0 _ rfl; refine bf NB102_101 ?_; refine bf NB102_101 ?_; refine bd ?_; exact BK102.out⟩, ⟨bh⟩⟩
 case round =>
  clear H'
  (try clear c2b0); (try clear c2b1); (try clear hx103_0); (try clear hx103_1); (try clear hx104_0); (try clear hx104_1); (try clear p103); (try clear p104); (try clear q103); (try clear q104)
  obtain ⟨x14_1, x102000_1, x102001_1, x103000_1, x103001_1, rfl, HA, HK1, BK101, BK102, HB⟩ := hrel
  cases gk with
  | zero => exact absurd HA.out (by simp [shape_corners.l0])
  | succ k1 =>
   have H := HA.out
   clear HA
   simp only [shape_corners.l0] at H
   by_cases c10 : x14_1 < (l0.length : Int)
   ·rw [if_pos c10] at H
    have c10b0 := decide_eq_true c10
    clear c10
    obtain ⟨c11, H⟩ := oi H
    have c11b0 := decide_eq_true c11
    clear c11
    obtain ⟨c12, H⟩ := oi H
    have c12b0 := decide_eq_true c12
    clear c12
    obtain ⟨ji13, hji13⟩ : ∃ j_ : Int, (mn x102000_1 ((rd_T41 l0 x14_1).f0)) = j_ := ⟨_, rfl⟩
    replace H : (shape_corners.l0 k1 l0 (l0.length : Int) (wrap64 (x14_1 + 1)) ji13 (mn x102001_1 ((rd_T41 l0 x14_1).f1)) (mx x103000_1 ((rd_T41 l0 x14_1).f0)) (mx x103001_1 ((rd_T41 l0 x14_1).f1))) = some (r1, r2, r3, r4) := by first | (rw [hji13] at H; exact H) | (simp only [hji13] at H ⊢; exact H)
    have hji13_ : (if ((rd_T41 l0 x14_1).f0) < x102000_1 then ((rd_T41 l0 x14_1).f0) else x102000_1) = ji13 := hji13
    obtain ⟨ji14, hji14⟩ : ∃ j_ : Int, (mn x102001_1 ((rd_T41 l0 x14_1).f1)) = j_ := ⟨_, rfl⟩
    replace H : (shape_corners.l0 k1 l0 (l0.length : Int) (wrap64 (x14_1 + 1)) ji13 ji14 (mx x103000_1 ((rd_T41 l0 x14_1).f0)) (mx x103001_1 ((rd_T41 l0 x14_1).f1))) = some (r1, r2, r3, r4) := by first | (rw [hji14] at H; exact H) | (simp only [hji14] at H ⊢; exact H)
    have hji14_ : (if ((rd_T41 l0 x14_1).f1) < x102001_1 then ((rd_T41 l0 x14_1).f1) else x102001_1) = ji14 := hji14
    obtain ⟨ji15, hji15⟩ : ∃ j_ : Int, (mx x103000_1 ((rd_T41 l0 x14_1).f0)) = j_ := ⟨_, rfl⟩
    replace H : (shape_corners.l0 k1 l0 (l0.length : Int) (wrap64 (x14_1 + 1)) ji13 ji14 ji15 (mx x103001_1 ((rd_T41 l0 x14_1).f1))) = some (r1, r2, r3, r4) := by first | (rw [hji15] at H; exact H) | (simp only [hji15] at H ⊢; exact H)
    have hji15_ : (if x103000_1 < ((rd_T41 l0 x14_1).f0) then ((rd_T41 l0 x14_1).f0) else x103000_1) = ji15 := hji15
    obtain ⟨ji16, hji16⟩ : ∃ j_ : Int, (mx x103001_1 ((rd_T41 l0 x14_1).f1)) = j_ := ⟨_, rfl⟩
    replace H : (shape_corners.l0 k1 l0 (l0.length : Int) (wrap64 (x14_1 + 1)) ji13 ji14 ji15 ji16) = some (r1, r2, r3, r4) := by first | (rw [hji16] at H; exact H) | (simp only [hji16] at H ⊢; exact H)
    have hji16_ : (if x103001_1 < ((rd_T41 l0 x14_1).f1) then ((rd_T41 l0 x14_1).f1) else x103001_1) = ji16 := hji16
    have H' := Aside0.mk H
    clear H
    have p105 : 0 ≤ (x14_1 : Int) := dt
    have q105 : x14_1 < (l0.length : Int) := dt
    obtain ⟨ad105, e105, hx105_0, hx105_1⟩ := at_T41 HR0.out x14_1 p105 q105
    obtain rfl : ad103 = ad105 := (by injection e105)
    replace hx105_0 := hc HB hx105_0
    replace hx105_1 := hc HB hx105_1
    replace p105 := eq_true p105
    replace q105 := eq_true q105
    go_wp2_with (first | ((with_reducible refine gate_dst (N := 5) rfl ?_); refine bxe 5 #[.int .i64 0, .int .i64 0] 41 ?_; intro gb106 hg w17 hbox hb; have BK106 := Aside0.mk (hbox); have GW106 := ga w hg; have GE106 := GW106; have NB101_106 := nb hg (kl BK101); have NB106_101 := bn NB101_106; have NB102_106 := nb hg (kl BK102); have NB106_102 := bn NB102_106; replace BK101 := kb BK101 hb; replace BK102 := kb BK102 hb; replace HB := bz hb; clear hb hbox hg; have hnb18 := NB106_101.out; have hnc18 := NB101_106.out; have hnb19 := NB106_102.out; have hnc19 := NB102_106.out; obtain ⟨hcz20_0, hcz20_1, hfz20_0, hfz20_1⟩ := b2 BK106; have hnb21 := NB101_102.out; have hnc21 := NB102_101.out; obtain ⟨hcz22_0, hcz22_1, hfz22_0, hfz22_1⟩ := b2 BK101; obtain ⟨hcz23_0, hcz23_1, hfz23_0, hfz23_1⟩ := b2 BK102))
    go_roundg k1
    case measure => have := HK1.out; omega
    case rel => exact ⟨(wrap64 (x14_1 + 1)), (ji13), (ji14), (ji15), (ji16), sd, H', ⟨by have := HK1.out; omega⟩, ⟨by refine bf NB101_102 ?_; refine bf NB101_102 ?_; refine bd ?_; refine blk_put (cs := #[.int .i64 ji13, .int .i64 x102001_1]) ?_ 1 _ rfl; refine bd ?_; refine blk_put (cs := #[.int .i64 x102000_1, .int .i64 x102001_1]) ?_ 0 _ rfl; refine bf NB101_106 ?_; refine bf NB101_106 ?_; refine bd ?_; exact BK101.out⟩, ⟨by refine bd ?_; refine blk_put (cs := #[.int .i64 ji15, .int .i64 x103001_1]) ?_ 1 _ rfl; refine bd ?_; refine blk_put (cs := #[.int .i64 x103000_1, .int .i64 x103001_1]) ?_ 0 _ rfl; refine bf NB102_101 ?_; refine bf NB102_101 ?_; refine bf NB102_106 ?_; refine bf NB102_106 ?_; refine bd ?_; exact BK102.out⟩, ⟨bh⟩⟩
   ·rw [if_neg c10] at H
    have c10b0 := decide_eq_false c10
    clear c10
    simp only [Option.some.injEq, Prod.mk.injEq] at H
    obtain ⟨rfl, rfl, rfl, rfl⟩ := H
    try go_wp2
    replace BK101 := Aside0.mk (blk_drew BK101.out)
    replace BK102 := Aside0.mk (blk_drew BK102.out)
    replace HB := Aside0.mk (below_drew1 HB.out)
    have h0 : wr.cell? ⟨gb101, 0, none⟩ = some (.int .i64 x102000_1) := bc BK101 0
    have h1 : wr.cell? ⟨gb101, 1, none⟩ = some (.int .i64 x102001_1) := bc BK101 1
    have h2 : wr.cell? ⟨gb102, 0, none⟩ = some (.int .i64 x103000_1) := bc BK102 0
    have h3 : wr.cell? ⟨gb102, 1, none⟩ = some (.int .i64 x103001_1) := bc BK102 1
    have f0 : wr.frozen? ⟨gb101, 0, none⟩ = false := blk_frozen BK101.out 0
    have f1 : wr.frozen? ⟨gb101, 1, none⟩ = false := blk_frozen BK101.out 1
    have f2 : wr.frozen? ⟨gb102, 0, none⟩ = false := blk_frozen BK102.out 0
    have f3 : wr.frozen? ⟨gb102, 1, none⟩ = false := blk_frozen BK102.out 1
    have n1 := NB101_102.out
    have n2 := NB102_101.out
    go_region
    go_wp2
    have bk1 : wr.heap[gb101]? = some (.cells #[.int .i64 x102000_1, .int .i64 x102001_1] 41 (0, 0)) := BK101.out
    have bk2 : wr.heap[gb102]? = some (.cells #[.int .i64 x103000_1, .int .i64 x103001_1] 41 (0, 0)) := BK102.out
    have hb1 : Below w.heap.size w wr := ⟨HB.out.os, HB.out.tape, HB.out.output, HB.out.size, HB.out.block⟩
    have b1 : ((((wr.setCell ⟨gb101, 0, none⟩ (.int .i64 x102000_1)).setCell ⟨gb101, 1, none⟩ (.int .i64 x102001_1)).setCell ⟨gb102, 0, none⟩ (.int .i64 x103000_1)).setCell ⟨gb102, 1, none⟩ (.int .i64 x103001_1)).heap[gb101]? = some (.cells #[.int .i64 x102000_1, .int .i64 x102001_1] 41 (0, 0)) := by
     refine blk_far (blk_far ?_ n1 _) n1 _
     have k := blk_set (blk_set bk1 0 (.int .i64 x102000_1)) 1 (.int .i64 x102001_1)
     simpa using k
    have b2 : ((((wr.setCell ⟨gb101, 0, none⟩ (.int .i64 x102000_1)).setCell ⟨gb101, 1, none⟩ (.int .i64 x102001_1)).setCell ⟨gb102, 0, none⟩ (.int .i64 x103000_1)).setCell ⟨gb102, 1, none⟩ (.int .i64 x103001_1)).heap[gb102]? = some (.cells #[.int .i64 x103000_1, .int .i64 x103001_1] 41 (0, 0)) := by
     have k := blk_set (blk_set (blk_far (blk_far bk2 n2 (u := .int .i64 x102000_1) (p := ⟨gb101, 0, none⟩)) n2 (u := .int .i64 x102001_1) (p := ⟨gb101, 1, none⟩)) 0 (.int .i64 x103000_1)) 1 (.int .i64 x103001_1)
     simpa using k
    refine bodyPost_ret (results_cc rfl _ _ gb101 gb102 41 41 #[.int .i64 x102000_1, .int .i64 x102001_1] #[.int .i64 x103000_1, .int .i64 x103001_1] (0, 0) (0, 0) _ _ rfl (blk_drew b1) Try.underlying41 rfl (by kernel_rfl) rfl (blk_drew b2) Try.underlying41 rfl (by kernel_rfl)) rfl ?_
    exact ⟨rfl, below_drew1 (below_set (below_set (below_set (below_set hb1 GE101.out) GE101.out) GE102.out) GE102.out)⟩
end Go.Proofs.Ythehmkpcddafnaa.PG
end
section
namespace Go.Proofs.Ythehmkpcddafnaa.PG
open Go.RowKit Go.Proofs.YthehmkpcddafnaaW.PrintWords Go.Proofs.YthehmkpcddafnaaW.PrintLast Go.Proofs.YthehmkpcddafnaaW.PrintMore
/-- is p to the left of the line from (x0, x1) to (y0, y1), as the code reckons -/
def leftOf (x0 x1 y0 y1 : Int) (p : S41) : Bool := decide (((shape_side.f x0 x1 y0 y1 p.f0 p.f1).getD 0) > 0)
set_option maxHeartbeats 2000000 in
set_option maxRecDepth 100000 in
theorem left_1 (x0 x1 y0 y1 : Int) (g1 g2 : Nat) (W : World) (p : S41) (h1 : W.heap[g1]? = some (.cells #[.int .i64 x0, .int .i64 x1] 41 (0, 0))) (h2 : W.heap[g2]? = some (.cells #[.int .i64 y0, .int .i64 y1] 41 (0, 0))) :
  Calls Try.prog 122 #[.agg #[.int .i64 p.f0, .int .i64 p.f1], .pointer (some ⟨g1, 0, none⟩), .pointer (some ⟨g2, 0, none⟩)] W fun e w' => e = .returned (.bool (leftOf x0 x1 y0 y1 p)) ∧ Below W.heap.size W w' := by
 have hu29 := Try.underlying41
 have n1 : g1 ≠ W.heap.size := Nat.ne_of_lt (blk_lt h1)
 have n2 : g2 ≠ W.heap.size := Nat.ne_of_lt (blk_lt h2)
 have a0 : W.cell? ⟨g1, 0, none⟩ = some (.int .i64 x0) := (blk_cell h1 0).trans rfl
 have a1 : W.cell? ⟨g1, 1, none⟩ = some (.int .i64 x1) := (blk_cell h1 1).trans rfl
 have b0 : W.cell? ⟨g2, 0, none⟩ = some (.int .i64 y0) := (blk_cell h2 0).trans rfl
 have b1 : W.cell? ⟨g2, 1, none⟩ = some (.int .i64 y1) := (blk_cell h2 1).trans rfl
 clear h1 h2
 unfold leftOf
 have hs : shape_side.f x0 x1 y0 y1 p.f0 p.f1 = some ((shape_side.f x0 x1 y0 y1 p.f0 p.f1).getD 0) := by unfold shape_side.f shape_sub.f shape_cross.f; rfl
 generalize (shape_side.f x0 x1 y0 y1 p.f0 p.f1).getD 0 = s at hs ⊢
 have HS := Aside0.mk hs
 clear hs
 generalize p.f0 = q0 at HS ⊢
 generalize p.f1 = q1 at HS ⊢
 have hB := below_alloc (Below.refl W.heap.size W) (.cells #[.int .i64 q0, .int .i64 q1] 41)
 replace a0 := (hB.cell (World.block_lt_of_cell? W _ a0)).trans a0
 replace a1 := (hB.cell (World.block_lt_of_cell? W _ a1)).trans a1
 replace b0 := (hB.cell (World.block_lt_of_cell? W _ b0)).trans b0
 replace b1 := (hB.cell (World.block_lt_of_cell? W _ b1)).trans b1
 clear hB
 go_enter Try.func122, Try.ntmps122
 go_wp2_with (go_at_call 98; refine (shape_side.calls x0 x1 y0 y1 q0 q1 s _ HS.out).mono ?_; rintro e w' ⟨rfl, hb'⟩)
 go_ret
 exact ⟨rfl, ((Below.refl _ W).alloc (Nat.le_refl _) _).trans (hb'.mono (by simp))⟩
def left_any.f (l0 : List (S41)) (x0 x1 y0 y1 : Int) : Option (Bool) := some (l0.any (leftOf x0 x1 y0 y1))
theorem left_any.calls (A0 : Option Addr) (c0 : Nat) (l0 : List (S41)) (x0 x1 y0 y1 : Int) (g1 g2 : Nat) (r : Bool) (w : World) (h1 : w.heap[g1]? = some (.cells #[.int .i64 x0, .int .i64 x1] 41 (0, 0))) (h2 : w.heap[g2]? = some (.cells #[.int .i64 y0, .int .i64 y1] 41 (0, 0)))
  (hr0 : Kd.C k41 w A0 l0.length l0) (_hc0 : l0.length ≤ c0) (h : left_any.f l0 x0 x1 y0 y1 = some r) :
  Calls Try.prog 109 #[.slice A0 l0.length c0, .func (.func 122) #[] #[.pointer (some ⟨g1, 0, none⟩), .pointer (some ⟨g2, 0, none⟩)]] w fun e w' => e = .returned (.bool r) ∧ Below w.heap.size w w' := by
 obtain rfl := Option.some.inj h
 exact ContainsFunc_any 122 #[.pointer (some ⟨g1, 0, none⟩), .pointer (some ⟨g2, 0, none⟩)] (leftOf x0 x1 y0 y1) (enters_of Try.func122 (by kernel_rfl) rfl) A0 c0 l0 w hr0
  (fun W x hb => (left_1 x0 x1 y0 y1 g1 g2 W x (blk_below h1 hb) (blk_below h2 hb)).mono fun e w' ⟨he, hb'⟩ => ⟨he, hb.trans (hb'.mono hb.size)⟩)
end Go.Proofs.Ythehmkpcddafnaa.PG
end
section
namespace Go.Proofs.Ythehmkpcddafnaa.PG
open Go.RowKit Go.Proofs.YthehmkpcddafnaaW.PrintWords Go.Proofs.YthehmkpcddafnaaW.PrintLast Go.Proofs.YthehmkpcddafnaaW.PrintMore
attribute [local go_sem] max2_int min2_int max_two min_two max_three min_three max_four min_four
set_option linter.unusedVariables false
set_option linter.unusedSimpArgs false
/-! ### shape_parted: function 112 -/
def shape_parted.l0 : Nat → List (S41) → List (S41) → Int → Int → Option (Bool)
 | 0, _, _, _, _ => none
 | k + 1, x0, x1, x9, x10 => if x10 < x9 then (if 0 ≤ x10 then (if x10 < (x0.length : Int) then (if (x0.length : Int) = 0 then (none) else (if 0 ≤ (Int.tmod (wrap64 (x10 + 1)) (x0.length : Int)) then (if (Int.tmod (wrap64 (x10 + 1)) (x0.length : Int)) < (x0.length : Int) then ((left_any.f x1 ((rd_T41 x0 x10).f0) ((rd_T41 x0 x10).f1) ((rd_T41 x0 (Int.tmod (wrap64 (x10 + 1)) (x0.length : Int))).f0) ((rd_T41 x0 (Int.tmod (wrap64 (x10 + 1)) (x0.length : Int))).f1)).bind fun t105 => (if t105 = true then (shape_parted.l0 k x0 x1 x9 (wrap64 (x10 + 1))) else (some true))) else (none)) else (none))) else (none)) else (none)) else (some false)
def shape_parted.f (k : Nat) (l0 : List (S41)) (l1 : List (S41)) : Option (Bool) := shape_parted.l0 k l0 l1 (l0.length : Int) 0
def shape_parted.T4 : Bool × List (List Nat × List Nat) := (true, [([], []), ([], []), ([0, 1], [0, 1]), ([2], [2]), ([], []), ([], []), ([5], [5]), ([], []), ([7], [7]), ([6, 8], [6, 8]), ([4, 9], [4, 9]), ([10], [10]), ([], []), ([], []), ([12, 3, 0, 1, 2, 3, 12, 13], [3, 12]), ([13, 11, 14, 0, 1, 2, 3, 4, 5, 6, 7, 8, 9, 10, 11, 12, 13, 14], [11, 13])])
def shape_parted.B4 : List Nat := [0, 0, 3, 7, 0, 0, 32, 0, 128, 480, 1008, 2032, 0, 0, 12303, 32767]
theorem shape_parted.tab4 : rtab .any (opsOf Try.f112 4) = shape_parted.T4 := by kernel_rfl
theorem shape_parted.bits4 : waitsOk shape_parted.T4.2 shape_parted.B4 = true := by kernel_rfl
set_option maxHeartbeats 8000000 in
set_option maxRecDepth 100000 in
theorem shape_parted.calls (k : Nat) (A0 : Option Addr) (c0 : Nat) (l0 : List (S41)) (A1 : Option Addr) (c1 : Nat) (l1 : List (S41)) (r : Bool) (w : World) (hr0 : Kd.C k41 w A0 l0.length l0) (hc0 : l0.length ≤ c0) (hr1 : Kd.C k41 w A1 l1.length l1) (hc1 : l1.length ≤ c1) (h : shape_parted.f k l0 l1 = some r) :
  Calls Try.prog 112 #[.slice A0 l0.length c0, .slice A1 l1.length c1] w fun e w' => e = .returned (.bool r) ∧ Below w.heap.size w w' := by
 have hu41 := Try.underlying41
 have HR0 := Aside0.mk hr0
 have HC0 := Aside0.mk hc0
 clear hr0 hc0
 have HR1 := Aside0.mk hr1
 have HC1 := Aside0.mk hc1
 clear hr1 hc1
 have HB := Aside0.mk (Below.refl w.heap.size w)
 have H : (shape_parted.l0 k l0 l1 (l0.length : Int) 0) = some r := h
 clear h
 have H' := Aside0.mk H
 clear H
 go_enter Try.func112, Try.ntmps112
 go_wp2
 go_loopg [10] k (fun kq v10 w' => ∃ (x10_1 : Int), v10 = .int .i64 x10_1 ∧ Aside0 (shape_parted.l0 kq l0 l1 (l0.length : Int) x10_1 = some r) ∧ Aside0 (kq ≤ k) ∧ Aside0 (Below w.heap.size w w'))
 case atStart => exact ⟨(0), sd, H', ⟨Nat.le_refl _⟩, ⟨bh⟩⟩
 case round =>
  clear H'
  (try clear c1)
  obtain ⟨x10_1, rfl, HA, HK1, HB⟩ := hrel
  cases gk with
  | zero => exact absurd HA.out (by simp [shape_parted.l0])
  | succ k1 =>
   have H := HA.out
   clear HA
   simp only [shape_parted.l0] at H
   by_cases c3 : x10_1 < (l0.length : Int)
   ·rw [if_pos c3] at H
    have c3b0 := decide_eq_true c3
    clear c3
    obtain ⟨c4, H⟩ := oi H
    have c4b0 := decide_eq_true c4
    clear c4
    obtain ⟨c5, H⟩ := oi H
    have c5b0 := decide_eq_true c5
    clear c5
    obtain ⟨c6, H⟩ := oj H
    have c6b0 : ((l0.length : Int) == 0) = false := beq_eq_false_iff_ne.mpr c6
    have c6b1 : ((l0.length : Int) != 0) = true := bne_iff_ne.mpr c6
    have c6b2 : ¬ (l0 = []) := fun h_ => c6 (by rw [h_]; rfl)
    obtain ⟨ji7, hji7⟩ : ∃ j_ : Int, (Int.tmod (wrap64 (x10_1 + 1)) (l0.length : Int)) = j_ := ⟨_, rfl⟩
    first | rw [hji7] at H | simp only [hji7] at H
    obtain ⟨c8, H⟩ := oi H
    have c8b0 := decide_eq_true c8
    clear c8
    obtain ⟨c9, H⟩ := oi H
    have c9b0 := decide_eq_true c9
    clear c9
    replace H := Option.bind_eq_some_iff.mp H
    obtain ⟨t105, A100, H⟩ := H
    try dsimp only at H
    have A10 := Aside0.mk A100
    clear A100
    by_cases c11 : t105 = true
    ·subst c11
     rw [if_pos rfl] at H
     have H' := Aside0.mk H
     clear H
     try go_wp2
     replace HB := Aside0.mk (below_drew1 HB.out)
     have p101 : 0 ≤ (x10_1 : Int) := dt
     have q101 : x10_1 < (l0.length : Int) := dt
     obtain ⟨ad101, e101, hx101_0, hx101_1⟩ := at_T41 HR0.out x10_1 p101 q101
     have hw101_1 := hx101_1
     have hw101_0 := hx101_0
     cases e101
     replace hx101_0 := hc HB hx101_0
     replace hx101_1 := hc HB hx101_1
     replace p101 := eq_true p101
     replace q101 := eq_true q101
     have p102 : 0 ≤ ((ji7) : Int) := dt
     have q102 : (ji7) < (l0.length : Int) := dt
     obtain ⟨ad102, e102, hx102_0, hx102_1⟩ := at_T41 HR0.out (ji7) p102 q102
     have hw102_1 := hx102_1
     have hw102_0 := hx102_0
     obtain rfl : ad101 = ad102 := (by injection e102)
     replace hx102_0 := hc HB hx102_0
     replace hx102_1 := hc HB hx102_1
     replace p102 := eq_true p102
     replace q102 := eq_true q102
     refine start_ (n := 16) (S := fun w' => w'.cell? (ad101.add ((x10_1).toNat * 2)) = some (.int .i64 ((rd_T41 l0 x10_1).f0)) ∧ w'.cell? ⟨(ad101.add ((x10_1).toNat * 2)).block, (ad101.add ((x10_1).toNat * 2)).off + 1, none⟩ = some (.int .i64 ((rd_T41 l0 x10_1).f1)) ∧ w'.cell? (ad101.add (((ji7)).toNat * 2)) = some (.int .i64 ((rd_T41 l0 (ji7)).f0)) ∧ w'.cell? ⟨(ad101.add (((ji7)).toNat * 2)).block, (ad101.add (((ji7)).toNat * 2)).off + 1, none⟩ = some (.int .i64 ((rd_T41 l0 (ji7)).f1))) (ds := []) #[N,N,N,N,N,N,N,N,N,N,N,N,N,N,N,N] (by kernel_rfl) rfl rfl ⟨(hc HB hw101_0), (hc HB hw101_1), (hc HB hw102_0), (hc HB hw102_1)⟩ (fun hHeld => ?_); refine with_tabW shape_parted.tab4 shape_parted.bits4 (fun HT_ HW_ => ?_)
     generalize wr.drew = w12 at HB hx101_0 hx101_1 hx102_0 hx102_1 hHeld ⊢
     refine pu 0 13 HT_ ?_
     refine pu 1 14 HT_ ?_
     refine pu 2 15 HT_ ?_
     refine pu 4 17 HT_ ?_
     refine pu 5 18 HT_ ?_
     refine pu 6 19 HT_ ?_
     refine pu 7 20 HT_ ?_
     refine pu 8 21 HT_ ?_
     refine pu 9 22 HT_ ?_
     refine pu 10 23 HT_ ?_
     refine tk4 3 16 hHeld HT_ HW_ ?_
     refine tk4 11 24 hHeld HT_ HW_ ?_
     refine join_ (σ := Nat × Nat) 2 #[T,T,T,T,T,T,T,T,T,T,T,T,T,T,N,N] (fun s_ => [(6, .pointer (some ⟨s_.1, 0, none⟩)), (7, .pointer (some ⟨s_.2, 0, none⟩))]) (fun s_ w' => (w'.cell? (ad101.add ((x10_1).toNat * 2)) = some (.int .i64 ((rd_T41 l0 x10_1).f0)) ∧ w'.cell? ⟨(ad101.add ((x10_1).toNat * 2)).block, (ad101.add ((x10_1).toNat * 2)).off + 1, none⟩ = some (.int .i64 ((rd_T41 l0 x10_1).f1)) ∧ w'.cell? (ad101.add (((ji7)).toNat * 2)) = some (.int .i64 ((rd_T41 l0 (ji7)).f0)) ∧ w'.cell? ⟨(ad101.add (((ji7)).toNat * 2)).block, (ad101.add (((ji7)).toNat * 2)).off + 1, none⟩ = some (.int .i64 ((rd_T41 l0 (ji7)).f1))) ∧ (w'.heap[s_.1]? = some (.cells #[.int .i64 0, .int .i64 0] 41 (0, 0))) ∧ (w'.heap[s_.2]? = some (.cells #[.int .i64 0, .int .i64 0] 41 (0, 0))) ∧ (w.heap.size ≤ s_.1) ∧ (w.heap.size ≤ s_.1) ∧ (s_.2 ≠ s_.1) ∧ (s_.1 ≠ s_.2) ∧ (w.heap.size ≤ s_.2) ∧ (w.heap.size ≤ s_.2) ∧ (Below w.heap.size w w')) ?_ ?_
     rotate_left
     ·intro hCont
      refine two_ (i := 12) (j := 13) (Ni := some 6) (Nj := some 7) #[T,T,T,T,T,T,T,T,T,T,T,T,T,N,N,N] #[T,T,T,T,T,T,T,T,T,T,T,T,N,T,N,N] rfl rfl rfl rfl (on2 HT_) (by decide) (by decide) (fun K hK => ?_) (fun K hK => ?_)
      ·skip
       refine bxs 6 #[.int .i64 0, .int .i64 0] 41 ?_
       intro gb103 hg w13 hbox hb
       have BK103 := Aside0.mk (hbox)
       have GW103 := ga w hg
       have GE103 := GW103
       replace HB := bz hb
       clear hb hbox hg
       refine hK.out _ _ ⟨(hc HB hw101_0), (hc HB hw101_1), (hc HB hw102_0), (hc HB hw102_1)⟩ (fun hHeld => ?_)
       clear hK K
       refine nm 6 ?_
       refine one_ (i := 13) (N := some 7) #[T,T,T,T,T,T,T,T,T,T,T,T,T,T,N,N] rfl rfl (on1 HT_) (by decide) (fun K hK => ?_)
       refine bxs 7 #[.int .i64 0, .int .i64 0] 41 ?_
       intro gb104 hg w14 hbox hb
       have BK104 := Aside0.mk (hbox)
       have GW104 := ga w hg
       have GE104 := GW104
       have NB103_104 := nb hg (kl BK103)
       have NB104_103 := bn NB103_104
       replace BK103 := kb BK103 hb
       replace HB := bz hb
       clear hb hbox hg
       refine hK.out _ _ ⟨(hc HB hw101_0), (hc HB hw101_1), (hc HB hw102_0), (hc HB hw102_1)⟩ (fun hHeld => ?_)
       clear hK K
       refine nm 7 ?_
       exact norm_ pa (hCont (gb103, gb104) _ ⟨hHeld, bk BK103, bk BK104, GW103.out, GE103.out, NB104_103.out, NB103_104.out, GW104.out, GE104.out, bh⟩)
      ·skip
       refine bxs 7 #[.int .i64 0, .int .i64 0] 41 ?_
       intro gb104 hg w13 hbox hb
       have BK104 := Aside0.mk (hbox)
       have GW104 := ga w hg
       have GE104 := GW104
       replace HB := bz hb
       clear hb hbox hg
       refine hK.out _ _ ⟨(hc HB hw101_0), (hc HB hw101_1), (hc HB hw102_0), (hc HB hw102_1)⟩ (fun hHeld => ?_)
       clear hK K
       refine nm 7 ?_
       refine one_ (i := 12) (N := some 6) #[T,T,T,T,T,T,T,T,T,T,T,T,T,T,N,N] rfl rfl (on1 HT_) (by decide) (fun K hK => ?_)
       refine bxs 6 #[.int .i64 0, .int .i64 0] 41 ?_
       intro gb103 hg w14 hbox hb
       have BK103 := Aside0.mk (hbox)
       have GW103 := ga w hg
       have GE103 := GW103
       have NB104_103 := nb hg (kl BK104)
       have NB103_104 := bn NB104_103
       replace BK104 := kb BK104 hb
       replace HB := bz hb
       clear hb hbox hg
       refine hK.out _ _ ⟨(hc HB hw101_0), (hc HB hw101_1), (hc HB hw102_0), (hc HB hw102_1)⟩ (fun hHeld => ?_)
       clear hK K
       refine nm 6 ?_
       exact norm_ pa (hCont (gb103, gb104) _ ⟨hHeld, bk BK103, bk BK104, GW103.out, GE103.out, NB104_103.out, NB103_104.out, GW104.out, GE104.out, bh⟩)
     rintro ⟨gb103, gb104⟩ w15 ⟨hS_, h0_, h1_, h2_, h3_, h4_, h5_, h6_, h7_, h8_⟩
     have BK103 := Aside0.mk h0_
     have BK104 := Aside0.mk h1_
     have GW103 := Aside0.mk h2_
     have GE103 := Aside0.mk h3_
     have NB104_103 := Aside0.mk h4_
     have NB103_104 := Aside0.mk h5_
     have GW104 := Aside0.mk h6_
     have GE104 := Aside0.mk h7_
     replace HB := Aside0.mk h8_
     clear h0_ h1_ h2_ h3_ h4_ h5_ h6_ h7_ h8_
     have hHeld := hS_
     refine nn ?_
     refine one_ (i := 14) (N := none) #[T,T,T,T,T,T,T,T,T,T,T,T,T,T,T,N] rfl rfl (on1 HT_) (by decide) (fun K hK => ?_)
     have hs16 : w15.cell? ⟨gb103, 0, none⟩ = some (.int .i64 0) := bc BK103 0
     have hfs16 := blk_frozen BK103.out 0
     have hns16_1 := NB104_103.out
     have hms16_1 := NB103_104.out
     have hs17 : w15.cell? ⟨gb103, 1, none⟩ = some (.int .i64 0) := bc BK103 1
     have hfs17 := blk_frozen BK103.out 1
     have hns17_1 := NB104_103.out
     have hms17_1 := NB103_104.out
     refine skip_ (w1 := ?_) (by rfl) rfl ?_ ?_
     rotate_left
     ·go_simp
      rfl
     refine hK.out _ _ ⟨((cell_far (p := ⟨gb103, _, none⟩) (fr hw101_0 GW103) _).trans (((cell_far (p := ⟨gb103, _, none⟩) (fr hw101_0 GW103) _).trans (hHeld.1)))), ((cell_far (p := ⟨gb103, _, none⟩) (fr hw101_1 GW103) _).trans (((cell_far (p := ⟨gb103, _, none⟩) (fr hw101_1 GW103) _).trans (hHeld.2.1)))), ((cell_far (p := ⟨gb103, _, none⟩) (fr hw102_0 GW103) _).trans (((cell_far (p := ⟨gb103, _, none⟩) (fr hw102_0 GW103) _).trans (hHeld.2.2.1)))), ((cell_far (p := ⟨gb103, _, none⟩) (fr hw102_1 GW103) _).trans (((cell_far (p := ⟨gb103, _, none⟩) (fr hw102_1 GW103) _).trans (hHeld.2.2.2))))⟩ (fun hHeld => ?_)
     clear hK K
     refine one_ (i := 15) (N := none) #[T,T,T,T,T,T,T,T,T,T,T,T,T,T,T,T] rfl rfl (on1 HT_) (by decide) (fun K hK => ?_)
     have hs18 : w15.cell? ⟨gb104, 0, none⟩ = some (.int .i64 0) := bc BK104 0
     have hfs18 := blk_frozen BK104.out 0
     have hns18_0 := NB103_104.out
     have hms18_0 := NB104_103.out
     have hs19 : w15.cell? ⟨gb104, 1, none⟩ = some (.int .i64 0) := bc BK104 1
     have hfs19 := blk_frozen BK104.out 1
     have hns19_0 := NB103_104.out
     have hms19_0 := NB104_103.out
     refine skip_ (w1 := ?_) (by rfl) rfl ?_ ?_
     rotate_left
     ·go_simp
      rfl
     refine hK.out _ _ ⟨((cell_far (p := ⟨gb104, _, none⟩) (fr hw101_0 GW104) _).trans (((cell_far (p := ⟨gb104, _, none⟩) (fr hw101_0 GW104) _).trans (hHeld.1)))), ((cell_far (p := ⟨gb104, _, none⟩) (fr hw101_1 GW104) _).trans (((cell_far (p := ⟨gb104, _, none⟩) (fr hw101_1 GW104) _).trans (hHeld.2.1)))), ((cell_far (p := ⟨gb104, _, none⟩) (fr hw102_0 GW104) _).trans (((cell_far (p := ⟨gb104, _, none⟩) (fr hw102_0 GW104) _).trans (hHeld.2.2.1)))), ((cell_far (p := ⟨gb104, _, none⟩) (fr hw102_1 GW104) _).trans (((cell_far (p := ⟨gb104, _, none⟩) (fr hw102_1 GW104) _).trans (hHeld.2.2.2))))⟩ (fun hHeld => ?_)
     clear hK K
     refine done_ (done_of HT_.out (by kernel_rfl)) ?_
     try go_wp2_with (first | ((with_reducible refine gc 109 rfl ?_); refine goesL_ (some 27) rfl rfl Try.func109 (by kernel_rfl) rfl #[.slice A1 l1.length c1, .func (.func 122) #[] #[.pointer (some ⟨gb103, 0, none⟩), .pointer (some ⟨gb104, 0, none⟩)]] rfl sg ?_; (with_reducible refine (left_any.calls _ _ l1 ((rd_T41 l0 x10_1).f0) ((rd_T41 l0 x10_1).f1) ((rd_T41 l0 (ji7)).f0) ((rd_T41 l0 (ji7)).f1) gb103 gb104 true _ (by refine bf NB103_104 ?_; refine bf NB103_104 ?_; refine bd ?_; refine blk_put (cs := #[.int .i64 ((rd_T41 l0 x10_1).f0), .int .i64 0]) ?_ 1 _ rfl; refine bd ?_; refine blk_put (cs := #[.int .i64 0, .int .i64 0]) ?_ 0 _ rfl; refine bd ?_; exact BK103.out) (by refine bd ?_; refine blk_put (cs := #[.int .i64 ((rd_T41 l0 (ji7)).f0), .int .i64 0]) ?_ 1 _ rfl; refine bd ?_; refine blk_put (cs := #[.int .i64 0, .int .i64 0]) ?_ 0 _ rfl; refine bf NB104_103 ?_; refine bf NB104_103 ?_; refine bd ?_; exact BK104.out) ?side1 ?side2 A10.out).mono ?_); (case side1 => exact Kd.C_below HR1.out bh); (case side2 => exact HC1.out); rintro e w20 ⟨rfl, hb⟩; refine ⟨_, rfl, ?_⟩; replace BK103 := Aside0.mk (blk_below (g := gb103) (o := .cells #[.int .i64 ((rd_T41 l0 x10_1).f0), .int .i64 ((rd_T41 l0 x10_1).f1)] 41 (0, 0)) (by refine bf NB103_104 ?_; refine bf NB103_104 ?_; refine bd ?_; refine blk_put (cs := #[.int .i64 ((rd_T41 l0 x10_1).f0), .int .i64 0]) ?_ 1 _ rfl; refine bd ?_; refine blk_put (cs := #[.int .i64 0, .int .i64 0]) ?_ 0 _ rfl; refine bd ?_; exact BK103.out) hb); replace BK104 := Aside0.mk (blk_below (g := gb104) (o := .cells #[.int .i64 ((rd_T41 l0 (ji7)).f0), .int .i64 ((rd_T41 l0 (ji7)).f1)] 41 (0, 0)) (by refine bd ?_; refine blk_put (cs := #[.int .i64 ((rd_T41 l0 (ji7)).f0), .int .i64 0]) ?_ 1 _ rfl; refine bd ?_; refine blk_put (cs := #[.int .i64 0, .int .i64 0]) ?_ 0 _ rfl; refine bf NB104_103 ?_; refine bf NB104_103 ?_; refine bd ?_; exact BK104.out) hb); replace HB := bz hb; (try clear hb)))
     go_roundg k1
     case measure => have := HK1.out; omega
     case rel => exact ⟨(wrap64 (x10_1 + 1)), sd, H', ⟨by have := HK1.out; omega⟩, ⟨bh⟩⟩
    ·replace c11 := Bool.eq_false_iff.mpr c11
     subst c11
     rw [if_neg (show ¬ (false = true) by decide)] at H
     obtain rfl := Option.some.inj H
     try go_wp2
     replace HB := Aside0.mk (below_drew1 HB.out)
     have p101 : 0 ≤ (x10_1 : Int) := dt
     have q101 : x10_1 < (l0.length : Int) := dt
     obtain ⟨ad101, e101, hx101_0, hx101_1⟩ := at_T41 HR0.out x10_1 p101 q101
     have hw101_1 := hx101_1
     have hw101_0 := hx101_0
     cases e101
     replace hx101_0 := hc HB hx101_0
     replace hx101_1 := hc HB hx101_1
     replace p101 := eq_true p101
     replace q101 := eq_true q101
     have p102 : 0 ≤ ((ji7) : Int) := dt
     have q102 : (ji7) < (l0.length : Int) := dt
     obtain ⟨ad102, e102, hx102_0, hx102_1⟩ := at_T41 HR0.out (ji7) p102 q102
     have hw102_1 := hx102_1
     have hw102_0 := hx102_0
     obtain rfl : ad101 = ad102 := (by injection e102)
     replace hx102_0 := hc HB hx102_0
     replace hx102_1 := hc HB hx102_1
     replace p102 := eq_true p102
     replace q102 := eq_true q102
     refine start_ (n := 16) (S := fun w' => w'.cell? (ad101.add ((x10_1).toNat * 2)) = some (.int .i64 ((rd_T41 l0 x10_1).f0)) ∧ w'.cell? ⟨(ad101.add ((x10_1).toNat * 2)).block, (ad101.add ((x10_1).toNat * 2)).off + 1, none⟩ = some (.int .i64 ((rd_T41 l0 x10_1).f1)) ∧ w'.cell? (ad101.add (((ji7)).toNat * 2)) = some (.int .i64 ((rd_T41 l0 (ji7)).f0)) ∧ w'.cell? ⟨(ad101.add (((ji7)).toNat * 2)).block, (ad101.add (((ji7)).toNat * 2)).off + 1, none⟩ = some (.int .i64 ((rd_T41 l0 (ji7)).f1))) (ds := []) #[N,N,N,N,N,N,N,N,N,N,N,N,N,N,N,N] (by kernel_rfl) rfl rfl ⟨(hc HB hw101_0), (hc HB hw101_1), (hc HB hw102_0), (hc HB hw102_1)⟩ (fun hHeld => ?_); refine with_tabW shape_parted.tab4 shape_parted.bits4 (fun HT_ HW_ => ?_)
     generalize wr.drew = w21 at HB hx101_0 hx101_1 hx102_0 hx102_1 hHeld ⊢
     refine pu 0 13 HT_ ?_
     refine pu 1 14 HT_ ?_
     refine pu 2 15 HT_ ?_
     refine pu 4 17 HT_ ?_
     refine pu 5 18 HT_ ?_
     refine pu 6 19 HT_ ?_
     refine pu 7 20 HT_ ?_
     refine pu 8 21 HT_ ?_
     refine pu 9 22 HT_ ?_
     refine pu 10 23 HT_ ?_
     refine tk4 3 16 hHeld HT_ HW_ ?_
     refine tk4 11 24 hHeld HT_ HW_ ?_
     refine join_ (σ := Nat × Nat) 2 #[T,T,T,T,T,T,T,T,T,T,T,T,T,T,N,N] (fun s_ => [(6, .pointer (some ⟨s_.1, 0, none⟩)), (7, .pointer (some ⟨s_.2, 0, none⟩))]) (fun s_ w' => (w'.cell? (ad101.add ((x10_1).toNat * 2)) = some (.int .i64 ((rd_T41 l0 x10_1).f0)) ∧ w'.cell? ⟨(ad101.add ((x10_1).toNat * 2)).block, (ad101.add ((x10_1).toNat * 2)).off + 1, none⟩ = some (.int .i64 ((rd_T41 l0 x10_1).f1)) ∧ w'.cell? (ad101.add (((ji7)).toNat * 2)) = some (.int .i64 ((rd_T41 l0 (ji7)).f0)) ∧ w'.cell? ⟨(ad101.add (((ji7)).toNat * 2)).block, (ad101.add (((ji7)).toNat * 2)).off + 1, none⟩ = some (.int .i64 ((rd_T41 l0 (ji7)).f1))) ∧ (w'.heap[s_.1]? = some (.cells #[.int .i64 0, .int .i64 0] 41 (0, 0))) ∧ (w'.heap[s_.2]? = some (.cells #[.int .i64 0, .int .i64 0] 41 (0, 0))) ∧ (w.heap.size ≤ s_.1) ∧ (w.heap.size ≤ s_.1) ∧ (s_.2 ≠ s_.1) ∧ (s_.1 ≠ s_.2) ∧ (w.heap.size ≤ s_.2) ∧ (w.heap.size ≤ s_.2) ∧ (Below w.heap.size w w')) ?_ ?_
     rotate_left
     ·intro hCont
      refine two_ (i := 12) (j := 13) (Ni := some 6) (Nj := some 7) #[T,T,T,T,T,T,T,T,T,T,T,T,T,N,N,N] #[T,T,T,T,T,T,T,T,T,T,T,T,N,T,N,N] rfl rfl rfl rfl (on2 HT_) (by decide) (by decide) (fun K hK => ?_) (fun K hK => ?_)
      ·skip
       refine bxs 6 #[.int .i64 0, .int .i64 0] 41 ?_
       intro gb103 hg w22 hbox hb
       have BK103 := Aside0.mk (hbox)
       have GW103 := ga w hg
       have GE103 := GW103
       replace HB := bz hb
       clear hb hbox hg
       refine hK.out _ _ ⟨(hc HB hw101_0), (hc HB hw101_1), (hc HB hw102_0), (hc HB hw102_1)⟩ (fun hHeld => ?_)
       clear hK K
       refine nm 6 ?_
       refine one_ (i := 13) (N := some 7) #[T,T,T,T,T,T,T,T,T,T,T,T,T,T,N,N] rfl rfl (on1 HT_) (by decide) (fun K hK => ?_)
       refine bxs 7 #[.int .i64 0, .int .i64 0] 41 ?_
       intro gb104 hg w23 hbox hb
       have BK104 := Aside0.mk (hbox)
       have GW104 := ga w hg
       have GE104 := GW104
       have NB103_104 := nb hg (kl BK103)
       have NB104_103 := bn NB103_104
       replace BK103 := kb BK103 hb
       replace HB := bz hb
       clear hb hbox hg
       refine hK.out _ _ ⟨(hc HB hw101_0), (hc HB hw101_1), (hc HB hw102_0), (hc HB hw102_1)⟩ (fun hHeld => ?_)
       clear hK K
       refine nm 7 ?_
       exact norm_ pa (hCont (gb103, gb104) _ ⟨hHeld, bk BK103, bk BK104, GW103.out, GE103.out, NB104_103.out, NB103_104.out, GW104.out, GE104.out, bh⟩)
      ·skip
       refine bxs 7 #[.int .i64 0, .int .i64 0] 41 ?_
       intro gb104 hg w22 hbox hb
       have BK104 := Aside0.mk (hbox)
       have GW104 := ga w hg
       have GE104 := GW104
       replace HB := bz hb
       clear hb hbox hg
       refine hK.out _ _ ⟨(hc HB hw101_0), (hc HB hw101_1), (hc HB hw102_0), (hc HB hw102_1)⟩ (fun hHeld => ?_)
       clear hK K
       refine nm 7 ?_
       refine one_ (i := 12) (N := some 6) #[T,T,T,T,T,T,T,T,T,T,T,T,T,T,N,N] rfl rfl (on1 HT_) (by decide) (fun K hK => ?_)
       refine bxs 6 #[.int .i64 0, .int .i64 0] 41 ?_
       intro gb103 hg w23 hbox hb
       have BK103 := Aside0.mk (hbox)
       have GW103 := ga w hg
       have GE103 := GW103
       have NB104_103 := nb hg (kl BK104)
       have NB103_104 := bn NB104_103
       replace BK104 := kb BK104 hb
       replace HB := bz hb
       clear hb hbox hg
       refine hK.out _ _ ⟨(hc HB hw101_0), (hc HB hw101_1), (hc HB hw102_0), (hc HB hw102_1)⟩ (fun hHeld => ?_)
       clear hK K
       refine nm 6 ?_
       exact norm_ pa (hCont (gb103, gb104) _ ⟨hHeld, bk BK103, bk BK104, GW103.out, GE103.out, NB104_103.out, NB103_104.out, GW104.out, GE104.out, bh⟩)
     rintro ⟨gb103, gb104⟩ w24 ⟨hS_, h0_, h1_, h2_, h3_, h4_, h5_, h6_, h7_, h8_⟩
     have BK103 := Aside0.mk h0_
     have BK104 := Aside0.mk h1_
     have GW103 := Aside0.mk h2_
     have GE103 := Aside0.mk h3_
     have NB104_103 := Aside0.mk h4_
     have NB103_104 := Aside0.mk h5_
     have GW104 := Aside0.mk h6_
     have GE104 := Aside0.mk h7_
     replace HB := Aside0.mk h8_
     clear h0_ h1_ h2_ h3_ h4_ h5_ h6_ h7_ h8_
     have hHeld := hS_
     refine nn ?_
     refine one_ (i := 14) (N := none) #[T,T,T,T,T,T,T,T,T,T,T,T,T,T,T,N] rfl rfl (on1 HT_) (by decide) (fun K hK => ?_)
     have hs25 : w24.cell? ⟨gb103, 0, none⟩ = some (.int .i64 0) := bc BK103 0
     have hfs25 := blk_frozen BK103.out 0
     have hns25_1 := NB104_103.out
     have hms25_1 := NB103_104.out
     have hs26 : w24.cell? ⟨gb103, 1, none⟩ = some (.int .i64 0) := bc BK103 1
     have hfs26 := blk_frozen BK103.out 1
     have hns26_1 := NB104_103.out
     have hms26_1 := NB103_104.out
     refine skip_ (w1 := ?_) (by rfl) rfl ?_ ?_
     rotate_left
     ·go_simp
      rfl
     refine hK.out _ _ ⟨((cell_far (p := ⟨gb103, _, none⟩) (fr hw101_0 GW103) _).trans (((cell_far (p := ⟨gb103, _, none⟩) (fr hw101_0 GW103) _).trans (hHeld.1)))), ((cell_far (p := ⟨gb103, _, none⟩) (fr hw101_1 GW103) _).trans (((cell_far (p := ⟨gb103, _, none⟩) (fr hw101_1 GW103) _).trans (hHeld.2.1)))), ((cell_far (p := ⟨gb103, _, none⟩) (fr hw102_0 GW103) _).trans (((cell_far (p := ⟨gb103, _, none⟩) (fr hw102_0 GW103) _).trans (hHeld.2.2.1)))), ((cell_far (p := ⟨gb103, _, none⟩) (fr hw102_1 GW103) _).trans (((cell_far (p := ⟨gb103, _, none⟩) (fr hw102_1 GW103) _).trans (hHeld.2.2.2))))⟩ (fun hHeld => ?_)
     clear hK K
     refine one_ (i := 15) (N := none) #[T,T,T,T,T,T,T,T,T,T,T,T,T,T,T,T] rfl rfl (on1 HT_) (by decide) (fun K hK => ?_)
     have hs27 : w24.cell? ⟨gb104, 0, none⟩ = some (.int .i64 0) := bc BK104 0
     have hfs27 := blk_frozen BK104.out 0
     have hns27_0 := NB103_104.out
     have hms27_0 := NB104_103.out
     have hs28 : w24.cell? ⟨gb104, 1, none⟩ = some (.int .i64 0) := bc BK104 1
     have hfs28 := blk_frozen BK104.out 1
     have hns28_0 := NB103_104.out
     have hms28_0 := NB104_103.out
     refine skip_ (w1 := ?_) (by rfl) rfl ?_ ?_
     rotate_left
     ·go_simp
      rfl
     refine hK.out _ _ ⟨((cell_far (p := ⟨gb104, _, none⟩) (fr hw101_0 GW104) _).trans (((cell_far (p := ⟨gb104, _, none⟩) (fr hw101_0 GW104) _).trans (hHeld.1)))), ((cell_far (p := ⟨gb104, _, none⟩) (fr hw101_1 GW104) _).trans (((cell_far (p := ⟨gb104, _, none⟩) (fr hw101_1 GW104) _).trans (hHeld.2.1)))), ((cell_far (p := ⟨gb104, _, none⟩) (fr hw102_0 GW104) _).trans (((cell_far (p := ⟨gb104, _, none⟩) (fr hw102_0 GW104) _).trans (hHeld.2.2.1)))), ((cell_far (p := ⟨gb104, _, none⟩) (fr hw102_1 GW104) _).trans (((cell_far (p := ⟨gb104, _, none⟩) (fr hw102_1 GW104) _).trans (hHeld.2.2.2))))⟩ (fun hHeld => ?_)
     clear hK K
     refine done_ (done_of HT_.out (by kernel_rfl)) ?_
     try go_wp2_with (first | ((with_reducible refine gc 109 rfl ?_); refine goesL_ (some 27) rfl rfl Try.func109 (by kernel_rfl) rfl #[.slice A1 l1.length c1, .func (.func 122) #[] #[.pointer (some ⟨gb103, 0, none⟩), .pointer (some ⟨gb104, 0, none⟩)]] rfl sg ?_; (with_reducible refine (left_any.calls _ _ l1 ((rd_T41 l0 x10_1).f0) ((rd_T41 l0 x10_1).f1) ((rd_T41 l0 (ji7)).f0) ((rd_T41 l0 (ji7)).f1) gb103 gb104 false _ (by refine bf NB103_104 ?_; refine bf NB103_104 ?_; refine bd ?_; refine blk_put (cs := #[.int .i64 ((rd_T41 l0 x10_1).f0), .int .i64 0]) ?_ 1 _ rfl; refine bd ?_; refine blk_put (cs := #[.int .i64 0, .int .i64 0]) ?_ 0 _ rfl; refine bd ?_; exact BK103.out) (by refine bd ?_; refine blk_put (cs := #[.int .i64 ((rd_T41 l0 (ji7)).f0), .int .i64 0]) ?_ 1 _ rfl; refine bd ?_; refine blk_put (cs := #[.int .i64 0, .int .i64 0]) ?_ 0 _ rfl; refine bf NB104_103 ?_; refine bf NB104_103 ?_; refine bd ?_; exact BK104.out) ?side1 ?side2 A10.out).mono ?_); (case side1 => exact Kd.C_below HR1.out bh); (case side2 => exact HC1.out); rintro e w29 ⟨rfl, hb⟩; refine ⟨_, rfl, ?_⟩; replace BK103 := Aside0.mk (blk_below (g := gb103) (o := .cells #[.int .i64 ((rd_T41 l0 x10_1).f0), .int .i64 ((rd_T41 l0 x10_1).f1)] 41 (0, 0)) (by refine bf NB103_104 ?_; refine bf NB103_104 ?_; refine bd ?_; refine blk_put (cs := #[.int .i64 ((rd_T41 l0 x10_1).f0), .int .i64 0]) ?_ 1 _ rfl; refine bd ?_; refine blk_put (cs := #[.int .i64 0, .int .i64 0]) ?_ 0 _ rfl; refine bd ?_; exact BK103.out) hb); replace BK104 := Aside0.mk (blk_below (g := gb104) (o := .cells #[.int .i64 ((rd_T41 l0 (ji7)).f0), .int .i64 ((rd_T41 l0 (ji7)).f1)] 41 (0, 0)) (by refine bd ?_; refine blk_put (cs := #[.int .i64 ((rd_T41 l0 (ji7)).f0), .int .i64 0]) ?_ 1 _ rfl; refine bd ?_; refine blk_put (cs := #[.int .i64 0, .int .i64 0]) ?_ 0 _ rfl; refine bf NB104_103 ?_; refine bf NB104_103 ?_; refine bd ?_; exact BK104.out) hb); replace HB := bz hb; (try clear hb)))
     go_ret
     exact ⟨by first | rfl | (simp [errW_none, errW_some] <;> rfl) | (simp only [← hji7]; first | rfl | (simp [errW_none, errW_some] <;> rfl)) | (simp [*, errW_none, errW_some] <;> rfl), bh⟩
   ·rw [if_neg c3] at H
    have c3b0 := decide_eq_false c3
    clear c3
    obtain rfl := Option.some.inj H
    go_wp2
    go_ret
    exact ⟨by exact er, bh⟩
/-! ### shape_apart: function 78 -/
def shape_apart.f (k : Nat) (l0 : List (S41)) (l1 : List (S41)) : Option (Bool) := (shape_parted.f k l0 l1).bind fun t101 => (if t101 = true then (some true) else ((shape_parted.f k l1 l0).bind fun t102 => (some t102)))
set_option maxHeartbeats 8000000 in
set_option maxRecDepth 100000 in
theorem shape_apart.calls (k : Nat) (A0 : Option Addr) (c0 : Nat) (l0 : List (S41)) (A1 : Option Addr) (c1 : Nat) (l1 : List (S41)) (r : Bool) (w : World) (hr0 : Kd.C k41 w A0 l0.length l0) (hc0 : l0.length ≤ c0) (hr1 : Kd.C k41 w A1 l1.length l1) (hc1 : l1.length ≤ c1) (h : shape_apart.f k l0 l1 = some r) :
  Calls Try.prog 78 #[.slice A0 l0.length c0, .slice A1 l1.length c1] w fun e w' => e = .returned (.bool r) ∧ Below w.heap.size w w' := by
 have HR0 := Aside0.mk hr0
 have HC0 := Aside0.mk hc0
 clear hr0 hc0
 have HR1 := Aside0.mk hr1
 have HC1 := Aside0.mk hc1
 clear hr1 hc1
 have HB := Aside0.mk (Below.refl w.heap.size w)
 have H : ((shape_parted.f k l0 l1).bind fun t101 => (if t101 = true then (some true) else ((shape_parted.f k l1 l0).bind fun t102 => (some t102)))) = some r := h
 clear h
 replace H := Option.bind_eq_some_iff.mp H
 obtain ⟨t101, A30, H⟩ := H
 try dsimp only at H
 have A3 := Aside0.mk A30
 clear A30
 by_cases c4 : t101 = true
 ·subst c4
  rw [if_pos rfl] at H
  obtain rfl := Option.some.inj H
  go_enter Try.func78, Try.ntmps78
  go_wp2_with (first | ((with_reducible refine gc 112 rfl ?_); refine goesL_ (some 7) rfl rfl Try.func112 (by kernel_rfl) rfl #[.slice A0 l0.length c0, .slice A1 l1.length c1] rfl sg ?_; (with_reducible refine (shape_parted.calls k _ _ l0 _ _ l1 true _ ?side1 ?side2 ?side3 ?side4 A3.out).mono ?_); (case side1 => exact cs HR0.out); (case side2 => exact HC0.out); (case side3 => exact cs HR1.out); (case side4 => exact HC1.out); rintro e w5 ⟨rfl, hb⟩; refine ⟨_, rfl, ?_⟩; replace HB := bz hb; (try clear hb)))
  go_ret
  exact ⟨by exact er, bh⟩
 ·replace c4 := Bool.eq_false_iff.mpr c4
  subst c4
  rw [if_neg (show ¬ (false = true) by decide)] at H
  replace H := Option.bind_eq_some_iff.mp H
  obtain ⟨t102, A60, H⟩ := H
  try dsimp only at H
  have A6 := Aside0.mk A60
  clear A60
  obtain rfl := Option.some.inj H
  go_enter Try.func78, Try.ntmps78
  go_wp2_with (first | ((with_reducible refine gc 112 rfl ?_); refine goesL_ (some 7) rfl rfl Try.func112 (by kernel_rfl) rfl #[.slice A0 l0.length c0, .slice A1 l1.length c1] rfl sg ?_; (with_reducible refine (shape_parted.calls k _ _ l0 _ _ l1 false _ ?side1 ?side2 ?side3 ?side4 A3.out).mono ?_); (case side1 => exact cs HR0.out); (case side2 => exact HC0.out); (case side3 => exact cs HR1.out); (case side4 => exact HC1.out); rintro e w7 ⟨rfl, hb⟩; refine ⟨_, rfl, ?_⟩; replace HB := bz hb; (try clear hb)) | (go_at_call 112; (with_reducible refine (shape_parted.calls k _ _ l1 _ _ l0 t102 _ ?side1 ?side2 ?side3 ?side4 A6.out).mono ?_); (case side1 => exact cs (Kd.C_below HR1.out HB.out)); (case side2 => exact HC1.out); (case side3 => exact cs (Kd.C_below HR0.out HB.out)); (case side4 => exact HC0.out); rintro e w8 ⟨rfl, hb⟩; replace HB := bz hb; (try clear hb)))
  go_ret
  exact ⟨by exact er, bh⟩
/-! ### shape_sheet_free: function 102 -/
mutual
def shape_sheet_free.l0 : Nat → List (S41) → List (List (S41)) → Int → Int → Int → Int → Int → Int → Option (Bool)
 | 0, _, _, _, _, _, _, _, _ => none
 | k + 1, x1, x19, x20, x21, x106000, x106001, x107000, x107001 => if x21 < x20 then (if 0 ≤ x21 then (if x21 < (x19.length : Int) then ((shape_corners.f k (rd_L2 x19 x21)).bind fun bt108 => (if x106000 < bt108.2.2.1 then (if bt108.1 < x107000 then (if x106001 < bt108.2.2.2 then (if bt108.2.1 < x107001 then ((shape_apart.f k x1 (rd_L2 x19 x21)).bind fun t114 => (shape_sheet_free.j1 k x1 x19 x20 x21 (!t114) x106000 x106001 x107000 x107001)) else (shape_sheet_free.j1 k x1 x19 x20 x21 false x106000 x106001 x107000 x107001)) else (shape_sheet_free.j1 k x1 x19 x20 x21 false x106000 x106001 x107000 x107001)) else (shape_sheet_free.j1 k x1 x19 x20 x21 false x106000 x106001 x107000 x107001)) else (shape_sheet_free.j1 k x1 x19 x20 x21 false x106000 x106001 x107000 x107001))) else (none)) else (none)) else (some true)
def shape_sheet_free.j1 : Nat → List (S41) → List (List (S41)) → Int → Int → Bool → Int → Int → Int → Int → Option (Bool)
 | 0, _, _, _, _, _, _, _, _, _ => none
 | k + 1, x1, x19, x20, x21, x61, x106000, x106001, x107000, x107001 => if x61 = true then (some false) else (shape_sheet_free.l0 k x1 x19 x20 (wrap64 (x21 + 1)) x106000 x106001 x107000 x107001)
end
def shape_sheet_free.f (k : Nat) (l0 : List (List (S41))) (l1 : List (S41)) : Option (Bool) := (shape_corners.f k l1).bind fun bt101 => (shape_sheet_free.l0 k l1 l0 (l0.length : Int) 0 bt101.1 bt101.2.1 bt101.2.2.1 bt101.2.2.2)
set_option maxHeartbeats 8000000 in
set_option maxRecDepth 100000 in
theorem shape_sheet_free.calls (k : Nat) (A0 : Option Addr) (c0 : Nat) (l0 : List (List (S41))) (A1 : Option Addr) (c1 : Nat) (l1 : List (S41)) (r : Bool) (w : World) (gS_ : Nat) (sw sh : Int) (hs : w.heap[gS_]? = some (.cells #[.int .i64 sw, .int .i64 sh, .slice A0 l0.length c0] 75 (0, 0))) (hr0 : Kd.C (Kd.slice 41 k41) w A0 l0.length l0) (hc0 : l0.length ≤ c0) (hr1 : Kd.C k41 w A1 l1.length l1) (hc1 : l1.length ≤ c1) (h : shape_sheet_free.f k l0 l1 = some r) :
  Calls Try.prog 102 #[.pointer (some ⟨gS_, 0, none⟩), .slice A1 l1.length c1] w fun e w' => e = .returned (.bool r) ∧ Below w.heap.size w w' := by
 have hu41 := Try.underlying41
 have HS0 := Aside0.mk hs
 clear hs
 have HR0 := Aside0.mk hr0
 have HC0 := Aside0.mk hc0
 clear hr0 hc0
 have HR1 := Aside0.mk hr1
 have HC1 := Aside0.mk hc1
 clear hr1 hc1
 have HB := Aside0.mk (Below.refl w.heap.size w)
 have H : ((shape_corners.f k l1).bind fun bt101 => (shape_sheet_free.l0 k l1 l0 (l0.length : Int) 0 bt101.1 bt101.2.1 bt101.2.2.1 bt101.2.2.2)) = some r := h
 clear h
 replace H := Option.bind_eq_some_iff.mp H
 obtain ⟨⟨t101, t102, t103, t104⟩, A30, H⟩ := H
 try dsimp only at H
 have A3 := Aside0.mk A30
 clear A30
 have H' := Aside0.mk H
 clear H
 go_enter Try.func102, Try.ntmps102
 go_wp2_with (first | ((with_reducible refine gc 101 rfl ?_); refine goesL_ (some 13) rfl rfl Try.func101 (by kernel_rfl) rfl #[.slice A1 l1.length c1] rfl sg ?_; (with_reducible refine (shape_corners.calls k _ _ l1 t101 t102 t103 t104 _ ?side1 ?side2 A3.out).mono ?_); (case side1 => exact cs HR1.out); (case side2 => exact HC1.out); rintro e w4 ⟨rfl, hb⟩; refine ⟨_, rfl, ?_⟩; replace HB := bz hb; (try clear hb)) | ((with_reducible refine gate_dst (N := 5) rfl ?_); refine bxe 5 #[.int .i64 0, .int .i64 0] 41 ?_; intro gb105 hg w5 hbox hb; have BK105 := Aside0.mk (hbox); have GW105 := ga w hg; have GE105 := GW105; replace HB := bz hb; clear hb hbox hg) | ((with_reducible refine gate_dst (N := 6) rfl ?_); refine bxe 6 #[.int .i64 0, .int .i64 0] 41 ?_; intro gb106 hg w6 hbox hb; have BK106 := Aside0.mk (hbox); have GW106 := ga w hg; have GE106 := GW106; have NB105_106 := nb hg (kl BK105); have NB106_105 := bn NB105_106; replace BK105 := kb BK105 hb; replace HB := bz hb; clear hb hbox hg; have hnb7 := NB105_106.out; have hnc7 := NB106_105.out; obtain ⟨hcz8_0, hcz8_1, hfz8_0, hfz8_1⟩ := b2 BK105; obtain ⟨hcz9_0, hcz9_1, hfz9_0, hfz9_1⟩ := b2 BK106; have hsl := blk_lt HS0.out; have hsx : w6.heap[gS_]? = some (.cells #[.int .i64 sw, .int .i64 sh, .slice A0 l0.length c0] 75 (0, 0)) := blk_below HS0.out HB.out; have hsc : w6.cell? ⟨gS_, 2, none⟩ = some (.slice A0 l0.length c0) := (blk_cell hsx 2).trans rfl; have hsn1 : gS_ ≠ gb105 := Nat.ne_of_lt (Nat.lt_of_lt_of_le hsl GE105.out); have hsn2 : gS_ ≠ gb106 := Nat.ne_of_lt (Nat.lt_of_lt_of_le hsl GE106.out); have hsn3 := Ne.symm hsn1; have hsn4 := Ne.symm hsn2; clear hsl hsx))
 go_loopg [21] k (fun kq v21 w' => ∃ (x21_1 : Int), v21 = .int .i64 x21_1 ∧ Aside0 (shape_sheet_free.l0 kq l1 l0 (l0.length : Int) x21_1 t101 t102 t103 t104 = some r) ∧ Aside0 (kq ≤ k) ∧ Aside0 (w'.heap[gb105]? = some (.cells #[.int .i64 t101, .int .i64 t102] 41 (0, 0))) ∧ Aside0 (w'.heap[gb106]? = some (.cells #[.int .i64 t103, .int .i64 t104] 41 (0, 0))) ∧ Aside0 (Below w.heap.size w w'))
 case atStart => exact ⟨(0), sd, H', ⟨Nat.le_refl _⟩, ⟨by refine bf NB105_106 ?_; refine bf NB105_106 ?_; refine bd ?_; refine blk_put (cs := #[.int .i64 t101, .int .i64 0]) ?_ 1 _ rfl; refine bd ?_; refine blk_put (cs := #[.int .i64 0, .int .i64 0]) ?_ 0 _ rfl; refine bd ?_; exact BK105.out⟩, ⟨by refine bd ?_; refine blk_put (cs := #[.int .i64 t103, .int .i64 0]) ?_ 1 _ rfl; refine bd ?_; refine blk_put (cs := #[.int .i64 0, .int .i64 0]) ?_ 0 _ rfl; refine bf NB106_105 ?_; refine bf NB106_105 ?_; refine bd ?_; exact BK106.out⟩, ⟨bh⟩⟩
 case round =>
  clear H'
  (try clear hsc); (try clear hsn1); (try clear hsn2); (try clear hsn3); (try clear hsn4); (try clear c1); (try clear hcz8_0); (try clear hcz8_1); (try clear hcz9_0); (try clear hcz9_1); (try clear hfz8_0); (try clear hfz8_1); (try clear hfz9_0); (try clear hfz9_1)
  obtain ⟨x21_1, rfl, HA, HK1, BK105, BK106, HB⟩ := hrel
  cases gk with
  | zero => exact absurd HA.out (by simp [shape_sheet_free.l0])
  | succ k1 =>
   have H := HA.out
   clear HA
   simp only [shape_sheet_free.l0] at H
   by_cases c10 : x21_1 < (l0.length : Int)
   ·rw [if_pos c10] at H
    have c10b0 := decide_eq_true c10
    clear c10
    obtain ⟨c11, H⟩ := oi H
    have c11b0 := decide_eq_true c11
    clear c11
    obtain ⟨c12, H⟩ := oi H
    have c12b0 := decide_eq_true c12
    clear c12
    replace H := Option.bind_eq_some_iff.mp H
    obtain ⟨⟨t108, t109, t110, t111⟩, A130, H⟩ := H
    try dsimp only at H
    have A13 := Aside0.mk A130
    clear A130
    have HC14 := Aside0.mk H
    clear H
    have p107 : 0 ≤ (x21_1 : Int) := dt
    have q107 : x21_1 < (l0.length : Int) := dt
    obtain ⟨ad107, A107_0, c107_0, e107, hx107_0, hl107_0, hi107_0⟩ := at_L2 HR0.out x21_1 p107 q107
    cases e107
    replace hx107_0 := hc HB hx107_0
    have HR107_0 := Aside0.mk hi107_0
    have HC107_0 := Aside0.mk hl107_0
    clear hi107_0 hl107_0
    replace p107 := eq_true p107
    replace q107 := eq_true q107
    go_upto_region 6 with (first | ((with_reducible refine gc 101 rfl ?_); refine goesL_ (some 27) rfl rfl Try.func101 (by kernel_rfl) rfl #[.slice A107_0 (rd_L2 l0 x21_1).length c107_0] rfl sg ?_; (with_reducible refine (shape_corners.calls k1 _ _ (rd_L2 l0 x21_1) t108 t109 t110 t111 _ ?side1 ?side2 A13.out).mono ?_); (case side1 => exact cs (Kd.C_below HR107_0.out HB.out)); (case side2 => exact HC107_0.out); rintro e w15 ⟨rfl, hb⟩; refine ⟨_, rfl, ?_⟩; replace BK105 := kb BK105 hb; replace BK106 := kb BK106 hb; replace HB := bz hb; (try clear hb)) | ((with_reducible refine gate_dst (N := 9) rfl ?_); refine bxe 9 #[.int .i64 0, .int .i64 0] 41 ?_; intro gb112 hg w16 hbox hb; have BK112 := Aside0.mk (hbox); have GW112 := ga w hg; have GE112 := GW112; have NB105_112 := nb hg (kl BK105); have NB112_105 := bn NB105_112; have NB106_112 := nb hg (kl BK106); have NB112_106 := bn NB106_112; replace BK105 := kb BK105 hb; replace BK106 := kb BK106 hb; replace HB := bz hb; clear hb hbox hg) | ((with_reducible refine gate_dst (N := 10) rfl ?_); refine bxe 10 #[.int .i64 0, .int .i64 0] 41 ?_; intro gb113 hg w17 hbox hb; have BK113 := Aside0.mk (hbox); have GW113 := ga w hg; have GE113 := GW113; have NB105_113 := nb hg (kl BK105); have NB113_105 := bn NB105_113; have NB106_113 := nb hg (kl BK106); have NB113_106 := bn NB106_113; have NB112_113 := nb hg (kl BK112); have NB113_112 := bn NB112_113; replace BK105 := kb BK105 hb; replace BK106 := kb BK106 hb; replace BK112 := kb BK112 hb; replace HB := bz hb; clear hb hbox hg; have hnb18 := NB112_105.out; have hnc18 := NB105_112.out; have hnb19 := NB112_106.out; have hnc19 := NB106_112.out; have hnb20 := NB112_113.out; have hnc20 := NB113_112.out; obtain ⟨hcz21_0, hcz21_1, hfz21_0, hfz21_1⟩ := b2 BK112; have hnb22 := NB113_105.out; have hnc22 := NB105_113.out; have hnb23 := NB113_106.out; have hnc23 := NB106_113.out; obtain ⟨hcz24_0, hcz24_1, hfz24_0, hfz24_1⟩ := b2 BK113))
    (try simp only [Act.put, List.setIfInBounds_toArray, List.set_cons_zero, List.set_cons_succ])
    go_cut [61] (fun v61 wc => ∃ (kq : Nat) (x61_13 : Bool), v61 = .bool x61_13 ∧ Aside0 (shape_sheet_free.j1 kq l1 l0 (l0.length : Int) x21_1 x61_13 t101 t102 t103 t104 = some r) ∧ Aside0 (kq ≤ k1) ∧ Aside0 (wc.heap[gb105]? = some (.cells #[.int .i64 t101, .int .i64 t102] 41 (0, 0))) ∧ Aside0 (wc.heap[gb106]? = some (.cells #[.int .i64 t103, .int .i64 t104] 41 (0, 0))) ∧ Aside0 (wc.heap[gb112]? = some (.cells #[.int .i64 t108, .int .i64 t109] 41 (0, 0))) ∧ Aside0 (wc.heap[gb113]? = some (.cells #[.int .i64 t110, .int .i64 t111] 41 (0, 0))) ∧ Aside0 (Below w.heap.size w wc))
    case first =>
     have H := HC14.out
     clear HC14
     by_cases c25 : t101 < t110
     ·rw [if_pos c25] at H
      have c25b0 := decide_eq_true c25
      clear c25
      (first | rw [c25b0] | (simp only [i64_w, i32_w]; rw [c25b0]) | skip)
      by_cases c26 : t108 < t103
      ·rw [if_pos c26] at H
       have c26b0 := decide_eq_true c26
       clear c26
       by_cases c27 : t102 < t111
       ·rw [if_pos c27] at H
        have c27b0 := decide_eq_true c27
        clear c27
        by_cases c28 : t109 < t104
        ·rw [if_pos c28] at H
         have c28b0 := decide_eq_true c28
         clear c28
         replace H := Option.bind_eq_some_iff.mp H
         obtain ⟨t114, A290, H⟩ := H
         try dsimp only at H
         have A29 := Aside0.mk A290
         clear A290
         have H' := Aside0.mk H
         clear H
         have hnb30 := NB105_106.out
         have hnc30 := NB106_105.out
         have hnb31 := NB105_112.out
         have hnc31 := NB112_105.out
         have hnb32 := NB105_113.out
         have hnc32 := NB113_105.out
         obtain ⟨hcz33_0, hcz33_1, hfz33_0, hfz33_1⟩ := b2 BK105
         have hnb34 := NB113_106.out
         have hnc34 := NB106_113.out
         have hnb35 := NB113_112.out
         have hnc35 := NB112_113.out
         obtain ⟨hcz36_0, hcz36_1, hfz36_0, hfz36_1⟩ := b2 BK113
         have hnb37 := NB112_106.out
         have hnc37 := NB106_112.out
         obtain ⟨hcz38_0, hcz38_1, hfz38_0, hfz38_1⟩ := b2 BK112
         obtain ⟨hcz39_0, hcz39_1, hfz39_0, hfz39_1⟩ := b2 BK106
         go_wp2_with (first | (go_at_call 78; (with_reducible refine (shape_apart.calls k1 _ _ l1 _ _ (rd_L2 l0 x21_1) t114 _ ?side1 ?side2 ?side3 ?side4 A29.out).mono ?_); (case side1 => exact Kd.C_below HR1.out bh); (case side2 => exact HC1.out); (case side3 => exact Kd.C_below HR107_0.out bh); (case side4 => exact HC107_0.out); rintro e w40 ⟨rfl, hb⟩; replace BK105 := Aside0.mk (blk_below (g := gb105) (o := .cells #[.int .i64 t101, .int .i64 t102] 41 (0, 0)) (by refine bf NB105_113 ?_; refine bf NB105_113 ?_; refine bf NB105_112 ?_; refine bf NB105_112 ?_; refine bd ?_; exact BK105.out) hb); replace BK106 := Aside0.mk (blk_below (g := gb106) (o := .cells #[.int .i64 t103, .int .i64 t104] 41 (0, 0)) (by refine bf NB106_113 ?_; refine bf NB106_113 ?_; refine bf NB106_112 ?_; refine bf NB106_112 ?_; refine bd ?_; exact BK106.out) hb); replace BK112 := Aside0.mk (blk_below (g := gb112) (o := .cells #[.int .i64 t108, .int .i64 t109] 41 (0, 0)) (by refine bf NB112_113 ?_; refine bf NB112_113 ?_; refine bd ?_; refine blk_put (cs := #[.int .i64 t108, .int .i64 0]) ?_ 1 _ rfl; refine bd ?_; refine blk_put (cs := #[.int .i64 0, .int .i64 0]) ?_ 0 _ rfl; refine bd ?_; exact BK112.out) hb); replace BK113 := Aside0.mk (blk_below (g := gb113) (o := .cells #[.int .i64 t110, .int .i64 t111] 41 (0, 0)) (by refine bd ?_; refine blk_put (cs := #[.int .i64 t110, .int .i64 0]) ?_ 1 _ rfl; refine bd ?_; refine blk_put (cs := #[.int .i64 0, .int .i64 0]) ?_ 0 _ rfl; refine bf NB113_112 ?_; refine bf NB113_112 ?_; refine bd ?_; exact BK113.out) hb); replace HB := bz hb; (try clear hb)))
         go_meet
         case rel => exact ⟨_, (!t114), sd, H', ⟨by have := HK1.out; first | omega | exact Nat.le_refl _⟩, ⟨bk BK105⟩, ⟨bk BK106⟩, ⟨bk BK112⟩, ⟨bk BK113⟩, ⟨bh⟩⟩
        ·rw [if_neg c28] at H
         have c28b0 := decide_eq_false c28
         clear c28
         have H' := Aside0.mk H
         clear H
         have hnb41 := NB105_106.out
         have hnc41 := NB106_105.out
         have hnb42 := NB105_112.out
         have hnc42 := NB112_105.out
         have hnb43 := NB105_113.out
         have hnc43 := NB113_105.out
         obtain ⟨hcz44_0, hcz44_1, hfz44_0, hfz44_1⟩ := b2 BK105
         have hnb45 := NB113_106.out
         have hnc45 := NB106_113.out
         have hnb46 := NB113_112.out
         have hnc46 := NB112_113.out
         obtain ⟨hcz47_0, hcz47_1, hfz47_0, hfz47_1⟩ := b2 BK113
         have hnb48 := NB112_106.out
         have hnc48 := NB106_112.out
         obtain ⟨hcz49_0, hcz49_1, hfz49_0, hfz49_1⟩ := b2 BK112
         obtain ⟨hcz50_0, hcz50_1, hfz50_0, hfz50_1⟩ := b2 BK106
         go_wp2
         go_meet
         case rel => exact ⟨_, (false), sd, H', ⟨by have := HK1.out; first | omega | exact Nat.le_refl _⟩, ⟨by refine bf NB105_113 ?_; refine bf NB105_113 ?_; refine bf NB105_112 ?_; refine bf NB105_112 ?_; refine bd ?_; exact BK105.out⟩, ⟨by refine bf NB106_113 ?_; refine bf NB106_113 ?_; refine bf NB106_112 ?_; refine bf NB106_112 ?_; refine bd ?_; exact BK106.out⟩, ⟨by refine bf NB112_113 ?_; refine bf NB112_113 ?_; refine bd ?_; refine blk_put (cs := #[.int .i64 t108, .int .i64 0]) ?_ 1 _ rfl; refine bd ?_; refine blk_put (cs := #[.int .i64 0, .int .i64 0]) ?_ 0 _ rfl; refine bd ?_; exact BK112.out⟩, ⟨by refine bd ?_; refine blk_put (cs := #[.int .i64 t110, .int .i64 0]) ?_ 1 _ rfl; refine bd ?_; refine blk_put (cs := #[.int .i64 0, .int .i64 0]) ?_ 0 _ rfl; refine bf NB113_112 ?_; refine bf NB113_112 ?_; refine bd ?_; exact BK113.out⟩, ⟨bh⟩⟩
       ·rw [if_neg c27] at H
        have c27b0 := decide_eq_false c27
        clear c27
        have H' := Aside0.mk H
        clear H
        have hnb51 := NB105_106.out
        have hnc51 := NB106_105.out
        have hnb52 := NB105_112.out
        have hnc52 := NB112_105.out
        have hnb53 := NB105_113.out
        have hnc53 := NB113_105.out
        obtain ⟨hcz54_0, hcz54_1, hfz54_0, hfz54_1⟩ := b2 BK105
        have hnb55 := NB113_106.out
        have hnc55 := NB106_113.out
        have hnb56 := NB113_112.out
        have hnc56 := NB112_113.out
        obtain ⟨hcz57_0, hcz57_1, hfz57_0, hfz57_1⟩ := b2 BK113
        have hnb58 := NB112_106.out
        have hnc58 := NB106_112.out
        obtain ⟨hcz59_0, hcz59_1, hfz59_0, hfz59_1⟩ := b2 BK112
        obtain ⟨hcz60_0, hcz60_1, hfz60_0, hfz60_1⟩ := b2 BK106
        go_wp2
        go_meet
        case rel => exact ⟨_, (false), sd, H', ⟨by have := HK1.out; first | omega | exact Nat.le_refl _⟩, ⟨by refine bf NB105_113 ?_; refine bf NB105_113 ?_; refine bf NB105_112 ?_; refine bf NB105_112 ?_; refine bd ?_; exact BK105.out⟩, ⟨by refine bf NB106_113 ?_; refine bf NB106_113 ?_; refine bf NB106_112 ?_; refine bf NB106_112 ?_; refine bd ?_; exact BK106.out⟩, ⟨by refine bf NB112_113 ?_; refine bf NB112_113 ?_; refine bd ?_; refine blk_put (cs := #[.int .i64 t108, .int .i64 0]) ?_ 1 _ rfl; refine bd ?_; refine blk_put (cs := #[.int .i64 0, .int .i64 0]) ?_ 0 _ rfl; refine bd ?_; exact BK112.out⟩, ⟨by refine bd ?_; refine blk_put (cs := #[.int .i64 t110, .int .i64 0]) ?_ 1 _ rfl; refine bd ?_; refine blk_put (cs := #[.int .i64 0, .int .i64 0]) ?_ 0 _ rfl; refine bf NB113_112 ?_; refine bf NB113_112 ?_; refine bd ?_; exact BK113.out⟩, ⟨bh⟩⟩
      ·rw [if_neg c26] at H
       have c26b0 := decide_eq_false c26
       clear c26
       have H' := Aside0.mk H
       clear H
       have hnb61 := NB105_106.out
       have hnc61 := NB106_105.out
       have hnb62 := NB105_112.out
       have hnc62 := NB112_105.out
       have hnb63 := NB105_113.out
       have hnc63 := NB113_105.out
       obtain ⟨hcz64_0, hcz64_1, hfz64_0, hfz64_1⟩ := b2 BK105
       have hnb65 := NB113_106.out
       have hnc65 := NB106_113.out
       have hnb66 := NB113_112.out
       have hnc66 := NB112_113.out
       obtain ⟨hcz67_0, hcz67_1, hfz67_0, hfz67_1⟩ := b2 BK113
       have hnb68 := NB112_106.out
       have hnc68 := NB106_112.out
       obtain ⟨hcz69_0, hcz69_1, hfz69_0, hfz69_1⟩ := b2 BK112
       obtain ⟨hcz70_0, hcz70_1, hfz70_0, hfz70_1⟩ := b2 BK106
       go_wp2
       go_meet
       case rel => exact ⟨_, (false), sd, H', ⟨by have := HK1.out; first | omega | exact Nat.le_refl _⟩, ⟨by refine bf NB105_113 ?_; refine bf NB105_113 ?_; refine bf NB105_112 ?_; refine bf NB105_112 ?_; refine bd ?_; exact BK105.out⟩, ⟨by refine bf NB106_113 ?_; refine bf NB106_113 ?_; refine bf NB106_112 ?_; refine bf NB106_112 ?_; refine bd ?_; exact BK106.out⟩, ⟨by refine bf NB112_113 ?_; refine bf NB112_113 ?_; refine bd ?_; refine blk_put (cs := #[.int .i64 t108, .int .i64 0]) ?_ 1 _ rfl; refine bd ?_; refine blk_put (cs := #[.int .i64 0, .int .i64 0]) ?_ 0 _ rfl; refine bd ?_; exact BK112.out⟩, ⟨by refine bd ?_; refine blk_put (cs := #[.int .i64 t110, .int .i64 0]) ?_ 1 _ rfl; refine bd ?_; refine blk_put (cs := #[.int .i64 0, .int .i64 0]) ?_ 0 _ rfl; refine bf NB113_112 ?_; refine bf NB113_112 ?_; refine bd ?_; exact BK113.out⟩, ⟨bh⟩⟩
     ·rw [if_neg c25] at H
      have c25b0 := decide_eq_false c25
      clear c25
      (first | rw [c25b0] | (simp only [i64_w, i32_w]; rw [c25b0]) | skip)
      have H' := Aside0.mk H
      clear H
      have hnb71 := NB105_106.out
      have hnc71 := NB106_105.out
      have hnb72 := NB105_112.out
      have hnc72 := NB112_105.out
      have hnb73 := NB105_113.out
      have hnc73 := NB113_105.out
      obtain ⟨hcz74_0, hcz74_1, hfz74_0, hfz74_1⟩ := b2 BK105
      have hnb75 := NB113_106.out
      have hnc75 := NB106_113.out
      have hnb76 := NB113_112.out
      have hnc76 := NB112_113.out
      obtain ⟨hcz77_0, hcz77_1, hfz77_0, hfz77_1⟩ := b2 BK113
      go_wp2
      go_meet
      case rel => exact ⟨_, (false), sd, H', ⟨by have := HK1.out; first | omega | exact Nat.le_refl _⟩, ⟨by refine bf NB105_113 ?_; refine bf NB105_113 ?_; refine bf NB105_112 ?_; refine bf NB105_112 ?_; refine bd ?_; exact BK105.out⟩, ⟨by refine bf NB106_113 ?_; refine bf NB106_113 ?_; refine bf NB106_112 ?_; refine bf NB106_112 ?_; refine bd ?_; exact BK106.out⟩, ⟨by refine bf NB112_113 ?_; refine bf NB112_113 ?_; refine bd ?_; refine blk_put (cs := #[.int .i64 t108, .int .i64 0]) ?_ 1 _ rfl; refine bd ?_; refine blk_put (cs := #[.int .i64 0, .int .i64 0]) ?_ 0 _ rfl; refine bd ?_; exact BK112.out⟩, ⟨by refine bd ?_; refine blk_put (cs := #[.int .i64 t110, .int .i64 0]) ?_ 1 _ rfl; refine bd ?_; refine blk_put (cs := #[.int .i64 0, .int .i64 0]) ?_ 0 _ rfl; refine bf NB113_112 ?_; refine bf NB113_112 ?_; refine bd ?_; exact BK113.out⟩, ⟨bh⟩⟩
    case rest =>
     clear HC14
     (try clear c10b0); (try clear c11b0); (try clear c12b0); (try clear hcz21_0); (try clear hcz21_1); (try clear hcz24_0); (try clear hcz24_1); (try clear hfz21_0); (try clear hfz21_1); (try clear hfz24_0); (try clear hfz24_1); (try clear hx107_0); (try clear p107); (try clear q107)
     obtain ⟨kq, x61_13, rfl, HA, HJ13, BK105, BK106, BK112, BK113, HB⟩ := hcut
     cases kq with
     | zero => exact absurd HA.out (by simp [shape_sheet_free.j1])
     | succ kj13 =>
      have H := HA.out
      clear HA
      simp only [shape_sheet_free.j1] at H
      by_cases c78 : x61_13 = true
      ·subst c78
       rw [if_pos rfl] at H
       obtain rfl := Option.some.inj H
       go_wp2
       go_ret
       exact ⟨by exact er, bh⟩
      ·replace c78 := Bool.eq_false_iff.mpr c78
       subst c78
       rw [if_neg (show ¬ (false = true) by decide)] at H
       have H' := Aside0.mk H
       clear H
       go_wp2
       go_roundg kj13
       case measure => have := HK1.out; have := HJ13.out; omega
       case rel => exact ⟨(wrap64 (x21_1 + 1)), sd, H', ⟨by have := HK1.out; have := HJ13.out; omega⟩, ⟨bk BK105⟩, ⟨bk BK106⟩, ⟨bh⟩⟩
   ·rw [if_neg c10] at H
    have c10b0 := decide_eq_false c10
    clear c10
    obtain rfl := Option.some.inj H
    go_wp2
    go_ret
    exact ⟨by exact er, bh⟩
end Go.Proofs.Ythehmkpcddafnaa.PG
end
section
namespace Go.Proofs.Ythehmkpcddafnaa.PG
open Go.RowKit Go.Proofs.YthehmkpcddafnaaW.PrintWords Go.Proofs.YthehmkpcddafnaaW.PrintLast Go.Proofs.YthehmkpcddafnaaW.PrintMore
theorem place_parts {w0 w W : World} {u : Value} {l2 : List (List S41)} {q : List S41} {Ao : Option Addr} {co g1 : Nat} {okq : Nat → Prop} (hB0 : Below w0.heap.size w0 w) (HB : Below w.heap.size w W) (HS : Kd.S (Kd.slice 41 k41) 22 w w0.heap.size (fun _ => True) u l2) (HQ : Kd.R k41 41 W w.heap.size okq (.slice Ao q.length co) q)
  (hq : ∀ k, okq k → k ≠ g1) (hg1 : w.heap.size ≤ g1) :
  (Kd.slice 41 k41).M W w0.heap.size (fun k_ => some k_ = (.slice Ao q.length co : Value).ownBlock) q [.slice Ao q.length co] ∧ (∀ k_, some k_ = (.slice Ao q.length co : Value).ownBlock → k_ ≠ g1 ∧ some k_ ≠ u.ownBlock) ∧ Kd.S (Kd.slice 41 k41) 22 W w0.heap.size (fun k_ => k_ ≠ g1 ∧ ¬ some k_ = (.slice Ao q.length co : Value).ownBlock) u l2 := by
 have hb := Kd.R_base HQ
 refine ⟨?_, ?_, ?_⟩
 ·exact Kd.M_row (Kd.R_lower (Kd.R_mono (Kd.R_tight rfl HQ) (fun _ h_ => h_)) hB0.size)
 ·intro k hk
  refine ⟨hq k (HQ.1 k hk.symm), fun e => ?_⟩
  have h1 := Kd.R_lt (Kd.S_R HS) k e.symm
  have h2 := hb k hk.symm
  omega
 ·refine Kd.S_mono (Kd.S_below (Kd.S_bound HS) HB) (fun k hk => ⟨fun e => ?_, fun e => ?_⟩)
  ·have h3 := hk.2.2; omega
  ·have h2 := hb k e.symm
   have h3 := hk.2.2
   omega
/-- what place leaves: the answer, the sheet's block, the row of what is placed -/
def PlaceQ (w0 w : World) (gS_ : Nat) (a0 a1 : Int) (u : Value) (l2 : List (List (S41))) (r1 r2 : Int) (r3 : Bool) (r4 : List (S41)) (e : Ending) (w' : World) : Prop :=
 e = .returned (.tuple #[.agg #[.int .i64 r1, .int .i64 r2], .bool r3]) ∧ Below w0.heap.size w0 w' ∧ KeepBut w w' gS_ u.ownBlock ∧
  ∃ u', w'.heap[gS_]? = some (.cells #[.int .i64 a0, .int .i64 a1, u'] 75 (0, 0)) ∧ Kd.S (Kd.slice 41 k41) 22 w' w0.heap.size (fun _ => True) u' (if r3 = true then l2 ++ [r4] else l2)
theorem place_done {w0 w w2 w1 : World} {gS_ g1 : Nat} {a0 a1 x y a b : Int} {u v1 : Value} {l2 : List (List S41)} {q : List S41} (HB : Below w.heap.size w w2) (hbS : Below w0.heap.size w0 w1) (hg : w2.grownBy w1 u.ownBlock) (hB0 : Below w0.heap.size w0 w) (hgs : w0.heap.size ≤ gS_) (hg1 : w.heap.size ≤ g1) (hne : gS_ ≠ g1)
  (hx1 : w1.heap[gS_]? = some (.cells #[.int .i64 a0, .int .i64 a1, u] 75 (0, 0))) (hx2 : w1.heap[g1]? = some (.cells #[.int .i64 a, .int .i64 b] 41 (0, 0))) (HO : Kd.S (Kd.slice 41 k41) 22 w1 w0.heap.size (fun k => k ≠ g1) v1 (l2 ++ [q])) :
  (((w1.setCell ⟨gS_, 2, none⟩ v1).setCell ⟨g1, 0, none⟩ (.int .i64 x)).setCell ⟨g1, 1, none⟩ (.int .i64 y)).heap[g1]? = some (.cells #[.int .i64 x, .int .i64 y] 41 (0, 0)) ∧
  PlaceQ w0 w gS_ a0 a1 u l2 x y true q (.returned (.tuple #[.agg #[.int .i64 x, .int .i64 y], .bool true])) (((w1.setCell ⟨gS_, 2, none⟩ v1).setCell ⟨g1, 0, none⟩ (.int .i64 x)).setCell ⟨g1, 1, none⟩ (.int .i64 y)) := by
 have k1 := blk_set (blk_set (blk_far hx2 (p := ⟨gS_, 2, none⟩) (Ne.symm hne) v1) 0 (.int .i64 x)) 1 (.int .i64 y)
 have k2 := blk_far (blk_far (blk_set hx1 2 v1) (p := ⟨g1, 0, none⟩) hne (.int .i64 x)) (p := ⟨g1, 1, none⟩) hne (.int .i64 y)
 refine ⟨by simpa using k1, rfl, ?_, ⟨?_, ?_⟩, v1, by simpa using k2, ?_⟩
 ·have := hB0.size
  exact below_set (below_set (below_set hbS hgs) (by omega)) (by omega)
 ·have h1 := HB.size
  have h2 := hg.size
  simp [World.setCell]; omega
 ·intro i hi h1 h2
  rw [Below.heap_setCell _ ⟨g1, 1, none⟩ _ i (by show i ≠ g1; omega), Below.heap_setCell _ ⟨g1, 0, none⟩ _ i (by show i ≠ g1; omega), Below.heap_setCell _ ⟨gS_, 2, none⟩ _ i h1, hg.block i (Nat.lt_of_lt_of_le hi HB.size) h2, HB.block i hi]
 ·rw [if_pos rfl]
  refine Kd.S_mono (Kd.S_far (p := ⟨g1, 1, none⟩) (Kd.S_far (p := ⟨g1, 0, none⟩) (Kd.S_set HO hx1 (by decide) 2 v1) (fun k hk => hk) _) (fun k hk => hk) _) (fun _ _ => trivial)
theorem place_none {w0 w w2 : World} {gS_ : Nat} {a0 a1 x y : Int} {u : Value} {l2 : List (List S41)} (HB : Below w.heap.size w w2) (hB0 : Below w0.heap.size w0 w) (hs : w.heap[gS_]? = some (.cells #[.int .i64 a0, .int .i64 a1, u] 75 (0, 0))) (HS : Kd.S (Kd.slice 41 k41) 22 w w0.heap.size (fun _ => True) u l2) :
  PlaceQ w0 w gS_ a0 a1 u l2 x y false [] (.returned (.tuple #[.agg #[.int .i64 x, .int .i64 y], .bool false])) w2 :=
 ⟨rfl, below_then hB0 hB0.size HB, KeepBut.of_below HB gS_ _, u, blk_below hs HB, by rw [if_neg (by decide)]; exact Kd.S_below HS HB⟩
end Go.Proofs.Ythehmkpcddafnaa.PG
end
