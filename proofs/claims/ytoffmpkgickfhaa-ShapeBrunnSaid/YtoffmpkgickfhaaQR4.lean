/- Parts of the proof of YtoffmpkgickfhaaLawShapeBrunn: printed walks, their words, and plain laws. -/
import Derived.Test.YtoffmpkgickfhaaQR1
import Derived.Test.YtoffmpkgickfhaaQR2
import Derived.Test.YtoffmpkgickfhaaQR3
section
namespace Go.Proofs.Ytoffmpkgickfhaa.PG
open Go.RowKit Go.Proofs.YtoffmpkgickfhaaW.PrintWords Go.Proofs.YtoffmpkgickfhaaW.PrintLast Go.Proofs.YtoffmpkgickfhaaW.PrintMore
attribute [local go_sem] max2_int min2_int max_two min_two max_three min_three max_four min_four
set_option linter.unusedVariables false
set_option linter.unusedSimpArgs false
/-! ### shape_Lattice: function 25 -/
def shape_Lattice.l0 : Nat → List (S29) → Int → Int → Int → Option (Int × Int × Int)
 | 0, _, _, _, _ => none
 | k + 1, x0, x6, x16, x17 => if x17 < x16 then (if (x0.length : Int) = 0 then (none) else (if 0 ≤ (Int.tmod (wrap64 (x17 + 1)) (x0.length : Int)) then (if (Int.tmod (wrap64 (x17 + 1)) (x0.length : Int)) < (x0.length : Int) then (if 0 ≤ x17 then (if x17 < (x0.length : Int) then ((shape_sub.f ((rd_T29 x0 (Int.tmod (wrap64 (x17 + 1)) (x0.length : Int))).f0) ((rd_T29 x0 (Int.tmod (wrap64 (x17 + 1)) (x0.length : Int))).f1) ((rd_T29 x0 x17).f0) ((rd_T29 x0 x17).f1)).bind fun bt105 => ((shape_gcd.f k bt105.1 bt105.2).bind fun t108 => (shape_Lattice.l0 k x0 (wrap64 (x6 + t108)) x16 (wrap64 (x17 + 1))))) else (none)) else (none)) else (none)) else (none))) else ((shape_area2.f k x0).bind fun t102 => (some (wrap64 (Int.tdiv (wrap64 ((wrap64 ((mx t102 (wrap64 (-t102))) - x6)) + 2)) 2), x6, 0)))
def shape_Lattice.f (k : Nat) (l0 : List (S29)) : Option (Int × Int × Int) := (shape_refused_simple.f k l0).bind fun t101 => (if t101 = 0 then (shape_Lattice.l0 k l0 0 (l0.length : Int) 0) else (some (0, 0, t101)))
def shape_Lattice.T8 : Bool × List (List Nat × List Nat) := (true, [([], []), ([], []), ([1], [1]), ([], []), ([3], [3]), ([2, 4], [2, 4]), ([0, 5], [0, 5]), ([6], [6]), ([], []), ([], []), ([8, 9], [8, 9]), ([10], [10]), ([7, 11], [7, 11]), ([], []), ([13, 12, 12, 0, 1, 2, 3, 4, 5, 6, 7, 8, 9, 10, 11, 12, 13], [12, 13])])
def shape_Lattice.B8 : List Nat := [0, 0, 2, 0, 8, 30, 63, 127, 0, 0, 768, 1792, 4095, 0, 16383]
theorem shape_Lattice.tab8 : rtab .any (opsOf Try.f25 8) = shape_Lattice.T8 := by kernel_rfl
theorem shape_Lattice.bits8 : waitsOk shape_Lattice.T8.2 shape_Lattice.B8 = true := by kernel_rfl
set_option maxHeartbeats 8000000 in
set_option maxRecDepth 100000 in
theorem shape_Lattice.calls (k : Nat) (A0 : Option Addr) (c0 : Nat) (l0 : List (S29)) (r1 : Int) (r2 : Int) (r3 : Int) (w : World) (hr0 : Kd.C k29 w A0 l0.length l0) (hc0 : l0.length ≤ c0) (h : shape_Lattice.f k l0 = some (r1, r2, r3)) :
  Calls Try.prog 25 #[.slice A0 l0.length c0] w fun e w' => e = .returned (.tuple #[.int .i64 r1, .int .i64 r2, .int .i64 r3]) ∧ Below w.heap.size w w' := by
 have hu29 := Try.underlying29
 have HR0 := Aside0.mk hr0
 have HC0 := Aside0.mk hc0
 clear hr0 hc0
 have HB := Aside0.mk (Below.refl w.heap.size w)
 have H : ((shape_refused_simple.f k l0).bind fun t101 => (if t101 = 0 then (shape_Lattice.l0 k l0 0 (l0.length : Int) 0) else (some (0, 0, t101)))) = some (r1, r2, r3) := h
 clear h
 replace H := Option.bind_eq_some_iff.mp H
 obtain ⟨t101, A20, H⟩ := H
 replace H : (if t101 = 0 then (shape_Lattice.l0 k l0 0 (l0.length : Int) 0) else (some (0, 0, t101))) = some (r1, r2, r3) := H
 have A2 := Aside0.mk A20
 clear A20
 by_cases c3 : t101 = 0
 ·rw [if_pos c3] at H
  have c3b0 : (t101 == 0) = true := beq_iff_eq.mpr c3
  have c3b1 : (t101 != 0) = false := bne_eq_false_iff_eq.mpr c3
  clear c3
  have H' := Aside0.mk H
  clear H
  go_enter Try.func25, Try.ntmps25
  go_wp2_with (first | ((with_reducible refine gc 68 rfl ?_); refine goesL_ (some 11) rfl rfl Try.func68 (by kernel_rfl) rfl #[.slice A0 l0.length c0, .func (.func 69) #[] #[]] rfl sg ?_; (with_reducible refine (shape_refused_simple.calls k _ _ l0  t101 _ ?side1 ?side2 A2.out).mono ?_); (case side1 => repeat (first | exact HR0.out | (with_reducible refine Kd.C_alloc ?_ _) | (with_reducible refine Kd.C_drewN ?_ _) | (with_reducible refine Kd.C_drew ?_))); (case side2 => exact HC0.out); rintro e w4 ⟨rfl, hb⟩; refine ⟨_, rfl, ?_⟩; replace HB := Aside0.mk (below_step bh hb); (try clear hb); (try clear hb2); (try clear hk); (try clear hi)))
  go_loopg [6, 17] k (fun kq v6 v17 w' => ∃ (x6_1 : Int) (x17_1 : Int), v6 = .int .i64 x6_1 ∧ v17 = .int .i64 x17_1 ∧ Aside0 (shape_Lattice.l0 kq l0 x6_1 (l0.length : Int) x17_1 = some (r1, r2, r3)) ∧ Aside0 (kq ≤ k) ∧ Aside0 (Below w.heap.size w w'))
  case atStart => exact ⟨(0), (0), sd, sd, H', ⟨Nat.le_refl _⟩, ⟨bh⟩⟩
  case round =>
   clear H'
   (try clear c1); (try clear c2); (try clear p2); (try clear c3); (try clear c3b0); (try clear c3b1)
   obtain ⟨x6_1, x17_1, rfl, rfl, HA, HK1, HB⟩ := hrel
   cases gk with
   | zero => exact absurd HA.out (by simp [shape_Lattice.l0])
   | succ k1 =>
    have H := HA.out
    clear HA
    simp only [shape_Lattice.l0] at H
    by_cases c5 : x17_1 < (l0.length : Int)
    ·rw [if_pos c5] at H
     have c5b0 := decide_eq_true c5
     clear c5
     by_cases c6 : (l0.length : Int) = 0
     ·rw [if_pos c6] at H
      exact absurd H (by simp)
     ·rw [if_neg c6] at H
      have c6b0 : ((l0.length : Int) == 0) = false := beq_eq_false_iff_ne.mpr c6
      have c6b1 : ((l0.length : Int) != 0) = true := bne_iff_ne.mpr c6
      have c6b2 : ¬ (l0 = []) := fun h_ => c6 (by rw [h_]; rfl)
      obtain ⟨ji7, hji7⟩ : ∃ j_ : Int, (Int.tmod (wrap64 (x17_1 + 1)) (l0.length : Int)) = j_ := ⟨_, rfl⟩
      replace H : (if 0 ≤ (ji7) then (if (ji7) < (l0.length : Int) then (if 0 ≤ x17_1 then (if x17_1 < (l0.length : Int) then ((shape_sub.f ((rd_T29 l0 (ji7)).f0) ((rd_T29 l0 (ji7)).f1) ((rd_T29 l0 x17_1).f0) ((rd_T29 l0 x17_1).f1)).bind fun bt105 => ((shape_gcd.f k1 bt105.1 bt105.2).bind fun t108 => (shape_Lattice.l0 k1 l0 (wrap64 (x6_1 + t108)) (l0.length : Int) (wrap64 (x17_1 + 1))))) else (none)) else (none)) else (none)) else (none)) = some (r1, r2, r3) := by first | (rw [hji7] at H; exact H) | (simp only [hji7] at H ⊢; exact H)
      by_cases c8 : 0 ≤ (ji7)
      ·rw [if_pos c8] at H
       have c8b0 := decide_eq_true c8
       clear c8
       by_cases c9 : (ji7) < (l0.length : Int)
       ·rw [if_pos c9] at H
        have c9b0 := decide_eq_true c9
        clear c9
        by_cases c10 : 0 ≤ x17_1
        ·rw [if_pos c10] at H
         have c10b0 := decide_eq_true c10
         clear c10
         by_cases c11 : x17_1 < (l0.length : Int)
         ·rw [if_pos c11] at H
          have c11b0 := decide_eq_true c11
          clear c11
          replace H := Option.bind_eq_some_iff.mp H
          obtain ⟨⟨t105, t106⟩, A120, H⟩ := H
          replace H : ((shape_gcd.f k1 t105 t106).bind fun t108 => (shape_Lattice.l0 k1 l0 (wrap64 (x6_1 + t108)) (l0.length : Int) (wrap64 (x17_1 + 1)))) = some (r1, r2, r3) := H
          have A12 := Aside0.mk A120
          clear A120
          replace H := Option.bind_eq_some_iff.mp H
          obtain ⟨t108, A130, H⟩ := H
          replace H : (shape_Lattice.l0 k1 l0 (wrap64 (x6_1 + t108)) (l0.length : Int) (wrap64 (x17_1 + 1))) = some (r1, r2, r3) := H
          have A13 := Aside0.mk A130
          clear A130
          have H' := Aside0.mk H
          clear H
          try go_wp2
          replace HB := Aside0.mk (below_drew1 HB.out)
          have p103 : 0 ≤ ((ji7) : Int) := dt
          have q103 : (ji7) < (l0.length : Int) := dt
          obtain ⟨ad103, e103, hx103_0, hx103_1⟩ := at_T29 HR0.out (ji7) p103 q103
          have hw103_1 := hx103_1
          have hw103_0 := hx103_0
          cases e103
          replace hx103_0 := hc HB hx103_0
          replace hx103_1 := hc HB hx103_1
          replace p103 := eq_true p103
          replace q103 := eq_true q103
          have p104 : 0 ≤ (x17_1 : Int) := dt
          have q104 : x17_1 < (l0.length : Int) := dt
          obtain ⟨ad104, e104, hx104_0, hx104_1⟩ := at_T29 HR0.out x17_1 p104 q104
          have hw104_1 := hx104_1
          have hw104_0 := hx104_0
          obtain rfl : ad103 = ad104 := (by injection e104)
          replace hx104_0 := hc HB hx104_0
          replace hx104_1 := hc HB hx104_1
          replace p104 := eq_true p104
          replace q104 := eq_true q104
          refine start_ (n := 15) (S := fun w' => w'.cell? (ad103.add (((ji7)).toNat * 2)) = some (.int .i64 ((rd_T29 l0 (ji7)).f0)) ∧ w'.cell? ⟨(ad103.add (((ji7)).toNat * 2)).block, (ad103.add (((ji7)).toNat * 2)).off + 1, none⟩ = some (.int .i64 ((rd_T29 l0 (ji7)).f1)) ∧ w'.cell? (ad103.add ((x17_1).toNat * 2)) = some (.int .i64 ((rd_T29 l0 x17_1).f0)) ∧ w'.cell? ⟨(ad103.add ((x17_1).toNat * 2)).block, (ad103.add ((x17_1).toNat * 2)).off + 1, none⟩ = some (.int .i64 ((rd_T29 l0 x17_1).f1))) (ds := []) #[false, false, false, false, false, false, false, false, false, false, false, false, false, false, false] (by kernel_rfl) rfl rfl ⟨(hc HB hw103_0), (hc HB hw103_1), (hc HB hw104_0), (hc HB hw104_1)⟩ (fun hHeld => ?_); refine with_tabW shape_Lattice.tab8 shape_Lattice.bits8 (fun HT_ HW_ => ?_)
          generalize wr.drew = w14 at HB hx103_0 hx103_1 hx104_0 hx104_1 hHeld ⊢
          refine pu 0 20 HT_ ?_
          refine pu 1 21 HT_ ?_
          refine pu 2 22 HT_ ?_
          refine pu 3 23 HT_ ?_
          refine pu 4 24 HT_ ?_
          refine pu 5 25 HT_ ?_
          refine pu 6 26 HT_ ?_
          refine pu 8 28 HT_ ?_
          refine pu 9 29 HT_ ?_
          refine pu 10 30 HT_ ?_
          refine tk4 7 27 hHeld HT_ HW_ ?_
          refine tk4 11 31 hHeld HT_ HW_ ?_
          refine join_ (σ := Nat) 1 #[true, true, true, true, true, true, true, true, true, true, true, true, true, true, false] (fun s_ => [(32, .agg #[.int .i64 t105, .int .i64 t106]), (8, .pointer (some ⟨s_, 0, none⟩))]) (fun s_ w' => (w'.cell? (ad103.add (((ji7)).toNat * 2)) = some (.int .i64 ((rd_T29 l0 (ji7)).f0)) ∧ w'.cell? ⟨(ad103.add (((ji7)).toNat * 2)).block, (ad103.add (((ji7)).toNat * 2)).off + 1, none⟩ = some (.int .i64 ((rd_T29 l0 (ji7)).f1)) ∧ w'.cell? (ad103.add ((x17_1).toNat * 2)) = some (.int .i64 ((rd_T29 l0 x17_1).f0)) ∧ w'.cell? ⟨(ad103.add ((x17_1).toNat * 2)).block, (ad103.add ((x17_1).toNat * 2)).off + 1, none⟩ = some (.int .i64 ((rd_T29 l0 x17_1).f1))) ∧ (w'.heap[s_]? = some (.cells #[.int .i64 0, .int .i64 0] 29 (0, 0))) ∧ (w.heap.size ≤ s_) ∧ (w.heap.size ≤ s_) ∧ (Below w.heap.size w w')) ?_ ?_
          rotate_left
          ·intro hCont
           refine two_ (i := 12) (j := 13) (Ni := some 32) (Nj := some 8) #[true, true, true, true, true, true, true, true, true, true, true, true, true, false, false] #[true, true, true, true, true, true, true, true, true, true, true, true, false, true, false] rfl rfl rfl rfl (on2 HT_) (by decide) (by decide) (fun K hK => ?_) (fun K hK => ?_)
           ·skip
            refine goes_ Try.func70 (by kernel_rfl) rfl #[.agg #[.int .i64 ((rd_T29 l0 (ji7)).f0), .int .i64 ((rd_T29 l0 (ji7)).f1)], .agg #[.int .i64 ((rd_T29 l0 x17_1).f0), .int .i64 ((rd_T29 l0 x17_1).f1)]] (by rfl) rfl rfl (by (try simp only [List.map_toArray, List.map_cons, List.map_nil]); first | done | (simp only [hji7]; rfl) | rfl | (simp only [List.length_drop, List.length_take]; rfl)) ?_
            with_reducible refine (shape_sub.calls ((rd_T29 l0 (ji7)).f0) ((rd_T29 l0 (ji7)).f1) ((rd_T29 l0 x17_1).f0) ((rd_T29 l0 x17_1).f1) t105 t106 _ A12.out).mono ?_
            rintro e w15 ⟨rfl, hb⟩
            refine ⟨_, rfl, ?_⟩
            replace HB := Aside0.mk (below_step bh hb)
            (try clear hb); (try clear hb2); (try clear hk); (try clear hi)
            refine hK.out _ _ ⟨(hc HB hw103_0), (hc HB hw103_1), (hc HB hw104_0), (hc HB hw104_1)⟩ (fun hHeld => ?_)
            clear hK K
            refine nm 32 ?_
            refine one_ (i := 13) (N := some 8) #[true, true, true, true, true, true, true, true, true, true, true, true, true, true, false] rfl rfl (on1 HT_) (by decide) (fun K hK => ?_)
            refine bxs 8 #[.int .i64 0, .int .i64 0] 29 ?_
            intro gb107 hg w16 hbox hb
            have BK107 := Aside0.mk (hbox)
            have GW107 := Aside0.mk (gs hg : w.heap.size ≤ gb107)
            have GE107 := Aside0.mk (gs hg : w.heap.size ≤ gb107)
            replace HB := Aside0.mk (below_step bh hb)
            clear hb hbox hg
            refine hK.out _ _ ⟨(hc HB hw103_0), (hc HB hw103_1), (hc HB hw104_0), (hc HB hw104_1)⟩ (fun hHeld => ?_)
            clear hK K
            refine nm 8 ?_
            exact norm_ pa (hCont (gb107) _ ⟨hHeld, bk BK107, GW107.out, GE107.out, bh⟩)
           ·skip
            refine bxs 8 #[.int .i64 0, .int .i64 0] 29 ?_
            intro gb107 hg w15 hbox hb
            have BK107 := Aside0.mk (hbox)
            have GW107 := Aside0.mk (gs hg : w.heap.size ≤ gb107)
            have GE107 := Aside0.mk (gs hg : w.heap.size ≤ gb107)
            replace HB := Aside0.mk (below_step bh hb)
            clear hb hbox hg
            refine hK.out _ _ ⟨(hc HB hw103_0), (hc HB hw103_1), (hc HB hw104_0), (hc HB hw104_1)⟩ (fun hHeld => ?_)
            clear hK K
            refine nm 8 ?_
            refine one_ (i := 12) (N := some 32) #[true, true, true, true, true, true, true, true, true, true, true, true, true, true, false] rfl rfl (on1 HT_) (by decide) (fun K hK => ?_)
            refine goes_ Try.func70 (by kernel_rfl) rfl #[.agg #[.int .i64 ((rd_T29 l0 (ji7)).f0), .int .i64 ((rd_T29 l0 (ji7)).f1)], .agg #[.int .i64 ((rd_T29 l0 x17_1).f0), .int .i64 ((rd_T29 l0 x17_1).f1)]] (by rfl) rfl rfl (by (try simp only [List.map_toArray, List.map_cons, List.map_nil]); first | done | (simp only [hji7]; rfl) | rfl | (simp only [List.length_drop, List.length_take]; rfl)) ?_
            with_reducible refine (shape_sub.calls ((rd_T29 l0 (ji7)).f0) ((rd_T29 l0 (ji7)).f1) ((rd_T29 l0 x17_1).f0) ((rd_T29 l0 x17_1).f1) t105 t106 _ A12.out).mono ?_
            rintro e w16 ⟨rfl, hb⟩
            refine ⟨_, rfl, ?_⟩
            replace BK107 := kb BK107 hb
            replace HB := Aside0.mk (below_step bh hb)
            (try clear hb); (try clear hb2); (try clear hk); (try clear hi)
            refine hK.out _ _ ⟨(hc HB hw103_0), (hc HB hw103_1), (hc HB hw104_0), (hc HB hw104_1)⟩ (fun hHeld => ?_)
            clear hK K
            refine nm 32 ?_
            exact norm_ pa (hCont (gb107) _ ⟨hHeld, bk BK107, GW107.out, GE107.out, bh⟩)
          rintro gb107 w17 ⟨hS_, h0_, h1_, h2_, h3_⟩
          have BK107 := Aside0.mk h0_
          have GW107 := Aside0.mk h1_
          have GE107 := Aside0.mk h2_
          replace HB := Aside0.mk h3_
          clear h0_ h1_ h2_ h3_
          have hHeld := hS_
          refine nn ?_
          refine one_ (i := 14) (N := none) #[true, true, true, true, true, true, true, true, true, true, true, true, true, true, true] rfl rfl (on1 HT_) (by decide) (fun K hK => ?_)
          have hs18 : w17.cell? ⟨gb107, 0, none⟩ = some (.int .i64 0) := bc BK107 0
          have hfs18 := blk_frozen BK107.out 0
          have hs19 : w17.cell? ⟨gb107, 1, none⟩ = some (.int .i64 0) := bc BK107 1
          have hfs19 := blk_frozen BK107.out 1
          refine skip_ (w1 := ?_) (by rfl) rfl ?_ ?_
          rotate_left
          ·go_simp
           rfl
          refine hK.out _ _ ⟨((cell_far (p := ⟨gb107, _, none⟩) (fr hw103_0 GW107) _).trans (((cell_far (p := ⟨gb107, _, none⟩) (fr hw103_0 GW107) _).trans (hHeld.1)))), ((cell_far (p := ⟨gb107, _, none⟩) (fr hw103_1 GW107) _).trans (((cell_far (p := ⟨gb107, _, none⟩) (fr hw103_1 GW107) _).trans (hHeld.2.1)))), ((cell_far (p := ⟨gb107, _, none⟩) (fr hw104_0 GW107) _).trans (((cell_far (p := ⟨gb107, _, none⟩) (fr hw104_0 GW107) _).trans (hHeld.2.2.1)))), ((cell_far (p := ⟨gb107, _, none⟩) (fr hw104_1 GW107) _).trans (((cell_far (p := ⟨gb107, _, none⟩) (fr hw104_1 GW107) _).trans (hHeld.2.2.2))))⟩ (fun hHeld => ?_)
          clear hK K
          refine done_ (done_of HT_.out (by kernel_rfl)) ?_
          obtain ⟨hcz20_0, hcz20_1, hfz20_0, hfz20_1⟩ := b2 BK107
          try go_wp2_with (first | ((with_reducible refine gc 71 rfl ?_); refine goesL_ (some 38) rfl rfl Try.func71 (by kernel_rfl) rfl #[.int .i64 t105, .int .i64 t106] rfl sg ?_; (with_reducible refine (shape_gcd.calls k1 t105 t106 t108 _ A13.out).mono ?_); rintro e w21 ⟨rfl, hb⟩; refine ⟨_, rfl, ?_⟩; replace BK107 := Aside0.mk (blk_below (g := gb107) (o := .cells #[.int .i64 t105, .int .i64 t106] 29 (0, 0)) (by (with_reducible repeat (first | refine blk_drewN ?_ _ | refine blk_drew ?_ | refine blk_alloc ?_ _)); refine blk_put (cs := #[.int .i64 t105, .int .i64 0]) ?_ 1 _ rfl; (with_reducible repeat (first | refine blk_drewN ?_ _ | refine blk_drew ?_ | refine blk_alloc ?_ _)); refine blk_put (cs := #[.int .i64 0, .int .i64 0]) ?_ 0 _ rfl; (with_reducible repeat (first | refine blk_drewN ?_ _ | refine blk_drew ?_ | refine blk_alloc ?_ _)); exact BK107.out) hb); replace HB := Aside0.mk (below_step bh hb); (try clear hb); (try clear hb2); (try clear hk); (try clear hi)))
          go_roundg k1
          case measure => have := HK1.out; omega
          case rel => exact ⟨(wrap64 (x6_1 + t108)), (wrap64 (x17_1 + 1)), sd, sd, H', ⟨by have := HK1.out; omega⟩, ⟨bh⟩⟩
         ·rw [if_neg c11] at H
          exact absurd H (by simp)
        ·rw [if_neg c10] at H
         exact absurd H (by simp)
       ·rw [if_neg c9] at H
        exact absurd H (by simp)
      ·rw [if_neg c8] at H
       exact absurd H (by simp)
    ·rw [if_neg c5] at H
     have c5b0 := decide_eq_false c5
     clear c5
     replace H := Option.bind_eq_some_iff.mp H
     obtain ⟨t102, A220, H⟩ := H
     replace H : (some (wrap64 (Int.tdiv (wrap64 ((wrap64 ((mx t102 (wrap64 (-t102))) - x6_1)) + 2)) 2), x6_1, 0)) = some (r1, r2, r3) := H
     have A22 := Aside0.mk A220
     clear A220
     obtain ⟨ji23, hji23⟩ : ∃ j_ : Int, (mx t102 (wrap64 (-t102))) = j_ := ⟨_, rfl⟩
     replace H : (some (wrap64 (Int.tdiv (wrap64 ((wrap64 ((ji23) - x6_1)) + 2)) 2), x6_1, 0)) = some (r1, r2, r3) := by first | (rw [hji23] at H; exact H) | (simp only [hji23] at H ⊢; exact H)
     (try rw [hji23] at A22)
     have hji23_ : (if t102 < (wrap64 (-t102)) then (wrap64 (-t102)) else t102) = ji23 := hji23
     simp only [Option.some.injEq, Prod.mk.injEq] at H
     obtain ⟨rfl, rfl, rfl⟩ := H
     go_wp2_with (first | ((with_reducible refine gc 67 rfl ?_); refine goesL_ (some 42) rfl rfl Try.func67 (by kernel_rfl) rfl #[.slice A0 l0.length c0] rfl sg ?_; (with_reducible refine (shape_area2.calls k1 _ _ l0 t102 _ ?side1 ?side2 A22.out).mono ?_); (case side1 => exact cs (Kd.C_below HR0.out HB.out)); (case side2 => exact HC0.out); rintro e w24 ⟨rfl, hb⟩; refine ⟨_, rfl, ?_⟩; replace HB := Aside0.mk (below_step bh hb); (try clear hb); (try clear hb2); (try clear hk); (try clear hi)))
     go_ret3
     exact ⟨by first | rfl | (simp [errW_none, errW_some] <;> rfl) | (simp only [← hji23]; first | rfl | (simp [errW_none, errW_some] <;> rfl)) | (simp [*, errW_none, errW_some] <;> rfl), bh⟩
 ·rw [if_neg c3] at H
  have c3b0 : (t101 == 0) = false := beq_eq_false_iff_ne.mpr c3
  have c3b1 : (t101 != 0) = true := bne_iff_ne.mpr c3
  simp only [Option.some.injEq, Prod.mk.injEq] at H
  obtain ⟨rfl, rfl, rfl⟩ := H
  go_enter Try.func25, Try.ntmps25
  go_wp2_with (first | ((with_reducible refine gc 68 rfl ?_); refine goesL_ (some 11) rfl rfl Try.func68 (by kernel_rfl) rfl #[.slice A0 l0.length c0, .func (.func 69) #[] #[]] rfl sg ?_; (with_reducible refine (shape_refused_simple.calls k _ _ l0  t101 _ ?side1 ?side2 A2.out).mono ?_); (case side1 => repeat (first | exact HR0.out | (with_reducible refine Kd.C_alloc ?_ _) | (with_reducible refine Kd.C_drewN ?_ _) | (with_reducible refine Kd.C_drew ?_))); (case side2 => exact HC0.out); rintro e w25 ⟨rfl, hb⟩; refine ⟨_, rfl, ?_⟩; replace HB := Aside0.mk (below_step bh hb); (try clear hb); (try clear hb2); (try clear hk); (try clear hi)))
  go_ret3
  exact ⟨by exact er, bh⟩
/-! ### cracknellaw04_lives: function 18 -/
def cracknellaw04_lives.f (k : Nat)  : Option (Bool) := (some (([(⟨0, 0⟩ : S29), (⟨2, 0⟩ : S29), (⟨2, 2⟩ : S29), (⟨0, 2⟩ : S29)] : List (S29)) : List (S29))).bind fun y101 => ((shape_Area2.f k y101).bind fun bt104 => ((shape_Lattice.f k y101).bind fun bt106 => ((shape_Hull.f k (([(⟨0, 0⟩ : S29), (⟨1, 0⟩ : S29), (⟨2, 0⟩ : S29), (⟨0, 2⟩ : S29), (⟨1, 1⟩ : S29)] : List (S29)))).bind fun bt112 => (if bt104.1 = 8 then (if bt104.2 = 0 then (if bt106.1 = 1 then (if bt106.2.1 = 8 then (if bt106.2.2 = 0 then (if bt112.2 = 0 then ((cracknelref04_Same.f k bt112.1 (([(⟨0, 0⟩ : S29), (⟨2, 0⟩ : S29), (⟨0, 2⟩ : S29)] : List (S29)))).bind fun t119 => (some t119)) else (some false)) else (some false)) else (some false)) else (some false)) else (some false)) else (some false)))))
set_option maxHeartbeats 8000000 in
set_option maxRecDepth 100000 in
theorem cracknellaw04_lives.calls (k : Nat)  (r : Bool) (w : World) (h : cracknellaw04_lives.f k  = some r) (hr : r = true) :
  Calls Try.prog 18 #[] w fun e w' => e = .returned (.bool r) ∧ Below w.heap.size w w' := by
 have hu29 := Try.underlying29
 have HB := Aside0.mk (Below.refl w.heap.size w)
 have H : ((some (([(⟨0, 0⟩ : S29), (⟨2, 0⟩ : S29), (⟨2, 2⟩ : S29), (⟨0, 2⟩ : S29)] : List (S29)) : List (S29))).bind fun y101 => ((shape_Area2.f k y101).bind fun bt104 => ((shape_Lattice.f k y101).bind fun bt106 => ((shape_Hull.f k (([(⟨0, 0⟩ : S29), (⟨1, 0⟩ : S29), (⟨2, 0⟩ : S29), (⟨0, 2⟩ : S29), (⟨1, 1⟩ : S29)] : List (S29)))).bind fun bt112 => (if bt104.1 = 8 then (if bt104.2 = 0 then (if bt106.1 = 1 then (if bt106.2.1 = 8 then (if bt106.2.2 = 0 then (if bt112.2 = 0 then ((cracknelref04_Same.f k bt112.1 (([(⟨0, 0⟩ : S29), (⟨2, 0⟩ : S29), (⟨0, 2⟩ : S29)] : List (S29)))).bind fun t119 => (some t119)) else (some false)) else (some false)) else (some false)) else (some false)) else (some false)) else (some false)))))) = some r := h
 clear h
 obtain ⟨y101, hy101⟩ : ∃ y_ : List (S29), y_ = (([(⟨0, 0⟩ : S29), (⟨2, 0⟩ : S29), (⟨2, 2⟩ : S29), (⟨0, 2⟩ : S29)] : List (S29))) := ⟨_, rfl⟩
 replace H : ((shape_Area2.f k y101).bind fun bt104 => ((shape_Lattice.f k y101).bind fun bt106 => ((shape_Hull.f k (([(⟨0, 0⟩ : S29), (⟨1, 0⟩ : S29), (⟨2, 0⟩ : S29), (⟨0, 2⟩ : S29), (⟨1, 1⟩ : S29)] : List (S29)))).bind fun bt112 => (if bt104.1 = 8 then (if bt104.2 = 0 then (if bt106.1 = 1 then (if bt106.2.1 = 8 then (if bt106.2.2 = 0 then (if bt112.2 = 0 then ((cracknelref04_Same.f k bt112.1 (([(⟨0, 0⟩ : S29), (⟨2, 0⟩ : S29), (⟨0, 2⟩ : S29)] : List (S29)))).bind fun t119 => (some t119)) else (some false)) else (some false)) else (some false)) else (some false)) else (some false)) else (some false))))) = some r := by first | (rw [hy101]; with_reducible exact H) | (have H2_ := (Option.bind_some _ _).symm.trans H; rw [hy101]; with_reducible exact H2_) | (have H2_ := (Option.bind_some _ _).symm.trans H; with_reducible exact H2_) | with_reducible exact H | (rw [hy101]; exact H) | exact H
 have Ny101 := Aside0.mk hy101
 clear hy101
 replace H := Option.bind_eq_some_iff.mp H
 obtain ⟨⟨t104, t105⟩, A10, H⟩ := H
 try dsimp only at H
 have A1 := Aside0.mk A10
 clear A10
 replace H := Option.bind_eq_some_iff.mp H
 obtain ⟨⟨t106, t107, t108⟩, A20, H⟩ := H
 try dsimp only at H
 have A2 := Aside0.mk A20
 clear A20
 obtain ⟨y109, hy109⟩ : ∃ y_ : List (S29), y_ = (([(⟨0, 0⟩ : S29), (⟨1, 0⟩ : S29), (⟨2, 0⟩ : S29), (⟨0, 2⟩ : S29), (⟨1, 1⟩ : S29)] : List (S29))) := ⟨_, rfl⟩
 replace H : ((shape_Hull.f k y109).bind fun bt112 => (if t104 = 8 then (if t105 = 0 then (if t106 = 1 then (if t107 = 8 then (if t108 = 0 then (if bt112.2 = 0 then ((cracknelref04_Same.f k bt112.1 (([(⟨0, 0⟩ : S29), (⟨2, 0⟩ : S29), (⟨0, 2⟩ : S29)] : List (S29)))).bind fun t119 => (some t119)) else (some false)) else (some false)) else (some false)) else (some false)) else (some false)) else (some false))) = some r := by first | (rw [hy109]; with_reducible exact H) | (have H2_ := (Option.bind_some _ _).symm.trans H; rw [hy109]; with_reducible exact H2_) | (have H2_ := (Option.bind_some _ _).symm.trans H; with_reducible exact H2_) | with_reducible exact H | (rw [hy109]; exact H) | exact H
 have Ny109 := Aside0.mk hy109
 clear hy109
 replace H := Option.bind_eq_some_iff.mp H
 obtain ⟨⟨t112, t113⟩, A30, H⟩ := H
 try dsimp only at H
 have A3 := Aside0.mk A30
 clear A30
 by_cases c4 : t104 = 8
 ·rw [if_pos c4] at H
  have c4b0 : (t104 == 8) = true := beq_iff_eq.mpr c4
  have c4b1 : (t104 != 8) = false := bne_eq_false_iff_eq.mpr c4
  clear c4
  by_cases c5 : t105 = 0
  ·rw [if_pos c5] at H
   have c5b0 : (t105 == 0) = true := beq_iff_eq.mpr c5
   have c5b1 : (t105 != 0) = false := bne_eq_false_iff_eq.mpr c5
   clear c5
   by_cases c6 : t106 = 1
   ·rw [if_pos c6] at H
    have c6b0 : (t106 == 1) = true := beq_iff_eq.mpr c6
    have c6b1 : (t106 != 1) = false := bne_eq_false_iff_eq.mpr c6
    clear c6
    by_cases c7 : t107 = 8
    ·rw [if_pos c7] at H
     have c7b0 : (t107 == 8) = true := beq_iff_eq.mpr c7
     have c7b1 : (t107 != 8) = false := bne_eq_false_iff_eq.mpr c7
     clear c7
     by_cases c8 : t108 = 0
     ·rw [if_pos c8] at H
      have c8b0 : (t108 == 0) = true := beq_iff_eq.mpr c8
      have c8b1 : (t108 != 0) = false := bne_eq_false_iff_eq.mpr c8
      clear c8
      by_cases c9 : t113 = 0
      ·rw [if_pos c9] at H
       have c9b0 : (t113 == 0) = true := beq_iff_eq.mpr c9
       have c9b1 : (t113 != 0) = false := bne_eq_false_iff_eq.mpr c9
       clear c9
       obtain ⟨y116, hy116⟩ : ∃ y_ : List (S29), y_ = (([(⟨0, 0⟩ : S29), (⟨2, 0⟩ : S29), (⟨0, 2⟩ : S29)] : List (S29))) := ⟨_, rfl⟩
       replace H : ((cracknelref04_Same.f k t112 y116).bind fun t119 => (some t119)) = some r := by first | (rw [hy116]; with_reducible exact H) | (have H2_ := (Option.bind_some _ _).symm.trans H; rw [hy116]; with_reducible exact H2_) | (have H2_ := (Option.bind_some _ _).symm.trans H; with_reducible exact H2_) | with_reducible exact H | (rw [hy116]; exact H) | exact H
       have Ny116 := Aside0.mk hy116
       clear hy116
       replace H := Option.bind_eq_some_iff.mp H
       obtain ⟨t119, A100, H⟩ := H
       try dsimp only at H
       have A10 := Aside0.mk A100
       clear A100
       obtain rfl := Option.some.inj H
       go_enter Try.func18, Try.ntmps18
       go_wp2_with (first | ((with_reducible refine gate_dst (N := 13) rfl ?_); (try (refine gate_guard (by rfl) ?_; dsimp only)); refine Kd.R_lit k29 _ 29 ?hg (N := 13) ?hd (xs := ([(⟨0, 0⟩ : S29), (⟨2, 0⟩ : S29), (⟨2, 2⟩ : S29), (⟨0, 2⟩ : S29)] : List (S29))) (inner := [.int .i64 0, .int .i64 0, .int .i64 2, .int .i64 0, .int .i64 2, .int .i64 2, .int .i64 0, .int .i64 2]) (ok := fun _ => True) (okp := fun _ => True) ?hr ?hp (fun _ hk => hk) trivial (Below.refl _ _) (Nat.le_refl _) (by simp) ?_; (case hd => rfl); (case hg => rfl); (case hr => first | (go_simp; done) | (go_simp; rfl)); (case hp => exact (Reps.c2 (k29_mkM _ _ _ (⟨0, 0⟩ : S29)) (Reps.c2 (k29_mkM _ _ _ (⟨2, 0⟩ : S29)) (Reps.c2 (k29_mkM _ _ _ (⟨2, 2⟩ : S29)) (Reps.c2 (k29_mkM _ _ _ (⟨0, 2⟩ : S29)) (Reps.none _ _)))))); intro v102 w11 ho12 hb hg_ hnew_; clear hg_ hnew_; (first | rw [← Ny101.out] at ho12 | (simp only [Int.reduceToNat] at ho12; rw [← Ny101.out] at ho12)); have HO103 := Aside0.mk (Kd.R_lower ho12 (below_size bh)); replace HB := Aside0.mk (below_step bh hb); clear hb ho12; obtain ⟨Ao13, co13, eo13⟩ := Kd.R_slice HO103.out; subst eo13) | ((with_reducible refine gc 24 rfl ?_); refine goesL_ (some 16) rfl rfl Try.func24 (by kernel_rfl) rfl #[.slice Ao13 y101.length co13] rfl sg ?_; (with_reducible refine (shape_Area2.calls k _ _ y101 t104 t105 _ ?side1 ?side2 A1.out).mono ?_); (case side1 => exact cs (Kd.R_reads' HO103.out).2.2); (case side2 => exact (Kd.R_reads' HO103.out).2.1); rintro e w14 ⟨rfl, hb⟩; refine ⟨_, rfl, ?_⟩; replace HO103 := Aside0.mk (Kd.R_below (ro HO103) hb); replace HB := Aside0.mk (below_step bh hb); (try clear hb); (try clear hb2); (try clear hk); (try clear hi)) | ((with_reducible refine gc 25 rfl ?_); refine goesL_ (some 21) rfl rfl Try.func25 (by kernel_rfl) rfl #[.slice Ao13 y101.length co13] rfl sg ?_; (with_reducible refine (shape_Lattice.calls k _ _ y101 t106 t107 t108 _ ?side1 ?side2 A2.out).mono ?_); (case side1 => exact cs (Kd.R_reads' HO103.out).2.2); (case side2 => exact (Kd.R_reads' HO103.out).2.1); rintro e w15 ⟨rfl, hb⟩; refine ⟨_, rfl, ?_⟩; replace HO103 := Aside0.mk (Kd.R_below (ro HO103) hb); replace HB := Aside0.mk (below_step bh hb); (try clear hb); (try clear hb2); (try clear hk); (try clear hi)) | ((with_reducible refine gate_dst (N := 31) rfl ?_); (try (refine gate_guard (by rfl) ?_; dsimp only)); refine Kd.R_lit k29 _ 29 ?hg (N := 31) ?hd (xs := ([(⟨0, 0⟩ : S29), (⟨1, 0⟩ : S29), (⟨2, 0⟩ : S29), (⟨0, 2⟩ : S29), (⟨1, 1⟩ : S29)] : List (S29))) (inner := [.int .i64 0, .int .i64 0, .int .i64 1, .int .i64 0, .int .i64 2, .int .i64 0, .int .i64 0, .int .i64 2, .int .i64 1, .int .i64 1]) (ok := fun _ => True) (okp := fun _ => True) ?hr ?hp (fun _ hk => hk) trivial (Below.refl _ _) (Nat.le_refl _) (by simp) ?_; (case hd => rfl); (case hg => rfl); (case hr => first | (go_simp; done) | (go_simp; rfl)); (case hp => exact (Reps.c2 (k29_mkM _ _ _ (⟨0, 0⟩ : S29)) (Reps.c2 (k29_mkM _ _ _ (⟨1, 0⟩ : S29)) (Reps.c2 (k29_mkM _ _ _ (⟨2, 0⟩ : S29)) (Reps.c2 (k29_mkM _ _ _ (⟨0, 2⟩ : S29)) (Reps.c2 (k29_mkM _ _ _ (⟨1, 1⟩ : S29)) (Reps.none _ _))))))); intro v110 w16 ho17 hb hg_ hnew_; clear hg_ hnew_; (first | rw [← Ny109.out] at ho17 | (simp only [Int.reduceToNat] at ho17; rw [← Ny109.out] at ho17)); have HO111 := Aside0.mk (Kd.R_lower (Kd.R_new' ho17 (Kd.R_lt (ro HO103))) (below_size bh)); replace HO103 := Aside0.mk (Kd.R_elder' (ro HO103) (Kd.R_base ho17) hb); replace HB := Aside0.mk (below_step bh hb); clear hb ho17; obtain ⟨Ao18, co18, eo18⟩ := Kd.R_slice HO111.out; subst eo18) | ((with_reducible refine gc 16 rfl ?_); refine goesL_ (some 32) rfl rfl Try.func16 (by kernel_rfl) rfl #[.slice Ao18 y109.length co18] rfl sg ?_; (with_reducible refine (shape_Hull.calls k _ _ y109 t112 t113 _ ?side1 ?side2 A3.out).mono ?_); (case side1 => exact cs (Kd.R_reads' HO111.out).2.2); (case side2 => exact (Kd.R_reads' HO111.out).2.1); rintro e w19 ⟨v114, rfl, ho0, hb⟩; refine ⟨_, rfl, ?_⟩; have HO115 := Aside0.mk (Kd.R_lower (Kd.R_new' (Kd.R_new' ho0 (Kd.R_lt (ro HO103))) (Kd.R_lt (ro HO111))) (below_size bh)); replace HO103 := Aside0.mk (Kd.R_elder' (ro HO103) (Kd.R_base ho0) hb); replace HO111 := Aside0.mk (Kd.R_elder' (ro HO111) (Kd.R_base ho0) hb); replace HB := Aside0.mk (below_step bh hb); (try clear hb); (try clear hb2); (try clear hk); (try clear hi); (try clear ho0)) | ((with_reducible refine gate_dst (N := 62) rfl ?_); (try (refine gate_guard (by rfl) ?_; dsimp only)); refine Kd.R_lit k29 _ 29 ?hg (N := 62) ?hd (xs := ([(⟨0, 0⟩ : S29), (⟨2, 0⟩ : S29), (⟨0, 2⟩ : S29)] : List (S29))) (inner := [.int .i64 0, .int .i64 0, .int .i64 2, .int .i64 0, .int .i64 0, .int .i64 2]) (ok := fun _ => True) (okp := fun _ => True) ?hr ?hp (fun _ hk => hk) trivial (Below.refl _ _) (Nat.le_refl _) (by simp) ?_; (case hd => rfl); (case hg => rfl); (case hr => first | (go_simp; done) | (go_simp; rfl)); (case hp => exact (Reps.c2 (k29_mkM _ _ _ (⟨0, 0⟩ : S29)) (Reps.c2 (k29_mkM _ _ _ (⟨2, 0⟩ : S29)) (Reps.c2 (k29_mkM _ _ _ (⟨0, 2⟩ : S29)) (Reps.none _ _))))); intro v117 w20 ho21 hb hg_ hnew_; clear hg_ hnew_; (first | rw [← Ny116.out] at ho21 | (simp only [Int.reduceToNat] at ho21; rw [← Ny116.out] at ho21)); have HO118 := Aside0.mk (Kd.R_lower (Kd.R_new' (Kd.R_new' (Kd.R_new' ho21 (Kd.R_lt (ro HO103))) (Kd.R_lt (ro HO111))) (Kd.R_lt (ro HO115))) (below_size bh)); replace HO103 := Aside0.mk (Kd.R_elder' (ro HO103) (Kd.R_base ho21) hb); replace HO111 := Aside0.mk (Kd.R_elder' (ro HO111) (Kd.R_base ho21) hb); replace HO115 := Aside0.mk (Kd.R_elder' (ro HO115) (Kd.R_base ho21) hb); replace HB := Aside0.mk (below_step bh hb); clear hb ho21; obtain ⟨Ao22, co22, eo22⟩ := Kd.R_slice HO115.out; subst eo22; obtain ⟨Ao23, co23, eo23⟩ := Kd.R_slice HO118.out; subst eo23) | (go_at_call 20; (with_reducible refine (cracknelref04_Same.calls k _ _ t112 _ _ y116 t119 _ ?side1 ?side2 ?side3 ?side4 A10.out).mono ?_); (case side1 => exact cs (Kd.R_reads' HO115.out).2.2); (case side2 => exact (Kd.R_reads' HO115.out).2.1); (case side3 => exact cs (Kd.R_reads' HO118.out).2.2); (case side4 => exact (Kd.R_reads' HO118.out).2.1); rintro e w' ⟨rfl, ⟨nd, rfl⟩⟩))
       go_ret
       exact ⟨by exact er, bh⟩
      ·rw [if_neg c9] at H
       have c9b0 : (t113 == 0) = false := beq_eq_false_iff_ne.mpr c9
       have c9b1 : (t113 != 0) = true := bne_iff_ne.mpr c9
       obtain rfl := Option.some.inj H
       cases hr
     ·rw [if_neg c8] at H
      have c8b0 : (t108 == 0) = false := beq_eq_false_iff_ne.mpr c8
      have c8b1 : (t108 != 0) = true := bne_iff_ne.mpr c8
      obtain rfl := Option.some.inj H
      cases hr
    ·rw [if_neg c7] at H
     have c7b0 : (t107 == 8) = false := beq_eq_false_iff_ne.mpr c7
     have c7b1 : (t107 != 8) = true := bne_iff_ne.mpr c7
     obtain rfl := Option.some.inj H
     cases hr
   ·rw [if_neg c6] at H
    have c6b0 : (t106 == 1) = false := beq_eq_false_iff_ne.mpr c6
    have c6b1 : (t106 != 1) = true := bne_iff_ne.mpr c6
    obtain rfl := Option.some.inj H
    cases hr
  ·rw [if_neg c5] at H
   have c5b0 : (t105 == 0) = false := beq_eq_false_iff_ne.mpr c5
   have c5b1 : (t105 != 0) = true := bne_iff_ne.mpr c5
   obtain rfl := Option.some.inj H
   cases hr
 ·rw [if_neg c4] at H
  have c4b0 : (t104 == 8) = false := beq_eq_false_iff_ne.mpr c4
  have c4b1 : (t104 != 8) = true := bne_iff_ne.mpr c4
  obtain rfl := Option.some.inj H
  cases hr
/-! ### shape_add: function 78 -/
def shape_add.f (a0_0 : Int) (a0_1 : Int) (a1_0 : Int) (a1_1 : Int) : Option (Int × Int) := some (wrap64 (a0_0 + a1_0), wrap64 (a0_1 + a1_1))
set_option maxHeartbeats 8000000 in
set_option maxRecDepth 100000 in
theorem shape_add.calls (a0_0 : Int) (a0_1 : Int) (a1_0 : Int) (a1_1 : Int) (r1 : Int) (r2 : Int) (w : World) (h : shape_add.f a0_0 a0_1 a1_0 a1_1 = some (r1, r2)) :
  Calls Try.prog 78 #[.agg #[.int .i64 a0_0, .int .i64 a0_1], .agg #[.int .i64 a1_0, .int .i64 a1_1]] w fun e w' => e = .returned (.agg #[.int .i64 r1, .int .i64 r2]) ∧ Below w.heap.size w w' := by
 have hu29 := Try.underlying29
 have HB := Aside0.mk (Below.refl w.heap.size w)
 have H : (some (wrap64 (a0_0 + a1_0), wrap64 (a0_1 + a1_1))) = some (r1, r2) := h
 clear h
 simp only [Option.some.injEq, Prod.mk.injEq] at H
 obtain ⟨rfl, rfl⟩ := H
 go_enter Try.func78, Try.ntmps78
 go_wp2_with (first | ((with_reducible refine gate_dst (N := 2) rfl ?_); refine bxe 2 #[.int .i64 a0_0, .int .i64 a0_1] 29 ?_; intro gb101 hg w3 hbox hb; have BK101 := Aside0.mk (hbox); have GW101 := Aside0.mk (gs hg : w.heap.size ≤ gb101); have GE101 := Aside0.mk (gs hg : w.heap.size ≤ gb101); replace HB := Aside0.mk (below_step bh hb); clear hb hbox hg) | ((with_reducible refine gate_dst (N := 3) rfl ?_); refine bxe 3 #[.int .i64 a1_0, .int .i64 a1_1] 29 ?_; intro gb102 hg w4 hbox hb; have BK102 := Aside0.mk (hbox); have GW102 := Aside0.mk (gs hg : w.heap.size ≤ gb102); have GE102 := Aside0.mk (gs hg : w.heap.size ≤ gb102); have NB101_102 := Aside0.mk ((by rw [hg]; exact Nat.ne_of_lt (kl BK101) : gb101 ≠ gb102)); have NB102_101 := Aside0.mk ((by rw [hg]; exact Nat.ne_of_gt (kl BK101) : gb102 ≠ gb101)); replace BK101 := kb BK101 hb; replace HB := Aside0.mk (below_step bh hb); clear hb hbox hg) | ((with_reducible refine gate_dst (N := 4) rfl ?_); refine bxe 4 #[.int .i64 0, .int .i64 0] 29 ?_; intro gb103 hg w5 hbox hb; have BK103 := Aside0.mk (hbox); have GW103 := Aside0.mk (gs hg : w.heap.size ≤ gb103); have GE103 := Aside0.mk (gs hg : w.heap.size ≤ gb103); have NB101_103 := Aside0.mk ((by rw [hg]; exact Nat.ne_of_lt (kl BK101) : gb101 ≠ gb103)); have NB103_101 := Aside0.mk ((by rw [hg]; exact Nat.ne_of_gt (kl BK101) : gb103 ≠ gb101)); have NB102_103 := Aside0.mk ((by rw [hg]; exact Nat.ne_of_lt (kl BK102) : gb102 ≠ gb103)); have NB103_102 := Aside0.mk ((by rw [hg]; exact Nat.ne_of_gt (kl BK102) : gb103 ≠ gb102)); replace BK101 := kb BK101 hb; replace BK102 := kb BK102 hb; replace HB := Aside0.mk (below_step bh hb); clear hb hbox hg; have hnb6 := NB101_102.out; have hnc6 := NB102_101.out; have hnb7 := NB101_103.out; have hnc7 := NB103_101.out; have hcz8_0 : w5.cell? ⟨gb101, 0, none⟩ = some (.int .i64 a0_0) := bc BK101 0; have hcz8_1 : w5.cell? ⟨gb101, 1, none⟩ = some (.int .i64 a0_1) := bc BK101 1; have hfz8_0 := blk_frozen BK101.out 0; have hfz8_1 := blk_frozen BK101.out 1; have hnb9 := NB102_103.out; have hnc9 := NB103_102.out; have hcz10_0 : w5.cell? ⟨gb102, 0, none⟩ = some (.int .i64 a1_0) := bc BK102 0; have hcz10_1 : w5.cell? ⟨gb102, 1, none⟩ = some (.int .i64 a1_1) := bc BK102 1; have hfz10_0 := blk_frozen BK102.out 0; have hfz10_1 := blk_frozen BK102.out 1; have hcz11_0 : w5.cell? ⟨gb103, 0, none⟩ = some (.int .i64 0) := bc BK103 0; have hcz11_1 : w5.cell? ⟨gb103, 1, none⟩ = some (.int .i64 0) := bc BK103 1; have hfz11_0 := blk_frozen BK103.out 0; have hfz11_1 := blk_frozen BK103.out 1))
 refine bodyPost_ret (results_cell_row rfl _ _ gb103 29 #[.int .i64 (wrap64 (a0_0 + a1_0)), .int .i64 (wrap64 (a0_1 + a1_1))] (0, 0) _ rfl (by (with_reducible repeat (first | refine blk_drewN ?_ _ | refine blk_drew ?_ | refine blk_alloc ?_ _)); refine blk_put (cs := #[.int .i64 (wrap64 (a0_0 + a1_0)), .int .i64 0]) ?_ 1 _ rfl; (with_reducible repeat (first | refine blk_drewN ?_ _ | refine blk_drew ?_ | refine blk_alloc ?_ _)); refine blk_put (cs := #[.int .i64 0, .int .i64 0]) ?_ 0 _ rfl; (with_reducible repeat (first | refine blk_drewN ?_ _ | refine blk_drew ?_ | refine blk_alloc ?_ _)); exact BK103.out) Try.underlying29 rfl (by kernel_rfl)) rfl ?_
 exact ⟨by exact er, bh⟩
/-! ### shape_Sum_1: function 77 -/
def shape_Sum_1.f (l0 : List (S29)) (a1 : Int) : Option (Int × Int) := if (l0.length : Int) = 0 then (none) else (if 0 ≤ (Int.tmod (wrap64 (a1 + 1)) (l0.length : Int)) then (if (Int.tmod (wrap64 (a1 + 1)) (l0.length : Int)) < (l0.length : Int) then (if 0 ≤ a1 then (if a1 < (l0.length : Int) then ((shape_sub.f ((rd_T29 l0 (Int.tmod (wrap64 (a1 + 1)) (l0.length : Int))).f0) ((rd_T29 l0 (Int.tmod (wrap64 (a1 + 1)) (l0.length : Int))).f1) ((rd_T29 l0 a1).f0) ((rd_T29 l0 a1).f1)).bind fun bt104 => (some (bt104.1, bt104.2))) else (none)) else (none)) else (none)) else (none))
def shape_Sum_1.T1 : Bool × List (List Nat × List Nat) := (true, [([], []), ([], []), ([1], [1]), ([], []), ([3], [3]), ([2, 4], [2, 4]), ([0, 5], [0, 5]), ([6], [6]), ([], []), ([], []), ([8, 9], [8, 9]), ([10], [10]), ([7, 11], [7, 11]), ([12, 12, 0, 1, 2, 3, 4, 5, 6, 7, 8, 9, 10, 11, 12], [12])])
def shape_Sum_1.B1 : List Nat := [0, 0, 2, 0, 8, 30, 63, 127, 0, 0, 768, 1792, 4095, 8191]
theorem shape_Sum_1.tab1 : rtab .any (opsOf Try.f77 1) = shape_Sum_1.T1 := by kernel_rfl
theorem shape_Sum_1.bits1 : waitsOk shape_Sum_1.T1.2 shape_Sum_1.B1 = true := by kernel_rfl
set_option maxHeartbeats 8000000 in
set_option maxRecDepth 100000 in
theorem shape_Sum_1.calls (A0 : Option Addr) (c0 : Nat) (l0 : List (S29)) (a1 : Int) (r1 : Int) (r2 : Int) (w : World) (hr0 : Kd.C k29 w A0 l0.length l0) (hc0 : l0.length ≤ c0) (h : shape_Sum_1.f l0 a1 = some (r1, r2)) :
  Calls Try.prog 77 #[.slice A0 l0.length c0, .int .i64 a1] w fun e w' => e = .returned (.agg #[.int .i64 r1, .int .i64 r2]) ∧ Below w.heap.size w w' := by
 have hu29 := Try.underlying29
 have HR0 := Aside0.mk hr0
 have HC0 := Aside0.mk hc0
 clear hr0 hc0
 have HB := Aside0.mk (Below.refl w.heap.size w)
 have H : (if (l0.length : Int) = 0 then (none) else (if 0 ≤ (Int.tmod (wrap64 (a1 + 1)) (l0.length : Int)) then (if (Int.tmod (wrap64 (a1 + 1)) (l0.length : Int)) < (l0.length : Int) then (if 0 ≤ a1 then (if a1 < (l0.length : Int) then ((shape_sub.f ((rd_T29 l0 (Int.tmod (wrap64 (a1 + 1)) (l0.length : Int))).f0) ((rd_T29 l0 (Int.tmod (wrap64 (a1 + 1)) (l0.length : Int))).f1) ((rd_T29 l0 a1).f0) ((rd_T29 l0 a1).f1)).bind fun bt104 => (some (bt104.1, bt104.2))) else (none)) else (none)) else (none)) else (none))) = some (r1, r2) := h
 clear h
 by_cases c3 : (l0.length : Int) = 0
 ·rw [if_pos c3] at H
  exact absurd H (by simp)
 ·rw [if_neg c3] at H
  have c3b0 : ((l0.length : Int) == 0) = false := beq_eq_false_iff_ne.mpr c3
  have c3b1 : ((l0.length : Int) != 0) = true := bne_iff_ne.mpr c3
  have c3b2 : ¬ (l0 = []) := fun h_ => c3 (by rw [h_]; rfl)
  obtain ⟨ji4, hji4⟩ : ∃ j_ : Int, (Int.tmod (wrap64 (a1 + 1)) (l0.length : Int)) = j_ := ⟨_, rfl⟩
  replace H : (if 0 ≤ (ji4) then (if (ji4) < (l0.length : Int) then (if 0 ≤ a1 then (if a1 < (l0.length : Int) then ((shape_sub.f ((rd_T29 l0 (ji4)).f0) ((rd_T29 l0 (ji4)).f1) ((rd_T29 l0 a1).f0) ((rd_T29 l0 a1).f1)).bind fun bt104 => (some (bt104.1, bt104.2))) else (none)) else (none)) else (none)) else (none)) = some (r1, r2) := by first | (rw [hji4] at H; exact H) | (simp only [hji4] at H ⊢; exact H)
  by_cases c5 : 0 ≤ (ji4)
  ·rw [if_pos c5] at H
   have c5b0 := decide_eq_true c5
   clear c5
   by_cases c6 : (ji4) < (l0.length : Int)
   ·rw [if_pos c6] at H
    have c6b0 := decide_eq_true c6
    clear c6
    by_cases c7 : 0 ≤ a1
    ·rw [if_pos c7] at H
     have c7b0 := decide_eq_true c7
     clear c7
     by_cases c8 : a1 < (l0.length : Int)
     ·rw [if_pos c8] at H
      have c8b0 := decide_eq_true c8
      clear c8
      replace H := Option.bind_eq_some_iff.mp H
      obtain ⟨⟨t104, t105⟩, A90, H⟩ := H
      replace H : (some (t104, t105)) = some (r1, r2) := H
      have A9 := Aside0.mk A90
      clear A90
      simp only [Option.some.injEq, Prod.mk.injEq] at H
      obtain ⟨rfl, rfl⟩ := H
      go_enter Try.func77, Try.ntmps77
      try go_wp2_with (first | ((with_reducible refine gate_dst (N := 4) rfl ?_); refine bxe 4 #[.int .i64 0, .int .i64 0] 29 ?_; intro gb101 hg w10 hbox hb; have BK101 := Aside0.mk (hbox); have GW101 := Aside0.mk (gs hg : w.heap.size ≤ gb101); have GE101 := Aside0.mk (gs hg : w.heap.size ≤ gb101); replace HB := Aside0.mk (below_step bh hb); clear hb hbox hg))
      replace BK101 := Aside0.mk (blk_drew BK101.out)
      replace HB := Aside0.mk (below_drew1 HB.out)
      have p102 : 0 ≤ ((ji4) : Int) := dt
      have q102 : (ji4) < (l0.length : Int) := dt
      obtain ⟨ad102, e102, hx102_0, hx102_1⟩ := at_T29 HR0.out (ji4) p102 q102
      have hw102_1 := hx102_1
      have hw102_0 := hx102_0
      cases e102
      replace hx102_0 := hc HB hx102_0
      replace hx102_1 := hc HB hx102_1
      replace p102 := eq_true p102
      replace q102 := eq_true q102
      have p103 : 0 ≤ (a1 : Int) := dt
      have q103 : a1 < (l0.length : Int) := dt
      obtain ⟨ad103, e103, hx103_0, hx103_1⟩ := at_T29 HR0.out a1 p103 q103
      have hw103_1 := hx103_1
      have hw103_0 := hx103_0
      obtain rfl : ad102 = ad103 := (by injection e103)
      replace hx103_0 := hc HB hx103_0
      replace hx103_1 := hc HB hx103_1
      replace p103 := eq_true p103
      replace q103 := eq_true q103
      refine start_ (n := 14) (S := fun w' => w'.cell? (ad102.add (((ji4)).toNat * 2)) = some (.int .i64 ((rd_T29 l0 (ji4)).f0)) ∧ w'.cell? ⟨(ad102.add (((ji4)).toNat * 2)).block, (ad102.add (((ji4)).toNat * 2)).off + 1, none⟩ = some (.int .i64 ((rd_T29 l0 (ji4)).f1)) ∧ w'.cell? (ad102.add ((a1).toNat * 2)) = some (.int .i64 ((rd_T29 l0 a1).f0)) ∧ w'.cell? ⟨(ad102.add ((a1).toNat * 2)).block, (ad102.add ((a1).toNat * 2)).off + 1, none⟩ = some (.int .i64 ((rd_T29 l0 a1).f1))) (ds := []) #[false, false, false, false, false, false, false, false, false, false, false, false, false, false] (by kernel_rfl) rfl rfl ⟨(hc HB hw102_0), (hc HB hw102_1), (hc HB hw103_0), (hc HB hw103_1)⟩ (fun hHeld => ?_); refine with_tabW shape_Sum_1.tab1 shape_Sum_1.bits1 (fun HT_ HW_ => ?_)
      generalize w10.drew = w11 at BK101 HB hx102_0 hx102_1 hx103_0 hx103_1 hHeld ⊢
      refine pu 0 5 HT_ ?_
      refine pu 1 6 HT_ ?_
      refine pu 2 7 HT_ ?_
      refine pu 3 8 HT_ ?_
      refine pu 4 9 HT_ ?_
      refine pu 5 10 HT_ ?_
      refine pu 6 11 HT_ ?_
      refine pu 8 13 HT_ ?_
      refine pu 9 14 HT_ ?_
      refine pu 10 15 HT_ ?_
      refine tk4 7 12 hHeld HT_ HW_ ?_
      refine tk4 11 16 hHeld HT_ HW_ ?_
      refine one_ (i := 12) (N := some 17) #[true, true, true, true, true, true, true, true, true, true, true, true, true, false] rfl rfl (on1 HT_) (by decide) (fun K hK => ?_)
      refine goes_ Try.func70 (by kernel_rfl) rfl #[.agg #[.int .i64 ((rd_T29 l0 (ji4)).f0), .int .i64 ((rd_T29 l0 (ji4)).f1)], .agg #[.int .i64 ((rd_T29 l0 a1).f0), .int .i64 ((rd_T29 l0 a1).f1)]] (by rfl) rfl rfl (by (try simp only [List.map_toArray, List.map_cons, List.map_nil]); first | done | (simp only [hji4]; rfl) | rfl | (simp only [List.length_drop, List.length_take]; rfl)) ?_
      with_reducible refine (shape_sub.calls ((rd_T29 l0 (ji4)).f0) ((rd_T29 l0 (ji4)).f1) ((rd_T29 l0 a1).f0) ((rd_T29 l0 a1).f1) t104 t105 _ A9.out).mono ?_
      rintro e w12 ⟨rfl, hb⟩
      refine ⟨_, rfl, ?_⟩
      replace BK101 := kb BK101 hb
      replace HB := Aside0.mk (below_step bh hb)
      (try clear hb); (try clear hb2); (try clear hk); (try clear hi)
      refine hK.out _ _ ⟨(hc HB hw102_0), (hc HB hw102_1), (hc HB hw103_0), (hc HB hw103_1)⟩ (fun hHeld => ?_)
      clear hK K
      refine nm 17 ?_
      refine one_ (i := 13) (N := none) #[true, true, true, true, true, true, true, true, true, true, true, true, true, true] rfl rfl (on1 HT_) (by decide) (fun K hK => ?_)
      have hs13 : w12.cell? ⟨gb101, 0, none⟩ = some (.int .i64 0) := bc BK101 0
      have hfs13 := blk_frozen BK101.out 0
      have hs14 : w12.cell? ⟨gb101, 1, none⟩ = some (.int .i64 0) := bc BK101 1
      have hfs14 := blk_frozen BK101.out 1
      refine skip_ (w1 := ?_) (by rfl) rfl ?_ ?_
      rotate_left
      ·go_simp
       rfl
      refine hK.out _ _ ⟨((cell_far (p := ⟨gb101, _, none⟩) (fr hw102_0 GW101) _).trans (((cell_far (p := ⟨gb101, _, none⟩) (fr hw102_0 GW101) _).trans (hHeld.1)))), ((cell_far (p := ⟨gb101, _, none⟩) (fr hw102_1 GW101) _).trans (((cell_far (p := ⟨gb101, _, none⟩) (fr hw102_1 GW101) _).trans (hHeld.2.1)))), ((cell_far (p := ⟨gb101, _, none⟩) (fr hw103_0 GW101) _).trans (((cell_far (p := ⟨gb101, _, none⟩) (fr hw103_0 GW101) _).trans (hHeld.2.2.1)))), ((cell_far (p := ⟨gb101, _, none⟩) (fr hw103_1 GW101) _).trans (((cell_far (p := ⟨gb101, _, none⟩) (fr hw103_1 GW101) _).trans (hHeld.2.2.2))))⟩ (fun hHeld => ?_)
      clear hK K
      refine done_ (done_of HT_.out (by kernel_rfl)) ?_
      try go_wp2
      refine bodyPost_ret (results_cell_row rfl _ _ gb101 29 #[.int .i64 t104, .int .i64 t105] (0, 0) _ rfl (by (with_reducible repeat (first | refine blk_drewN ?_ _ | refine blk_drew ?_ | refine blk_alloc ?_ _)); refine blk_put (cs := #[.int .i64 t104, .int .i64 0]) ?_ 1 _ rfl; (with_reducible repeat (first | refine blk_drewN ?_ _ | refine blk_drew ?_ | refine blk_alloc ?_ _)); refine blk_put (cs := #[.int .i64 0, .int .i64 0]) ?_ 0 _ rfl; (with_reducible repeat (first | refine blk_drewN ?_ _ | refine blk_drew ?_ | refine blk_alloc ?_ _)); exact BK101.out) Try.underlying29 rfl (by kernel_rfl)) rfl ?_
      exact ⟨by first | rfl | (simp [errW_none, errW_some] <;> rfl) | (simp only [← hji4]; first | rfl | (simp [errW_none, errW_some] <;> rfl)) | (simp [*, errW_none, errW_some] <;> rfl), bh⟩
     ·rw [if_neg c8] at H
      exact absurd H (by simp)
    ·rw [if_neg c7] at H
     exact absurd H (by simp)
   ·rw [if_neg c6] at H
    exact absurd H (by simp)
  ·rw [if_neg c5] at H
   exact absurd H (by simp)
attribute [local go_sem high] eqA29
/-! ### shape_normal: function 72 -/
def shape_normal.l0 : Nat → List (S29) → Int → Int → Option (Bool)
 | 0, _, _, _ => none
 | k + 1, x0, x5, x6 => if x6 < x5 then (if 0 ≤ x6 then (if x6 < (x0.length : Int) then (if (x0.length : Int) = 0 then (none) else (if 0 ≤ (Int.tmod (wrap64 (x6 + 1)) (x0.length : Int)) then (if (Int.tmod (wrap64 (x6 + 1)) (x0.length : Int)) < (x0.length : Int) then (if 0 ≤ (Int.tmod (wrap64 (x6 + 2)) (x0.length : Int)) then (if (Int.tmod (wrap64 (x6 + 2)) (x0.length : Int)) < (x0.length : Int) then ((shape_side.f ((rd_T29 x0 x6).f0) ((rd_T29 x0 x6).f1) ((rd_T29 x0 (Int.tmod (wrap64 (x6 + 1)) (x0.length : Int))).f0) ((rd_T29 x0 (Int.tmod (wrap64 (x6 + 1)) (x0.length : Int))).f1) ((rd_T29 x0 (Int.tmod (wrap64 (x6 + 2)) (x0.length : Int))).f0) ((rd_T29 x0 (Int.tmod (wrap64 (x6 + 2)) (x0.length : Int))).f1)).bind fun t104 => (if t104 ≤ 0 then (some false) else (shape_normal.l0 k x0 x5 (wrap64 (x6 + 1))))) else (none)) else (none)) else (none)) else (none))) else (none)) else (none)) else (if 0 < (x0.length : Int) then ((slices_MinFunc_lower.f k x0).bind fun bt106 => (if (((rd_T29 x0 0).f0) == bt106.1 && (((rd_T29 x0 0).f1) == bt106.2)) = true then ((shape_simple.f k x0).bind fun t108 => (some t108)) else (some false))) else (none))
def shape_normal.f (k : Nat) (l0 : List (S29)) : Option (Bool) := shape_normal.l0 k l0 (l0.length : Int) 0
def shape_normal.T4 : Bool × List (List Nat × List Nat) := (true, [([], []), ([], []), ([0, 1], [0, 1]), ([2], [2]), ([], []), ([], []), ([5], [5]), ([], []), ([7], [7]), ([6, 8], [6, 8]), ([4, 9], [4, 9]), ([10], [10]), ([], []), ([], []), ([13], [13]), ([], []), ([15], [15]), ([14, 16], [14, 16]), ([12, 17], [12, 17]), ([18], [18]), ([3, 11, 19], [3, 11, 19]), ([20], [20])])
def shape_normal.B4 : List Nat := [0, 0, 3, 7, 0, 0, 32, 0, 128, 480, 1008, 2032, 0, 0, 8192, 0, 32768, 122880, 258048, 520192, 1048575, 2097151]
theorem shape_normal.tab4 : rtab .any (opsOf Try.f72 4) = shape_normal.T4 := by kernel_rfl
theorem shape_normal.bits4 : waitsOk shape_normal.T4.2 shape_normal.B4 = true := by kernel_rfl
def shape_normal.T7 : Bool × List (List Nat × List Nat) := (true, [([], []), ([0], [0]), ([1], [1]), ([], []), ([3], [3]), ([2, 4], [2, 4]), ([5, 4], [5]), ([6], [6]), ([7, 6, 6], [6, 7]), ([6, 8], [6, 8]), ([9, 8, 0, 1, 2, 3, 4, 5, 6, 7, 8, 9], [9])])
def shape_normal.B7 : List Nat := [0, 1, 3, 0, 8, 31, 63, 127, 255, 511, 1023]
theorem shape_normal.tab7 : rtab .any (opsOf Try.f72 7) = shape_normal.T7 := by kernel_rfl
theorem shape_normal.bits7 : waitsOk shape_normal.T7.2 shape_normal.B7 = true := by kernel_rfl
set_option maxHeartbeats 8000000 in
set_option maxRecDepth 100000 in
theorem shape_normal.calls (k : Nat) (A0 : Option Addr) (c0 : Nat) (l0 : List (S29)) (r : Bool) (w : World) (hr0 : Kd.C k29 w A0 l0.length l0) (hc0 : l0.length ≤ c0) (h : shape_normal.f k l0 = some r) :
  Calls Try.prog 72 #[.slice A0 l0.length c0] w fun e w' => e = .returned (.bool r) ∧ Below w.heap.size w w' := by
 have hu29 := Try.underlying29
 have HR0 := Aside0.mk hr0
 have HC0 := Aside0.mk hc0
 clear hr0 hc0
 have HB := Aside0.mk (Below.refl w.heap.size w)
 have H : (shape_normal.l0 k l0 (l0.length : Int) 0) = some r := h
 clear h
 have H' := Aside0.mk H
 clear H
 go_enter Try.func72, Try.ntmps72
 go_wp2
 go_loopg [6] k (fun kq v6 w' => ∃ (x6_1 : Int), v6 = .int .i64 x6_1 ∧ Aside0 (shape_normal.l0 kq l0 (l0.length : Int) x6_1 = some r) ∧ Aside0 (kq ≤ k) ∧ Aside0 (Below w.heap.size w w'))
 case atStart => exact ⟨(0), sd, H', ⟨Nat.le_refl _⟩, ⟨bh⟩⟩
 case round =>
  clear H'
  obtain ⟨x6_1, rfl, HA, HK1, HB⟩ := hrel
  cases gk with
  | zero => exact absurd HA.out (by simp [shape_normal.l0])
  | succ k1 =>
   have H := HA.out
   clear HA
   simp only [shape_normal.l0] at H
   by_cases c2 : x6_1 < (l0.length : Int)
   ·rw [if_pos c2] at H
    have c2b0 := decide_eq_true c2
    clear c2
    by_cases c3 : 0 ≤ x6_1
    ·rw [if_pos c3] at H
     have c3b0 := decide_eq_true c3
     clear c3
     by_cases c4 : x6_1 < (l0.length : Int)
     ·rw [if_pos c4] at H
      have c4b0 := decide_eq_true c4
      clear c4
      by_cases c5 : (l0.length : Int) = 0
      ·rw [if_pos c5] at H
       exact absurd H (by simp)
      ·rw [if_neg c5] at H
       have c5b0 : ((l0.length : Int) == 0) = false := beq_eq_false_iff_ne.mpr c5
       have c5b1 : ((l0.length : Int) != 0) = true := bne_iff_ne.mpr c5
       have c5b2 : ¬ (l0 = []) := fun h_ => c5 (by rw [h_]; rfl)
       obtain ⟨ji6, hji6⟩ : ∃ j_ : Int, (Int.tmod (wrap64 (x6_1 + 1)) (l0.length : Int)) = j_ := ⟨_, rfl⟩
       first | rw [hji6] at H | simp only [hji6] at H
       by_cases c7 : 0 ≤ (ji6)
       ·rw [if_pos c7] at H
        have c7b0 := decide_eq_true c7
        clear c7
        by_cases c8 : (ji6) < (l0.length : Int)
        ·rw [if_pos c8] at H
         have c8b0 := decide_eq_true c8
         clear c8
         obtain ⟨ji9, hji9⟩ : ∃ j_ : Int, (Int.tmod (wrap64 (x6_1 + 2)) (l0.length : Int)) = j_ := ⟨_, rfl⟩
         first | rw [hji9] at H | simp only [hji9] at H
         by_cases c10 : 0 ≤ (ji9)
         ·rw [if_pos c10] at H
          have c10b0 := decide_eq_true c10
          clear c10
          by_cases c11 : (ji9) < (l0.length : Int)
          ·rw [if_pos c11] at H
           have c11b0 := decide_eq_true c11
           clear c11
           replace H := Option.bind_eq_some_iff.mp H
           obtain ⟨t104, A120, H⟩ := H
           try dsimp only at H
           have A12 := Aside0.mk A120
           clear A120
           by_cases c13 : t104 ≤ 0
           ·rw [if_pos c13] at H
            have c13b0 := decide_eq_true c13
            clear c13
            obtain rfl := Option.some.inj H
            try go_wp2
            replace HB := Aside0.mk (below_drew1 HB.out)
            have p101 : 0 ≤ (x6_1 : Int) := dt
            have q101 : x6_1 < (l0.length : Int) := dt
            obtain ⟨ad101, e101, hx101_0, hx101_1⟩ := at_T29 HR0.out x6_1 p101 q101
            have hw101_1 := hx101_1
            have hw101_0 := hx101_0
            cases e101
            replace hx101_0 := hc HB hx101_0
            replace hx101_1 := hc HB hx101_1
            replace p101 := eq_true p101
            replace q101 := eq_true q101
            have p102 : 0 ≤ ((ji6) : Int) := dt
            have q102 : (ji6) < (l0.length : Int) := dt
            obtain ⟨ad102, e102, hx102_0, hx102_1⟩ := at_T29 HR0.out (ji6) p102 q102
            have hw102_1 := hx102_1
            have hw102_0 := hx102_0
            obtain rfl : ad101 = ad102 := (by injection e102)
            replace hx102_0 := hc HB hx102_0
            replace hx102_1 := hc HB hx102_1
            replace p102 := eq_true p102
            replace q102 := eq_true q102
            have p103 : 0 ≤ ((ji9) : Int) := dt
            have q103 : (ji9) < (l0.length : Int) := dt
            obtain ⟨ad103, e103, hx103_0, hx103_1⟩ := at_T29 HR0.out (ji9) p103 q103
            have hw103_1 := hx103_1
            have hw103_0 := hx103_0
            obtain rfl : ad101 = ad103 := (by injection e103)
            replace hx103_0 := hc HB hx103_0
            replace hx103_1 := hc HB hx103_1
            replace p103 := eq_true p103
            replace q103 := eq_true q103
            refine start_ (n := 22) (S := fun w' => w'.cell? (ad101.add ((x6_1).toNat * 2)) = some (.int .i64 ((rd_T29 l0 x6_1).f0)) ∧ w'.cell? ⟨(ad101.add ((x6_1).toNat * 2)).block, (ad101.add ((x6_1).toNat * 2)).off + 1, none⟩ = some (.int .i64 ((rd_T29 l0 x6_1).f1)) ∧ w'.cell? (ad101.add (((ji6)).toNat * 2)) = some (.int .i64 ((rd_T29 l0 (ji6)).f0)) ∧ w'.cell? ⟨(ad101.add (((ji6)).toNat * 2)).block, (ad101.add (((ji6)).toNat * 2)).off + 1, none⟩ = some (.int .i64 ((rd_T29 l0 (ji6)).f1)) ∧ w'.cell? (ad101.add (((ji9)).toNat * 2)) = some (.int .i64 ((rd_T29 l0 (ji9)).f0)) ∧ w'.cell? ⟨(ad101.add (((ji9)).toNat * 2)).block, (ad101.add (((ji9)).toNat * 2)).off + 1, none⟩ = some (.int .i64 ((rd_T29 l0 (ji9)).f1))) (ds := []) #[false, false, false, false, false, false, false, false, false, false, false, false, false, false, false, false, false, false, false, false, false, false] (by kernel_rfl) rfl rfl ⟨(hc HB hw101_0), (hc HB hw101_1), (hc HB hw102_0), (hc HB hw102_1), (hc HB hw103_0), (hc HB hw103_1)⟩ (fun hHeld => ?_); refine with_tabW shape_normal.tab4 shape_normal.bits4 (fun HT_ HW_ => ?_)
            generalize wr.drew = w14 at HB hx101_0 hx101_1 hx102_0 hx102_1 hx103_0 hx103_1 hHeld ⊢
            refine pu 0 9 HT_ ?_
            refine pu 1 10 HT_ ?_
            refine pu 2 11 HT_ ?_
            refine pu 4 13 HT_ ?_
            refine pu 5 14 HT_ ?_
            refine pu 6 15 HT_ ?_
            refine pu 7 16 HT_ ?_
            refine pu 8 17 HT_ ?_
            refine pu 9 18 HT_ ?_
            refine pu 10 19 HT_ ?_
            refine pu 12 21 HT_ ?_
            refine pu 13 22 HT_ ?_
            refine pu 14 23 HT_ ?_
            refine pu 15 24 HT_ ?_
            refine pu 16 25 HT_ ?_
            refine pu 17 26 HT_ ?_
            refine pu 18 27 HT_ ?_
            refine tk6 3 12 hHeld HT_ HW_ ?_
            refine tk6 11 20 hHeld HT_ HW_ ?_
            refine tk6 19 28 hHeld HT_ HW_ ?_
            refine one_ (i := 20) (N := some 29) #[true, true, true, true, true, true, true, true, true, true, true, true, true, true, true, true, true, true, true, true, true, false] rfl rfl (on1 HT_) (by decide) (fun K hK => ?_)
            refine goes_ Try.func91 (by kernel_rfl) rfl #[.agg #[.int .i64 ((rd_T29 l0 x6_1).f0), .int .i64 ((rd_T29 l0 x6_1).f1)], .agg #[.int .i64 ((rd_T29 l0 (ji6)).f0), .int .i64 ((rd_T29 l0 (ji6)).f1)], .agg #[.int .i64 ((rd_T29 l0 (ji9)).f0), .int .i64 ((rd_T29 l0 (ji9)).f1)]] (by rfl) rfl rfl (by (try simp only [List.map_toArray, List.map_cons, List.map_nil]); first | done | (simp only [hji6, hji9]; rfl) | rfl | (simp only [List.length_drop, List.length_take]; rfl)) ?_
            with_reducible refine (shape_side.calls ((rd_T29 l0 x6_1).f0) ((rd_T29 l0 x6_1).f1) ((rd_T29 l0 (ji6)).f0) ((rd_T29 l0 (ji6)).f1) ((rd_T29 l0 (ji9)).f0) ((rd_T29 l0 (ji9)).f1) t104 _ A12.out).mono ?_
            rintro e w15 ⟨rfl, hb⟩
            refine ⟨_, rfl, ?_⟩
            replace HB := Aside0.mk (below_step bh hb)
            (try clear hb); (try clear hb2); (try clear hk); (try clear hi)
            refine hK.out _ _ ⟨(hc HB hw101_0), (hc HB hw101_1), (hc HB hw102_0), (hc HB hw102_1), (hc HB hw103_0), (hc HB hw103_1)⟩ (fun hHeld => ?_)
            clear hK K
            refine nm 29 ?_
            refine pu 21 30 HT_ ?_
            refine done_ (done_of HT_.out (by kernel_rfl)) ?_
            try go_wp2
            go_ret
            exact ⟨by first | rfl | (simp [errW_none, errW_some] <;> rfl) | (simp only [← hji6, ← hji9]; first | rfl | (simp [errW_none, errW_some] <;> rfl)) | (simp [*, errW_none, errW_some] <;> rfl), bh⟩
           ·rw [if_neg c13] at H
            have c13b0 := decide_eq_false c13
            clear c13
            have H' := Aside0.mk H
            clear H
            try go_wp2
            replace HB := Aside0.mk (below_drew1 HB.out)
            have p101 : 0 ≤ (x6_1 : Int) := dt
            have q101 : x6_1 < (l0.length : Int) := dt
            obtain ⟨ad101, e101, hx101_0, hx101_1⟩ := at_T29 HR0.out x6_1 p101 q101
            have hw101_1 := hx101_1
            have hw101_0 := hx101_0
            cases e101
            replace hx101_0 := hc HB hx101_0
            replace hx101_1 := hc HB hx101_1
            replace p101 := eq_true p101
            replace q101 := eq_true q101
            have p102 : 0 ≤ ((ji6) : Int) := dt
            have q102 : (ji6) < (l0.length : Int) := dt
            obtain ⟨ad102, e102, hx102_0, hx102_1⟩ := at_T29 HR0.out (ji6) p102 q102
            have hw102_1 := hx102_1
            have hw102_0 := hx102_0
            obtain rfl : ad101 = ad102 := (by injection e102)
            replace hx102_0 := hc HB hx102_0
            replace hx102_1 := hc HB hx102_1
            replace p102 := eq_true p102
            replace q102 := eq_true q102
            have p103 : 0 ≤ ((ji9) : Int) := dt
            have q103 : (ji9) < (l0.length : Int) := dt
            obtain ⟨ad103, e103, hx103_0, hx103_1⟩ := at_T29 HR0.out (ji9) p103 q103
            have hw103_1 := hx103_1
            have hw103_0 := hx103_0
            obtain rfl : ad101 = ad103 := (by injection e103)
            replace hx103_0 := hc HB hx103_0
            replace hx103_1 := hc HB hx103_1
            replace p103 := eq_true p103
            replace q103 := eq_true q103
            refine start_ (n := 22) (S := fun w' => w'.cell? (ad101.add ((x6_1).toNat * 2)) = some (.int .i64 ((rd_T29 l0 x6_1).f0)) ∧ w'.cell? ⟨(ad101.add ((x6_1).toNat * 2)).block, (ad101.add ((x6_1).toNat * 2)).off + 1, none⟩ = some (.int .i64 ((rd_T29 l0 x6_1).f1)) ∧ w'.cell? (ad101.add (((ji6)).toNat * 2)) = some (.int .i64 ((rd_T29 l0 (ji6)).f0)) ∧ w'.cell? ⟨(ad101.add (((ji6)).toNat * 2)).block, (ad101.add (((ji6)).toNat * 2)).off + 1, none⟩ = some (.int .i64 ((rd_T29 l0 (ji6)).f1)) ∧ w'.cell? (ad101.add (((ji9)).toNat * 2)) = some (.int .i64 ((rd_T29 l0 (ji9)).f0)) ∧ w'.cell? ⟨(ad101.add (((ji9)).toNat * 2)).block, (ad101.add (((ji9)).toNat * 2)).off + 1, none⟩ = some (.int .i64 ((rd_T29 l0 (ji9)).f1))) (ds := []) #[false, false, false, false, false, false, false, false, false, false, false, false, false, false, false, false, false, false, false, false, false, false] (by kernel_rfl) rfl rfl ⟨(hc HB hw101_0), (hc HB hw101_1), (hc HB hw102_0), (hc HB hw102_1), (hc HB hw103_0), (hc HB hw103_1)⟩ (fun hHeld => ?_); refine with_tabW shape_normal.tab4 shape_normal.bits4 (fun HT_ HW_ => ?_)
            generalize wr.drew = w16 at HB hx101_0 hx101_1 hx102_0 hx102_1 hx103_0 hx103_1 hHeld ⊢
            refine pu 0 9 HT_ ?_
            refine pu 1 10 HT_ ?_
            refine pu 2 11 HT_ ?_
            refine pu 4 13 HT_ ?_
            refine pu 5 14 HT_ ?_
            refine pu 6 15 HT_ ?_
            refine pu 7 16 HT_ ?_
            refine pu 8 17 HT_ ?_
            refine pu 9 18 HT_ ?_
            refine pu 10 19 HT_ ?_
            refine pu 12 21 HT_ ?_
            refine pu 13 22 HT_ ?_
            refine pu 14 23 HT_ ?_
            refine pu 15 24 HT_ ?_
            refine pu 16 25 HT_ ?_
            refine pu 17 26 HT_ ?_
            refine pu 18 27 HT_ ?_
            refine tk6 3 12 hHeld HT_ HW_ ?_
            refine tk6 11 20 hHeld HT_ HW_ ?_
            refine tk6 19 28 hHeld HT_ HW_ ?_
            refine one_ (i := 20) (N := some 29) #[true, true, true, true, true, true, true, true, true, true, true, true, true, true, true, true, true, true, true, true, true, false] rfl rfl (on1 HT_) (by decide) (fun K hK => ?_)
            refine goes_ Try.func91 (by kernel_rfl) rfl #[.agg #[.int .i64 ((rd_T29 l0 x6_1).f0), .int .i64 ((rd_T29 l0 x6_1).f1)], .agg #[.int .i64 ((rd_T29 l0 (ji6)).f0), .int .i64 ((rd_T29 l0 (ji6)).f1)], .agg #[.int .i64 ((rd_T29 l0 (ji9)).f0), .int .i64 ((rd_T29 l0 (ji9)).f1)]] (by rfl) rfl rfl (by (try simp only [List.map_toArray, List.map_cons, List.map_nil]); first | done | (simp only [hji6, hji9]; rfl) | rfl | (simp only [List.length_drop, List.length_take]; rfl)) ?_
            with_reducible refine (shape_side.calls ((rd_T29 l0 x6_1).f0) ((rd_T29 l0 x6_1).f1) ((rd_T29 l0 (ji6)).f0) ((rd_T29 l0 (ji6)).f1) ((rd_T29 l0 (ji9)).f0) ((rd_T29 l0 (ji9)).f1) t104 _ A12.out).mono ?_
            rintro e w17 ⟨rfl, hb⟩
            refine ⟨_, rfl, ?_⟩
            replace HB := Aside0.mk (below_step bh hb)
            (try clear hb); (try clear hb2); (try clear hk); (try clear hi)
            refine hK.out _ _ ⟨(hc HB hw101_0), (hc HB hw101_1), (hc HB hw102_0), (hc HB hw102_1), (hc HB hw103_0), (hc HB hw103_1)⟩ (fun hHeld => ?_)
            clear hK K
            refine nm 29 ?_
            refine pu 21 30 HT_ ?_
            refine done_ (done_of HT_.out (by kernel_rfl)) ?_
            try go_wp2
            go_roundg k1
            case measure => have := HK1.out; omega
            case rel => exact ⟨(wrap64 (x6_1 + 1)), sd, H', ⟨by have := HK1.out; omega⟩, ⟨bh⟩⟩
          ·rw [if_neg c11] at H
           exact absurd H (by simp)
         ·rw [if_neg c10] at H
          exact absurd H (by simp)
        ·rw [if_neg c8] at H
         exact absurd H (by simp)
       ·rw [if_neg c7] at H
        exact absurd H (by simp)
     ·rw [if_neg c4] at H
      exact absurd H (by simp)
    ·rw [if_neg c3] at H
     exact absurd H (by simp)
   ·rw [if_neg c2] at H
    have c2b0 := decide_eq_false c2
    clear c2
    by_cases c18 : 0 < (l0.length : Int)
    ·rw [if_pos c18] at H
     have c18b0 := decide_eq_true c18
     have c18b1 : decide (0 < l0.length) = true := decide_eq_true (by omega)
     clear c18
     replace H := Option.bind_eq_some_iff.mp H
     obtain ⟨⟨t106, t107⟩, A190, H⟩ := H
     try dsimp only at H
     have A19 := Aside0.mk A190
     clear A190
     by_cases c20 : (((rd_T29 l0 0).f0) == t106 && (((rd_T29 l0 0).f1) == t107)) = true
     ·rw [if_pos c20] at H
      have c20b0 : (((rd_T29 l0 0).f0) == t106 && (((rd_T29 l0 0).f1) == t107)) = true := c20
      (try (have c20b1 : decide (((rd_T29 l0 0).f0) = t106 && (((rd_T29 l0 0).f1) == t107)) = true := by simpa using c20))
      (try (have c20b2 : (((rd_T29 l0 0).f0) == t106 && (((rd_T29 l0 0).f1) == t107)) = true := by simpa using c20))
      clear c20
      replace H := Option.bind_eq_some_iff.mp H
      obtain ⟨t108, A210, H⟩ := H
      try dsimp only at H
      have A21 := Aside0.mk A210
      clear A210
      obtain rfl := Option.some.inj H
      try go_wp2
      replace HB := Aside0.mk (below_drew1 HB.out)
      have p105 : 0 ≤ (0 : Int) := (by omega)
      have q105 : 0 < (l0.length : Int) := dt
      obtain ⟨ad105, e105, hx105_0, hx105_1⟩ := at_T29 HR0.out 0 p105 q105
      have hw105_1 := hx105_1
      (try rw [show ((0 : Int)).toNat = 0 from rfl] at hw105_1)
      (try rw [show 0 * 2 = 0 from rfl] at hw105_1)
      (try rw [Addr.add_zero'] at hw105_1)
      have hw105_0 := hx105_0
      (try rw [show ((0 : Int)).toNat = 0 from rfl] at hw105_0)
      (try rw [show 0 * 2 = 0 from rfl] at hw105_0)
      (try rw [Addr.add_zero'] at hw105_0)
      cases e105
      have qi105 : (0 < l0.length) = True := eq_true (by omega)
      (try rw [show ((0 : Int)).toNat = 0 from rfl] at hx105_0)
      (try rw [show 0 * 2 = 0 from rfl] at hx105_0)
      (try rw [Addr.add_zero'] at hx105_0)
      (try rw [show ((0 : Int)).toNat = 0 from rfl] at hx105_1)
      (try rw [show 0 * 2 = 0 from rfl] at hx105_1)
      (try rw [Addr.add_zero'] at hx105_1)
      replace hx105_0 := hc HB hx105_0
      replace hx105_1 := hc HB hx105_1
      replace p105 := eq_true p105
      replace q105 := eq_true q105
      refine start_ (n := 11) (S := fun w' => w'.cell? ad105 = some (.int .i64 ((rd_T29 l0 0).f0)) ∧ w'.cell? ⟨ad105.block, ad105.off + 1, none⟩ = some (.int .i64 ((rd_T29 l0 0).f1))) (ds := []) #[false, false, false, false, false, false, false, false, false, false, false] (by kernel_rfl) rfl rfl ⟨(hc HB hw105_0), (hc HB hw105_1)⟩ (fun hHeld => ?_); refine with_tabW shape_normal.tab7 shape_normal.bits7 (fun HT_ HW_ => ?_)
      generalize wr.drew = w22 at HB hx105_0 hx105_1 hHeld ⊢
      refine pu 0 32 HT_ ?_
      refine pu 1 33 HT_ ?_
      refine pu 3 35 HT_ ?_
      refine tk2 2 34 hHeld HT_ HW_ ?_
      refine one_ (i := 4) (N := some 36) #[true, true, true, true, true, false, false, false, false, false, false] rfl rfl (on1 HT_) (by decide) (fun K hK => ?_)
      refine goes_ Try.func94 (by kernel_rfl) rfl #[.slice (some ad105) l0.length c0, .func (.func 95) #[] #[]] (by rfl) rfl rfl sg ?_
      with_reducible refine (slices_MinFunc_lower.calls k1 _ _ l0  t106 t107 _ ?side1 ?side2 A19.out).mono ?_
      (case side1 => exact cs (Kd.C_below HR0.out HB.out))
      (case side2 => exact HC0.out)
      rintro e w23 ⟨rfl, hb⟩
      refine ⟨_, rfl, ?_⟩
      replace HB := Aside0.mk (below_step bh hb)
      (try clear hb); (try clear hb2); (try clear hk); (try clear hi)
      refine hK.out _ _ ⟨(hc HB hw105_0), (hc HB hw105_1)⟩ (fun hHeld => ?_)
      clear hK K
      refine nm 36 ?_
      refine pu 5 37 HT_ ?_
      refine pu 6 38 HT_ ?_
      refine pu 7 39 HT_ ?_
      refine one_ (i := 8) (N := some 40) #[true, true, true, true, true, true, true, true, true, false, false] rfl rfl (on1 HT_) (by decide) (fun K hK => ?_)
      refine goes_ Try.func69 (by kernel_rfl) rfl #[.slice (some ad105) l0.length c0] (by rfl) rfl rfl sg ?_
      with_reducible refine (shape_simple.calls k1 _ _ l0 t108 _ ?side1 ?side2 A21.out).mono ?_
      (case side1 => exact cs (Kd.C_below HR0.out HB.out))
      (case side2 => exact HC0.out)
      rintro e w24 ⟨rfl, hb⟩
      refine ⟨_, rfl, ?_⟩
      replace HB := Aside0.mk (below_step bh hb)
      (try clear hb); (try clear hb2); (try clear hk); (try clear hi)
      refine hK.out _ _ ⟨(hc HB hw105_0), (hc HB hw105_1)⟩ (fun hHeld => ?_)
      clear hK K
      refine nm 40 ?_
      refine pu 9 41 HT_ ?_
      refine pu 10 2 HT_ ?_
      refine done_ (done_of HT_.out (by kernel_rfl)) ?_
      try go_wp2
      go_ret
      exact ⟨by exact er, bh⟩
     ·rw [if_neg c20] at H
      have c20b0 : (((rd_T29 l0 0).f0) == t106 && (((rd_T29 l0 0).f1) == t107)) = false := by simpa using c20
      (try (have c20b1 : decide (((rd_T29 l0 0).f0) = t106 && (((rd_T29 l0 0).f1) == t107)) = false := by simpa using c20))
      (try (have c20b2 : (((rd_T29 l0 0).f0) == t106 && (((rd_T29 l0 0).f1) == t107)) = false := by simpa using c20))
      (try (have c20b3 : ¬ (((rd_T29 l0 0).f0) = t106 && (((rd_T29 l0 0).f1) == t107)) := by simpa using c20))
      clear c20
      obtain rfl := Option.some.inj H
      try go_wp2
      replace HB := Aside0.mk (below_drew1 HB.out)
      have p105 : 0 ≤ (0 : Int) := (by omega)
      have q105 : 0 < (l0.length : Int) := dt
      obtain ⟨ad105, e105, hx105_0, hx105_1⟩ := at_T29 HR0.out 0 p105 q105
      have hw105_1 := hx105_1
      (try rw [show ((0 : Int)).toNat = 0 from rfl] at hw105_1)
      (try rw [show 0 * 2 = 0 from rfl] at hw105_1)
      (try rw [Addr.add_zero'] at hw105_1)
      have hw105_0 := hx105_0
      (try rw [show ((0 : Int)).toNat = 0 from rfl] at hw105_0)
      (try rw [show 0 * 2 = 0 from rfl] at hw105_0)
      (try rw [Addr.add_zero'] at hw105_0)
      cases e105
      have qi105 : (0 < l0.length) = True := eq_true (by omega)
      (try rw [show ((0 : Int)).toNat = 0 from rfl] at hx105_0)
      (try rw [show 0 * 2 = 0 from rfl] at hx105_0)
      (try rw [Addr.add_zero'] at hx105_0)
      (try rw [show ((0 : Int)).toNat = 0 from rfl] at hx105_1)
      (try rw [show 0 * 2 = 0 from rfl] at hx105_1)
      (try rw [Addr.add_zero'] at hx105_1)
      replace hx105_0 := hc HB hx105_0
      replace hx105_1 := hc HB hx105_1
      replace p105 := eq_true p105
      replace q105 := eq_true q105
      refine start_ (n := 11) (S := fun w' => w'.cell? ad105 = some (.int .i64 ((rd_T29 l0 0).f0)) ∧ w'.cell? ⟨ad105.block, ad105.off + 1, none⟩ = some (.int .i64 ((rd_T29 l0 0).f1))) (ds := []) #[false, false, false, false, false, false, false, false, false, false, false] (by kernel_rfl) rfl rfl ⟨(hc HB hw105_0), (hc HB hw105_1)⟩ (fun hHeld => ?_); refine with_tabW shape_normal.tab7 shape_normal.bits7 (fun HT_ HW_ => ?_)
      generalize wr.drew = w25 at HB hx105_0 hx105_1 hHeld ⊢
      refine pu 0 32 HT_ ?_
      refine pu 1 33 HT_ ?_
      refine pu 3 35 HT_ ?_
      refine tk2 2 34 hHeld HT_ HW_ ?_
      refine one_ (i := 4) (N := some 36) #[true, true, true, true, true, false, false, false, false, false, false] rfl rfl (on1 HT_) (by decide) (fun K hK => ?_)
      refine goes_ Try.func94 (by kernel_rfl) rfl #[.slice (some ad105) l0.length c0, .func (.func 95) #[] #[]] (by rfl) rfl rfl sg ?_
      with_reducible refine (slices_MinFunc_lower.calls k1 _ _ l0  t106 t107 _ ?side1 ?side2 A19.out).mono ?_
      (case side1 => exact cs (Kd.C_below HR0.out HB.out))
      (case side2 => exact HC0.out)
      rintro e w26 ⟨rfl, hb⟩
      refine ⟨_, rfl, ?_⟩
      replace HB := Aside0.mk (below_step bh hb)
      (try clear hb); (try clear hb2); (try clear hk); (try clear hi)
      refine hK.out _ _ ⟨(hc HB hw105_0), (hc HB hw105_1)⟩ (fun hHeld => ?_)
      clear hK K
      refine nm 36 ?_
      refine pu 5 37 HT_ ?_
      refine pu 6 38 HT_ ?_
      refine pz 7 39 HT_ ?_
      refine pz 8 40 HT_ ?_
      refine pu 9 41 HT_ ?_
      refine pu 10 2 HT_ ?_
      refine done_ (done_of HT_.out (by kernel_rfl)) ?_
      try go_wp2
      go_ret
      exact ⟨by exact er, bh⟩
    ·rw [if_neg c18] at H
     exact absurd H (by simp)
/-! ### shape_refused_normal: function 2068 -/
def shape_refused_normal.f (k : Nat) (l0 : List (S29))  : Option (Int) := (shape_polygon.f l0).bind fun t101 => (if t101 = true then ((shape_normal.f k l0).bind fun t102 => (if t102 = true then (some 0) else (some 2))) else (some 1))
set_option maxHeartbeats 8000000 in
set_option maxRecDepth 100000 in
theorem shape_refused_normal.calls (k : Nat) (A0 : Option Addr) (c0 : Nat) (l0 : List (S29))  (r : Int) (w : World) (hr0 : Kd.C k29 w A0 l0.length l0) (hc0 : l0.length ≤ c0) (h : shape_refused_normal.f k l0 = some r) :
  Calls Try.prog 68 #[.slice A0 l0.length c0, .func (.func 72) #[] #[]] w fun e w' => e = .returned (.int .i64 r) ∧ Below w.heap.size w w' := by
 have HR0 := Aside0.mk hr0
 have HC0 := Aside0.mk hc0
 clear hr0 hc0
 have HB := Aside0.mk (Below.refl w.heap.size w)
 have H : ((shape_polygon.f l0).bind fun t101 => (if t101 = true then ((shape_normal.f k l0).bind fun t102 => (if t102 = true then (some 0) else (some 2))) else (some 1))) = some r := h
 clear h
 replace H := Option.bind_eq_some_iff.mp H
 obtain ⟨t101, A30, H⟩ := H
 try dsimp only at H
 have A3 := Aside0.mk A30
 clear A30
 by_cases c4 : t101 = true
 ·subst c4
  rw [if_pos rfl] at H
  replace H := Option.bind_eq_some_iff.mp H
  obtain ⟨t102, A50, H⟩ := H
  try dsimp only at H
  have A5 := Aside0.mk A50
  clear A50
  by_cases c6 : t102 = true
  ·subst c6
   rw [if_pos rfl] at H
   obtain rfl := Option.some.inj H
   go_enter Try.func68, Try.ntmps68
   go_wp2_with (first | ((first | ((with_reducible refine gc 66 rfl ?_); refine goesL_ (some 7) rfl rfl Try.func66 (by kernel_rfl) rfl #[.slice A0 l0.length c0] rfl sg ?_) | ((with_reducible refine gate_value 66 rfl rfl ?_); refine goesLV_ (some 7) rfl rfl Try.func66 (by kernel_rfl) rfl #[.slice A0 l0.length c0] rfl sg rfl ?_)); (with_reducible refine (shape_polygon.calls _ _ l0 true _ ?side1 ?side2 A3.out).mono ?_); (case side1 => repeat (first | exact HR0.out | (with_reducible refine Kd.C_alloc ?_ _) | (with_reducible refine Kd.C_drewN ?_ _) | (with_reducible refine Kd.C_drew ?_))); (case side2 => exact HC0.out); rintro e w7 ⟨rfl, hb⟩; refine ⟨_, rfl, ?_⟩; replace HB := Aside0.mk (below_step bh hb); (try clear hb); (try clear hb2); (try clear hk); (try clear hi)) | ((first | ((with_reducible refine gc 72 rfl ?_); refine goesL_ (some 12) rfl rfl Try.func72 (by kernel_rfl) rfl #[.slice A0 l0.length c0] rfl sg ?_) | ((with_reducible refine gate_value 72 rfl rfl ?_); refine goesLV_ (some 12) rfl rfl Try.func72 (by kernel_rfl) rfl #[.slice A0 l0.length c0] rfl sg rfl ?_)); (with_reducible refine (shape_normal.calls k _ _ l0 true _ ?side1 ?side2 A5.out).mono ?_); (case side1 => exact cs (Kd.C_below HR0.out HB.out)); (case side2 => exact HC0.out); rintro e w8 ⟨rfl, hb⟩; refine ⟨_, rfl, ?_⟩; replace HB := Aside0.mk (below_step bh hb); (try clear hb); (try clear hb2); (try clear hk); (try clear hi)))
   go_ret
   exact ⟨by exact er, bh⟩
  ·replace c6 := Bool.eq_false_iff.mpr c6
   subst c6
   rw [if_neg (show ¬ (false = true) by decide)] at H
   obtain rfl := Option.some.inj H
   go_enter Try.func68, Try.ntmps68
   go_wp2_with (first | ((first | ((with_reducible refine gc 66 rfl ?_); refine goesL_ (some 7) rfl rfl Try.func66 (by kernel_rfl) rfl #[.slice A0 l0.length c0] rfl sg ?_) | ((with_reducible refine gate_value 66 rfl rfl ?_); refine goesLV_ (some 7) rfl rfl Try.func66 (by kernel_rfl) rfl #[.slice A0 l0.length c0] rfl sg rfl ?_)); (with_reducible refine (shape_polygon.calls _ _ l0 true _ ?side1 ?side2 A3.out).mono ?_); (case side1 => repeat (first | exact HR0.out | (with_reducible refine Kd.C_alloc ?_ _) | (with_reducible refine Kd.C_drewN ?_ _) | (with_reducible refine Kd.C_drew ?_))); (case side2 => exact HC0.out); rintro e w9 ⟨rfl, hb⟩; refine ⟨_, rfl, ?_⟩; replace HB := Aside0.mk (below_step bh hb); (try clear hb); (try clear hb2); (try clear hk); (try clear hi)) | ((first | ((with_reducible refine gc 72 rfl ?_); refine goesL_ (some 12) rfl rfl Try.func72 (by kernel_rfl) rfl #[.slice A0 l0.length c0] rfl sg ?_) | ((with_reducible refine gate_value 72 rfl rfl ?_); refine goesLV_ (some 12) rfl rfl Try.func72 (by kernel_rfl) rfl #[.slice A0 l0.length c0] rfl sg rfl ?_)); (with_reducible refine (shape_normal.calls k _ _ l0 false _ ?side1 ?side2 A5.out).mono ?_); (case side1 => exact cs (Kd.C_below HR0.out HB.out)); (case side2 => exact HC0.out); rintro e w10 ⟨rfl, hb⟩; refine ⟨_, rfl, ?_⟩; replace HB := Aside0.mk (below_step bh hb); (try clear hb); (try clear hb2); (try clear hk); (try clear hi)))
   go_ret
   exact ⟨by exact er, bh⟩
 ·replace c4 := Bool.eq_false_iff.mpr c4
  subst c4
  rw [if_neg (show ¬ (false = true) by decide)] at H
  obtain rfl := Option.some.inj H
  go_enter Try.func68, Try.ntmps68
  go_wp2_with (first | ((first | ((with_reducible refine gc 66 rfl ?_); refine goesL_ (some 7) rfl rfl Try.func66 (by kernel_rfl) rfl #[.slice A0 l0.length c0] rfl sg ?_) | ((with_reducible refine gate_value 66 rfl rfl ?_); refine goesLV_ (some 7) rfl rfl Try.func66 (by kernel_rfl) rfl #[.slice A0 l0.length c0] rfl sg rfl ?_)); (with_reducible refine (shape_polygon.calls _ _ l0 false _ ?side1 ?side2 A3.out).mono ?_); (case side1 => repeat (first | exact HR0.out | (with_reducible refine Kd.C_alloc ?_ _) | (with_reducible refine Kd.C_drewN ?_ _) | (with_reducible refine Kd.C_drew ?_))); (case side2 => exact HC0.out); rintro e w11 ⟨rfl, hb⟩; refine ⟨_, rfl, ?_⟩; replace HB := Aside0.mk (below_step bh hb); (try clear hb); (try clear hb2); (try clear hk); (try clear hi)))
  go_ret
  exact ⟨by exact er, bh⟩
/-! ### shape_Sum: function 40 -/
mutual
def shape_Sum.l0 : Nat → List (S29) → List (S29) → List (List (S29)) → Int → Int → Option ((List (S29)) × Int)
 | 0, _, _, _, _, _ => none
 | k + 1, x0, x1, x17, x18, x19 => if x19 < x18 then (if 0 ≤ x19 then (if x19 < (x17.length : Int) then ((shape_refused_normal.f k (rd_L2 x17 x19)).bind fun t105 => (if t105 = 0 then (shape_Sum.l0 k x0 x1 x17 x18 (wrap64 (x19 + 1))) else (some (([] : List (S29)), t105)))) else (none)) else (none)) else (if 0 < (x0.length : Int) then (if 0 < (x1.length : Int) then ((shape_add.f ((rd_T29 x0 0).f0) ((rd_T29 x0 0).f1) ((rd_T29 x1 0).f0) ((rd_T29 x1 0).f1)).bind fun bt108 => (shape_Sum.l1 k x0 x1 (([(⟨bt108.1, bt108.2⟩ : S29)] : List (S29))) 0 0)) else (none)) else (none))
def shape_Sum.l1 : Nat → List (S29) → List (S29) → List (S29) → Int → Int → Option ((List (S29)) × Int)
 | 0, _, _, _, _, _ => none
 | k + 1, x0, x1, x10, x11, x12 => if x11 < (x0.length : Int) then (shape_Sum.j2 k x0 x1 x10 x11 x12 true) else (shape_Sum.j2 k x0 x1 x10 x11 x12 (decide (x12 < (x1.length : Int))))
def shape_Sum.j2 : Nat → List (S29) → List (S29) → List (S29) → Int → Int → Bool → Option ((List (S29)) × Int)
 | 0, _, _, _, _, _, _ => none
 | k + 1, x0, x1, x10, x11, x12, x46 => if x46 = true then (if x12 = (x1.length : Int) then (shape_Sum.j3 k x0 x1 x10 x11 x12 1) else (if x11 = (x0.length : Int) then (shape_Sum.j3 k x0 x1 x10 x11 x12 (-1)) else ((shape_Sum_1.f x0 x11).bind fun bt116 => ((shape_Sum_1.f x1 x12).bind fun bt118 => ((shape_cross.f bt116.1 bt116.2 bt118.1 bt118.2).bind fun t120 => (shape_Sum.j3 k x0 x1 x10 x11 x12 t120)))))) else (if 0 ≤ (wrap64 ((x10.length : Int) - 1)) then (if (wrap64 ((x10.length : Int) - 1)) ≤ (x10.length : Int) then (some ((x10.take ((wrap64 ((x10.length : Int) - 1)) : Int).toNat), 0)) else (none)) else (none))
def shape_Sum.j3 : Nat → List (S29) → List (S29) → List (S29) → Int → Int → Int → Option ((List (S29)) × Int)
 | 0, _, _, _, _, _, _ => none
 | k + 1, x0, x1, x10, x11, x12, x13 => if x13 ≥ 0 then ((shape_Sum_1.f x0 x11).bind fun bt122 => (shape_Sum.j4 k x0 x1 x10 (wrap64 (x11 + 1)) x12 x13 bt122.1 bt122.2)) else (shape_Sum.j4 k x0 x1 x10 x11 x12 x13 0 0)
def shape_Sum.j4 : Nat → List (S29) → List (S29) → List (S29) → Int → Int → Int → Int → Int → Option ((List (S29)) × Int)
 | 0, _, _, _, _, _, _, _, _ => none
 | k + 1, x0, x1, x10, x11, x12, x13, x122000, x122001 => if x13 ≤ 0 then ((shape_Sum_1.f x1 x12).bind fun bt124 => ((shape_add.f x122000 x122001 bt124.1 bt124.2).bind fun bt126 => (if 0 ≤ (wrap64 ((x10.length : Int) - 1)) then (if (wrap64 ((x10.length : Int) - 1)) < (x10.length : Int) then ((shape_add.f ((rd_T29 x10 (wrap64 ((x10.length : Int) - 1))).f0) ((rd_T29 x10 (wrap64 ((x10.length : Int) - 1))).f1) bt126.1 bt126.2).bind fun bt129 => (if x10.length < 8796093022208 then (shape_Sum.l1 k x0 x1 (x10 ++ [(⟨bt129.1, bt129.2⟩ : S29)]) x11 (wrap64 (x12 + 1))) else (none))) else (none)) else (none)))) else (if 0 ≤ (wrap64 ((x10.length : Int) - 1)) then (if (wrap64 ((x10.length : Int) - 1)) < (x10.length : Int) then ((shape_add.f ((rd_T29 x10 (wrap64 ((x10.length : Int) - 1))).f0) ((rd_T29 x10 (wrap64 ((x10.length : Int) - 1))).f1) x122000 x122001).bind fun bt135 => (if x10.length < 8796093022208 then (shape_Sum.l1 k x0 x1 (x10 ++ [(⟨bt135.1, bt135.2⟩ : S29)]) x11 x12) else (none))) else (none)) else (none))
end
def shape_Sum.f (k : Nat) (l0 : List (S29)) (l1 : List (S29)) : Option ((List (S29)) × Int) := (some (([l0, l1] : List (List (S29))) : List (List (S29)))).bind fun y101 => (shape_Sum.l0 k l0 l1 y101 (y101.length : Int) 0)
def shape_Sum.T9 : Bool × List (List Nat × List Nat) := (true, [([], []), ([0], [0]), ([1], [1]), ([], []), ([3], [3]), ([4], [4]), ([2, 5], [2, 5]), ([6], [6]), ([7, 6, 0, 1, 2, 3, 4, 5, 6, 7], [7])])
def shape_Sum.B9 : List Nat := [0, 1, 3, 0, 8, 24, 63, 127, 255]
theorem shape_Sum.tab9 : rtab .any (opsOf Try.f40 9) = shape_Sum.T9 := by kernel_rfl
theorem shape_Sum.bits9 : waitsOk shape_Sum.T9.2 shape_Sum.B9 = true := by kernel_rfl
def shape_Sum.T24 : Bool × List (List Nat × List Nat) := (true, [([], []), ([], []), ([], []), ([2], [2]), ([3], [3]), ([1, 4], [1, 4]), ([5], [5]), ([], []), ([6, 7], [6, 7]), ([8], [8]), ([0, 9, 8], [0, 9]), ([10, 10, 0, 1, 2, 3, 4, 5, 6, 7, 8, 9, 10], [0, 1, 2, 10])])
def shape_Sum.B24 : List Nat := [0, 0, 0, 4, 12, 30, 62, 0, 254, 510, 1023, 2047]
theorem shape_Sum.tab24 : rtab .any (opsOf Try.f40 24) = shape_Sum.T24 := by kernel_rfl
theorem shape_Sum.bits24 : waitsOk shape_Sum.T24.2 shape_Sum.B24 = true := by kernel_rfl
set_option maxHeartbeats 8000000 in
set_option maxRecDepth 100000 in
theorem shape_Sum.calls (k : Nat) (P0_ : Nat → Prop) (A0 : Option Addr) (c0 : Nat) (l0 : List (S29)) (P1_ : Nat → Prop) (A1 : Option Addr) (c1 : Nat) (l1 : List (S29)) (r1 : List (S29)) (r2 : Int) (w : World) (hs0 : Kd.V k29 29 w w.heap.size (fun k_ => P0_ k_) (.slice A0 l0.length c0) l0) (hs1 : Kd.V k29 29 w w.heap.size (fun k_ => P1_ k_) (.slice A1 l1.length c1) l1) (h : shape_Sum.f k l0 l1 = some (r1, r2)) :
  Calls Try.prog 40 #[.slice A0 l0.length c0, .slice A1 l1.length c1] w fun e w' => ∃ v0_ : Value, e = .returned (.tuple #[v0_, .int .i64 r2]) ∧ Kd.R k29 29 w' w.heap.size (fun k_ => (w.heap.size ≤ k_)) v0_ r1 ∧ Below w.heap.size w w' := by
 have hu29 := Try.underlying29
 have HO0 := Aside0.mk (show Kd.V k29 29 w w.heap.size (fun k_ => ((P0_ k_ ∨ P1_ k_) ∨ w.heap.size ≤ k_)) (.slice A0 l0.length c0) l0 from Kd.V_mono hs0 (fun k_ hk => .inl (.inl hk)))
 have HO1 := Aside0.mk (show Kd.V k29 29 w w.heap.size (fun k_ => ((P0_ k_ ∨ P1_ k_) ∨ w.heap.size ≤ k_)) (.slice A1 l1.length c1) l1 from Kd.V_mono hs1 (fun k_ hk => .inl (.inr hk)))
 have HB := Aside0.mk (Below.refl w.heap.size w)
 have H : ((some (([l0, l1] : List (List (S29))) : List (List (S29)))).bind fun y101 => (shape_Sum.l0 k l0 l1 y101 (y101.length : Int) 0)) = some (r1, r2) := h
 clear h
 obtain ⟨y101, hy101⟩ : ∃ y_ : List (List (S29)), y_ = (([l0, l1] : List (List (S29)))) := ⟨_, rfl⟩
 replace H : (shape_Sum.l0 k l0 l1 y101 (y101.length : Int) 0) = some (r1, r2) := by first | (rw [hy101]; with_reducible exact H) | (have H2_ := (Option.bind_some _ _).symm.trans H; rw [hy101]; with_reducible exact H2_) | (have H2_ := (Option.bind_some _ _).symm.trans H; with_reducible exact H2_) | with_reducible exact H | (rw [hy101]; exact H) | exact H
 have Ny101 := Aside0.mk hy101
 clear hy101
 have H' := Aside0.mk H
 clear H
 go_enter Try.func40, Try.ntmps40
 go_wp2_with (first | ((with_reducible refine gate_dst (N := 17) rfl ?_); (try (refine gate_guard (by rfl) ?_; dsimp only)); refine Kd.N_lit (Kd.slice 29 k29) _ 22 ?hg (N' := 17) ?hd (xs := ([l0, l1] : List (List (S29)))) (inner := [.slice A0 l0.length c0, .slice A1 l1.length c1]) (ok := (fun k_ => ((P0_ k_ ∨ P1_ k_) ∨ w.heap.size ≤ k_))) (okp := (fun k_ => ((P0_ k_ ∨ P1_ k_) ∨ w.heap.size ≤ k_))) ?hr ?hp (fun _ hk => hk) ((show ∀ k_, w.heap.size ≤ k_ → (fun k_ => ((P0_ k_ ∨ P1_ k_) ∨ w.heap.size ≤ k_)) k_ from fun k_ hk => (.inr (Nat.le_trans (below_size bh) hk))) _ (Nat.le_refl _)) (Below.refl _ _) (Nat.le_refl _) (by simp) ?_; (case hd => rfl); (case hg => rfl); (case hr => first | (go_simp; done) | (go_simp; rfl)); (case hp => exact (Reps.one (show Kd.FK (Kd.slice 29 k29) _ _ l0 [.slice A0 l0.length c0] from (Kd.FK_slice_mk (Kd.V_reads' (Kd.V_mono (ok' := (fun k_ => ((P0_ k_ ∨ P1_ k_) ∨ w.heap.size ≤ k_))) (HO0.out) (fun k_ hk => hk))).2.1 (Kd.V_F (Kd.V_mono (ok' := (fun k_ => ((P0_ k_ ∨ P1_ k_) ∨ w.heap.size ≤ k_))) (HO0.out) (fun k_ hk => hk))))) (Reps.one (show Kd.FK (Kd.slice 29 k29) _ _ l1 [.slice A1 l1.length c1] from (Kd.FK_slice_mk (Kd.V_reads' (Kd.V_mono (ok' := (fun k_ => ((P0_ k_ ∨ P1_ k_) ∨ w.heap.size ≤ k_))) (HO1.out) (fun k_ hk => hk))).2.1 (Kd.V_F (Kd.V_mono (ok' := (fun k_ => ((P0_ k_ ∨ P1_ k_) ∨ w.heap.size ≤ k_))) (HO1.out) (fun k_ hk => hk))))) (Reps.none _ _)))); intro v102 w3 ho4 hb hg_ hnew_; clear hg_ hnew_; (first | rw [← Ny101.out] at ho4 | (simp only [Int.reduceToNat] at ho4; rw [← Ny101.out] at ho4)); have HO103 := Aside0.mk (Kd.N_lower ho4 (below_size bh)); replace HO0 := Aside0.mk (Kd.V_elder' (vo HO0) (Kd.N_base ho4) hb); replace HO1 := Aside0.mk (Kd.V_elder' (vo HO1) (Kd.N_base ho4) hb); replace HB := Aside0.mk (below_step bh hb); clear hb ho4; obtain ⟨Ao5, co5, eo5⟩ := Kd.N_slice HO103.out; subst eo5))
 go_loopg [19] k (fun kq v19 w' => ∃ (x19_1 : Int), v19 = .int .i64 x19_1 ∧ Aside0 (shape_Sum.l0 kq l0 l1 y101 (y101.length : Int) x19_1 = some (r1, r2)) ∧ Aside0 (kq ≤ k) ∧ Aside0 (Kd.V k29 29 w' w.heap.size (fun k_ => ((P0_ k_ ∨ P1_ k_) ∨ w.heap.size ≤ k_) ∧ some k_ ≠ ((.slice Ao5 y101.length co5) : Value).ownBlock) (.slice A0 l0.length c0) l0) ∧ Aside0 (Kd.V k29 29 w' w.heap.size (fun k_ => ((P0_ k_ ∨ P1_ k_) ∨ w.heap.size ≤ k_) ∧ some k_ ≠ ((.slice Ao5 y101.length co5) : Value).ownBlock) (.slice A1 l1.length c1) l1) ∧ Aside0 (Kd.N (Kd.slice 29 k29) 22 w' w.heap.size (fun k_ => ((P0_ k_ ∨ P1_ k_) ∨ w.heap.size ≤ k_)) (.slice Ao5 y101.length co5) y101) ∧ Aside0 (Below w.heap.size w w'))
 case atStart => exact ⟨(0), sd, H', ⟨Nat.le_refl _⟩, ⟨by (with_reducible repeat (first | apply Kd.V_alloc | apply Kd.V_drewN | apply Kd.V_drew)); exact HO0.out⟩, ⟨by (with_reducible repeat (first | apply Kd.V_alloc | apply Kd.V_drewN | apply Kd.V_drew)); exact HO1.out⟩, ⟨by (with_reducible repeat (first | apply Kd.N_alloc | apply Kd.N_drewN | apply Kd.N_drew)); exact HO103.out⟩, ⟨bh⟩⟩
 case round =>
  clear H'
  (try clear c1); (try clear p2); (try clear c4)
  obtain ⟨x19_1, rfl, HA, HK1, HO_0, HO_1, HO_17, HB⟩ := hrel
  cases gk with
  | zero => exact absurd HA.out (by simp [shape_Sum.l0])
  | succ k1 =>
   have H := HA.out
   clear HA
   simp only [shape_Sum.l0] at H
   by_cases c6 : x19_1 < (y101.length : Int)
   ·rw [if_pos c6] at H
    have c6b0 := decide_eq_true c6
    clear c6
    by_cases c7 : 0 ≤ x19_1
    ·rw [if_pos c7] at H
     have c7b0 := decide_eq_true c7
     clear c7
     by_cases c8 : x19_1 < (y101.length : Int)
     ·rw [if_pos c8] at H
      have c8b0 := decide_eq_true c8
      clear c8
      replace H := Option.bind_eq_some_iff.mp H
      obtain ⟨t105, A90, H⟩ := H
      replace H : (if t105 = 0 then (shape_Sum.l0 k1 l0 l1 y101 (y101.length : Int) (wrap64 (x19_1 + 1))) else (some (([] : List (S29)), t105))) = some (r1, r2) := H
      have A9 := Aside0.mk A90
      clear A90
      by_cases c10 : t105 = 0
      ·rw [if_pos c10] at H
       have c10b0 : (t105 == 0) = true := beq_iff_eq.mpr c10
       have c10b1 : (t105 != 0) = false := bne_eq_false_iff_eq.mpr c10
       clear c10
       have H' := Aside0.mk H
       clear H
       have p104 : 0 ≤ (x19_1 : Int) := dt
       have q104 : x19_1 < (y101.length : Int) := dt
       obtain ⟨ad104, A104_0, c104_0, e104, hx104_0, hl104_0, hi104_0⟩ := at_L2 (Kd.N_reads' HO_17.out).2.2 x19_1 p104 q104
       cases e104
       obtain ⟨ce104, hce104, hMe104, hcc104⟩ := Kd.N_get HO_17.out [] x19_1 p104 (by first | exact q104 | exact dt | (have e_ := (Kd.N_reads' HO_17.out).1; omega))
       obtain ⟨ua104_0, uc104_0, rfl, ul104_0, ge104_0⟩ := Kd.FK_slice_open hMe104
       have hv104_0 := hcc104 0 _ rfl
       rw [Nat.add_zero, show ((Kd.slice 29 k29)).sz = 1 from rfl, Nat.mul_one] at hv104_0
       replace hv104_0 := Option.some.inj (hv104_0.symm.trans hx104_0)
       injection hv104_0 with hva_ hvn_ hvc_
       rw [hva_] at ge104_0
       rw [hvc_] at ul104_0
       have HL104_0 := Aside0.mk (show Kd.V k29 29 _ w.heap.size _ _ (rd_L2 y101 x19_1) from Kd.V_mk ul104_0 ge104_0)
       clear hva_ hvn_ hvc_ ge104_0 ul104_0
       clear hcc104 hce104
       have HR104_0 := Aside0.mk hi104_0
       have HC104_0 := Aside0.mk hl104_0
       clear hi104_0 hl104_0
       replace p104 := eq_true p104
       replace q104 := eq_true q104
       go_wp2_with (first | ((first | ((with_reducible refine gc 68 rfl ?_); refine goesL_ (some 24) rfl rfl Try.func68 (by kernel_rfl) rfl #[.slice A104_0 (rd_L2 y101 x19_1).length c104_0, .func (.func 72) #[] #[]] rfl sg ?_) | ((with_reducible refine gate_value 68 rfl rfl ?_); refine goesLV_ (some 24) rfl rfl Try.func68 (by kernel_rfl) rfl #[.slice A104_0 (rd_L2 y101 x19_1).length c104_0, .func (.func 72) #[] #[]] rfl sg rfl ?_)); (with_reducible refine (shape_refused_normal.calls k1 _ _ (rd_L2 y101 x19_1)  t105 _ ?side1 ?side2 A9.out).mono ?_); (case side1 => repeat (first | exact (by repeat (first | (with_reducible exact HR104_0.out) | (with_reducible refine Kd.C_alloc ?_ _) | (with_reducible refine Kd.C_drewN ?_ _) | (with_reducible refine Kd.C_drew ?_) | exact HR104_0.out)) | (with_reducible refine Kd.C_alloc ?_ _) | (with_reducible refine Kd.C_drewN ?_ _) | (with_reducible refine Kd.C_drew ?_))); (case side2 => exact HC104_0.out); rintro e w11 ⟨rfl, hb⟩; refine ⟨_, rfl, ?_⟩; replace HO_0 := Aside0.mk (Kd.V_below (vo HO_0) hb); replace HO_1 := Aside0.mk (Kd.V_below (vo HO_1) hb); replace HO_17 := Aside0.mk (Kd.N_below (no HO_17) hb); replace HL104_0 := Aside0.mk (Kd.V_below (by (with_reducible repeat (first | apply Kd.V_alloc | apply Kd.V_drewN | apply Kd.V_drew)); exact HL104_0.out) hb); replace HR104_0 := Aside0.mk (Kd.C_below (by repeat (first | (with_reducible exact HR104_0.out) | (with_reducible refine Kd.C_alloc ?_ _) | (with_reducible refine Kd.C_drewN ?_ _) | (with_reducible refine Kd.C_drew ?_) | exact HR104_0.out)) hb); replace HB := Aside0.mk (below_step bh hb); (try clear hb); (try clear hb2); (try clear hk); (try clear hi)))
       go_roundg k1
       case measure => have := HK1.out; omega
       case rel => exact ⟨(wrap64 (x19_1 + 1)), sd, H', ⟨by have := HK1.out; omega⟩, ⟨by (with_reducible repeat (first | apply Kd.V_alloc | apply Kd.V_drewN | apply Kd.V_drew)); exact HO_0.out⟩, ⟨by (with_reducible repeat (first | apply Kd.V_alloc | apply Kd.V_drewN | apply Kd.V_drew)); exact HO_1.out⟩, ⟨by (with_reducible repeat (first | apply Kd.N_alloc | apply Kd.N_drewN | apply Kd.N_drew)); exact HO_17.out⟩, ⟨bh⟩⟩
      ·rw [if_neg c10] at H
       have c10b0 : (t105 == 0) = false := beq_eq_false_iff_ne.mpr c10
       have c10b1 : (t105 != 0) = true := bne_iff_ne.mpr c10
       simp only [Option.some.injEq, Prod.mk.injEq] at H
       obtain ⟨rfl, rfl⟩ := H
       have p104 : 0 ≤ (x19_1 : Int) := dt
       have q104 : x19_1 < (y101.length : Int) := dt
       obtain ⟨ad104, A104_0, c104_0, e104, hx104_0, hl104_0, hi104_0⟩ := at_L2 (Kd.N_reads' HO_17.out).2.2 x19_1 p104 q104
       cases e104
       obtain ⟨ce104, hce104, hMe104, hcc104⟩ := Kd.N_get HO_17.out [] x19_1 p104 (by first | exact q104 | exact dt | (have e_ := (Kd.N_reads' HO_17.out).1; omega))
       obtain ⟨ua104_0, uc104_0, rfl, ul104_0, ge104_0⟩ := Kd.FK_slice_open hMe104
       have hv104_0 := hcc104 0 _ rfl
       rw [Nat.add_zero, show ((Kd.slice 29 k29)).sz = 1 from rfl, Nat.mul_one] at hv104_0
       replace hv104_0 := Option.some.inj (hv104_0.symm.trans hx104_0)
       injection hv104_0 with hva_ hvn_ hvc_
       rw [hva_] at ge104_0
       rw [hvc_] at ul104_0
       have HL104_0 := Aside0.mk (show Kd.V k29 29 _ w.heap.size _ _ (rd_L2 y101 x19_1) from Kd.V_mk ul104_0 ge104_0)
       clear hva_ hvn_ hvc_ ge104_0 ul104_0
       clear hcc104 hce104
       have HR104_0 := Aside0.mk hi104_0
       have HC104_0 := Aside0.mk hl104_0
       clear hi104_0 hl104_0
       replace p104 := eq_true p104
       replace q104 := eq_true q104
       go_wp2_with (first | ((first | ((with_reducible refine gc 68 rfl ?_); refine goesL_ (some 24) rfl rfl Try.func68 (by kernel_rfl) rfl #[.slice A104_0 (rd_L2 y101 x19_1).length c104_0, .func (.func 72) #[] #[]] rfl sg ?_) | ((with_reducible refine gate_value 68 rfl rfl ?_); refine goesLV_ (some 24) rfl rfl Try.func68 (by kernel_rfl) rfl #[.slice A104_0 (rd_L2 y101 x19_1).length c104_0, .func (.func 72) #[] #[]] rfl sg rfl ?_)); (with_reducible refine (shape_refused_normal.calls k1 _ _ (rd_L2 y101 x19_1)  t105 _ ?side1 ?side2 A9.out).mono ?_); (case side1 => repeat (first | exact (by repeat (first | (with_reducible exact HR104_0.out) | (with_reducible refine Kd.C_alloc ?_ _) | (with_reducible refine Kd.C_drewN ?_ _) | (with_reducible refine Kd.C_drew ?_) | exact HR104_0.out)) | (with_reducible refine Kd.C_alloc ?_ _) | (with_reducible refine Kd.C_drewN ?_ _) | (with_reducible refine Kd.C_drew ?_))); (case side2 => exact HC104_0.out); rintro e w12 ⟨rfl, hb⟩; refine ⟨_, rfl, ?_⟩; replace HO_0 := Aside0.mk (Kd.V_below (vo HO_0) hb); replace HO_1 := Aside0.mk (Kd.V_below (vo HO_1) hb); replace HO_17 := Aside0.mk (Kd.N_below (no HO_17) hb); replace HL104_0 := Aside0.mk (Kd.V_below (by (with_reducible repeat (first | apply Kd.V_alloc | apply Kd.V_drewN | apply Kd.V_drew)); exact HL104_0.out) hb); replace HR104_0 := Aside0.mk (Kd.C_below (by repeat (first | (with_reducible exact HR104_0.out) | (with_reducible refine Kd.C_alloc ?_ _) | (with_reducible refine Kd.C_drewN ?_ _) | (with_reducible refine Kd.C_drew ?_) | exact HR104_0.out)) hb); replace HB := Aside0.mk (below_step bh hb); (try clear hb); (try clear hb2); (try clear hk); (try clear hi)))
       go_ret2
       exact ⟨_, by exact er, by first | exact Kd.R_nil _ _ _ _ _ | exact Kd.N_nil _ _ _ _ _ | exact Kd.V_nil _ _ _ _ _ | exact Kd.Q_nil _ _ _ _ _ | exact Kd.S_nil _ _ _ _ _, bh⟩
     ·rw [if_neg c8] at H
      exact absurd H (by simp)
    ·rw [if_neg c7] at H
     exact absurd H (by simp)
   ·rw [if_neg c6] at H
    have c6b0 := decide_eq_false c6
    clear c6
    by_cases c13 : 0 < (l0.length : Int)
    ·rw [if_pos c13] at H
     have c13b0 := decide_eq_true c13
     have c13b1 : decide (0 < l0.length) = true := decide_eq_true (by omega)
     clear c13
     by_cases c14 : 0 < (l1.length : Int)
     ·rw [if_pos c14] at H
      have c14b0 := decide_eq_true c14
      have c14b1 : decide (0 < l1.length) = true := decide_eq_true (by omega)
      clear c14
      replace H := Option.bind_eq_some_iff.mp H
      obtain ⟨⟨t108, t109⟩, A150, H⟩ := H
      replace H : (shape_Sum.l1 k1 l0 l1 (([(⟨t108, t109⟩ : S29)] : List (S29))) 0 0) = some (r1, r2) := H
      have A15 := Aside0.mk A150
      clear A150
      obtain ⟨y110, hy110⟩ : ∃ y_ : List (S29), y_ = (([(⟨t108, t109⟩ : S29)] : List (S29))) := ⟨_, rfl⟩
      replace H : (shape_Sum.l1 k1 l0 l1 y110 0 0) = some (r1, r2) := by first | (rw [hy110]; with_reducible exact H) | (have H2_ := (Option.bind_some _ _).symm.trans H; rw [hy110]; with_reducible exact H2_) | (have H2_ := (Option.bind_some _ _).symm.trans H; with_reducible exact H2_) | with_reducible exact H | (rw [hy110]; exact H) | exact H
      have Ny110 := Aside0.mk hy110
      clear hy110
      have H' := Aside0.mk H
      clear H
      try go_wp2
      replace HO_0 := Aside0.mk (Kd.V_drew HO_0.out)
      replace HO_1 := Aside0.mk (Kd.V_drew HO_1.out)
      replace HO_17 := Aside0.mk (Kd.N_drew HO_17.out)
      replace HB := Aside0.mk (below_drew1 HB.out)
      have p106 : 0 ≤ (0 : Int) := (by omega)
      have q106 : 0 < (l0.length : Int) := dt
      obtain ⟨ad106, e106, hx106_0, hx106_1⟩ := at_T29 (Kd.V_reads' HO_0.out).2.2 0 p106 q106
      cases e106
      have qi106 : (0 < l0.length) = True := eq_true (by omega)
      (try rw [show ((0 : Int)).toNat = 0 from rfl] at hx106_0)
      (try rw [show 0 * 2 = 0 from rfl] at hx106_0)
      (try rw [Addr.add_zero'] at hx106_0)
      (try rw [show ((0 : Int)).toNat = 0 from rfl] at hx106_1)
      (try rw [show 0 * 2 = 0 from rfl] at hx106_1)
      (try rw [Addr.add_zero'] at hx106_1)
      replace p106 := eq_true p106
      replace q106 := eq_true q106
      have p107 : 0 ≤ (0 : Int) := (by omega)
      have q107 : 0 < (l1.length : Int) := dt
      obtain ⟨ad107, e107, hx107_0, hx107_1⟩ := at_T29 (Kd.V_reads' HO_1.out).2.2 0 p107 q107
      cases e107
      have qi107 : (0 < l1.length) = True := eq_true (by omega)
      (try rw [show ((0 : Int)).toNat = 0 from rfl] at hx107_0)
      (try rw [show 0 * 2 = 0 from rfl] at hx107_0)
      (try rw [Addr.add_zero'] at hx107_0)
      (try rw [show ((0 : Int)).toNat = 0 from rfl] at hx107_1)
      (try rw [show 0 * 2 = 0 from rfl] at hx107_1)
      (try rw [Addr.add_zero'] at hx107_1)
      replace p107 := eq_true p107
      replace q107 := eq_true q107
      refine start_ (n := 9) (S := fun w' => w'.cell? ad106 = some (.int .i64 ((rd_T29 l0 0).f0)) ∧ w'.cell? ⟨ad106.block, ad106.off + 1, none⟩ = some (.int .i64 ((rd_T29 l0 0).f1)) ∧ w'.cell? ad107 = some (.int .i64 ((rd_T29 l1 0).f0)) ∧ w'.cell? ⟨ad107.block, ad107.off + 1, none⟩ = some (.int .i64 ((rd_T29 l1 0).f1))) (ds := []) #[false, false, false, false, false, false, false, false, false] (by kernel_rfl) rfl rfl ⟨hx106_0, hx106_1, hx107_0, hx107_1⟩ (fun hHeld => ?_); refine with_tabW shape_Sum.tab9 shape_Sum.bits9 (fun HT_ HW_ => ?_)
      generalize wr.drew = w16 at HO_0 HO_1 HO_17 HB hx106_0 hx106_1 hx107_0 hx107_1 hHeld ⊢
      refine pu 0 29 HT_ ?_
      refine pu 1 30 HT_ ?_
      refine pu 3 32 HT_ ?_
      refine pu 4 33 HT_ ?_
      refine tk4 2 31 hHeld HT_ HW_ ?_
      refine tk4 5 34 hHeld HT_ HW_ ?_
      refine one_ (i := 6) (N := some 35) #[true, true, true, true, true, true, true, false, false] rfl rfl (on1 HT_) (by decide) (fun K hK => ?_)
      first | (refine goes_ Try.func78 (by kernel_rfl) rfl #[.agg #[.int .i64 ((rd_T29 l0 0).f0), .int .i64 ((rd_T29 l0 0).f1)], .agg #[.int .i64 ((rd_T29 l1 0).f0), .int .i64 ((rd_T29 l1 0).f1)]] (by rfl) rfl rfl sg ?_) | (refine goesV_ Try.func78 (by kernel_rfl) rfl #[.agg #[.int .i64 ((rd_T29 l0 0).f0), .int .i64 ((rd_T29 l0 0).f1)], .agg #[.int .i64 ((rd_T29 l1 0).f0), .int .i64 ((rd_T29 l1 0).f1)]] (by rfl) rfl rfl sg (by rfl) ?_)
      with_reducible refine (shape_add.calls ((rd_T29 l0 0).f0) ((rd_T29 l0 0).f1) ((rd_T29 l1 0).f0) ((rd_T29 l1 0).f1) t108 t109 _ A15.out).mono ?_
      rintro e w17 ⟨rfl, hb⟩
      have HS0_ := (hb.cell (World.block_lt_of_cell? _ _ (hHeld.1))).trans (hHeld.1)
      have HS1_ := (hb.cell (World.block_lt_of_cell? _ _ (hHeld.2.1))).trans (hHeld.2.1)
      have HS2_ := (hb.cell (World.block_lt_of_cell? _ _ (hHeld.2.2.1))).trans (hHeld.2.2.1)
      have HS3_ := (hb.cell (World.block_lt_of_cell? _ _ (hHeld.2.2.2))).trans (hHeld.2.2.2)
      refine ⟨_, rfl, ?_⟩
      replace HO_0 := Aside0.mk (Kd.V_below (vo HO_0) hb)
      replace HO_1 := Aside0.mk (Kd.V_below (vo HO_1) hb)
      replace HO_17 := Aside0.mk (Kd.N_below (no HO_17) hb)
      replace HB := Aside0.mk (below_step bh hb)
      (try clear hb); (try clear hb2); (try clear hk); (try clear hi)
      refine hK.out _ _ ⟨HS0_, HS1_, HS2_, HS3_⟩ (fun hHeld => ?_)
      clear hK K
      refine nm 35 ?_
      refine one_ (i := 7) (N := some 36) #[true, true, true, true, true, true, true, true, false] rfl rfl (on1 HT_) (by decide) (fun K hK => ?_)
      refine Kd.R_lit_step k29 _ 29 ?hg (N := 36) ?hd (xs := ([(⟨t108, t109⟩ : S29)] : List (S29))) (inner := [.int .i64 t108, .int .i64 t109]) (ok := fun _ => True) (okp := fun _ => True) ?hr ?hp (fun _ hk => hk) trivial (Below.refl _ _) (Nat.le_refl _) (by simp) ?_; (case hd => rfl); (case hg => rfl); (case hr => first | (go_simp; done) | (go_simp; rfl)); (case hp => exact (Reps.c2 (show Kd.M k29 _ _ _ (⟨t108, t109⟩ : S29) [.int .i64 t108, .int .i64 t109] from (k29_mkM _ _ _ (⟨t108, t109⟩ : S29) )) (Reps.none _ _)))
      intro v111 w18 ho19 hb hg_ hnew_
      have HS0_ := (hb.cell (World.block_lt_of_cell? _ _ (hHeld.1))).trans (hHeld.1)
      have HS1_ := (hb.cell (World.block_lt_of_cell? _ _ (hHeld.2.1))).trans (hHeld.2.1)
      have HS2_ := (hb.cell (World.block_lt_of_cell? _ _ (hHeld.2.2.1))).trans (hHeld.2.2.1)
      have HS3_ := (hb.cell (World.block_lt_of_cell? _ _ (hHeld.2.2.2))).trans (hHeld.2.2.2)
      clear hg_ hnew_
      (first | rw [← Ny110.out] at ho19 | (simp only [Int.reduceToNat] at ho19; rw [← Ny110.out] at ho19))
      have HO112 := Aside0.mk (Kd.R_lower (Kd.R_newM (M := fun k_ => (w.heap.size ≤ k_)) ho19 (below_size bh) (fun k_ h_ => h_)) (below_size bh))
      replace HO_0 := Aside0.mk (Kd.V_elder' (vo HO_0) (Kd.R_base ho19) hb)
      replace HO_1 := Aside0.mk (Kd.V_elder' (vo HO_1) (Kd.R_base ho19) hb)
      replace HO_17 := Aside0.mk (Kd.N_elder' (no HO_17) (Kd.R_base ho19) hb)
      replace HB := Aside0.mk (below_step bh hb)
      clear hb ho19
      refine hK.out _ _ ⟨HS0_, HS1_, HS2_, HS3_⟩ (fun hHeld => ?_)
      clear hK K
      refine nm 36 ?_
      refine pu 8 10 HT_ ?_
      refine done_ (done_of HT_.out (by kernel_rfl)) ?_
      try go_wp2
      go_loopg [10, 11, 12] k1 (fun kq v10 v11 v12 w' => ∃ (x10_2 : List (S29)) (x11_2 : Int) (x12_2 : Int), v11 = .int .i64 x11_2 ∧ v12 = .int .i64 x12_2 ∧ Aside0 (shape_Sum.l1 kq l0 l1 x10_2 x11_2 x12_2 = some (r1, r2)) ∧ Aside0 (kq ≤ k1) ∧ Aside0 (Kd.V k29 29 w' w.heap.size (fun k_ => ((P0_ k_ ∨ P1_ k_) ∨ w.heap.size ≤ k_) ∧ some k_ ≠ (v10 : Value).ownBlock) (.slice (some ad106) l0.length c0) l0) ∧ Aside0 (Kd.V k29 29 w' w.heap.size (fun k_ => ((P0_ k_ ∨ P1_ k_) ∨ w.heap.size ≤ k_) ∧ some k_ ≠ (v10 : Value).ownBlock) (.slice (some ad107) l1.length c1) l1) ∧ Aside0 (Kd.R k29 29 w' w.heap.size (fun k_ => (w.heap.size ≤ k_)) v10 x10_2) ∧ Aside0 (Below w.heap.size w w'))
      case atStart => exact ⟨(y110), (0), (0), sd, sd, H', ⟨Nat.le_refl _⟩, ⟨by (with_reducible repeat (first | apply Kd.V_alloc | apply Kd.V_drewN | apply Kd.V_drew)); exact Kd.V_mono HO_0.out (fun _ hk => ⟨hk.1.1, hk.2⟩)⟩, ⟨by (with_reducible repeat (first | apply Kd.V_alloc | apply Kd.V_drewN | apply Kd.V_drew)); exact Kd.V_mono HO_1.out (fun _ hk => ⟨hk.1.1, hk.2⟩)⟩, ⟨by (with_reducible repeat (first | apply Kd.R_alloc | apply Kd.R_drewN | apply Kd.R_drew)); exact Kd.R_mono HO112.out (fun _ hk => hk.1)⟩, ⟨bh⟩⟩
      case round =>
       clear H'
       (try clear c1); (try clear p1); (try clear q1); (try clear hx1); (try clear qi1); (try clear c2); (try clear p2); (try clear c4); (try clear c6); (try clear c6b0); (try clear p6); (try clear c7); (try clear c7b0); (try clear c8); (try clear c8b0); (try clear c10); (try clear c10b0); (try clear c10b1); (try clear p10); (try clear q10); (try clear hx10); (try clear qi10); (try clear c13); (try clear c13b0); (try clear c13b1); (try clear c14); (try clear c14b0); (try clear c14b1); (try clear hx104_0); (try clear hx106_0); (try clear hx106_1); (try clear hx107_0); (try clear hx107_1); (try clear p104); (try clear p106); (try clear p107); (try clear p2); (try clear q104); (try clear q106); (try clear q107)
       obtain ⟨x10_2, x11_2, x12_2, rfl, rfl, HA, HK2, HO_0, HO_1, HO_10, HB⟩ := hrel
       cases gk with
       | zero => exact absurd HA.out (by simp [shape_Sum.l1])
       | succ k2 =>
        have H := HA.out
        clear HA
        simp only [shape_Sum.l1] at H
        have HC20 := Aside0.mk H
        clear H
        go_upto_region 11 with (fail)
        go_cut [46] (fun v46 wc => ∃ (kq : Nat) (x46_19 : Bool), v46 = .bool x46_19 ∧ Aside0 (shape_Sum.j2 kq l0 l1 x10_2 x11_2 x12_2 x46_19 = some (r1, r2)) ∧ Aside0 (kq ≤ k2) ∧ Aside0 (Kd.V k29 29 wc w.heap.size (fun k_ => ((P0_ k_ ∨ P1_ k_) ∨ w.heap.size ≤ k_) ∧ some k_ ≠ (u10 : Value).ownBlock) (.slice (some ad106) l0.length c0) l0) ∧ Aside0 (Kd.V k29 29 wc w.heap.size (fun k_ => ((P0_ k_ ∨ P1_ k_) ∨ w.heap.size ≤ k_) ∧ some k_ ≠ (u10 : Value).ownBlock) (.slice (some ad107) l1.length c1) l1) ∧ Aside0 (Kd.R k29 29 wc w.heap.size (fun k_ => (w.heap.size ≤ k_)) u10 x10_2) ∧ Aside0 (Below w.heap.size w wc))
        case first =>
         have H := HC20.out
         clear HC20
         by_cases c21 : x11_2 < (l0.length : Int)
         ·rw [if_pos c21] at H
          have c21b0 := decide_eq_true c21
          clear c21
          (first | rw [c21b0] | (simp only [i64_w, i32_w]; rw [c21b0]) | skip)
          have H' := Aside0.mk H
          clear H
          go_wp2
          go_meet
          case rel => exact ⟨_, (true), sd, H', ⟨by have := HK1.out; have := HK2.out; first | omega | exact Nat.le_refl _⟩, ⟨by (with_reducible repeat (first | apply Kd.V_alloc | apply Kd.V_drewN | apply Kd.V_drew)); exact HO_0.out⟩, ⟨by (with_reducible repeat (first | apply Kd.V_alloc | apply Kd.V_drewN | apply Kd.V_drew)); exact HO_1.out⟩, ⟨by (with_reducible repeat (first | apply Kd.R_alloc | apply Kd.R_drewN | apply Kd.R_drew)); exact HO_10.out⟩, ⟨bh⟩⟩
         ·rw [if_neg c21] at H
          have c21b0 := decide_eq_false c21
          clear c21
          (first | rw [c21b0] | (simp only [i64_w, i32_w]; rw [c21b0]) | skip)
          have H' := Aside0.mk H
          clear H
          go_wp2
          go_meet
          case rel => exact ⟨_, (decide (x12_2 < (l1.length : Int))), sd, H', ⟨by have := HK1.out; have := HK2.out; first | omega | exact Nat.le_refl _⟩, ⟨by (with_reducible repeat (first | apply Kd.V_alloc | apply Kd.V_drewN | apply Kd.V_drew)); exact HO_0.out⟩, ⟨by (with_reducible repeat (first | apply Kd.V_alloc | apply Kd.V_drewN | apply Kd.V_drew)); exact HO_1.out⟩, ⟨by (with_reducible repeat (first | apply Kd.R_alloc | apply Kd.R_drewN | apply Kd.R_drew)); exact HO_10.out⟩, ⟨bh⟩⟩
        case rest =>
         clear HC20
         (try clear c1); (try clear p1); (try clear q1); (try clear hx1); (try clear qi1); (try clear c2); (try clear p2); (try clear c4); (try clear c6); (try clear c6b0); (try clear p6); (try clear c7); (try clear c7b0); (try clear c8); (try clear c8b0); (try clear c10); (try clear c10b0); (try clear c10b1); (try clear p10); (try clear q10); (try clear hx10); (try clear qi10); (try clear c13); (try clear c13b0); (try clear c13b1); (try clear c14); (try clear c14b0); (try clear c14b1); (try clear c20); (try clear c21); (try clear c21b0); (try clear hx104_0); (try clear hx106_0); (try clear hx106_1); (try clear hx107_0); (try clear hx107_1); (try clear p1); (try clear p10); (try clear p104); (try clear p106); (try clear p107); (try clear p2); (try clear p6); (try clear q1); (try clear q10); (try clear q104); (try clear q106); (try clear q107)
         obtain ⟨kq, x46_19, rfl, HA, HJ19, HO_0, HO_1, HO_10, HB⟩ := hcut
         cases kq with
         | zero => exact absurd HA.out (by simp [shape_Sum.j2])
         | succ kj19 =>
          have H := HA.out
          clear HA
          simp only [shape_Sum.j2] at H
          by_cases c22 : x46_19 = true
          ·subst c22
           rw [if_pos rfl] at H
           have HC23 := Aside0.mk H
           clear H
           go_upto_block 4 with (fail)
           go_cut [13] (fun v13 wc => ∃ (kq : Nat) (x13_22 : Int), v13 = .int .i64 x13_22 ∧ Aside0 (shape_Sum.j3 kq l0 l1 x10_2 x11_2 x12_2 x13_22 = some (r1, r2)) ∧ Aside0 (kq ≤ kj19) ∧ Aside0 (Kd.V k29 29 wc w.heap.size (fun k_ => ((P0_ k_ ∨ P1_ k_) ∨ w.heap.size ≤ k_) ∧ some k_ ≠ (u10 : Value).ownBlock) (.slice (some ad106) l0.length c0) l0) ∧ Aside0 (Kd.V k29 29 wc w.heap.size (fun k_ => ((P0_ k_ ∨ P1_ k_) ∨ w.heap.size ≤ k_) ∧ some k_ ≠ (u10 : Value).ownBlock) (.slice (some ad107) l1.length c1) l1) ∧ Aside0 (Kd.R k29 29 wc w.heap.size (fun k_ => (w.heap.size ≤ k_)) u10 x10_2) ∧ Aside0 (Below w.heap.size w wc))
           case first =>
            have H := HC23.out
            clear HC23
            by_cases c24 : x12_2 = (l1.length : Int)
            ·rw [if_pos c24] at H
             have c24b0 : (x12_2 == (l1.length : Int)) = true := beq_iff_eq.mpr c24
             have c24b1 : (x12_2 != (l1.length : Int)) = false := bne_eq_false_iff_eq.mpr c24
             clear c24
             (first | rw [c24b0] | (simp only [i64_w, i32_w]; rw [c24b0]) | skip)
             have H' := Aside0.mk H
             clear H
             go_wp2
             go_meet
             case rel => exact ⟨_, (1), sd, H', ⟨by have := HK1.out; have := HK2.out; have := HJ19.out; first | omega | exact Nat.le_refl _⟩, ⟨by (with_reducible repeat (first | apply Kd.V_alloc | apply Kd.V_drewN | apply Kd.V_drew)); exact HO_0.out⟩, ⟨by (with_reducible repeat (first | apply Kd.V_alloc | apply Kd.V_drewN | apply Kd.V_drew)); exact HO_1.out⟩, ⟨by (with_reducible repeat (first | apply Kd.R_alloc | apply Kd.R_drewN | apply Kd.R_drew)); exact HO_10.out⟩, ⟨bh⟩⟩
            ·rw [if_neg c24] at H
             have c24b0 : (x12_2 == (l1.length : Int)) = false := beq_eq_false_iff_ne.mpr c24
             have c24b1 : (x12_2 != (l1.length : Int)) = true := bne_iff_ne.mpr c24
             (first | rw [c24b0] | (simp only [i64_w, i32_w]; rw [c24b0]) | skip)
             by_cases c25 : x11_2 = (l0.length : Int)
             ·rw [if_pos c25] at H
              have c25b0 : (x11_2 == (l0.length : Int)) = true := beq_iff_eq.mpr c25
              have c25b1 : (x11_2 != (l0.length : Int)) = false := bne_eq_false_iff_eq.mpr c25
              clear c25
              have H' := Aside0.mk H
              clear H
              go_wp2
              go_meet
              case rel => exact ⟨_, ((-1)), sd, H', ⟨by have := HK1.out; have := HK2.out; have := HJ19.out; first | omega | exact Nat.le_refl _⟩, ⟨by (with_reducible repeat (first | apply Kd.V_alloc | apply Kd.V_drewN | apply Kd.V_drew)); exact HO_0.out⟩, ⟨by (with_reducible repeat (first | apply Kd.V_alloc | apply Kd.V_drewN | apply Kd.V_drew)); exact HO_1.out⟩, ⟨by (with_reducible repeat (first | apply Kd.R_alloc | apply Kd.R_drewN | apply Kd.R_drew)); exact HO_10.out⟩, ⟨bh⟩⟩
             ·rw [if_neg c25] at H
              have c25b0 : (x11_2 == (l0.length : Int)) = false := beq_eq_false_iff_ne.mpr c25
              have c25b1 : (x11_2 != (l0.length : Int)) = true := bne_iff_ne.mpr c25
              replace H := Option.bind_eq_some_iff.mp H
              obtain ⟨⟨t116, t117⟩, A260, H⟩ := H
              replace H : ((shape_Sum_1.f l1 x12_2).bind fun bt118 => ((shape_cross.f t116 t117 bt118.1 bt118.2).bind fun t120 => (shape_Sum.j3 kj19 l0 l1 x10_2 x11_2 x12_2 t120))) = some (r1, r2) := H
              have A26 := Aside0.mk A260
              clear A260
              replace H := Option.bind_eq_some_iff.mp H
              obtain ⟨⟨t118, t119⟩, A270, H⟩ := H
              replace H : ((shape_cross.f t116 t117 t118 t119).bind fun t120 => (shape_Sum.j3 kj19 l0 l1 x10_2 x11_2 x12_2 t120)) = some (r1, r2) := H
              have A27 := Aside0.mk A270
              clear A270
              replace H := Option.bind_eq_some_iff.mp H
              obtain ⟨t120, A280, H⟩ := H
              replace H : (shape_Sum.j3 kj19 l0 l1 x10_2 x11_2 x12_2 t120) = some (r1, r2) := H
              have A28 := Aside0.mk A280
              clear A280
              have H' := Aside0.mk H
              clear H
              go_wp2_with (first | ((first | ((with_reducible refine gc 77 rfl ?_); refine goesL_ (some 50) rfl rfl Try.func77 (by kernel_rfl) rfl #[.slice (some ad106) l0.length c0, .int .i64 x11_2] rfl sg ?_) | ((with_reducible refine gate_value 77 rfl rfl ?_); refine goesLV_ (some 50) rfl rfl Try.func77 (by kernel_rfl) rfl #[.slice (some ad106) l0.length c0, .int .i64 x11_2] rfl sg rfl ?_)); (with_reducible refine (shape_Sum_1.calls _ _ l0 x11_2 t116 t117 _ ?side1 ?side2 A26.out).mono ?_); (case side1 => exact cs (Kd.V_reads' HO_0.out).2.2); (case side2 => exact (Kd.V_reads' HO_0.out).2.1); rintro e w29 ⟨rfl, hb⟩; refine ⟨_, rfl, ?_⟩; replace HO_0 := Aside0.mk (Kd.V_below (vo HO_0) hb); replace HO_1 := Aside0.mk (Kd.V_below (vo HO_1) hb); replace HO_10 := Aside0.mk (Kd.R_below (ro HO_10) hb); replace HB := Aside0.mk (below_step bh hb); (try clear hb); (try clear hb2); (try clear hk); (try clear hi)) | ((first | ((with_reducible refine gc 77 rfl ?_); refine goesL_ (some 54) rfl rfl Try.func77 (by kernel_rfl) rfl #[.slice (some ad107) l1.length c1, .int .i64 x12_2] rfl sg ?_) | ((with_reducible refine gate_value 77 rfl rfl ?_); refine goesLV_ (some 54) rfl rfl Try.func77 (by kernel_rfl) rfl #[.slice (some ad107) l1.length c1, .int .i64 x12_2] rfl sg rfl ?_)); (with_reducible refine (shape_Sum_1.calls _ _ l1 x12_2 t118 t119 _ ?side1 ?side2 A27.out).mono ?_); (case side1 => exact cs (Kd.V_reads' HO_1.out).2.2); (case side2 => exact (Kd.V_reads' HO_1.out).2.1); rintro e w30 ⟨rfl, hb⟩; refine ⟨_, rfl, ?_⟩; replace HO_0 := Aside0.mk (Kd.V_below (vo HO_0) hb); replace HO_1 := Aside0.mk (Kd.V_below (vo HO_1) hb); replace HO_10 := Aside0.mk (Kd.R_below (ro HO_10) hb); replace HB := Aside0.mk (below_step bh hb); (try clear hb); (try clear hb2); (try clear hk); (try clear hi)) | ((first | ((with_reducible refine gc 79 rfl ?_); refine goesL_ (some 55) rfl rfl Try.func79 (by kernel_rfl) rfl #[.agg #[.int .i64 t116, .int .i64 t117], .agg #[.int .i64 t118, .int .i64 t119]] rfl sg ?_) | ((with_reducible refine gate_value 79 rfl rfl ?_); refine goesLV_ (some 55) rfl rfl Try.func79 (by kernel_rfl) rfl #[.agg #[.int .i64 t116, .int .i64 t117], .agg #[.int .i64 t118, .int .i64 t119]] rfl sg rfl ?_)); (with_reducible refine (shape_cross.calls t116 t117 t118 t119 t120 _ A28.out).mono ?_); rintro e w31 ⟨rfl, hb⟩; refine ⟨_, rfl, ?_⟩; replace HO_0 := Aside0.mk (Kd.V_below (vo HO_0) hb); replace HO_1 := Aside0.mk (Kd.V_below (vo HO_1) hb); replace HO_10 := Aside0.mk (Kd.R_below (ro HO_10) hb); replace HB := Aside0.mk (below_step bh hb); (try clear hb); (try clear hb2); (try clear hk); (try clear hi)))
              go_meet
              case rel => exact ⟨_, (t120), sd, H', ⟨by have := HK1.out; have := HK2.out; have := HJ19.out; first | omega | exact Nat.le_refl _⟩, ⟨by (with_reducible repeat (first | apply Kd.V_alloc | apply Kd.V_drewN | apply Kd.V_drew)); exact HO_0.out⟩, ⟨by (with_reducible repeat (first | apply Kd.V_alloc | apply Kd.V_drewN | apply Kd.V_drew)); exact HO_1.out⟩, ⟨by (with_reducible repeat (first | apply Kd.R_alloc | apply Kd.R_drewN | apply Kd.R_drew)); exact HO_10.out⟩, ⟨bh⟩⟩
           case rest =>
            clear HC23
            (try clear c1); (try clear p1); (try clear q1); (try clear hx1); (try clear qi1); (try clear c2); (try clear p2); (try clear c4); (try clear c6); (try clear c6b0); (try clear p6); (try clear c7); (try clear c7b0); (try clear c8); (try clear c8b0); (try clear c10); (try clear c10b0); (try clear c10b1); (try clear p10); (try clear q10); (try clear hx10); (try clear qi10); (try clear c13); (try clear c13b0); (try clear c13b1); (try clear c14); (try clear c14b0); (try clear c14b1); (try clear c20); (try clear c21); (try clear c21b0); (try clear c22); (try clear c24); (try clear c24b0); (try clear c24b1); (try clear c25); (try clear c25b0); (try clear c25b1); (try clear hx104_0); (try clear hx106_0); (try clear hx106_1); (try clear hx107_0); (try clear hx107_1); (try clear p1); (try clear p10); (try clear p104); (try clear p106); (try clear p107); (try clear p2); (try clear p6); (try clear q1); (try clear q10); (try clear q104); (try clear q106); (try clear q107)
            obtain ⟨kq, x13_22, rfl, HA, HJ22, HO_0, HO_1, HO_10, HB⟩ := hcut
            cases kq with
            | zero => exact absurd HA.out (by simp [shape_Sum.j3])
            | succ kj22 =>
             have H := HA.out
             clear HA
             simp only [shape_Sum.j3] at H
             have HC32 := Aside0.mk H
             clear H
             go_upto_if 67 with (first | ((with_reducible refine gate_dst (N := 14) rfl ?_); (try (refine gate_guard (by rfl) ?_; dsimp only)); refine bxe 14 #[.int .i64 0, .int .i64 0] 29 ?_; intro gb121 hg w33 hbox hb; have BK121 := Aside0.mk (hbox); have GW121 := Aside0.mk (gs hg : w.heap.size ≤ gb121); have GE121 := Aside0.mk (gs hg : w.heap.size ≤ gb121); replace HO_0 := Aside0.mk (Kd.V_below (Kd.V_elderB (vo HO_0) gb121 (Nat.le_of_eq hg.symm)) hb); replace HO_1 := Aside0.mk (Kd.V_below (Kd.V_elderB (vo HO_1) gb121 (Nat.le_of_eq hg.symm)) hb); replace HO_10 := Aside0.mk (Kd.R_below (Kd.R_elderB (ro HO_10) gb121 (Nat.le_of_eq hg.symm)) hb); replace HB := Aside0.mk (below_step bh hb); clear hb hbox hg))
             (try simp only [Act.put, List.setIfInBounds_toArray, List.set_cons_zero, List.set_cons_succ])
             go_cut [11] (fun v11 wc => ∃ (kq : Nat) (x11_31 : Int) (x122000_31 : Int) (x122001_31 : Int), v11 = .int .i64 x11_31 ∧ Aside0 (shape_Sum.j4 kq l0 l1 x10_2 x11_31 x12_2 x13_22 x122000_31 x122001_31 = some (r1, r2)) ∧ Aside0 (kq ≤ kj22) ∧ Aside0 (Kd.V k29 29 wc w.heap.size (fun k_ => ((P0_ k_ ∨ P1_ k_) ∨ w.heap.size ≤ k_) ∧ some k_ ≠ (u10 : Value).ownBlock ∧ k_ ≠ gb121) (.slice (some ad106) l0.length c0) l0) ∧ Aside0 (Kd.V k29 29 wc w.heap.size (fun k_ => ((P0_ k_ ∨ P1_ k_) ∨ w.heap.size ≤ k_) ∧ some k_ ≠ (u10 : Value).ownBlock ∧ k_ ≠ gb121) (.slice (some ad107) l1.length c1) l1) ∧ Aside0 (Kd.R k29 29 wc w.heap.size (fun k_ => (w.heap.size ≤ k_) ∧ k_ ≠ gb121) u10 x10_2) ∧ Aside0 (wc.heap[gb121]? = some (.cells #[.int .i64 x122000_31, .int .i64 x122001_31] 29 (0, 0))) ∧ Aside0 (Below w.heap.size w wc))
             case first =>
              have H := HC32.out
              clear HC32
              by_cases c34 : x13_22 ≥ 0
              ·rw [if_pos c34] at H
               have c34b0 := decide_eq_true c34
               clear c34
               (first | rw [c34b0] | (simp only [i64_w, i32_w]; rw [c34b0]) | skip)
               replace H := Option.bind_eq_some_iff.mp H
               obtain ⟨⟨t122, t123⟩, A350, H⟩ := H
               replace H : (shape_Sum.j4 kj22 l0 l1 x10_2 (wrap64 (x11_2 + 1)) x12_2 x13_22 t122 t123) = some (r1, r2) := H
               have A35 := Aside0.mk A350
               clear A350
               have H' := Aside0.mk H
               clear H
               go_wp2_with (first | ((first | ((with_reducible refine gc 77 rfl ?_); refine goesL_ (some 71) rfl rfl Try.func77 (by kernel_rfl) rfl #[.slice (some ad106) l0.length c0, .int .i64 x11_2] rfl sg ?_) | ((with_reducible refine gate_value 77 rfl rfl ?_); refine goesLV_ (some 71) rfl rfl Try.func77 (by kernel_rfl) rfl #[.slice (some ad106) l0.length c0, .int .i64 x11_2] rfl sg rfl ?_)); (with_reducible refine (shape_Sum_1.calls _ _ l0 x11_2 t122 t123 _ ?side1 ?side2 A35.out).mono ?_); (case side1 => exact cs (Kd.V_reads' HO_0.out).2.2); (case side2 => exact (Kd.V_reads' HO_0.out).2.1); rintro e w36 ⟨rfl, hb⟩; refine ⟨_, rfl, ?_⟩; replace HO_0 := Aside0.mk (Kd.V_below (vo HO_0) hb); replace HO_1 := Aside0.mk (Kd.V_below (vo HO_1) hb); replace HO_10 := Aside0.mk (Kd.R_below (ro HO_10) hb); replace BK121 := kb BK121 hb; replace HB := Aside0.mk (below_step bh hb); (try clear hb); (try clear hb2); (try clear hk); (try clear hi); have hcz37_0 : w36.cell? ⟨gb121, 0, none⟩ = some (.int .i64 0) := bc BK121 0; have hcz37_1 : w36.cell? ⟨gb121, 1, none⟩ = some (.int .i64 0) := bc BK121 1; have hfz37_0 := blk_frozen BK121.out 0; have hfz37_1 := blk_frozen BK121.out 1))
               go_meet
               case rel => exact ⟨_, (wrap64 (x11_2 + 1)), (t122), (t123), sd, H', ⟨by have := HK1.out; have := HK2.out; have := HJ19.out; have := HJ22.out; first | omega | exact Nat.le_refl _⟩, ⟨by (with_reducible repeat (first | apply Kd.V_alloc | apply Kd.V_drewN | apply Kd.V_drew)); exact Kd.V_mono (Kd.V_far (p := ⟨gb121, 1, none⟩) (Kd.V_far (p := ⟨gb121, 0, none⟩) (Kd.V_mono HO_0.out (fun k_ hk => (⟨hk, hk.2⟩ : _ ∧ k_ ≠ gb121))) (fun _ hk => hk.2) (.int .i64 t122)) (fun _ hk => hk.2) (.int .i64 t123)) (fun _ hk => ⟨hk.1.1.1, ⟨hk.1.1.2, hk.1.2⟩⟩)⟩, ⟨by (with_reducible repeat (first | apply Kd.V_alloc | apply Kd.V_drewN | apply Kd.V_drew)); exact Kd.V_mono (Kd.V_far (p := ⟨gb121, 1, none⟩) (Kd.V_far (p := ⟨gb121, 0, none⟩) (Kd.V_mono HO_1.out (fun k_ hk => (⟨hk, hk.2⟩ : _ ∧ k_ ≠ gb121))) (fun _ hk => hk.2) (.int .i64 t122)) (fun _ hk => hk.2) (.int .i64 t123)) (fun _ hk => ⟨hk.1.1.1, ⟨hk.1.1.2, hk.1.2⟩⟩)⟩, ⟨by (with_reducible repeat (first | apply Kd.R_alloc | apply Kd.R_drewN | apply Kd.R_drew)); exact Kd.R_mono (Kd.R_far (p := ⟨gb121, 1, none⟩) (Kd.R_far (p := ⟨gb121, 0, none⟩) (Kd.R_mono HO_10.out (fun k_ hk => (⟨hk, hk.2⟩ : _ ∧ k_ ≠ gb121))) (fun _ hk => hk.2) (.int .i64 t122)) (fun _ hk => hk.2) (.int .i64 t123)) (fun _ hk => ⟨hk.1.1, hk.1.2⟩)⟩, ⟨by (with_reducible repeat (first | refine blk_drewN ?_ _ | refine blk_drew ?_ | refine blk_alloc ?_ _)); refine blk_put (cs := #[.int .i64 t122, .int .i64 0]) ?_ 1 _ rfl; (with_reducible repeat (first | refine blk_drewN ?_ _ | refine blk_drew ?_ | refine blk_alloc ?_ _)); refine blk_put (cs := #[.int .i64 0, .int .i64 0]) ?_ 0 _ rfl; (with_reducible repeat (first | refine blk_drewN ?_ _ | refine blk_drew ?_ | refine blk_alloc ?_ _)); exact BK121.out⟩, ⟨bh⟩⟩
              ·rw [if_neg c34] at H
               have c34b0 := decide_eq_false c34
               clear c34
               (first | rw [c34b0] | (simp only [i64_w, i32_w]; rw [c34b0]) | skip)
               have H' := Aside0.mk H
               clear H
               go_wp2
               go_meet
               case rel => exact ⟨_, (x11_2), (0), (0), sd, H', ⟨by have := HK1.out; have := HK2.out; have := HJ19.out; have := HJ22.out; first | omega | exact Nat.le_refl _⟩, ⟨by (with_reducible repeat (first | apply Kd.V_alloc | apply Kd.V_drewN | apply Kd.V_drew)); exact Kd.V_mono HO_0.out (fun _ hk => ⟨hk.1.1, ⟨hk.1.2, hk.2⟩⟩)⟩, ⟨by (with_reducible repeat (first | apply Kd.V_alloc | apply Kd.V_drewN | apply Kd.V_drew)); exact Kd.V_mono HO_1.out (fun _ hk => ⟨hk.1.1, ⟨hk.1.2, hk.2⟩⟩)⟩, ⟨by (with_reducible repeat (first | apply Kd.R_alloc | apply Kd.R_drewN | apply Kd.R_drew)); exact HO_10.out⟩, ⟨bk BK121⟩, ⟨bh⟩⟩
             case rest =>
              clear HC32
              (try clear c1); (try clear p1); (try clear q1); (try clear hx1); (try clear qi1); (try clear c2); (try clear p2); (try clear c3); (try clear c4); (try clear c6); (try clear c6b0); (try clear p6); (try clear c7); (try clear c7b0); (try clear c8); (try clear c8b0); (try clear c10); (try clear c10b0); (try clear c10b1); (try clear p10); (try clear q10); (try clear hx10); (try clear qi10); (try clear c13); (try clear c13b0); (try clear c13b1); (try clear c14); (try clear c14b0); (try clear c14b1); (try clear c20); (try clear c21); (try clear c21b0); (try clear c22); (try clear c24); (try clear c24b0); (try clear c24b1); (try clear c25); (try clear c25b0); (try clear c25b1); (try clear c34); (try clear c34b0); (try clear hcz37_0); (try clear hcz37_1); (try clear hfz37_0); (try clear hfz37_1); (try clear hx104_0); (try clear hx106_0); (try clear hx106_1); (try clear hx107_0); (try clear hx107_1); (try clear p1); (try clear p10); (try clear p104); (try clear p106); (try clear p107); (try clear p2); (try clear p6); (try clear q1); (try clear q10); (try clear q104); (try clear q106); (try clear q107)
              obtain ⟨kq, x11_31, x122000_31, x122001_31, rfl, HA, HJ31, HO_0, HO_1, HO_10, BK121, HB⟩ := hcut
              cases kq with
              | zero => exact absurd HA.out (by simp [shape_Sum.j4])
              | succ kj31 =>
               have H := HA.out
               clear HA
               simp only [shape_Sum.j4] at H
               by_cases c38 : x13_22 ≤ 0
               ·rw [if_pos c38] at H
                have c38b0 := decide_eq_true c38
                clear c38
                replace H := Option.bind_eq_some_iff.mp H
                obtain ⟨⟨t124, t125⟩, A390, H⟩ := H
                replace H : ((shape_add.f x122000_31 x122001_31 t124 t125).bind fun bt126 => (if 0 ≤ (wrap64 ((x10_2.length : Int) - 1)) then (if (wrap64 ((x10_2.length : Int) - 1)) < (x10_2.length : Int) then ((shape_add.f ((rd_T29 x10_2 (wrap64 ((x10_2.length : Int) - 1))).f0) ((rd_T29 x10_2 (wrap64 ((x10_2.length : Int) - 1))).f1) bt126.1 bt126.2).bind fun bt129 => (if x10_2.length < 8796093022208 then (shape_Sum.l1 kj31 l0 l1 (x10_2 ++ [(⟨bt129.1, bt129.2⟩ : S29)]) x11_31 (wrap64 (x12_2 + 1))) else (none))) else (none)) else (none))) = some (r1, r2) := H
                have A39 := Aside0.mk A390
                clear A390
                replace H := Option.bind_eq_some_iff.mp H
                obtain ⟨⟨t126, t127⟩, A400, H⟩ := H
                replace H : (if 0 ≤ (wrap64 ((x10_2.length : Int) - 1)) then (if (wrap64 ((x10_2.length : Int) - 1)) < (x10_2.length : Int) then ((shape_add.f ((rd_T29 x10_2 (wrap64 ((x10_2.length : Int) - 1))).f0) ((rd_T29 x10_2 (wrap64 ((x10_2.length : Int) - 1))).f1) t126 t127).bind fun bt129 => (if x10_2.length < 8796093022208 then (shape_Sum.l1 kj31 l0 l1 (x10_2 ++ [(⟨bt129.1, bt129.2⟩ : S29)]) x11_31 (wrap64 (x12_2 + 1))) else (none))) else (none)) else (none)) = some (r1, r2) := H
                have A40 := Aside0.mk A400
                clear A400
                obtain ⟨ji41, hji41⟩ : ∃ j_ : Int, (wrap64 ((x10_2.length : Int) - 1)) = j_ := ⟨_, rfl⟩
                replace H : (if 0 ≤ (ji41) then (if (ji41) < (x10_2.length : Int) then ((shape_add.f ((rd_T29 x10_2 (ji41)).f0) ((rd_T29 x10_2 (ji41)).f1) t126 t127).bind fun bt129 => (if x10_2.length < 8796093022208 then (shape_Sum.l1 kj31 l0 l1 (x10_2 ++ [(⟨bt129.1, bt129.2⟩ : S29)]) x11_31 (wrap64 (x12_2 + 1))) else (none))) else (none)) else (none)) = some (r1, r2) := by first | (rw [hji41] at H; exact H) | (simp only [hji41] at H ⊢; exact H)
                (try rw [hji41] at A39)
                (try rw [hji41] at A40)
                have hji41w : (IntKind.i64.wrap ((x10_2.length : Int) - 1)) = ji41 := (i64_w _).trans hji41
                by_cases c42 : 0 ≤ (ji41)
                ·rw [if_pos c42] at H
                 have c42b0 := decide_eq_true c42
                 clear c42
                 by_cases c43 : (ji41) < (x10_2.length : Int)
                 ·rw [if_pos c43] at H
                  have c43b0 := decide_eq_true c43
                  clear c43
                  replace H := Option.bind_eq_some_iff.mp H
                  obtain ⟨⟨t129, t130⟩, A440, H⟩ := H
                  replace H : (if x10_2.length < 8796093022208 then (shape_Sum.l1 kj31 l0 l1 (x10_2 ++ [(⟨t129, t130⟩ : S29)]) x11_31 (wrap64 (x12_2 + 1))) else (none)) = some (r1, r2) := H
                  have A44 := Aside0.mk A440
                  clear A440
                  by_cases c45 : x10_2.length < 8796093022208
                  ·rw [if_pos c45] at H
                   have LMc45 := Aside0.mk c45
                   clear c45
                   obtain ⟨y131, hy131⟩ : ∃ y_ : List (S29), y_ = (x10_2 ++ [(⟨t129, t130⟩ : S29)]) := ⟨_, rfl⟩
                   replace H : (shape_Sum.l1 kj31 l0 l1 y131 x11_31 (wrap64 (x12_2 + 1))) = some (r1, r2) := by first | (rw [hy131]; with_reducible exact H) | (have H2_ := (Option.bind_some _ _).symm.trans H; rw [hy131]; with_reducible exact H2_) | (have H2_ := (Option.bind_some _ _).symm.trans H; with_reducible exact H2_) | with_reducible exact H | (rw [hy131]; exact H) | exact H
                   have Ny131 := Aside0.mk hy131
                   clear hy131
                   have H' := Aside0.mk H
                   clear H
                   try go_wp2
                   replace HO_0 := Aside0.mk (Kd.V_drew HO_0.out)
                   replace HO_1 := Aside0.mk (Kd.V_drew HO_1.out)
                   replace HO_10 := Aside0.mk (Kd.R_drew HO_10.out)
                   replace BK121 := Aside0.mk (blk_drew BK121.out)
                   replace HB := Aside0.mk (below_drew1 HB.out)
                   refine start_ (n := 7) (S := fun w' => w'.cell? ⟨gb121, 0, none⟩ = some (.int .i64 x122000_31) ∧ w'.cell? ⟨gb121, 1, none⟩ = some (.int .i64 x122001_31)) (ds := [6]) #[false, false, false, false, false, false, false] (by kernel_rfl) rfl rfl ⟨bc BK121 0, bc BK121 1⟩ (fun hHeld => ?_)
                   generalize wc.drew = w46 at HO_0 HO_1 HO_10 BK121 HB hHeld ⊢
                   refine pure_ (i := 1) (N := some 77) (v := ?_) (a' := ?_) #[false, true, false, false, false, false, false] rfl rfl (by kernel_rfl) (fun _ _ _ h => h) (Or.inl ⟨by rfl, ?_⟩) ?_ ?_
                   rotate_left
                   ·intro w'
                    go_simp
                    with_reducible rfl
                   rotate_left
                   ·simp only [Act.put, List.setIfInBounds_toArray, List.set_cons_zero, List.set_cons_succ, i64_w, i32_w]
                    rfl
                   refine pure_ (i := 2) (N := some 78) (v := ?_) (a' := ?_) #[false, true, true, false, false, false, false] rfl rfl (by kernel_rfl) (fun _ _ _ h => h) (Or.inl ⟨by rfl, ?_⟩) ?_ ?_
                   rotate_left
                   ·intro w'
                    go_simp
                    with_reducible rfl
                   rotate_left
                   ·simp only [Act.put, List.setIfInBounds_toArray, List.set_cons_zero, List.set_cons_succ, i64_w, i32_w]
                    rfl
                   refine pure_ (i := 3) (N := some 79) (v := ?_) (a' := ?_) #[false, true, true, true, false, false, false] rfl rfl (by kernel_rfl) (fun _ _ _ h => h) (Or.inl ⟨by rfl, ?_⟩) ?_ ?_
                   rotate_left
                   ·intro w'
                    go_simp
                    with_reducible rfl
                   rotate_left
                   ·simp only [Act.put, List.setIfInBounds_toArray, List.set_cons_zero, List.set_cons_succ, i64_w, i32_w]
                    rfl
                   refine take_ (i := 0) (N := some 76) (v := ?_) (a' := ?_) #[true, true, true, true, false, false, false] rfl rfl (by kernel_rfl) (fun _ _ _ h => h) (Or.inl ⟨by rfl, ?_⟩) hHeld ?_ ?_
                   rotate_left
                   ·rintro w' ⟨s0, s1⟩
                    go_simp
                    with_reducible rfl
                   rotate_left
                   ·simp only [Act.put, List.setIfInBounds_toArray, List.set_cons_zero, List.set_cons_succ, i64_w, i32_w]
                    rfl
                   refine one_ (i := 4) (N := some 80) #[true, true, true, true, true, false, false] rfl rfl (by kernel_rfl) (by decide) (fun K hK => ?_)
                   first | (refine goes_ Try.func77 (by kernel_rfl) rfl #[.slice (some ad107) l1.length c1, .int .i64 x12_2] (by rfl) rfl rfl sg ?_) | (refine goesV_ Try.func77 (by kernel_rfl) rfl #[.slice (some ad107) l1.length c1, .int .i64 x12_2] (by rfl) rfl rfl sg (by rfl) ?_)
                   with_reducible refine (shape_Sum_1.calls _ _ l1 x12_2 t124 t125 _ ?side1 ?side2 A39.out).mono ?_
                   (case side1 => exact cs (Kd.V_reads' HO_1.out).2.2)
                   (case side2 => exact (Kd.V_reads' HO_1.out).2.1)
                   rintro e w47 ⟨rfl, hb⟩
                   refine ⟨_, rfl, ?_⟩
                   replace HO_0 := Aside0.mk (Kd.V_below (vo HO_0) hb)
                   replace HO_1 := Aside0.mk (Kd.V_below (vo HO_1) hb)
                   replace HO_10 := Aside0.mk (Kd.R_below (ro HO_10) hb)
                   replace BK121 := kb BK121 hb
                   replace HB := Aside0.mk (below_step bh hb)
                   (try clear hb); (try clear hb2); (try clear hk); (try clear hi)
                   refine hK.out _ _ ⟨bc BK121 0, bc BK121 1⟩ (fun hHeld => ?_)
                   clear hK K
                   refine nm 80 ?_
                   refine one_ (i := 5) (N := some 81) #[true, true, true, true, true, true, false] rfl rfl (by kernel_rfl) (by decide) (fun K hK => ?_)
                   first | (refine goes_ Try.func78 (by kernel_rfl) rfl #[.agg #[.int .i64 x122000_31, .int .i64 x122001_31], .agg #[.int .i64 t124, .int .i64 t125]] (by rfl) rfl rfl sg ?_) | (refine goesV_ Try.func78 (by kernel_rfl) rfl #[.agg #[.int .i64 x122000_31, .int .i64 x122001_31], .agg #[.int .i64 t124, .int .i64 t125]] (by rfl) rfl rfl sg (by rfl) ?_)
                   with_reducible refine (shape_add.calls x122000_31 x122001_31 t124 t125 t126 t127 _ A40.out).mono ?_
                   rintro e w48 ⟨rfl, hb⟩
                   refine ⟨_, rfl, ?_⟩
                   replace HO_0 := Aside0.mk (Kd.V_below (vo HO_0) hb)
                   replace HO_1 := Aside0.mk (Kd.V_below (vo HO_1) hb)
                   replace HO_10 := Aside0.mk (Kd.R_below (ro HO_10) hb)
                   replace BK121 := kb BK121 hb
                   replace HB := Aside0.mk (below_step bh hb)
                   (try clear hb); (try clear hb2); (try clear hk); (try clear hi)
                   refine hK.out _ _ ⟨bc BK121 0, bc BK121 1⟩ (fun hHeld => ?_)
                   clear hK K
                   refine nm 81 ?_
                   refine last_ (i := 6) (N := none) #[true, true, true, true, true, true, true] rfl rfl (by kernel_rfl) (by decide) (fun K hK => ?_)
                   have hs49 : w48.cell? ⟨gb121, 0, none⟩ = some (.int .i64 x122000_31) := bc BK121 0
                   have hfs49 := blk_frozen BK121.out 0
                   have hs50 : w48.cell? ⟨gb121, 1, none⟩ = some (.int .i64 x122001_31) := bc BK121 1
                   have hfs50 := blk_frozen BK121.out 1
                   refine skip_ (w1 := ?_) (by rfl) rfl ?_ ?_
                   rotate_left
                   ·go_simp
                    rfl
                   refine hK.out _ _ ?_
                   clear hK K
                   refine done_ (by kernel_rfl) ?_
                   try go_wp2
                   have n0_ : Aside0 (Kd.V k29 29 ((w48.setCell ⟨gb121, 0, none⟩ (.int .i64 t126)).setCell ⟨gb121, 1, none⟩ (.int .i64 t127)) w.heap.size (fun k_ => ((P0_ k_ ∨ P1_ k_) ∨ w.heap.size ≤ k_) ∧ some k_ ≠ (u10 : Value).ownBlock ∧ k_ ≠ gb121) (.slice (some ad106) l0.length c0) l0) := ⟨by (with_reducible repeat (first | apply Kd.V_alloc | apply Kd.V_drewN | apply Kd.V_drew)); exact Kd.V_mono (Kd.V_far (p := ⟨gb121, 1, none⟩) (Kd.V_far (p := ⟨gb121, 0, none⟩) (Kd.V_mono HO_0.out (fun k_ hk => (⟨hk, hk.2.2⟩ : _ ∧ k_ ≠ gb121))) (fun _ hk => hk.2) (.int .i64 t126)) (fun _ hk => hk.2) (.int .i64 t127)) (fun _ hk => ⟨hk.1.1, ⟨hk.1.2.1, hk.1.2.2⟩⟩)⟩
                   have n1_ : Aside0 (Kd.V k29 29 ((w48.setCell ⟨gb121, 0, none⟩ (.int .i64 t126)).setCell ⟨gb121, 1, none⟩ (.int .i64 t127)) w.heap.size (fun k_ => ((P0_ k_ ∨ P1_ k_) ∨ w.heap.size ≤ k_) ∧ some k_ ≠ (u10 : Value).ownBlock ∧ k_ ≠ gb121) (.slice (some ad107) l1.length c1) l1) := ⟨by (with_reducible repeat (first | apply Kd.V_alloc | apply Kd.V_drewN | apply Kd.V_drew)); exact Kd.V_mono (Kd.V_far (p := ⟨gb121, 1, none⟩) (Kd.V_far (p := ⟨gb121, 0, none⟩) (Kd.V_mono HO_1.out (fun k_ hk => (⟨hk, hk.2.2⟩ : _ ∧ k_ ≠ gb121))) (fun _ hk => hk.2) (.int .i64 t126)) (fun _ hk => hk.2) (.int .i64 t127)) (fun _ hk => ⟨hk.1.1, ⟨hk.1.2.1, hk.1.2.2⟩⟩)⟩
                   have n2_ : Aside0 (Kd.R k29 29 ((w48.setCell ⟨gb121, 0, none⟩ (.int .i64 t126)).setCell ⟨gb121, 1, none⟩ (.int .i64 t127)) w.heap.size (fun k_ => (w.heap.size ≤ k_) ∧ k_ ≠ gb121) u10 x10_2) := ⟨by (with_reducible repeat (first | apply Kd.R_alloc | apply Kd.R_drewN | apply Kd.R_drew)); exact Kd.R_mono (Kd.R_far (p := ⟨gb121, 1, none⟩) (Kd.R_far (p := ⟨gb121, 0, none⟩) (Kd.R_mono HO_10.out (fun k_ hk => (⟨hk, hk.2⟩ : _ ∧ k_ ≠ gb121))) (fun _ hk => hk.2) (.int .i64 t126)) (fun _ hk => hk.2) (.int .i64 t127)) (fun _ hk => ⟨hk.1.1, hk.1.2⟩)⟩
                   have n3_ : Aside0 (((w48.setCell ⟨gb121, 0, none⟩ (.int .i64 t126)).setCell ⟨gb121, 1, none⟩ (.int .i64 t127)).heap[gb121]? = some (.cells #[.int .i64 t126, .int .i64 t127] 29 (0, 0))) := ⟨by (with_reducible repeat (first | refine blk_drewN ?_ _ | refine blk_drew ?_ | refine blk_alloc ?_ _)); refine blk_put (cs := #[.int .i64 t126, .int .i64 x122001_31]) ?_ 1 _ rfl; (with_reducible repeat (first | refine blk_drewN ?_ _ | refine blk_drew ?_ | refine blk_alloc ?_ _)); refine blk_put (cs := #[.int .i64 x122000_31, .int .i64 x122001_31]) ?_ 0 _ rfl; (with_reducible repeat (first | refine blk_drewN ?_ _ | refine blk_drew ?_ | refine blk_alloc ?_ _)); exact BK121.out⟩
                   have n4_ : Aside0 (Below w.heap.size w ((w48.setCell ⟨gb121, 0, none⟩ (.int .i64 t126)).setCell ⟨gb121, 1, none⟩ (.int .i64 t127))) := ⟨bh⟩
                   (try clear HO_0); (try clear HO_1); (try clear HO_10); (try clear BK121); (try clear HB)
                   generalize ((w48.setCell ⟨gb121, 0, none⟩ (.int .i64 t126)).setCell ⟨gb121, 1, none⟩ (.int .i64 t127)) = w51 at n0_ n1_ n2_ n3_ n4_ ⊢
                   have HO_0 := n0_
                   have HO_1 := n1_
                   have HO_10 := n2_
                   have BK121 := n3_
                   have HB := n4_
                   clear n0_ n1_ n2_ n3_ n4_
                   replace HO_0 := Aside0.mk (Kd.V_drew HO_0.out)
                   replace HO_1 := Aside0.mk (Kd.V_drew HO_1.out)
                   replace HO_10 := Aside0.mk (Kd.R_drew HO_10.out)
                   replace BK121 := Aside0.mk (blk_drew BK121.out)
                   replace HB := Aside0.mk (below_drew1 HB.out)
                   obtain ⟨Ao53, co53, eo53⟩ := Kd.R_slice HO_10.out
                   (first | subst eo53 | (injection eo53 with f1_ f2_ f3_; have f4_ := f1_.symm; have f5_ := f3_.symm; clear f1_ f2_ f3_; subst f4_; subst f5_))
                   have p128 : 0 ≤ ((ji41) : Int) := dt
                   have q128 : (ji41) < (x10_2.length : Int) := dt
                   obtain ⟨ad128, e128, hx128_0, hx128_1⟩ := at_T29 (Kd.R_reads' HO_10.out).2.2 (ji41) p128 q128
                   cases e128
                   replace p128 := eq_true p128
                   replace q128 := eq_true q128
                   refine start_ (n := 12) (S := fun w' => w'.cell? ⟨gb121, 0, none⟩ = some (.int .i64 t126) ∧ w'.cell? ⟨gb121, 1, none⟩ = some (.int .i64 t127) ∧ w'.cell? (ad128.add (((ji41)).toNat * 2)) = some (.int .i64 ((rd_T29 x10_2 (ji41)).f0)) ∧ w'.cell? ⟨(ad128.add (((ji41)).toNat * 2)).block, (ad128.add (((ji41)).toNat * 2)).off + 1, none⟩ = some (.int .i64 ((rd_T29 x10_2 (ji41)).f1))) (ds := [9, 10]) #[false, false, false, false, false, false, false, false, false, false, false, false] (by kernel_rfl) rfl rfl ⟨bc BK121 0, bc BK121 1, hx128_0, hx128_1⟩ (fun hHeld => ?_); refine with_tabW shape_Sum.tab24 shape_Sum.bits24 (fun HT_ HW_ => ?_)
                   generalize w51.drew = w52 at HO_0 HO_1 HO_10 BK121 HB hx128_0 hx128_1 hHeld ⊢
                   refine pu 0 84 HT_ ?_
                   refine pu 1 85 HT_ ?_
                   refine pu 2 86 HT_ ?_
                   refine pu 3 87 HT_ ?_
                   refine pu 4 88 HT_ ?_
                   refine pu 5 89 HT_ ?_
                   refine tk4 6 90 hHeld HT_ HW_ ?_
                   refine tk4 7 91 hHeld HT_ HW_ ?_
                   refine one_ (i := 8) (N := some 92) #[true, true, true, true, true, true, true, true, true, false, false, false] rfl rfl (on1 HT_) (by decide) (fun K hK => ?_)
                   first | (refine goes_ Try.func78 (by kernel_rfl) rfl #[.agg #[.int .i64 ((rd_T29 x10_2 (ji41)).f0), .int .i64 ((rd_T29 x10_2 (ji41)).f1)], .agg #[.int .i64 t126, .int .i64 t127]] (by rfl) rfl rfl (by (try simp only [List.map_toArray, List.map_cons, List.map_nil]); first | done | (simp only [hji41]; rfl) | rfl | (simp only [List.length_drop, List.length_take]; rfl)) ?_) | (refine goesV_ Try.func78 (by kernel_rfl) rfl #[.agg #[.int .i64 ((rd_T29 x10_2 (ji41)).f0), .int .i64 ((rd_T29 x10_2 (ji41)).f1)], .agg #[.int .i64 t126, .int .i64 t127]] (by rfl) rfl rfl (by (try simp only [List.map_toArray, List.map_cons, List.map_nil]); first | done | (simp only [hji41]; rfl) | rfl | (simp only [List.length_drop, List.length_take]; rfl)) (by rfl) ?_)
                   with_reducible refine (shape_add.calls ((rd_T29 x10_2 (ji41)).f0) ((rd_T29 x10_2 (ji41)).f1) t126 t127 t129 t130 _ A44.out).mono ?_
                   rintro e w54 ⟨rfl, hb⟩
                   have HS2_ := (hb.cell (World.block_lt_of_cell? _ _ (hHeld.2.2.1))).trans (hHeld.2.2.1)
                   have HS3_ := (hb.cell (World.block_lt_of_cell? _ _ (hHeld.2.2.2))).trans (hHeld.2.2.2)
                   refine ⟨_, rfl, ?_⟩
                   replace HO_0 := Aside0.mk (Kd.V_below (vo HO_0) hb)
                   replace HO_1 := Aside0.mk (Kd.V_below (vo HO_1) hb)
                   replace HO_10 := Aside0.mk (Kd.R_below (ro HO_10) hb)
                   replace BK121 := kb BK121 hb
                   replace HB := Aside0.mk (below_step bh hb)
                   (try clear hb); (try clear hb2); (try clear hk); (try clear hi)
                   refine hK.out _ _ ⟨bc BK121 0, bc BK121 1, HS2_, HS3_⟩ (fun hHeld => ?_)
                   clear hK K
                   refine nm 92 ?_
                   refine last_ (i := 9) (N := some 93) #[true, true, true, true, true, true, true, true, true, true, false, false] rfl rfl (on1 HT_) (by decide) (fun K hK => ?_)
                   refine value_ (w1 := ?_) (v := ?_) (by rfl) rfl ?_ ?_
                   rotate_left 2
                   ·go_simp
                    constructor
                    ·rfl
                    ·rfl
                   refine hK.out _ _ ?_
                   clear hK K
                   refine nm 93 ?_
                   refine last_ (i := 10) (N := some 94) #[true, true, true, true, true, true, true, true, true, true, true, false] rfl rfl (on1 HT_) (by decide) (fun K hK => ?_)
                   refine Kd.R_append_step k29 (w0 := w) w.heap.size (by rfl) (.tmp 84) (.tmp 93) 22 29 (.agg #[(.int .i64 0), (.int .i64 0)]) 16 rfl Try.underlying22 info29 rfl (by decide) (by omega) (.slice (some ad128) x10_2.length co53) x10_2 (⟨t129, t130⟩ : S29) [.int .i64 t129, .int .i64 t130] (fun k_ => (w.heap.size ≤ k_) ∧ k_ ≠ gb121) (fun _ => False) rfl rfl ?aP (fun _ hk => hk.elim) ?aF ?aO ?aB ?aS ?aL ?_
                   (case aP => exact k29_mkM _ _ _ (⟨t129, t130⟩ : S29))
                   (case aB => exact bh)
                   (case aF => exact (fun k_ hk => ⟨(Nat.le_trans (below_size bh) hk), Kd.freshB (g := gb121) (o := .cells #[.int .i64 t126, .int .i64 t127] 29 (0, 0)) (bk BK121) k_ hk⟩))
                   (case aO => exact (ro HO_10))
                   (case aS => exact (below_size bh))
                   (case aL => have := LMc45.out; omega)
                   intro v132 w55 ho hb hg hat
                   rw [← Ny131.out] at ho
                   have HO133 := Aside0.mk (ho)
                   replace HO_0 := Aside0.mk (Kd.V_afterv (ok := (fun k_ => ((P0_ k_ ∨ P1_ k_) ∨ w.heap.size ≤ k_) ∧ k_ ≠ gb121)) (by (with_reducible repeat (first | apply Kd.V_alloc | apply Kd.V_drewN | apply Kd.V_drew)); exact Kd.V_mono HO_0.out (fun _ hk => ⟨⟨hk.1, hk.2.2⟩, hk.2.1⟩)) hg hat)
                   replace HO_1 := Aside0.mk (Kd.V_afterv (ok := (fun k_ => ((P0_ k_ ∨ P1_ k_) ∨ w.heap.size ≤ k_) ∧ k_ ≠ gb121)) (by (with_reducible repeat (first | apply Kd.V_alloc | apply Kd.V_drewN | apply Kd.V_drew)); exact Kd.V_mono HO_1.out (fun _ hk => ⟨⟨hk.1, hk.2.2⟩, hk.2.1⟩)) hg hat)
                   replace BK121 := Aside0.mk (blk_grown (g := gb121) (o := .cells #[.int .i64 t126, .int .i64 t127] 29 (0, 0)) (bk BK121) hg (Kd.R_away HO_10.out (fun _ hk => hk.2)))
                   replace HB := Aside0.mk (hb)
                   clear HO_10
                   clear ho hb hg hat
                   refine hK.out _ _ ?_
                   clear hK K
                   refine nm 94 ?_
                   refine pu 11 10 HT_ ?_
                   refine done_ (done_of HT_.out (by kernel_rfl)) ?_
                   try go_wp2
                   go_roundg kj31
                   case measure => have := HK1.out; have := HK2.out; have := HJ19.out; have := HJ22.out; have := HJ31.out; omega
                   case rel => exact ⟨(y131), (x11_31), (wrap64 (x12_2 + 1)), sd, sd, H', ⟨by have := HK1.out; have := HK2.out; have := HJ19.out; have := HJ22.out; have := HJ31.out; omega⟩, ⟨by (with_reducible repeat (first | apply Kd.V_alloc | apply Kd.V_drewN | apply Kd.V_drew)); exact Kd.V_mono HO_0.out (fun _ hk => ⟨hk.1.1, hk.2⟩)⟩, ⟨by (with_reducible repeat (first | apply Kd.V_alloc | apply Kd.V_drewN | apply Kd.V_drew)); exact Kd.V_mono HO_1.out (fun _ hk => ⟨hk.1.1, hk.2⟩)⟩, ⟨by (with_reducible repeat (first | apply Kd.R_alloc | apply Kd.R_drewN | apply Kd.R_drew)); exact Kd.R_mono HO133.out (fun _ hk => hk.1)⟩, ⟨bh⟩⟩
                  ·rw [if_neg c45] at H
                   exact absurd H (by simp)
                 ·rw [if_neg c43] at H
                  exact absurd H (by simp)
                ·rw [if_neg c42] at H
                 exact absurd H (by simp)
               ·rw [if_neg c38] at H
                have c38b0 := decide_eq_false c38
                clear c38
                obtain ⟨ji56, hji56⟩ : ∃ j_ : Int, (wrap64 ((x10_2.length : Int) - 1)) = j_ := ⟨_, rfl⟩
                replace H : (if 0 ≤ (ji56) then (if (ji56) < (x10_2.length : Int) then ((shape_add.f ((rd_T29 x10_2 (ji56)).f0) ((rd_T29 x10_2 (ji56)).f1) x122000_31 x122001_31).bind fun bt135 => (if x10_2.length < 8796093022208 then (shape_Sum.l1 kj31 l0 l1 (x10_2 ++ [(⟨bt135.1, bt135.2⟩ : S29)]) x11_31 x12_2) else (none))) else (none)) else (none)) = some (r1, r2) := by first | (rw [hji56] at H; exact H) | (simp only [hji56] at H ⊢; exact H)
                have hji56w : (IntKind.i64.wrap ((x10_2.length : Int) - 1)) = ji56 := (i64_w _).trans hji56
                by_cases c57 : 0 ≤ (ji56)
                ·rw [if_pos c57] at H
                 have c57b0 := decide_eq_true c57
                 clear c57
                 by_cases c58 : (ji56) < (x10_2.length : Int)
                 ·rw [if_pos c58] at H
                  have c58b0 := decide_eq_true c58
                  clear c58
                  replace H := Option.bind_eq_some_iff.mp H
                  obtain ⟨⟨t135, t136⟩, A590, H⟩ := H
                  replace H : (if x10_2.length < 8796093022208 then (shape_Sum.l1 kj31 l0 l1 (x10_2 ++ [(⟨t135, t136⟩ : S29)]) x11_31 x12_2) else (none)) = some (r1, r2) := H
                  have A59 := Aside0.mk A590
                  clear A590
                  by_cases c60 : x10_2.length < 8796093022208
                  ·rw [if_pos c60] at H
                   have LMc60 := Aside0.mk c60
                   clear c60
                   obtain ⟨y137, hy137⟩ : ∃ y_ : List (S29), y_ = (x10_2 ++ [(⟨t135, t136⟩ : S29)]) := ⟨_, rfl⟩
                   replace H : (shape_Sum.l1 kj31 l0 l1 y137 x11_31 x12_2) = some (r1, r2) := by first | (rw [hy137]; with_reducible exact H) | (have H2_ := (Option.bind_some _ _).symm.trans H; rw [hy137]; with_reducible exact H2_) | (have H2_ := (Option.bind_some _ _).symm.trans H; with_reducible exact H2_) | with_reducible exact H | (rw [hy137]; exact H) | exact H
                   have Ny137 := Aside0.mk hy137
                   clear hy137
                   have H' := Aside0.mk H
                   clear H
                   try go_wp2
                   replace HO_0 := Aside0.mk (Kd.V_drew HO_0.out)
                   replace HO_1 := Aside0.mk (Kd.V_drew HO_1.out)
                   replace HO_10 := Aside0.mk (Kd.R_drew HO_10.out)
                   replace BK121 := Aside0.mk (blk_drew BK121.out)
                   replace HB := Aside0.mk (below_drew1 HB.out)
                   obtain ⟨Ao62, co62, eo62⟩ := Kd.R_slice HO_10.out
                   (first | subst eo62 | (injection eo62 with f1_ f2_ f3_; have f4_ := f1_.symm; have f5_ := f3_.symm; clear f1_ f2_ f3_; subst f4_; subst f5_))
                   have p134 : 0 ≤ ((ji56) : Int) := dt
                   have q134 : (ji56) < (x10_2.length : Int) := dt
                   obtain ⟨ad134, e134, hx134_0, hx134_1⟩ := at_T29 (Kd.R_reads' HO_10.out).2.2 (ji56) p134 q134
                   cases e134
                   replace p134 := eq_true p134
                   replace q134 := eq_true q134
                   refine start_ (n := 12) (S := fun w' => w'.cell? ⟨gb121, 0, none⟩ = some (.int .i64 x122000_31) ∧ w'.cell? ⟨gb121, 1, none⟩ = some (.int .i64 x122001_31) ∧ w'.cell? (ad134.add (((ji56)).toNat * 2)) = some (.int .i64 ((rd_T29 x10_2 (ji56)).f0)) ∧ w'.cell? ⟨(ad134.add (((ji56)).toNat * 2)).block, (ad134.add (((ji56)).toNat * 2)).off + 1, none⟩ = some (.int .i64 ((rd_T29 x10_2 (ji56)).f1))) (ds := [9, 10]) #[false, false, false, false, false, false, false, false, false, false, false, false] (by kernel_rfl) rfl rfl ⟨bc BK121 0, bc BK121 1, hx134_0, hx134_1⟩ (fun hHeld => ?_); refine with_tabW shape_Sum.tab24 shape_Sum.bits24 (fun HT_ HW_ => ?_)
                   generalize wc.drew = w61 at HO_0 HO_1 HO_10 BK121 HB hx134_0 hx134_1 hHeld ⊢
                   refine pu 0 84 HT_ ?_
                   refine pu 1 85 HT_ ?_
                   refine pu 2 86 HT_ ?_
                   refine pu 3 87 HT_ ?_
                   refine pu 4 88 HT_ ?_
                   refine pu 5 89 HT_ ?_
                   refine tk4 6 90 hHeld HT_ HW_ ?_
                   refine tk4 7 91 hHeld HT_ HW_ ?_
                   refine one_ (i := 8) (N := some 92) #[true, true, true, true, true, true, true, true, true, false, false, false] rfl rfl (on1 HT_) (by decide) (fun K hK => ?_)
                   first | (refine goes_ Try.func78 (by kernel_rfl) rfl #[.agg #[.int .i64 ((rd_T29 x10_2 (ji56)).f0), .int .i64 ((rd_T29 x10_2 (ji56)).f1)], .agg #[.int .i64 x122000_31, .int .i64 x122001_31]] (by rfl) rfl rfl (by (try simp only [List.map_toArray, List.map_cons, List.map_nil]); first | done | (simp only [hji56]; rfl) | rfl | (simp only [List.length_drop, List.length_take]; rfl)) ?_) | (refine goesV_ Try.func78 (by kernel_rfl) rfl #[.agg #[.int .i64 ((rd_T29 x10_2 (ji56)).f0), .int .i64 ((rd_T29 x10_2 (ji56)).f1)], .agg #[.int .i64 x122000_31, .int .i64 x122001_31]] (by rfl) rfl rfl (by (try simp only [List.map_toArray, List.map_cons, List.map_nil]); first | done | (simp only [hji56]; rfl) | rfl | (simp only [List.length_drop, List.length_take]; rfl)) (by rfl) ?_)
                   with_reducible refine (shape_add.calls ((rd_T29 x10_2 (ji56)).f0) ((rd_T29 x10_2 (ji56)).f1) x122000_31 x122001_31 t135 t136 _ A59.out).mono ?_
                   rintro e w63 ⟨rfl, hb⟩
                   have HS2_ := (hb.cell (World.block_lt_of_cell? _ _ (hHeld.2.2.1))).trans (hHeld.2.2.1)
                   have HS3_ := (hb.cell (World.block_lt_of_cell? _ _ (hHeld.2.2.2))).trans (hHeld.2.2.2)
                   refine ⟨_, rfl, ?_⟩
                   replace HO_0 := Aside0.mk (Kd.V_below (vo HO_0) hb)
                   replace HO_1 := Aside0.mk (Kd.V_below (vo HO_1) hb)
                   replace HO_10 := Aside0.mk (Kd.R_below (ro HO_10) hb)
                   replace BK121 := kb BK121 hb
                   replace HB := Aside0.mk (below_step bh hb)
                   (try clear hb); (try clear hb2); (try clear hk); (try clear hi)
                   refine hK.out _ _ ⟨bc BK121 0, bc BK121 1, HS2_, HS3_⟩ (fun hHeld => ?_)
                   clear hK K
                   refine nm 92 ?_
                   refine last_ (i := 9) (N := some 93) #[true, true, true, true, true, true, true, true, true, true, false, false] rfl rfl (on1 HT_) (by decide) (fun K hK => ?_)
                   refine value_ (w1 := ?_) (v := ?_) (by rfl) rfl ?_ ?_
                   rotate_left 2
                   ·go_simp
                    constructor
                    ·rfl
                    ·rfl
                   refine hK.out _ _ ?_
                   clear hK K
                   refine nm 93 ?_
                   refine last_ (i := 10) (N := some 94) #[true, true, true, true, true, true, true, true, true, true, true, false] rfl rfl (on1 HT_) (by decide) (fun K hK => ?_)
                   refine Kd.R_append_step k29 (w0 := w) w.heap.size (by rfl) (.tmp 84) (.tmp 93) 22 29 (.agg #[(.int .i64 0), (.int .i64 0)]) 16 rfl Try.underlying22 info29 rfl (by decide) (by omega) (.slice (some ad134) x10_2.length co62) x10_2 (⟨t135, t136⟩ : S29) [.int .i64 t135, .int .i64 t136] (fun k_ => (w.heap.size ≤ k_) ∧ k_ ≠ gb121) (fun _ => False) rfl rfl ?aP (fun _ hk => hk.elim) ?aF ?aO ?aB ?aS ?aL ?_
                   (case aP => exact k29_mkM _ _ _ (⟨t135, t136⟩ : S29))
                   (case aB => exact bh)
                   (case aF => exact (fun k_ hk => ⟨(Nat.le_trans (below_size bh) hk), Kd.freshB (g := gb121) (o := .cells #[.int .i64 x122000_31, .int .i64 x122001_31] 29 (0, 0)) (bk BK121) k_ hk⟩))
                   (case aO => exact (ro HO_10))
                   (case aS => exact (below_size bh))
                   (case aL => have := LMc60.out; omega)
                   intro v138 w64 ho hb hg hat
                   rw [← Ny137.out] at ho
                   have HO139 := Aside0.mk (ho)
                   replace HO_0 := Aside0.mk (Kd.V_afterv (ok := (fun k_ => ((P0_ k_ ∨ P1_ k_) ∨ w.heap.size ≤ k_) ∧ k_ ≠ gb121)) (by (with_reducible repeat (first | apply Kd.V_alloc | apply Kd.V_drewN | apply Kd.V_drew)); exact Kd.V_mono HO_0.out (fun _ hk => ⟨⟨hk.1, hk.2.2⟩, hk.2.1⟩)) hg hat)
                   replace HO_1 := Aside0.mk (Kd.V_afterv (ok := (fun k_ => ((P0_ k_ ∨ P1_ k_) ∨ w.heap.size ≤ k_) ∧ k_ ≠ gb121)) (by (with_reducible repeat (first | apply Kd.V_alloc | apply Kd.V_drewN | apply Kd.V_drew)); exact Kd.V_mono HO_1.out (fun _ hk => ⟨⟨hk.1, hk.2.2⟩, hk.2.1⟩)) hg hat)
                   replace BK121 := Aside0.mk (blk_grown (g := gb121) (o := .cells #[.int .i64 x122000_31, .int .i64 x122001_31] 29 (0, 0)) (bk BK121) hg (Kd.R_away HO_10.out (fun _ hk => hk.2)))
                   replace HB := Aside0.mk (hb)
                   clear HO_10
                   clear ho hb hg hat
                   refine hK.out _ _ ?_
                   clear hK K
                   refine nm 94 ?_
                   refine pu 11 10 HT_ ?_
                   refine done_ (done_of HT_.out (by kernel_rfl)) ?_
                   try go_wp2
                   go_roundg kj31
                   case measure => have := HK1.out; have := HK2.out; have := HJ19.out; have := HJ22.out; have := HJ31.out; omega
                   case rel => exact ⟨(y137), (x11_31), (x12_2), sd, sd, H', ⟨by have := HK1.out; have := HK2.out; have := HJ19.out; have := HJ22.out; have := HJ31.out; omega⟩, ⟨by (with_reducible repeat (first | apply Kd.V_alloc | apply Kd.V_drewN | apply Kd.V_drew)); exact Kd.V_mono HO_0.out (fun _ hk => ⟨hk.1.1, hk.2⟩)⟩, ⟨by (with_reducible repeat (first | apply Kd.V_alloc | apply Kd.V_drewN | apply Kd.V_drew)); exact Kd.V_mono HO_1.out (fun _ hk => ⟨hk.1.1, hk.2⟩)⟩, ⟨by (with_reducible repeat (first | apply Kd.R_alloc | apply Kd.R_drewN | apply Kd.R_drew)); exact Kd.R_mono HO139.out (fun _ hk => hk.1)⟩, ⟨bh⟩⟩
                  ·rw [if_neg c60] at H
                   exact absurd H (by simp)
                 ·rw [if_neg c58] at H
                  exact absurd H (by simp)
                ·rw [if_neg c57] at H
                 exact absurd H (by simp)
          ·replace c22 := Bool.eq_false_iff.mpr c22
           subst c22
           rw [if_neg (show ¬ (false = true) by decide)] at H
           obtain ⟨ji65, hji65⟩ : ∃ j_ : Int, (wrap64 ((x10_2.length : Int) - 1)) = j_ := ⟨_, rfl⟩
           replace H : (if 0 ≤ (ji65) then (if (ji65) ≤ (x10_2.length : Int) then (some ((x10_2.take ((ji65) : Int).toNat), 0)) else (none)) else (none)) = some (r1, r2) := by first | (rw [hji65] at H; exact H) | (simp only [hji65] at H ⊢; exact H)
           have hji65w : (IntKind.i64.wrap ((x10_2.length : Int) - 1)) = ji65 := (i64_w _).trans hji65
           by_cases c66 : 0 ≤ (ji65)
           ·rw [if_pos c66] at H
            have c66b0 := eq_true c66
            have c66b1 := decide_eq_true c66
            clear c66
            by_cases c67 : (ji65) ≤ (x10_2.length : Int)
            ·rw [if_pos c67] at H
             have c67b0 := eq_true c67
             have c67b1 := decide_eq_true c67
             clear c67
             obtain ⟨y113, hy113⟩ : ∃ y_ : List (S29), y_ = (x10_2.take ((ji65) : Int).toNat) := ⟨_, rfl⟩
             replace H : (some (y113, 0)) = some (r1, r2) := by first | (rw [hy113]; with_reducible exact H) | (have H2_ := (Option.bind_some _ _).symm.trans H; rw [hy113]; with_reducible exact H2_) | (have H2_ := (Option.bind_some _ _).symm.trans H; with_reducible exact H2_) | with_reducible exact H | (rw [hy113]; exact H) | exact H
             have Ny113 := Aside0.mk hy113
             clear hy113
             simp only [Option.some.injEq, Prod.mk.injEq] at H
             obtain ⟨rfl, rfl⟩ := H
             obtain ⟨Ao68, co68, eo68⟩ := Kd.R_slice HO_10.out
             subst eo68
             have q69 : ((ji65) : Int) ≤ ((x10_2.length : Int) : Int) := dt
             obtain ⟨i069, hi069, _, hsz69, _⟩ := info_parts info29
             have hcut69 := cut_to (P := Try.prog) 22 29 .i64 Try.underlying22 hi069 Ao68 x10_2.length co68 (ji65) (dt) q69 (Kd.R_reads' HO_10.out).2.1
             have hr69 := Kd.R_take (m := ((ji65) : Int).toNat) HO_10.out (by omega)
             have hy69 : y113.length = ((ji65) : Int).toNat := (by rw [Ny113.out, List.length_take]; omega)
             rw [← Ny113.out] at hr69
             rw [← hy69] at hr69 hcut69
             clear hy69 hi069 hsz69 HO_10
             have HO115 := Aside0.mk hr69
             clear hr69
             replace q69 := eq_true q69
             go_wp2
             go_ret2
             exact ⟨_, by first | rfl | (simp [errW_none, errW_some] <;> rfl) | (simp only [← hji65]; first | rfl | (simp [errW_none, errW_some] <;> rfl)) | (simp [*, errW_none, errW_some] <;> rfl), by (with_reducible repeat (first | apply Kd.R_alloc | apply Kd.R_drewN | apply Kd.R_drew)); exact HO115.out, bh⟩
            ·rw [if_neg c67] at H
             exact absurd H (by simp)
           ·rw [if_neg c66] at H
            exact absurd H (by simp)
     ·rw [if_neg c14] at H
      exact absurd H (by simp)
    ·rw [if_neg c13] at H
     exact absurd H (by simp)
/-! ### cracknellaw04_ShapeBrunn: function 9 -/
def cracknellaw04_ShapeBrunn.f (k : Nat) (l0 : List (S29)) (l1 : List (S29)) : Option (Bool) := (cracknellaw04_hull.f k l0 1000).bind fun t101 => ((cracknellaw04_hull.f k l1 1000).bind fun t104 => ((shape_Sum.f k t101 t104).bind fun bt107 => ((shape_Area2.f k t101).bind fun bt111 => ((shape_Area2.f k t104).bind fun bt113 => ((shape_Area2.f k bt107.1).bind fun bt115 => (if bt107.2 = 0 then (if bt111.2 = 0 then (if bt113.2 = 0 then (if bt115.2 = 0 then (if bt115.1 ≥ (wrap64 (bt111.1 + bt113.1)) then (if (wrap64 ((wrap64 ((wrap64 (bt115.1 - bt111.1)) - bt113.1)) * (wrap64 ((wrap64 (bt115.1 - bt111.1)) - bt113.1)))) ≥ (wrap64 ((wrap64 (4 * bt111.1)) * bt113.1)) then ((cracknellaw04_lives.f k).bind fun t117 => (some t117)) else (some false)) else (some false)) else (some false)) else (some false)) else (some false)) else (some false)))))))
set_option maxHeartbeats 8000000 in
set_option maxRecDepth 100000 in
theorem cracknellaw04_ShapeBrunn.calls (k : Nat) (A0 : Option Addr) (c0 : Nat) (l0 : List (S29)) (A1 : Option Addr) (c1 : Nat) (l1 : List (S29)) (r : Bool) (w : World) (hr0 : Kd.C k29 w A0 l0.length l0) (hc0 : l0.length ≤ c0) (hr1 : Kd.C k29 w A1 l1.length l1) (hc1 : l1.length ≤ c1) (h : cracknellaw04_ShapeBrunn.f k l0 l1 = some r) (hr : r = true) :
  Calls Try.prog 9 #[.slice A0 l0.length c0, .slice A1 l1.length c1] w fun e w' => e = .returned (.bool r) ∧ Below w.heap.size w w' := by
 have HR0 := Aside0.mk hr0
 have HC0 := Aside0.mk hc0
 clear hr0 hc0
 have HR1 := Aside0.mk hr1
 have HC1 := Aside0.mk hc1
 clear hr1 hc1
 have HB := Aside0.mk (Below.refl w.heap.size w)
 have H : ((cracknellaw04_hull.f k l0 1000).bind fun t101 => ((cracknellaw04_hull.f k l1 1000).bind fun t104 => ((shape_Sum.f k t101 t104).bind fun bt107 => ((shape_Area2.f k t101).bind fun bt111 => ((shape_Area2.f k t104).bind fun bt113 => ((shape_Area2.f k bt107.1).bind fun bt115 => (if bt107.2 = 0 then (if bt111.2 = 0 then (if bt113.2 = 0 then (if bt115.2 = 0 then (if bt115.1 ≥ (wrap64 (bt111.1 + bt113.1)) then (if (wrap64 ((wrap64 ((wrap64 (bt115.1 - bt111.1)) - bt113.1)) * (wrap64 ((wrap64 (bt115.1 - bt111.1)) - bt113.1)))) ≥ (wrap64 ((wrap64 (4 * bt111.1)) * bt113.1)) then ((cracknellaw04_lives.f k).bind fun t117 => (some t117)) else (some false)) else (some false)) else (some false)) else (some false)) else (some false)) else (some false)))))))) = some r := h
 clear h
 replace H := Option.bind_eq_some_iff.mp H
 obtain ⟨t101, A30, H⟩ := H
 try dsimp only at H
 have A3 := Aside0.mk A30
 clear A30
 replace H := Option.bind_eq_some_iff.mp H
 obtain ⟨t104, A40, H⟩ := H
 try dsimp only at H
 have A4 := Aside0.mk A40
 clear A40
 replace H := Option.bind_eq_some_iff.mp H
 obtain ⟨⟨t107, t110⟩, A50, H⟩ := H
 try dsimp only at H
 have A5 := Aside0.mk A50
 clear A50
 replace H := Option.bind_eq_some_iff.mp H
 obtain ⟨⟨t111, t112⟩, A60, H⟩ := H
 try dsimp only at H
 have A6 := Aside0.mk A60
 clear A60
 replace H := Option.bind_eq_some_iff.mp H
 obtain ⟨⟨t113, t114⟩, A70, H⟩ := H
 try dsimp only at H
 have A7 := Aside0.mk A70
 clear A70
 replace H := Option.bind_eq_some_iff.mp H
 obtain ⟨⟨t115, t116⟩, A80, H⟩ := H
 try dsimp only at H
 have A8 := Aside0.mk A80
 clear A80
 by_cases c9 : t110 = 0
 ·rw [if_pos c9] at H
  have c9b0 : (t110 == 0) = true := beq_iff_eq.mpr c9
  have c9b1 : (t110 != 0) = false := bne_eq_false_iff_eq.mpr c9
  clear c9
  by_cases c10 : t112 = 0
  ·rw [if_pos c10] at H
   have c10b0 : (t112 == 0) = true := beq_iff_eq.mpr c10
   have c10b1 : (t112 != 0) = false := bne_eq_false_iff_eq.mpr c10
   clear c10
   by_cases c11 : t114 = 0
   ·rw [if_pos c11] at H
    have c11b0 : (t114 == 0) = true := beq_iff_eq.mpr c11
    have c11b1 : (t114 != 0) = false := bne_eq_false_iff_eq.mpr c11
    clear c11
    by_cases c12 : t116 = 0
    ·rw [if_pos c12] at H
     have c12b0 : (t116 == 0) = true := beq_iff_eq.mpr c12
     have c12b1 : (t116 != 0) = false := bne_eq_false_iff_eq.mpr c12
     clear c12
     by_cases c13 : t115 ≥ (wrap64 (t111 + t113))
     ·rw [if_pos c13] at H
      have c13b0 := decide_eq_true c13
      clear c13
      by_cases c14 : (wrap64 ((wrap64 ((wrap64 (t115 - t111)) - t113)) * (wrap64 ((wrap64 (t115 - t111)) - t113)))) ≥ (wrap64 ((wrap64 (4 * t111)) * t113))
      ·rw [if_pos c14] at H
       have c14b0 := decide_eq_true c14
       clear c14
       replace H := Option.bind_eq_some_iff.mp H
       obtain ⟨t117, A150, H⟩ := H
       try dsimp only at H
       have A15 := Aside0.mk A150
       clear A150
       obtain rfl := Option.some.inj H
       go_enter Try.func9, Try.ntmps9
       go_wp2_with (first | ((with_reducible refine gc 23 rfl ?_); refine goesL_ (some 16) rfl rfl Try.func23 (by kernel_rfl) rfl #[.slice A0 l0.length c0, .int .i64 1000] rfl sg ?_; (with_reducible refine (cracknellaw04_hull.calls k _ _ l0 1000 t101 _ ?side1 ?side2 A3.out).mono ?_); (case side1 => repeat (first | exact HR0.out | (with_reducible refine Kd.C_alloc ?_ _) | (with_reducible refine Kd.C_drewN ?_ _) | (with_reducible refine Kd.C_drew ?_))); (case side2 => exact HC0.out); rintro e w16 ⟨v102, rfl, ho0, hb⟩; refine ⟨_, rfl, ?_⟩; have HO103 := Aside0.mk (Kd.R_lower ho0 (below_size bh)); replace HB := Aside0.mk (below_step bh hb); (try clear hb); (try clear hb2); (try clear hk); (try clear hi); (try clear ho0)) | ((with_reducible refine gc 23 rfl ?_); refine goesL_ (some 18) rfl rfl Try.func23 (by kernel_rfl) rfl #[.slice A1 l1.length c1, .int .i64 1000] rfl sg ?_; (with_reducible refine (cracknellaw04_hull.calls k _ _ l1 1000 t104 _ ?side1 ?side2 A4.out).mono ?_); (case side1 => exact cs (Kd.C_below HR1.out HB.out)); (case side2 => exact HC1.out); rintro e w17 ⟨v105, rfl, ho0, hb⟩; refine ⟨_, rfl, ?_⟩; have HO106 := Aside0.mk (Kd.R_lower (Kd.R_new' ho0 (Kd.R_lt (ro HO103))) (below_size bh)); replace HO103 := Aside0.mk (Kd.R_elder' (ro HO103) (Kd.R_base ho0) hb); replace HB := Aside0.mk (below_step bh hb); (try clear hb); (try clear hb2); (try clear hk); (try clear hi); (try clear ho0); obtain ⟨Ao18, co18, eo18⟩ := Kd.R_slice HO103.out; subst eo18; obtain ⟨Ao19, co19, eo19⟩ := Kd.R_slice HO106.out; subst eo19) | ((with_reducible refine gc 40 rfl ?_); refine goesL_ (some 22) rfl rfl Try.func40 (by kernel_rfl) rfl #[.slice Ao18 t101.length co18, .slice Ao19 t104.length co19] rfl sg ?_; (with_reducible refine (shape_Sum.calls k (fun k_ => some k_ = (.slice Ao18 t101.length co18 : Value).ownBlock) _ _ t101 (fun k_ => some k_ = (.slice Ao19 t104.length co19 : Value).ownBlock) _ _ t104 t107 t110 _ ?side1 ?side2 A5.out).mono ?_); (case side1 => exact Kd.R_V (Kd.R_tight rfl (HO103.out))); (case side2 => exact Kd.R_V (Kd.R_tight rfl (HO106.out))); rintro e w20 ⟨v108, rfl, ho0, hb⟩; refine ⟨_, rfl, ?_⟩; have HO109 := Aside0.mk (Kd.R_lower (Kd.R_new' (Kd.R_new' (Kd.R_mono (ok' := fun k_ => True) ho0 (fun _ hk_ => trivial)) (Kd.R_lt (ro HO103))) (Kd.R_lt (ro HO106))) (below_size bh)); replace HO103 := Aside0.mk (Kd.R_elder' (ro HO103) (Kd.R_base ho0) hb); replace HO106 := Aside0.mk (Kd.R_elder' (ro HO106) (Kd.R_base ho0) hb); replace HB := Aside0.mk (below_step bh hb); (try clear hb); (try clear hb2); (try clear hk); (try clear hi); (try clear ho0)) | ((with_reducible refine gc 24 rfl ?_); refine goesL_ (some 27) rfl rfl Try.func24 (by kernel_rfl) rfl #[.slice Ao18 t101.length co18] rfl sg ?_; (with_reducible refine (shape_Area2.calls k _ _ t101 t111 t112 _ ?side1 ?side2 A6.out).mono ?_); (case side1 => exact cs (Kd.R_reads' HO103.out).2.2); (case side2 => exact (Kd.R_reads' HO103.out).2.1); rintro e w21 ⟨rfl, hb⟩; refine ⟨_, rfl, ?_⟩; replace HO103 := Aside0.mk (Kd.R_below (ro HO103) hb); replace HO106 := Aside0.mk (Kd.R_below (ro HO106) hb); replace HO109 := Aside0.mk (Kd.R_below (ro HO109) hb); replace HB := Aside0.mk (below_step bh hb); (try clear hb); (try clear hb2); (try clear hk); (try clear hi)) | ((with_reducible refine gc 24 rfl ?_); refine goesL_ (some 32) rfl rfl Try.func24 (by kernel_rfl) rfl #[.slice Ao19 t104.length co19] rfl sg ?_; (with_reducible refine (shape_Area2.calls k _ _ t104 t113 t114 _ ?side1 ?side2 A7.out).mono ?_); (case side1 => exact cs (Kd.R_reads' HO106.out).2.2); (case side2 => exact (Kd.R_reads' HO106.out).2.1); rintro e w22 ⟨rfl, hb⟩; refine ⟨_, rfl, ?_⟩; replace HO103 := Aside0.mk (Kd.R_below (ro HO103) hb); replace HO106 := Aside0.mk (Kd.R_below (ro HO106) hb); replace HO109 := Aside0.mk (Kd.R_below (ro HO109) hb); replace HB := Aside0.mk (below_step bh hb); (try clear hb); (try clear hb2); (try clear hk); (try clear hi); obtain ⟨Ao23, co23, eo23⟩ := Kd.R_slice HO109.out; subst eo23) | ((with_reducible refine gc 24 rfl ?_); refine goesL_ (some 37) rfl rfl Try.func24 (by kernel_rfl) rfl #[.slice Ao23 t107.length co23] rfl sg ?_; (with_reducible refine (shape_Area2.calls k _ _ t107 t115 t116 _ ?side1 ?side2 A8.out).mono ?_); (case side1 => exact cs (Kd.R_reads' HO109.out).2.2); (case side2 => exact (Kd.R_reads' HO109.out).2.1); rintro e w24 ⟨rfl, hb⟩; refine ⟨_, rfl, ?_⟩; replace HO103 := Aside0.mk (Kd.R_below (ro HO103) hb); replace HO106 := Aside0.mk (Kd.R_below (ro HO106) hb); replace HO109 := Aside0.mk (Kd.R_below (ro HO109) hb); replace HB := Aside0.mk (below_step bh hb); (try clear hb); (try clear hb2); (try clear hk); (try clear hi)) | (go_at_call 18; (with_reducible refine (cracknellaw04_lives.calls k  t117 _ A15.out hr).mono ?_); rintro e w25 ⟨rfl, hb⟩; replace HO103 := Aside0.mk (Kd.R_below (ro HO103) hb); replace HO106 := Aside0.mk (Kd.R_below (ro HO106) hb); replace HO109 := Aside0.mk (Kd.R_below (ro HO109) hb); replace HB := Aside0.mk (below_step bh hb); (try clear hb); (try clear hb2); (try clear hk); (try clear hi)))
       go_ret
       exact ⟨by exact er, bh⟩
      ·rw [if_neg c14] at H
       have c14b0 := decide_eq_false c14
       clear c14
       obtain rfl := Option.some.inj H
       cases hr
     ·rw [if_neg c13] at H
      have c13b0 := decide_eq_false c13
      clear c13
      obtain rfl := Option.some.inj H
      cases hr
    ·rw [if_neg c12] at H
     have c12b0 : (t116 == 0) = false := beq_eq_false_iff_ne.mpr c12
     have c12b1 : (t116 != 0) = true := bne_iff_ne.mpr c12
     obtain rfl := Option.some.inj H
     cases hr
   ·rw [if_neg c11] at H
    have c11b0 : (t114 == 0) = false := beq_eq_false_iff_ne.mpr c11
    have c11b1 : (t114 != 0) = true := bne_iff_ne.mpr c11
    obtain rfl := Option.some.inj H
    cases hr
  ·rw [if_neg c10] at H
   have c10b0 : (t112 == 0) = false := beq_eq_false_iff_ne.mpr c10
   have c10b1 : (t112 != 0) = true := bne_iff_ne.mpr c10
   obtain rfl := Option.some.inj H
   cases hr
 ·rw [if_neg c9] at H
  have c9b0 : (t110 == 0) = false := beq_eq_false_iff_ne.mpr c9
  have c9b1 : (t110 != 0) = true := bne_iff_ne.mpr c9
  obtain rfl := Option.some.inj H
  cases hr
end Go.Proofs.Ytoffmpkgickfhaa.PG
end
section
namespace Go.Proofs.Ytoffmpkgickfhaa.M
open Go.Proofs.Ytoffmpkgickfhaa.PG
abbrev Pt := S29
instance decS29 : DecidableEq S29 := fun a b => if h : a.f0 = b.f0 ∧ a.f1 = b.f1 then isTrue (by cases a; cases b; simp_all) else isFalse (by intro e; exact h (by rw [e]; exact ⟨rfl, rfl⟩))
def cr (a b c : Pt) : Int := (b.f0-a.f0)*(c.f1-a.f1) - (c.f0-a.f0)*(b.f1-a.f1)
def btw (a b p : Pt) : Prop := min a.f0 b.f0 ≤ p.f0 ∧ p.f0 ≤ max a.f0 b.f0 ∧ min a.f1 b.f1 ≤ p.f1 ∧ p.f1 ≤ max a.f1 b.f1
theorem pt_ext {a b : Pt} (h0 : a.f0 = b.f0) (h1 : a.f1 = b.f1) : a = b := by
 cases a; cases b; simp_all
theorem cr_swap (a b c : Pt) : cr a c b = -(cr a b c) := by unfold cr; grind
theorem cr_rot (a b c : Pt) : cr b c a = cr a b c := by unfold cr; grind
theorem cr_self1 (a b : Pt) : cr a b a = 0 := by unfold cr; grind
theorem cr_self2 (a b : Pt) : cr a b b = 0 := by unfold cr; grind
def HE (S : List Pt) (a b : Pt) : Prop := a ≠ b ∧ a ∈ S ∧ b ∈ S ∧ ∀ p ∈ S, 0 ≤ cr a b p ∧ (cr a b p = 0 → btw a b p)
theorem btw_eq {a b c : Pt} (h1 : btw a b c) (h2 : btw a c b) : b = c := by
 unfold btw at h1 h2
 apply pt_ext <;> omega
theorem btw_eq' {a b c : Pt} (h1 : btw a c b) (h2 : btw b c a) : a = b := by
 unfold btw at h1 h2
 apply pt_ext <;> omega
theorem he_succ {S : List Pt} {a b c : Pt} (h1 : HE S a b) (h2 : HE S a c) : b = c := by
 obtain ⟨_, _, hb, hB⟩ := h1
 obtain ⟨_, _, hc, hC⟩ := h2
 have h3 := hB c hc
 have h4 := hC b hb
 have h5 := cr_swap a b c
 exact btw_eq (h3.2 (by omega)) (h4.2 (by omega))
theorem he_pred {S : List Pt} {a b c : Pt} (h1 : HE S a c) (h2 : HE S b c) : a = b := by
 obtain ⟨_, ha, _, hA⟩ := h1
 obtain ⟨_, hb, _, hB⟩ := h2
 have h3 := hA b hb
 have h4 := hB a ha
 have h5 : cr b c a = -(cr a c b) := by unfold cr; grind
 exact btw_eq' (h3.2 (by omega)) (h4.2 (by omega))
def fn (p q : Int) (a b : Pt) : Int := p * (b.f0 - a.f0) + q * (b.f1 - a.f1)
theorem pos_of_mul {a b : Int} (ha : 0 < a) (h : 0 < a * b) : 0 < b := by
 rcases Int.lt_trichotomy b 0 with h1 | h1 | h1
 ·have := Int.mul_neg_of_pos_of_neg ha h1; omega
 ·subst h1; simp at h
 ·exact h1
theorem nonneg_of_mul {a b : Int} (ha : 0 < a) (h : 0 ≤ a * b) : 0 ≤ b := by
 rcases Int.lt_trichotomy b 0 with h1 | h1 | h1
 ·have := Int.mul_neg_of_pos_of_neg ha h1; omega
 ·omega
 ·omega
theorem tr {p q : Int} {o u v w : Pt} (hu : 0 < fn p q o u) (hv : 0 < fn p q o v) (hw : 0 < fn p q o w)
  (h1 : 0 ≤ cr o u v) (h2 : 0 ≤ cr o v w) : 0 ≤ cr o u w ∧ (0 < cr o u v ∨ 0 < cr o v w → 0 < cr o u w) := by
 have e : fn p q o v * cr o u w = fn p q o u * cr o v w + fn p q o w * cr o u v := by unfold fn cr; grind
 have a1 := Int.mul_nonneg (Int.le_of_lt hu) h2
 have a2 := Int.mul_nonneg (Int.le_of_lt hw) h1
 constructor
 ·exact nonneg_of_mul hv (by omega)
 ·intro h
  apply pos_of_mul hv
  rcases h with h | h
  ·have := Int.mul_pos hw h; omega
  ·have := Int.mul_pos hu h; omega
theorem le_of_mul_le {a b c : Int} (ha : 0 < a) (h : a * b ≤ a * c) : b ≤ c := Int.le_of_mul_le_mul_left h ha
theorem btw_of_fn {p q : Int} {a b c : Pt} (hb : 0 < fn p q a b) (h0 : 0 ≤ fn p q a c) (h1 : fn p q a c ≤ fn p q a b) (h : cr a b c = 0) : btw a b c := by
 have e0 : fn p q a b * (c.f0 - a.f0) = fn p q a c * (b.f0 - a.f0) := by unfold fn; unfold cr at h; grind
 have e1 : fn p q a b * (c.f1 - a.f1) = fn p q a c * (b.f1 - a.f1) := by unfold fn; unfold cr at h; grind
 have key : ∀ x y : Int, fn p q a b * x = fn p q a c * y → (0 ≤ y → 0 ≤ x ∧ x ≤ y) ∧ (y ≤ 0 → y ≤ x ∧ x ≤ 0) := by
  intro x y e
  constructor
  ·intro hy
   have m1 := Int.mul_nonneg h0 hy
   have m2 := Int.mul_le_mul_of_nonneg_right h1 hy
   exact ⟨nonneg_of_mul hb (by omega), le_of_mul_le hb (by omega)⟩
  ·intro hy
   have m1 := Int.mul_nonneg h0 (show 0 ≤ -y by omega)
   have m2 := Int.mul_le_mul_of_nonneg_right h1 (show 0 ≤ -y by omega)
   rw [Int.mul_neg] at m1 m2
   rw [Int.mul_neg] at m2
   exact ⟨le_of_mul_le hb (by omega), le_of_mul_le hb (by omega)⟩
 have k0 := key _ _ e0
 have k1 := key _ _ e1
 unfold btw
 omega
theorem fn_btw_le {p q : Int} {a b c : Pt} (h : btw a b c) (hc : cr a b c = 0) (hb : 0 < fn p q a b) : 0 ≤ fn p q a c ∧ fn p q a c ≤ fn p q a b := by
 unfold btw at h
 have e0 : fn p q a b * (c.f0 - a.f0) = fn p q a c * (b.f0 - a.f0) := by unfold fn; unfold cr at hc; grind
 have e1 : fn p q a b * (c.f1 - a.f1) = fn p q a c * (b.f1 - a.f1) := by unfold fn; unfold cr at hc; grind
 have hne : b.f0 - a.f0 ≠ 0 ∨ b.f1 - a.f1 ≠ 0 := by
  rcases Int.decEq (b.f0 - a.f0) 0 with h | h
  ·exact .inl h
  ·rcases Int.decEq (b.f1 - a.f1) 0 with h' | h'
   ·exact .inr h'
   ·unfold fn at hb; rw [h, h'] at hb; simp at hb
 have key : ∀ x y : Int, fn p q a b * x = fn p q a c * y → y ≠ 0 → (0 ≤ y → 0 ≤ x ∧ x ≤ y) → (y ≤ 0 → y ≤ x ∧ x ≤ 0) → 0 ≤ fn p q a c ∧ fn p q a c ≤ fn p q a b := by
  intro x y e hy h1 h2
  rcases Int.lt_trichotomy y 0 with h3 | h3 | h3
  ·have h4 := h2 (by omega)
   have m1 := Int.mul_nonneg (Int.le_of_lt hb) (show 0 ≤ -x by omega)
   have m2 := Int.mul_nonneg (Int.le_of_lt hb) (show 0 ≤ x - y by omega)
   rw [Int.mul_neg] at m1
   rw [Int.mul_sub] at m2
   constructor
   ·apply nonneg_of_mul (show 0 < -y by omega)
    rw [Int.neg_mul, Int.mul_comm]; omega
   ·apply le_of_mul_le (show 0 < -y by omega)
    rw [Int.neg_mul, Int.neg_mul, Int.mul_comm y, Int.mul_comm y]; omega
  ·exact absurd h3 hy
  ·have h4 := h1 (by omega)
   have m1 := Int.mul_nonneg (Int.le_of_lt hb) (show 0 ≤ x by omega)
   have m2 := Int.mul_nonneg (Int.le_of_lt hb) (show 0 ≤ y - x by omega)
   rw [Int.mul_sub] at m2
   constructor
   ·apply nonneg_of_mul h3
    rw [Int.mul_comm]; omega
   ·apply le_of_mul_le h3
    rw [Int.mul_comm y, Int.mul_comm y]; omega
 rcases hne with h' | h'
 ·exact key _ _ e0 h' (by omega) (by omega)
 ·exact key _ _ e1 h' (by omega) (by omega)
def Pairs (R : Pt → Pt → Prop) : List Pt → Prop
 | [] => True
 | [_] => True
 | a :: b :: l => R a b ∧ Pairs R (b :: l)
theorem Pairs.mono {R R' : Pt → Pt → Prop} (h : ∀ a b, R a b → R' a b) : ∀ l, Pairs R l → Pairs R' l
 | [], _ => trivial
 | [_], _ => trivial
 | _ :: b :: l, ⟨h1, h2⟩ => ⟨h _ _ h1, Pairs.mono h (b :: l) h2⟩
theorem Pairs.append {R : Pt → Pt → Prop} {m : Pt} : ∀ (l l' : List Pt), Pairs R (l ++ [m]) → Pairs R (m :: l') → Pairs R (l ++ m :: l')
 | [], _, _, h => h
 | [_], _, ⟨h1, _⟩, h => ⟨h1, h⟩
 | _ :: b :: l, l', ⟨h1, h2⟩, h => ⟨h1, Pairs.append (b :: l) l' h2 h⟩
theorem Pairs.tail {R : Pt → Pt → Prop} {a : Pt} {l : List Pt} (h : Pairs R (a :: l)) : Pairs R l := by
 cases l with
 | nil => trivial
 | cons b l => exact h.2
theorem Pairs.left {R : Pt → Pt → Prop} : ∀ (l l' : List Pt), Pairs R (l ++ l') → Pairs R l
 | [], _, _ => trivial
 | [_], _, _ => trivial
 | _ :: b :: l, l', ⟨h1, h2⟩ => ⟨h1, Pairs.left (b :: l) l' h2⟩
theorem Pairs.right {R : Pt → Pt → Prop} : ∀ (l l' : List Pt), Pairs R (l ++ l') → Pairs R l'
 | [], _, h => h
 | _ :: l, l', h => Pairs.right l l' h.tail
theorem Pairs.at_ {R : Pt → Pt → Prop} {a b : Pt} {l l' : List Pt} (h : Pairs R (l ++ a :: b :: l')) : R a b := (Pairs.right l _ h).1
theorem ways_eq {R : Pt → Pt → Prop} (hf : ∀ a b c, R a b → R a c → b = c) (a : Pt) : ∀ (x : Pt) (t t' : List Pt), Pairs R (x :: (t ++ [a])) → Pairs R (x :: (t' ++ [a])) → a ∉ t → a ∉ t' → t = t'
 | _, [], [], _, _, _, _ => rfl
 | _, [], y :: _, h, h', _, n' => absurd (hf _ _ _ h.1 h'.1) (fun e => n' (by simp [e]))
 | _, z :: _, [], h, h', n, _ => absurd (hf _ _ _ h.1 h'.1) (fun e => n (by simp [e]))
 | _, z :: t, y :: t', h, h', n, n' => by
  obtain rfl := hf _ _ _ h.1 h'.1
  rw [ways_eq hf a z t t' h.2 h'.2 (fun e => n (by simp [e])) (fun e => n' (by simp [e]))]
def Ring (S : List Pt) (h : List Pt) : Prop := ∃ a t, h = a :: t ∧ a ∉ t ∧ Pairs (HE S) (a :: (t ++ [a]))
theorem ring_eq {S h h' : List Pt} (r : Ring S h) (r' : Ring S h') (e : h.head? = h'.head?) : h = h' := by
 obtain ⟨a, t, rfl, n, p⟩ := r
 obtain ⟨a', t', rfl, n', p'⟩ := r'
 obtain rfl : a = a' := by simpa using e
 rw [ways_eq (R := HE S) (fun _ _ _ => he_succ) a a t t' p p' n n']
instance (a b c : Pt) : Decidable (btw a b c) := by unfold btw; infer_instance
def wrapStep (o tq p : Pt) : Pt := if p = o then tq else if tq = o ∨ cr o tq p < 0 ∨ (cr o tq p = 0 ∧ cr o p tq = 0 ∧ btw o p tq) then p else tq
def wrap (S : List Pt) (o : Pt) : Pt := S.foldl (wrapStep o) o
def Found (T : List Pt) (o tq : Pt) : Prop := (tq = o ∧ ∀ t ∈ T, t = o) ∨ (tq ≠ o ∧ tq ∈ T ∧ ∀ t ∈ T, 0 ≤ cr o tq t ∧ (cr o tq t = 0 → btw o tq t))
theorem btw_end (o a : Pt) : btw o a a := by unfold btw; omega
theorem btw_start (o a : Pt) : btw o a o := by unfold btw; omega
theorem step_ok {p q : Int} {T : List Pt} {o tq x : Pt} (hT : ∀ t ∈ T ++ [x], t = o ∨ 0 < fn p q o t) (h : Found T o tq) : Found (T ++ [x]) o (wrapStep o tq x) := by
 unfold wrapStep
 split
 ·rename_i hx
  subst hx
  rcases h with ⟨rfl, h⟩ | ⟨h1, h2, h3⟩
  ·exact .inl ⟨rfl, by intro t ht; rcases List.mem_append.mp ht with ht | ht; exact h t ht; simpa using ht⟩
  ·refine .inr ⟨h1, by simp [h2], ?_⟩
   intro t ht
   rcases List.mem_append.mp ht with ht | ht
   ·exact h3 t ht
   ·simp at ht; subst ht; rw [cr_self1]; exact ⟨by omega, fun _ => btw_start _ _⟩
 ·rename_i hx
  have fx : 0 < fn p q o x := (hT x (by simp)).resolve_left hx
  rcases h with ⟨rfl, h⟩ | ⟨h1, h2, h3⟩
  ·rw [if_pos (.inl rfl)]
   refine .inr ⟨hx, by simp, ?_⟩
   intro t ht
   rcases List.mem_append.mp ht with ht | ht
   ·rw [h t ht, cr_self1]; exact ⟨by omega, fun _ => btw_start _ _⟩
   ·simp at ht; subst ht; rw [cr_self2]; exact ⟨by omega, fun _ => btw_end _ _⟩
  ·have ft : 0 < fn p q o tq := (hT tq (by simp [h2])).resolve_left h1
   split
   ·rename_i hc
    refine .inr ⟨hx, by simp, ?_⟩
    have h0 : 0 ≤ cr o x tq ∧ (cr o x tq = 0 → btw o x tq) := by
     rcases hc with hc | hc | hc
     ·exact absurd hc h1
     ·have := cr_swap o tq x; exact ⟨by omega, fun h => by omega⟩
     ·exact ⟨by omega, fun _ => hc.2.2⟩
    intro t ht
    rcases List.mem_append.mp ht with ht | ht
    ·rcases hT t (by simp [ht]) with rfl | hf
     ·rw [cr_self1]; exact ⟨by omega, fun _ => btw_start _ _⟩
     ·have := tr fx ft hf h0.1 (h3 t ht).1
      refine ⟨this.1, fun hz => ?_⟩
      have z1 : cr o x tq = 0 := by
       rcases Int.lt_trichotomy 0 (cr o x tq) with h5 | h5 | h5
       ·have := this.2 (.inl h5); omega
       ·exact h5.symm
       ·omega
      have z2 : cr o tq t = 0 := by
       rcases Int.lt_trichotomy 0 (cr o tq t) with h5 | h5 | h5
       ·have := this.2 (.inr h5); omega
       ·exact h5.symm
       ·have := (h3 t ht).1; omega
      have b1 := fn_btw_le (h0.2 z1) z1 fx
      have b2 := fn_btw_le ((h3 t ht).2 z2) z2 ft
      exact btw_of_fn fx b2.1 (by omega) hz
    ·simp at ht; subst ht; rw [cr_self2]; exact ⟨by omega, fun _ => btw_end _ _⟩
   ·rename_i hc
    refine .inr ⟨h1, by simp [h2], ?_⟩
    intro t ht
    rcases List.mem_append.mp ht with ht | ht
    ·exact h3 t ht
    ·simp at ht; subst ht
     have n1 : ¬ cr o tq t < 0 := fun h => hc (.inr (.inl h))
     refine ⟨by omega, fun hz => ?_⟩
     have n2 : ¬ btw o t tq := fun h => hc (.inr (.inr ⟨hz, by rw [cr_swap]; omega, h⟩))
     have hz' : cr o t tq = 0 := by rw [cr_swap]; omega
     by_cases hle : fn p q o t ≤ fn p q o tq
     ·exact btw_of_fn ft (Int.le_of_lt fx) hle hz
     ·exact absurd (btw_of_fn fx (Int.le_of_lt ft) (by omega) hz') n2
theorem wrap_ok {p q : Int} {S : List Pt} {o : Pt} (ho : o ∈ S) (hS : ∀ t ∈ S, t = o ∨ 0 < fn p q o t) (h2 : ∃ t ∈ S, t ≠ o) : HE S o (wrap S o) := by
 have H : ∀ (R T : List Pt) (tq : Pt), T ++ R = S → Found T o tq → Found S o (R.foldl (wrapStep o) tq) := by
  intro R
  induction R with
  | nil => intro T tq e h; rw [← e, List.append_nil]; exact h
  | cons x R ih =>
   intro T tq e h
   rw [List.foldl_cons]
   apply ih (T ++ [x]) _ (by rw [← e]; simp)
   apply step_ok (p := p) (q := q) _ h
   intro t ht
   apply hS
   rw [← e]
   rcases List.mem_append.mp ht with ht | ht
   ·simp [ht]
   ·simp at ht; simp [ht]
 have := H S [] o rfl (.inl ⟨rfl, by simp⟩)
 unfold wrap
 rcases this with ⟨_, h3⟩ | ⟨h3, h4, h5⟩
 ·obtain ⟨t, ht, hn⟩ := h2
  exact absurd (h3 t ht) hn
 ·exact ⟨fun e => h3 e.symm, ho, h4, h5⟩
def Corner (S : List Pt) (o : Pt) : Prop := ∃ p q, ∀ t ∈ S, t = o ∨ 0 < fn p q o t
theorem bounded (f : Pt → Int) : ∀ S : List Pt, ∃ B, ∀ t ∈ S, f t < B
 | [] => ⟨0, by simp⟩
 | a :: S => by
  obtain ⟨B, hB⟩ := bounded f S
  refine ⟨max B (f a + 1), ?_⟩
  intro t ht
  rcases List.mem_cons.mp ht with rfl | ht
  ·omega
  ·have := hB t ht; omega
theorem corner_of_he {S : List Pt} {a b : Pt} (h : HE S a b) : Corner S b := by
 obtain ⟨hab, ha, hb, hS⟩ := h
 let g : Pt → Int := fun t => (b.f0 - a.f0) * (t.f0 - b.f0) + (b.f1 - a.f1) * (t.f1 - b.f1)
 obtain ⟨B, hB⟩ := bounded g S
 have hB0 : 0 < B := by have := hB b hb; simp [g] at this; exact this
 refine ⟨B * -(b.f1 - a.f1) - (b.f0 - a.f0), B * (b.f0 - a.f0) - (b.f1 - a.f1), ?_⟩
 intro t ht
 by_cases e : t = b
 ·exact .inl e
 ·right
  have e1 : fn (B * -(b.f1 - a.f1) - (b.f0 - a.f0)) (B * (b.f0 - a.f0) - (b.f1 - a.f1)) b t = B * cr a b t - g t := by simp only [g, fn, cr]; grind
  rw [e1]
  have h1 := hS t ht
  have h2 := hB t ht
  rcases Int.lt_trichotomy 0 (cr a b t) with h3 | h3 | h3
  ·have := Int.mul_le_mul_of_nonneg_left (show 1 ≤ cr a b t by omega) (Int.le_of_lt hB0)
   omega
  ·rw [← h3]
   have hbt := h1.2 h3.symm
   have hc : cr a b t = 0 := h3.symm
   have : g t < 0 := by
    have k0 : (b.f0 - a.f0) * (t.f0 - b.f0) ≤ 0 := by
     unfold btw at hbt
     rcases Int.le_total a.f0 b.f0 with h5 | h5
     ·have := Int.mul_nonneg (show 0 ≤ b.f0 - a.f0 by omega) (show 0 ≤ b.f0 - t.f0 by omega); grind
     ·have := Int.mul_nonneg (show 0 ≤ a.f0 - b.f0 by omega) (show 0 ≤ t.f0 - b.f0 by omega); grind
    have k1 : (b.f1 - a.f1) * (t.f1 - b.f1) ≤ 0 := by
     unfold btw at hbt
     rcases Int.le_total a.f1 b.f1 with h5 | h5
     ·have := Int.mul_nonneg (show 0 ≤ b.f1 - a.f1 by omega) (show 0 ≤ b.f1 - t.f1 by omega); grind
     ·have := Int.mul_nonneg (show 0 ≤ a.f1 - b.f1 by omega) (show 0 ≤ t.f1 - b.f1 by omega); grind
    rcases Int.lt_trichotomy (g t) 0 with h5 | h5 | h5
    ·exact h5
    ·exfalso
     simp only [g] at h5
     have z0 : (b.f0 - a.f0) * (t.f0 - b.f0) = 0 := by omega
     have z1 : (b.f1 - a.f1) * (t.f1 - b.f1) = 0 := by omega
     have z2 : (b.f0 - a.f0) * (t.f1 - b.f1) = (b.f1 - a.f1) * (t.f0 - b.f0) := by unfold cr at hc; grind
     have hne : b.f0 - a.f0 ≠ 0 ∨ b.f1 - a.f1 ≠ 0 := by
      rcases Int.decEq (b.f0 - a.f0) 0 with y | y
      ·exact .inl y
      ·exact .inr fun y1 => hab (pt_ext (by omega) (by omega))
     have fin : t.f0 - b.f0 = 0 ∧ t.f1 - b.f1 = 0 := by
      rcases hne with y | y
      ·have w0 := (Int.mul_eq_zero.mp z0).resolve_left y
       rw [w0, Int.mul_zero] at z2
       exact ⟨w0, (Int.mul_eq_zero.mp z2).resolve_left y⟩
      ·have w0 := (Int.mul_eq_zero.mp z1).resolve_left y
       rw [w0, Int.mul_zero] at z2
       exact ⟨(Int.mul_eq_zero.mp z2.symm).resolve_left y, w0⟩
     exact e (pt_ext (by omega) (by omega))
    ·simp only [g] at h5; omega
   omega
  ·omega
def first (a b : Pt) : Prop := a.f1 < b.f1 ∨ (a.f1 = b.f1 ∧ a.f0 < b.f0)
instance (a b : Pt) : Decidable (first a b) := by unfold first; infer_instance
theorem corner_of_first {S : List Pt} {o : Pt} (h : ∀ t ∈ S, t = o ∨ first o t) : Corner S o := by
 obtain ⟨B, hB⟩ := bounded (fun t => o.f0 - t.f0) S
 refine ⟨1, max B 1, ?_⟩
 intro t ht
 rcases h t ht with h1 | h1
 ·exact .inl h1
 ·right
  have h2 := hB t ht
  unfold fn
  rcases h1 with h1 | h1
  ·have := Int.mul_le_mul_of_nonneg_left (show 1 ≤ t.f1 - o.f1 by omega) (show 0 ≤ max B 1 by omega)
   omega
  ·rw [show t.f1 - o.f1 = 0 by omega]; omega
def around (S : List Pt) : Nat → Pt → List Pt
 | 0, o => [o]
 | n + 1, o => o :: around S n (wrap S o)
theorem length_le_of_nodup {l S : List Pt} (hn : l.Nodup) (h : ∀ a ∈ l, a ∈ S) : l.length ≤ S.length := by
 induction l generalizing S with
 | nil => simp
 | cons a l ih =>
  have ha := h a (by simp)
  have h2 : ∀ b ∈ l, b ∈ S.erase a := by
   intro b hb
   have hne : b ≠ a := by rintro rfl; exact (List.nodup_cons.mp hn).1 hb
   exact (List.mem_erase_of_ne hne).2 (h b (by simp [hb]))
  have := ih (List.nodup_cons.mp hn).2 h2
  have hl := List.length_erase_of_mem ha
  have : 0 < S.length := List.length_pos_of_mem ha
  simp only [List.length_cons]; omega
theorem ring_around {S : List Pt} {o : Pt} (ho : o ∈ S) (hmin : ∀ t ∈ S, t = o ∨ first o t) (h2 : ∃ a b, a ∈ S ∧ b ∈ S ∧ a ≠ b) :
  ∃ n, n < S.length ∧ Ring S (around S n o) ∧ (∃ x, (around S n o).getLast? = some x ∧ wrap S x = o) ∧ (∀ m, m < n → ∃ x, (around S m o).getLast? = some x ∧ wrap S x ≠ o) := by
 have other : ∀ x ∈ S, ∃ t ∈ S, t ≠ x := by
  intro x _
  obtain ⟨a, b, ha, hb, hab⟩ := h2
  by_cases e : a = x
  ·exact ⟨b, hb, fun e' => hab (e.trans e'.symm)⟩
  ·exact ⟨a, ha, e⟩
 have step : ∀ x, x ∈ S → Corner S x → HE S x (wrap S x) := by
  intro x hx hc
  obtain ⟨p, q, h⟩ := hc
  exact wrap_ok hx h (other x hx)
 have snoc : ∀ n x, ∃ y, (around S n x).getLast? = some y ∧ around S (n + 1) x = around S n x ++ [wrap S y] := by
  intro n
  induction n with
  | zero => intro x; exact ⟨x, rfl, rfl⟩
  | succ n ih =>
   intro x
   obtain ⟨y, h1, h2⟩ := ih (wrap S x)
   refine ⟨y, ?_, ?_⟩
   ·rw [around, List.getLast?_cons, h1]; rfl
   ·rw [around, h2]; rfl
 have pairs : ∀ n x, x ∈ S → Corner S x → Pairs (HE S) (around S n x) ∧ (∀ y ∈ around S n x, y ∈ S ∧ Corner S y) := by
  intro n
  induction n with
  | zero => intro x hx hc; exact ⟨trivial, by intro y hy; simp [around] at hy; subst hy; exact ⟨hx, hc⟩⟩
  | succ n ih =>
   intro x hx hc
   have he := step x hx hc
   obtain ⟨h1, h2⟩ := ih (wrap S x) he.2.2.1 (corner_of_he he)
   refine ⟨?_, ?_⟩
   ·cases n with
    | zero => exact ⟨he, trivial⟩
    | succ n => exact ⟨he, h1⟩
   ·intro y hy
    rw [around] at hy
    rcases List.mem_cons.mp hy with rfl | hy
    ·exact ⟨hx, hc⟩
    ·exact h2 y hy
 have hco := corner_of_first hmin
 have nodup : ∀ n, (∀ m, m < n → ∃ x, (around S m o).getLast? = some x ∧ wrap S x ≠ o) → (around S n o).Nodup ∧ o ∉ (around S n o).tail := by
  intro n
  induction n with
  | zero => intro _; simp [around]
  | succ n ih =>
   intro h
   obtain ⟨h1, h2⟩ := ih (fun m hm => h m (by omega))
   obtain ⟨y, e1, e2⟩ := snoc n o
   obtain ⟨y', e1', hn⟩ := h n (by omega)
   obtain rfl : y = y' := by rw [e1] at e1'; simpa using e1'
   have hy : y ∈ around S n o := List.mem_of_getLast? e1
   have hP := (pairs n o ho hco).1
   have hS := (pairs n o ho hco).2 y hy
   have hey := step y hS.1 hS.2
   rw [e2]
   obtain ⟨t, et⟩ : ∃ t, around S n o = o :: t := by cases n <;> exact ⟨_, rfl⟩
   rw [et] at h1 h2 e1 hy hP ⊢
   have hnot : wrap S y ∉ o :: t := by
    intro hm
    rcases List.mem_cons.mp hm with hm | hm
    ·exact hn hm
    ·-- it has one before it, which is y: but y is the last
     obtain ⟨l1, l2, el⟩ := List.append_of_mem hm
     have el' : o :: t = (o :: l1) ++ wrap S y :: l2 := by rw [el]; rfl
     obtain ⟨l0, z, ez⟩ : ∃ l0 z, o :: l1 = l0 ++ [z] := ⟨(o :: l1).dropLast, (o :: l1).getLast (by simp), (List.dropLast_concat_getLast (by simp)).symm⟩
     rw [el', ez, List.append_assoc] at hP
     have hz : HE S z (wrap S y) := Pairs.at_ hP
     have hzy := he_pred hz hey
     subst hzy
     rw [el', ez] at h1 e1
     rw [List.nodup_append] at h1
     have e3 : (wrap S z :: l2).getLast? = some z := by
      rw [List.getLast?_append, List.getLast?_eq_some_getLast (by simp : wrap S z :: l2 ≠ []), Option.some_or] at e1
      rw [List.getLast?_eq_some_getLast (by simp : wrap S z :: l2 ≠ [])]
      exact e1
     exact h1.2.2 z (by simp) z (List.mem_of_getLast? e3) rfl
   refine ⟨?_, ?_⟩
   ·rw [List.nodup_append]
    refine ⟨h1, by simp, ?_⟩
    intro a ha b hb e
    simp at hb
    subst hb; subst e
    exact hnot ha
   ·simp only [List.cons_append, List.tail_cons] at h2 ⊢
    intro hm
    rcases List.mem_append.mp hm with hm | hm
    ·exact h2 hm
    ·simp at hm; exact hn hm.symm
 have len : ∀ n x, (around S n x).length = n + 1 := by
  intro n
  induction n with
  | zero => intro x; rfl
  | succ n ih => intro x; simp [around, ih]
 have ex : ∃ n, n < S.length ∧ (∃ x, (around S n o).getLast? = some x ∧ wrap S x = o) ∧ (∀ m, m < n → ∃ x, (around S m o).getLast? = some x ∧ wrap S x ≠ o) := by
  apply Classical.byContradiction
  intro hno
  have all : ∀ n, n ≤ S.length → ∀ m, m < n → ∃ x, (around S m o).getLast? = some x ∧ wrap S x ≠ o := by
   intro n
   induction n with
   | zero => intro _ m hm; omega
   | succ n ih =>
    intro hn m hm
    have hb := ih (by omega)
    by_cases e : m < n
    ·exact hb m e
    ·obtain rfl : m = n := by omega
     obtain ⟨y, e1, _⟩ := snoc m o
     by_cases hw : wrap S y = o
     ·exact absurd ⟨m, by omega, ⟨y, e1, hw⟩, hb⟩ hno
     ·exact ⟨y, e1, hw⟩
  have h1 := (nodup S.length (all _ (Nat.le_refl _))).1
  have := length_le_of_nodup h1 (fun a ha => ((pairs S.length o ho hco).2 a ha).1)
  rw [len] at this
  omega
 obtain ⟨n, hn, ⟨x, e1, hw⟩, hm⟩ := ex
 refine ⟨n, hn, ?_, ⟨x, e1, hw⟩, hm⟩
 obtain ⟨h1, h2⟩ := nodup n hm
 obtain ⟨t, et⟩ : ∃ t, around S n o = o :: t := by cases n <;> exact ⟨_, rfl⟩
 have hP := (pairs n o ho hco).1
 have hx := (pairs n o ho hco).2 x (List.mem_of_getLast? e1)
 have he := step x hx.1 hx.2
 rw [hw] at he
 rw [et] at h2 e1 hP ⊢
 refine ⟨o, t, rfl, h2, ?_⟩
 obtain ⟨l0, z, ez⟩ : ∃ l0 z, o :: t = l0 ++ [z] := ⟨(o :: t).dropLast, (o :: t).getLast (by simp), (List.dropLast_concat_getLast (by simp)).symm⟩
 have : z = x := by rw [ez, List.getLast?_concat] at e1; simpa using e1
 subst this
 rw [← List.cons_append, ez, List.append_assoc]
 rw [ez] at hP
 exact Pairs.append l0 [o] hP ⟨he, trivial⟩
def at_ (h : List Pt) (i : Nat) : Pt := h.getD i ⟨0, 0⟩
theorem at_eq {h : List Pt} {i : Nat} (hi : i < h.length) : at_ h i = h[i] := by
 unfold at_; rw [List.getD_eq_getElem?_getD, List.getElem?_eq_getElem hi]; rfl
theorem at_mem {h : List Pt} {i : Nat} (hi : i < h.length) : at_ h i ∈ h := by
 rw [at_eq hi]; exact List.getElem_mem hi
theorem pairs_at {R : Pt → Pt → Prop} : ∀ (l : List Pt), Pairs R l → ∀ i, i + 1 < l.length → R (at_ l i) (at_ l (i + 1))
 | a :: b :: l, h, 0, _ => h.1
 | a :: b :: l, h, i + 1, hi => pairs_at (b :: l) h.2 i (by simpa using hi)
 | [_], _, _, hi => by simp at hi
 | [], _, _, hi => by simp at hi
theorem ring_at {S h : List Pt} (r : Ring S h) : ∀ i, i < h.length → HE S (at_ h i) (at_ h ((i + 1) % h.length)) := by
 obtain ⟨a, t, rfl, _, hp⟩ := r
 intro i hi
 have h1 := pairs_at _ hp i (by simpa using hi)
 have e1 : at_ (a :: (t ++ [a])) i = at_ (a :: t) i := by
  unfold at_; rw [List.getD_eq_getElem?_getD, List.getD_eq_getElem?_getD, ← List.cons_append, List.getElem?_append_left hi]
 have e2 : at_ (a :: (t ++ [a])) (i + 1) = at_ (a :: t) ((i + 1) % (a :: t).length) := by
  by_cases e : i + 1 = (a :: t).length
  ·rw [e, Nat.mod_self]; unfold at_; rw [List.getD_eq_getElem?_getD, ← List.cons_append, List.getElem?_append_right (by simp)]; simp
  ·have : i + 1 < (a :: t).length := by omega
   rw [Nat.mod_eq_of_lt this]
   unfold at_; rw [List.getD_eq_getElem?_getD, List.getD_eq_getElem?_getD, ← List.cons_append, List.getElem?_append_left this]
 rw [e1, e2] at h1
 exact h1
theorem ring_inj {S h : List Pt} (r : Ring S h) : ∀ i j, i < h.length → j < h.length → at_ h i = at_ h j → i = j := by
 have hr := ring_at r
 have h0 : ∀ j, 0 < j → j < h.length → at_ h 0 ≠ at_ h j := by
  obtain ⟨a, t, rfl, ha, _⟩ := r
  intro j hj hl e
  apply ha
  have : at_ (a :: t) j ∈ t := by
   match j, hj with
   | j + 1, _ => rw [at_eq hl]; simp
  rw [← e] at this
  exact this
 have back : ∀ i j, i < j → j < h.length → at_ h i ≠ at_ h j := by
  intro i
  induction i with
  | zero => exact fun j hj hl => h0 j hj hl
  | succ i ih =>
   intro j hj hl e
   have a1 := hr i (by omega)
   have a2 := hr (j - 1) (by omega)
   rw [Nat.mod_eq_of_lt (by omega)] at a1
   rw [show j - 1 + 1 = j by omega, Nat.mod_eq_of_lt hl, ← e] at a2
   exact ih (j - 1) (by omega) (by omega) (he_pred a1 a2)
 intro i j hi hj e
 rcases Nat.lt_trichotomy i j with h1 | h1 | h1
 ·exact absurd e (back i j h1 hj)
 ·exact h1
 ·exact absurd e.symm (back j i h1 hi)
theorem ring_corner {S h : List Pt} (r : Ring S h) : ∀ i, i < h.length → Corner S (at_ h i) ∧ at_ h i ∈ S := by
 intro i hi
 have hr := ring_at r
 rcases Nat.eq_zero_or_pos i with rfl | h0
 ·have := hr (h.length - 1) (by omega)
  rw [show h.length - 1 + 1 = h.length by omega, Nat.mod_self] at this
  exact ⟨corner_of_he this, this.2.2.1⟩
 ·have := hr (i - 1) (by omega)
  rw [show i - 1 + 1 = i by omega, Nat.mod_eq_of_lt hi] at this
  exact ⟨corner_of_he this, this.2.2.1⟩
theorem corner_not_between {S : List Pt} {v a b : Pt} (hv : Corner S v) (ha : a ∈ S) (hb : b ∈ S) (hab : a ≠ b) (hc : cr a b v = 0) (hbt : btw a b v) : v = a ∨ v = b := by
 obtain ⟨p, q, hF⟩ := hv
 rcases hF a ha with h1 | h1
 ·exact .inl h1.symm
 ·rcases hF b hb with h2 | h2
  ·exact .inr h2.symm
  ·exfalso
   have e0 : (v.f0 - a.f0) * fn p q v b + (b.f0 - v.f0) * fn p q v a = 0 := by unfold fn; unfold cr at hc; grind
   have e1 : (v.f1 - a.f1) * fn p q v b + (b.f1 - v.f1) * fn p q v a = 0 := by unfold fn; unfold cr at hc; grind
   have key : ∀ x y z : Int, (v.f0 = v.f0) → (min x z ≤ y ∧ y ≤ max x z) → (y - x) * fn p q v b + (z - y) * fn p q v a = 0 → x = z := by
    intro x y z _ hb e
    rcases Int.lt_trichotomy x z with h | h | h
    ·have m1 := Int.mul_nonneg (show 0 ≤ y - x by omega) (Int.le_of_lt h2)
     have m2 := Int.mul_nonneg (show 0 ≤ z - y by omega) (Int.le_of_lt h1)
     have k1 : (y - x) * fn p q v b = 0 := by omega
     have k2 : (z - y) * fn p q v a = 0 := by omega
     rcases Int.mul_eq_zero.mp k1 with k | k <;> rcases Int.mul_eq_zero.mp k2 with k' | k' <;> omega
    ·exact h
    ·have m1 := Int.mul_nonneg (show 0 ≤ x - y by omega) (Int.le_of_lt h2)
     have m2 := Int.mul_nonneg (show 0 ≤ y - z by omega) (Int.le_of_lt h1)
     have w1 : (y - x) * fn p q v b = - ((x - y) * fn p q v b) := by rw [← Int.neg_mul]; congr 1; omega
     have w2 : (z - y) * fn p q v a = - ((y - z) * fn p q v a) := by rw [← Int.neg_mul]; congr 1; omega
     have k1 : (y - x) * fn p q v b = 0 := by omega
     have k2 : (z - y) * fn p q v a = 0 := by omega
     rcases Int.mul_eq_zero.mp k1 with k | k <;> rcases Int.mul_eq_zero.mp k2 with k' | k' <;> omega
   unfold btw at hbt
   exact hab (pt_ext (key _ _ _ rfl ⟨hbt.1, hbt.2.1⟩ e0) (key _ _ _ rfl ⟨hbt.2.2.1, hbt.2.2.2⟩ e1))
def Strong (h : List Pt) : Prop :=
 (∀ i, i < h.length → at_ h i ≠ at_ h ((i + 1) % h.length)) ∧
 (∀ i j, i < h.length → j < h.length → at_ h i = at_ h j → i = j) ∧
 ∀ i k, i < h.length → k < h.length → 0 ≤ cr (at_ h i) (at_ h ((i + 1) % h.length)) (at_ h k) ∧
  (cr (at_ h i) (at_ h ((i + 1) % h.length)) (at_ h k) = 0 → k = i ∨ k = (i + 1) % h.length)
theorem ring_strong {S h : List Pt} (r : Ring S h) : Strong h := by
 have hr := ring_at r
 have hi := ring_inj r
 refine ⟨fun i h1 => (hr i h1).1, hi, ?_⟩
 intro i k h1 h2
 have he := hr i h1
 have hk := ring_corner r k h2
 have hn : (i + 1) % h.length < h.length := Nat.mod_lt _ (by omega)
 have := he.2.2.2 _ hk.2
 refine ⟨this.1, fun h0 => ?_⟩
 rcases corner_not_between hk.1 he.2.1 he.2.2.1 he.1 h0 (this.2 h0) with e | e
 ·exact .inl (hi _ _ h2 h1 e)
 ·exact .inr (hi _ _ h2 hn e)
def On (a b p : Pt) : Prop := cr a b p = 0 ∧ btw a b p
instance (a b p : Pt) : Decidable (On a b p) := by unfold On; infer_instance
def Meet (a b c d : Pt) : Prop := On a b c ∨ On a b d ∨ On c d a ∨ On c d b ∨
 (((0 < cr a b c ∧ cr a b d < 0) ∨ (cr a b c < 0 ∧ 0 < cr a b d)) ∧ ((0 < cr c d a ∧ cr c d b < 0) ∨ (cr c d a < 0 ∧ 0 < cr c d b)))
instance (a b c d : Pt) : Decidable (Meet a b c d) := by unfold Meet; infer_instance
def Simple (l : List Pt) : Prop :=
 (∀ i, i < l.length → at_ l i ≠ at_ l ((i + 1) % l.length)) ∧
 ∀ i, i < l.length → ¬ On (at_ l i) (at_ l ((i + 1) % l.length)) (at_ l ((i + 1 + 1) % l.length)) ∧
  ¬ On (at_ l ((i + 1) % l.length)) (at_ l ((i + 1 + 1) % l.length)) (at_ l i) ∧
  ∀ k, i + 2 ≤ k → k < l.length → (k + 1) % l.length ≠ i → ¬ Meet (at_ l i) (at_ l ((i + 1) % l.length)) (at_ l k) (at_ l ((k + 1) % l.length))
def Convex (l : List Pt) : Prop :=
 Simple l ∧ ∀ i, i < l.length → 0 < cr (at_ l i) (at_ l ((i + 1) % l.length)) (at_ l ((i + 1 + 1) % l.length)) ∧ (0 < i → first (at_ l 0) (at_ l i))
theorem mod_two {n i : Nat} (hn : 3 ≤ n) (hi : i < n) : (i + 1 + 1) % n ≠ i ∧ (i + 1 + 1) % n ≠ (i + 1) % n ∧ (i + 1) % n ≠ i := by
 by_cases h1 : i + 1 + 1 < n
 ·rw [Nat.mod_eq_of_lt h1, Nat.mod_eq_of_lt (by omega : i + 1 < n)]; omega
 ·by_cases h2 : i + 1 < n
  ·rw [Nat.mod_eq_of_lt h2, show i + 1 + 1 = n by omega, Nat.mod_self]; omega
  ·rw [show i + 1 = n by omega, Nat.mod_self, show n + 1 = 1 + n by omega, Nat.add_mod_right, Nat.mod_eq_of_lt (by omega)]; omega
theorem strong_turn {l : List Pt} (hn : 3 ≤ l.length) (h : Strong l) (i : Nat) (hi : i < l.length) : 0 < cr (at_ l i) (at_ l ((i + 1) % l.length)) (at_ l ((i + 1 + 1) % l.length)) := by
 have hm := mod_two hn hi
 have hk : (i + 1 + 1) % l.length < l.length := Nat.mod_lt _ (by omega)
 have := h.2.2 i _ hi hk
 rcases Int.lt_trichotomy 0 (cr (at_ l i) (at_ l ((i + 1) % l.length)) (at_ l ((i + 1 + 1) % l.length))) with h1 | h1 | h1
 ·exact h1
 ·rcases this.2 h1.symm with e | e
  ·exact absurd e hm.1
  ·exact absurd e hm.2.1
 ·omega
theorem strong_simple {l : List Pt} (hn : 3 ≤ l.length) (h : Strong l) : Simple l := by
 refine ⟨h.1, ?_⟩
 intro i hi
 have ht := strong_turn hn h i hi
 have hr := cr_rot (at_ l i) (at_ l ((i + 1) % l.length)) (at_ l ((i + 1 + 1) % l.length))
 refine ⟨fun o => by have := o.1; omega, fun o => by have := o.1; omega, ?_⟩
 intro k hk1 hk2 hk3 hm
 have hi1 : (i + 1) % l.length < l.length := Nat.mod_lt _ (by omega)
 have hk4 : (k + 1) % l.length < l.length := Nat.mod_lt _ (by omega)
 have ei : (i + 1) % l.length = i + 1 := Nat.mod_eq_of_lt (by omega)
 have c1 := h.2.2 i k hi hk2
 have c2 := h.2.2 i _ hi hk4
 have c3 := h.2.2 k i hk2 hi
 have c4 := h.2.2 k _ hk2 hi1
 rcases hm with hm | hm | hm | hm | hm
 ·have := c1.2 hm.1; omega
 ·have := c2.2 hm.1
  rcases this with e | e
  ·exact hk3 e
  ·rw [ei] at e
   by_cases h5 : k + 1 < l.length
   ·rw [Nat.mod_eq_of_lt h5] at e; omega
   ·rw [show k + 1 = l.length by omega, Nat.mod_self] at e; omega
 ·have := c3.2 hm.1; omega
 ·rcases c4.2 hm.1 with e | e
  ·omega
  ·rw [ei] at e
   by_cases h5 : k + 1 < l.length
   ·rw [Nat.mod_eq_of_lt h5] at e; omega
   ·rw [show k + 1 = l.length by omega, Nat.mod_self] at e; omega
 ·omega
theorem strong_convex {l : List Pt} (hn : 3 ≤ l.length) (h : Strong l) (h0 : ∀ i, i < l.length → 0 < i → first (at_ l 0) (at_ l i)) : Convex l :=
 ⟨strong_simple hn h, fun i hi => ⟨strong_turn hn h i hi, h0 i hi⟩⟩
def Flat (S : List Pt) : Prop := ∀ a ∈ S, ∀ b ∈ S, ∀ c ∈ S, cr a b c = 0
theorem flat_of_edge {S : List Pt} {a b : Pt} (hab : a ≠ b) (h : ∀ c ∈ S, cr a b c = 0) : Flat S := by
 intro x hx y hy z hz
 have e1 := h x hx
 have e2 := h y hy
 have e3 := h z hz
 have k0 : (b.f0 - a.f0) * cr x y z = 0 := by unfold cr at *; grind
 have k1 : (b.f1 - a.f1) * cr x y z = 0 := by unfold cr at *; grind
 rcases Int.mul_eq_zero.mp k0 with k | k
 ·rcases Int.mul_eq_zero.mp k1 with k' | k'
  ·exact absurd (pt_ext (by omega) (by omega)) hab
  ·exact k'
 ·exact k
theorem ring_three {S h : List Pt} (r : Ring S h) (hf : ¬ Flat S) : 3 ≤ h.length := by
 have hr := ring_at r
 have h0 : 0 < h.length := by obtain ⟨a, t, rfl, _⟩ := r; simp
 rcases Nat.lt_or_ge h.length 3 with h3 | h3
 ·exfalso
  have a1 := hr 0 h0
  by_cases e : h.length = 1
  ·rw [e] at a1; exact a1.1 rfl
  ·have e2 : h.length = 2 := by omega
   have a2 := hr 1 (by omega)
   rw [e2] at a1 a2
   simp only [Nat.zero_add, Nat.mod_self, Nat.one_mod] at a1 a2
   apply hf
   apply flat_of_edge a1.1
   intro c hc
   have b1 := (a1.2.2.2 c hc).1
   have b2 := (a2.2.2.2 c hc).1
   have : cr (at_ h (1 % 2)) (at_ h 0) c = - cr (at_ h 0) (at_ h (1 % 2)) c := by unfold cr; grind
   simp only [Nat.one_mod] at *
   omega
 ·exact h3
theorem ring_first {S h : List Pt} (r : Ring S h) (hf : ¬ Flat S) (i : Nat) (hi : i < h.length) (hmin : ∀ k, k < h.length → k = i ∨ first (at_ h i) (at_ h k)) : ∀ p ∈ S, p = at_ h i ∨ first (at_ h i) p := by
 have hn := ring_three r hf
 have hs := ring_strong r
 have hr := ring_at r
 intro x hx
 obtain ⟨B, hB⟩ := bounded (fun t => max ((at_ h i).f0 - t.f0) (t.f0 - (at_ h i).f0)) (x :: h)
 obtain ⟨j, hj, ej⟩ : ∃ j, j < h.length ∧ (j + 1) % h.length = i := by
  rcases Nat.eq_zero_or_pos i with rfl | h0
  ·exact ⟨h.length - 1, by omega, by rw [show h.length - 1 + 1 = h.length by omega, Nat.mod_self]⟩
  ·exact ⟨i - 1, by omega, by rw [show i - 1 + 1 = i by omega, Nat.mod_eq_of_lt hi]⟩
 have h1 := (hr j hj).2.2.2 x hx
 have h2 := (hr i hi).2.2.2 x hx
 have ht := strong_turn hn hs j hj
 have hm := mod_two hn hj
 have hm2 := mod_two hn hi
 have ej2 : (j + 1 + 1) % h.length = (i + 1) % h.length := by rw [← ej, Nat.mod_add_mod]
 rw [ej2, ej] at ht
 rw [ej] at h1 hm
 have hk : (i + 1) % h.length < h.length := Nat.mod_lt _ (by omega)
 have f1 : first (at_ h i) (at_ h j) := (hmin j hj).resolve_left (fun e => hm.2.2 e.symm)
 have f2 : first (at_ h i) (at_ h ((i + 1) % h.length)) := (hmin _ hk).resolve_left hm2.2.2
 generalize at_ h i = o at *
 generalize hu : at_ h j = u at *
 generalize hw : at_ h ((i + 1) % h.length) = w at *
 have bx := hB x (by simp)
 have bu := hB u (by rw [← hu]; simp [at_mem hj])
 have bw := hB w (by rw [← hw]; simp [at_mem hk])
 have F : ∀ t : Pt, max (o.f0 - t.f0) (t.f0 - o.f0) < B → (first o t ↔ 0 < fn 1 B o t) := by
  intro t hb
  unfold first fn
  constructor
  ·rintro (h | ⟨h, h'⟩)
   ·have := Int.mul_le_mul_of_nonneg_left (show 1 ≤ t.f1 - o.f1 by omega) (show 0 ≤ B by omega); omega
   ·rw [show t.f1 - o.f1 = 0 by omega]; omega
  ·intro h
   rcases Int.lt_trichotomy o.f1 t.f1 with h3 | h3 | h3
   ·exact .inl h3
   ·rw [show t.f1 - o.f1 = 0 by omega] at h; exact .inr ⟨h3, by omega⟩
   ·have := Int.mul_le_mul_of_nonneg_left (show 1 ≤ o.f1 - t.f1 by omega) (show 0 ≤ B by omega)
    have e : B * (t.f1 - o.f1) = - (B * (o.f1 - t.f1)) := by grind
    omega
 have g1 := (F u bu).1 f1
 have g2 := (F w bw).1 f2
 by_cases e : x = o
 ·exact .inl e
 ·right
  rw [F x bx]
  have id : fn 1 B o x * cr u o w = fn 1 B o w * cr u o x + fn 1 B o u * cr o w x := by unfold fn cr; grind
  have m1 := Int.mul_nonneg (Int.le_of_lt g2) h1.1
  have m2 := Int.mul_nonneg (Int.le_of_lt g1) h2.1
  rcases Int.lt_trichotomy 0 (fn 1 B o x) with h3 | h3 | h3
  ·exact h3
  ·exfalso
   rw [← h3] at id
   have z1 : fn 1 B o w * cr u o x = 0 := by omega
   have z2 : fn 1 B o u * cr o w x = 0 := by omega
   have z3 := (Int.mul_eq_zero.mp z1).resolve_left (by omega)
   have z4 := (Int.mul_eq_zero.mp z2).resolve_left (by omega)
   have y0 : cr u o w * (x.f0 - o.f0) = 0 := by unfold cr at *; grind
   have y1 : cr u o w * (x.f1 - o.f1) = 0 := by unfold cr at *; grind
   have := (Int.mul_eq_zero.mp y0).resolve_left (by omega)
   have := (Int.mul_eq_zero.mp y1).resolve_left (by omega)
   exact e (pt_ext (by omega) (by omega))
  ·have := Int.mul_neg_of_neg_of_pos h3 ht; omega
theorem first_tri (a b : Pt) : a = b ∨ first a b ∨ first b a := by
 unfold first
 rcases Int.lt_trichotomy a.f1 b.f1 with h | h | h
 ·exact .inr (.inl (.inl h))
 ·rcases Int.lt_trichotomy a.f0 b.f0 with h' | h' | h'
  ·exact .inr (.inl (.inr ⟨h, h'⟩))
  ·exact .inl (pt_ext h' h)
  ·exact .inr (.inr (.inr ⟨h.symm, h'⟩))
 ·exact .inr (.inr (.inl h))
theorem first_trans {a b c : Pt} (h : first a b) (h' : first b c) : first a c := by unfold first at *; omega
theorem first_irrefl (a : Pt) : ¬ first a a := by unfold first; omega
theorem rings_one {S h h' : List Pt} (hf : ¬ Flat S) (r : Ring S h) (r' : Ring S h') (m : ∀ k, k < h.length → k = 0 ∨ first (at_ h 0) (at_ h k)) (m' : ∀ p ∈ S, p = at_ h' 0 ∨ first (at_ h' 0) p) : h = h' := by
 have l := ring_three r hf
 have l' := ring_three r' hf
 have h1 := ring_first r hf 0 (by omega) m
 have a1 := (ring_corner r 0 (by omega)).2
 have a2 := (ring_corner r' 0 (by omega)).2
 have e : at_ h 0 = at_ h' 0 := by
  rcases h1 _ a2 with e | e
  ·exact e.symm
  ·rcases m' _ a1 with e' | e'
   ·exact e'
   ·exact absurd (first_trans e e') (first_irrefl _)
 apply ring_eq r r'
 obtain ⟨x, t, rfl, _⟩ := r
 obtain ⟨x', t', rfl, _⟩ := r'
 exact congrArg some e
theorem flat_ring {S h : List Pt} (r : Ring S h) (hf : Flat S) : h.length < 3 := by
 rcases Nat.lt_or_ge h.length 3 with h3 | h3
 ·exact h3
 ·have hs := (ring_strong r).2.2 0 2 (by omega) (by omega)
  have c0 := (ring_corner r 0 (by omega)).2
  have c1 := (ring_corner r ((0 + 1) % h.length) (Nat.mod_lt _ (by omega))).2
  have c2 := (ring_corner r 2 (by omega)).2
  have := hs.2 (hf _ c0 _ c1 _ c2)
  rw [Nat.mod_eq_of_lt (by omega)] at this
  omega
theorem flat_of_first {S : List Pt} {o : Pt} (h : ∀ a ∈ S, ∀ b ∈ S, cr o a b = 0) : Flat S := by
 by_cases e : ∃ a ∈ S, a ≠ o
 ·obtain ⟨a, ha, hne⟩ := e
  exact flat_of_edge (fun e => hne e.symm) (h a ha)
 ·have : ∀ a ∈ S, a = o := fun a ha => Classical.byContradiction fun hn => e ⟨a, ha, hn⟩
  intro a ha b hb c hc
  rw [this a ha, this b hb, this c hc, cr_self1]
theorem two_of_not_flat {S : List Pt} (hf : ¬ Flat S) : ∃ a b, a ∈ S ∧ b ∈ S ∧ a ≠ b := by
 apply Classical.byContradiction
 intro hn
 apply hf
 intro a ha b hb c hc
 have e : ∀ x ∈ S, x = a := fun x hx => Classical.byContradiction fun hne => hn ⟨x, a, hx, ha, hne⟩
 rw [e b hb, e c hc, cr_self1]
end Go.Proofs.Ytoffmpkgickfhaa.M
end
section
namespace Go.Proofs.Ytoffmpkgickfhaa.M
open Go.Proofs.Ytoffmpkgickfhaa.PG
def vec (a b : Pt) : Pt := ⟨b.f0 - a.f0, b.f1 - a.f1⟩
def cx (u v : Pt) : Int := u.f0 * v.f1 - u.f1 * v.f0
def ph (p q : Int) (u : Pt) : Int := p * u.f0 + q * u.f1
def plus (u v : Pt) : Pt := ⟨u.f0 + v.f0, u.f1 + v.f1⟩
theorem id3 (p q : Int) (u v w : Pt) : ph p q u * cx v w = ph p q v * cx u w - ph p q w * cx u v := by unfold ph cx; grind
theorem cx_swap (u v : Pt) : cx v u = - cx u v := by unfold cx; grind
theorem cr_cx (a b c : Pt) : cr a b c = cx (vec a b) (vec a c) := by unfold cr cx vec; dsimp only; grind
def P (l : List Pt) (i : Nat) : Pt := at_ l (i % l.length)
def ed (l : List Pt) (i : Nat) : Pt := vec (P l i) (P l (i + 1))
structure Cvx (p q : Int) (l : List Pt) : Prop where
 three : 3 ≤ l.length
 strong : Strong l
 low : ∀ k, k < l.length → k = 0 ∨ 0 < fn p q (at_ l 0) (at_ l k)
 some_ : ∀ i, ph p q (ed l i) ≠ 0
section
variable {p q : Int} {l : List Pt}
theorem P_lt {i : Nat} (h : i < l.length) : P l i = at_ l i := by unfold P; rw [Nat.mod_eq_of_lt h]
theorem P_len (l : List Pt) : P l l.length = P l 0 := by unfold P; rw [Nat.mod_self, Nat.zero_mod]
theorem P_add (l : List Pt) (i : Nat) : P l (i + l.length) = P l i := by unfold P; rw [Nat.add_mod_right]
theorem ed_add (l : List Pt) (i : Nat) : ed l (i + l.length) = ed l i := by unfold ed; rw [P_add, show i + l.length + 1 = (i + 1) + l.length by omega, P_add]
theorem ed_len (l : List Pt) : ed l l.length = ed l 0 := by have := ed_add l 0; rwa [Nat.zero_add] at this
theorem Cvx.left (h : Cvx p q l) (i k : Nat) : 0 ≤ cx (ed l i) (vec (P l i) (P l k)) ∧ (cx (ed l i) (vec (P l i) (P l k)) = 0 → P l k = P l i ∨ P l k = P l (i + 1)) := by
 have n0 : 0 < l.length := by have := h.three; omega
 have hi := Nat.mod_lt i n0
 have hk := Nat.mod_lt k n0
 obtain ⟨s1, s2⟩ := h.strong.2.2 _ _ hi hk
 have e : at_ l ((i % l.length + 1) % l.length) = P l (i + 1) := by unfold P; rw [Nat.mod_add_mod]
 rw [e] at s1 s2
 have e2 : cr (at_ l (i % l.length)) (P l (i + 1)) (at_ l (k % l.length)) = cx (ed l i) (vec (P l i) (P l k)) := cr_cx _ _ _
 rw [e2] at s1 s2
 refine ⟨s1, fun h0 => ?_⟩
 rcases s2 h0 with h1 | h1
 ·left; unfold P; rw [h1]
 ·right; rw [← e]; unfold P; rw [h1]
theorem Cvx.turn (h : Cvx p q l) (i : Nat) : 0 < cx (ed l i) (ed l (i + 1)) := by
 have n0 : 0 < l.length := by have := h.three; omega
 have hi := Nat.mod_lt i n0
 have t := strong_turn h.three h.strong _ hi
 have e1 : at_ l ((i % l.length + 1) % l.length) = P l (i + 1) := by unfold P; rw [Nat.mod_add_mod]
 have e2 : at_ l ((i % l.length + 1 + 1) % l.length) = P l (i + 2) := by
  unfold P; rw [show i % l.length + 1 + 1 = i % l.length + 2 by omega, Nat.mod_add_mod]
 rw [e1, e2, cr_cx] at t
 have : cx (vec (P l i) (P l (i + 1))) (vec (P l i) (P l (i + 2))) = cx (ed l i) (ed l (i + 1)) := by unfold ed cx vec; dsimp only; grind
 rw [← this]; exact t
theorem Cvx.up0 (h : Cvx p q l) : 0 < ph p q (ed l 0) := by
 have h3 := h.three
 have := (h.low 1 (by omega)).resolve_left (by omega)
 unfold ed; rw [P_lt (by omega), P_lt (by omega)]; exact this
theorem Cvx.down (h : Cvx p q l) : ph p q (ed l (l.length - 1)) < 0 := by
 have h3 := h.three
 have := (h.low (l.length - 1) (by omega)).resolve_left (by omega)
 unfold ed; rw [P_lt (by omega), show l.length - 1 + 1 = l.length by omega, P_len, P_lt (by omega)]
 unfold fn at this; unfold ph vec; dsimp only
 rw [Int.mul_sub, Int.mul_sub] at *; omega
theorem Cvx.extreme (h : Cvx p q l) (j : Nat) (e : Pt) (h1 : 0 ≤ cx e (ed l (j + 1))) (h2 : 0 < cx (ed l j) e) (k : Nat) :
  0 ≤ cx e (vec (P l (j + 1)) (P l k)) ∧ (cx e (vec (P l (j + 1)) (P l k)) = 0 → P l k = P l (j + 1) ∨ (cx e (ed l (j + 1)) = 0 ∧ P l k = P l (j + 2))) := by
 have T := h.turn j
 obtain ⟨a1, a2⟩ := h.left (j + 1) k
 obtain ⟨b1, _⟩ := h.left j k
 have b1' : 0 ≤ cx (ed l j) (vec (P l (j + 1)) (P l k)) := by
  have : cx (ed l j) (vec (P l (j + 1)) (P l k)) = cx (ed l j) (vec (P l j) (P l k)) := by unfold ed cx vec; dsimp only; grind
  rw [this]; exact b1
 generalize hw : vec (P l (j + 1)) (P l k) = w at *
 have id : cx (ed l j) (ed l (j + 1)) * cx e w = cx (ed l j) w * cx e (ed l (j + 1)) + cx (ed l (j + 1)) w * cx (ed l j) e := by unfold cx; grind
 have m1 : 0 ≤ cx (ed l j) w * cx e (ed l (j + 1)) := Int.mul_nonneg b1' h1
 have m2 : 0 ≤ cx (ed l (j + 1)) w * cx (ed l j) e := Int.mul_nonneg a1 (by omega)
 refine ⟨nonneg_of_mul T (by omega), fun h0 => ?_⟩
 rw [h0, Int.mul_zero] at id
 have z2 : cx (ed l (j + 1)) w * cx (ed l j) e = 0 := by omega
 have z1 : cx (ed l j) w * cx e (ed l (j + 1)) = 0 := by omega
 have z3 : cx (ed l (j + 1)) w = 0 := by
  rcases Int.mul_eq_zero.mp z2 with h | h
  ·exact h
  ·omega
 rcases a2 z3 with h4 | h4
 ·exact Or.inl h4
 ·right
  have e3 : w = ed l (j + 1) := by rw [← hw]; unfold ed; rw [h4]
  rw [e3] at z1
  rcases Int.mul_eq_zero.mp z1 with h | h
  ·omega
  ·exact ⟨h, h4⟩
theorem Cvx.phases (h : Cvx p q l) (i : Nat) (hi : i + 1 < l.length) : ¬ (ph p q (ed l i) < 0 ∧ 0 < ph p q (ed l (i + 1))) := by
 rintro ⟨h1, h2⟩
 have T := h.turn i
 obtain ⟨a1, _⟩ := h.left (i + 1) 0
 obtain ⟨b1, _⟩ := h.left i 0
 have b1' : 0 ≤ cx (ed l i) (vec (P l (i + 1)) (P l 0)) := by
  have : cx (ed l i) (vec (P l (i + 1)) (P l 0)) = cx (ed l i) (vec (P l i) (P l 0)) := by unfold ed cx vec; dsimp only; grind
  rw [this]; exact b1
 have hlow := (h.low (i + 1) hi).resolve_left (by omega)
 have hw : ph p q (vec (P l (i + 1)) (P l 0)) < 0 := by
  rw [P_lt hi, P_lt (by omega)]; unfold fn at hlow; unfold ph vec; dsimp only
  rw [Int.mul_sub, Int.mul_sub] at *; omega
 generalize vec (P l (i + 1)) (P l 0) = w at *
 have id := id3 p q w (ed l i) (ed l (i + 1))
 have s1 : cx w (ed l (i + 1)) = - cx (ed l (i + 1)) w := cx_swap _ _
 have s2 : cx w (ed l i) = - cx (ed l i) w := cx_swap _ _
 rw [s1, s2] at id
 have m1 : ph p q w * cx (ed l i) (ed l (i + 1)) < 0 := Int.mul_neg_of_neg_of_pos hw T
 have m2 : 0 ≤ ph p q (ed l i) * - cx (ed l (i + 1)) w := Int.mul_nonneg_of_nonpos_of_nonpos (by omega) (by omega)
 have m3 : ph p q (ed l (i + 1)) * - cx (ed l i) w ≤ 0 := Int.mul_nonpos_of_nonneg_of_nonpos (by omega) (by omega)
 omega
def Bf (p q : Int) (u v : Pt) : Prop := (0 < ph p q u ∧ ph p q v < 0) ∨ (0 < ph p q u ∧ 0 < ph p q v ∧ 0 < cx u v) ∨ (ph p q u < 0 ∧ ph p q v < 0 ∧ 0 < cx u v)
theorem Bf.trans {u v w : Pt} (h1 : Bf p q u v) (h2 : Bf p q v w) : Bf p q u w := by
 have id := id3 p q v u w
 have s : cx v u = - cx u v := cx_swap u v
 rw [s] at id
 rcases h1 with ⟨a, b⟩ | ⟨a, b, c⟩ | ⟨a, b, c⟩ <;> rcases h2 with ⟨d, e⟩ | ⟨d, e, f⟩ | ⟨d, e, f⟩
 ·omega
 ·omega
 ·exact Or.inl ⟨a, e⟩
 ·exact Or.inl ⟨a, e⟩
 ·refine Or.inr (Or.inl ⟨a, e, ?_⟩)
  have m1 : 0 < ph p q u * cx v w := Int.mul_pos a f
  have m2 : ph p q w * - cx u v < 0 := Int.mul_neg_of_pos_of_neg e (by omega)
  exact pos_of_mul d (by omega)
 ·omega
 ·omega
 ·omega
 ·refine Or.inr (Or.inr ⟨a, e, ?_⟩)
  have m1 : ph p q u * cx v w < 0 := Int.mul_neg_of_neg_of_pos a f
  have m2 : 0 < ph p q w * - cx u v := Int.mul_pos_of_neg_of_neg e (by omega)
  rcases Int.lt_or_le 0 (cx u w) with h | h
  ·exact h
  ·have : 0 ≤ ph p q v * cx u w := Int.mul_nonneg_of_nonpos_of_nonpos (by omega) h
   omega
theorem Cvx.sorted (h : Cvx p q l) (i : Nat) (hi : i + 1 < l.length) : Bf p q (ed l i) (ed l (i + 1)) := by
 have T := h.turn i
 have hp := h.phases i hi
 have n1 := h.some_ i
 have n2 := h.some_ (i + 1)
 unfold Bf
 omega
end
end Go.Proofs.Ytoffmpkgickfhaa.M
end
section
namespace Go.Proofs.Ytoffmpkgickfhaa.M
open Go.Proofs.Ytoffmpkgickfhaa.PG
abbrev El := Pt × Int × Int
abbrev X (e : El) : Int := e.2.1
abbrev Y (e : El) : Int := e.2.2
def s0 (f : El → Int) : List El → Int
 | [] => 0
 | e :: L => f e * e.1.f0 + s0 f L
def s1 (f : El → Int) : List El → Int
 | [] => 0
 | e :: L => f e * e.1.f1 + s1 f L
def Bq (f g : El → Int) : List El → Int
 | [] => 0
 | e :: L => f e * (e.1.f0 * s1 g L - e.1.f1 * s0 g L) + g e * (e.1.f0 * s1 f L - e.1.f1 * s0 f L) + Bq f g L
theorem s0_app (f : El → Int) (L M : List El) : s0 f (L ++ M) = s0 f L + s0 f M := by
 induction L with
 | nil => simp [s0]
 | cons e L ih => simp only [List.cons_append, s0, ih]; omega
theorem s1_app (f : El → Int) (L M : List El) : s1 f (L ++ M) = s1 f L + s1 f M := by
 induction L with
 | nil => simp [s1]
 | cons e L ih => simp only [List.cons_append, s1, ih]; omega
theorem Bq_app (f g : El → Int) (L M : List El) : Bq f g (L ++ M) = Bq f g L + Bq f g M + (s0 f L * s1 g M - s1 f L * s0 g M) + (s0 g L * s1 f M - s1 g L * s0 f M) := by
 induction L with
 | nil => simp [Bq, s0, s1]
 | cons e L ih => simp only [List.cons_append, Bq, s0, s1, s0_app, s1_app, ih]; grind
def Clo (f : El → Int) (L : List El) : Prop := s0 f L = 0 ∧ s1 f L = 0
theorem Clo.rot {f : El → Int} {L M : List El} (h : Clo f (L ++ M)) : Clo f (M ++ L) := by
 unfold Clo at *; rw [s0_app, s1_app] at *; omega
theorem Bq_rot {f g : El → Int} {L M : List El} (hf : Clo f (L ++ M)) (hg : Clo g (L ++ M)) : Bq f g (M ++ L) = Bq f g (L ++ M) := by
 unfold Clo at *; rw [s0_app, s1_app] at *
 obtain ⟨f0, f1⟩ := hf
 obtain ⟨g0, g1⟩ := hg
 have a0 : s0 f M = - s0 f L := by omega
 have a1 : s1 f M = - s1 f L := by omega
 have b0 : s0 g M = - s0 g L := by omega
 have b1 : s1 g M = - s1 g L := by omega
 rw [Bq_app, Bq_app, a0, a1, b0, b1]; grind
def tri (a b c : Pt) : Prop := (0 < cx a b ∧ 0 < cx b c) ∨ (0 < cx b c ∧ 0 < cx c a) ∨ (0 < cx c a ∧ 0 < cx a b)
theorem tri.rot {a b c : Pt} (h : tri a b c) : tri b c a := by unfold tri at *; omega
def Cyc (L : List El) : Prop := ∀ a b c, List.Sublist [a, b, c] (L.map Prod.fst) → tri a b c
theorem Cyc.sub {L M : List El} (h : Cyc L) (s : List.Sublist M L) : Cyc M := fun a b c t => h a b c (t.trans (s.map _))
theorem Cyc.rot {L M : List El} (h : Cyc (L ++ M)) : Cyc (M ++ L) := by
 intro a b c t
 rw [List.map_append] at t
 obtain ⟨t1, t2, e, h1, h2⟩ := List.sublist_append_iff.mp t
 have key : List.Sublist (t2 ++ t1) ((L ++ M).map Prod.fst) := by rw [List.map_append]; exact h2.append h1
 match t1, t2, e with
 | [], t2, e => rw [List.nil_append] at e; subst e; exact h _ _ _ (by simpa using key)
 | [x], t2, e => simp only [List.cons_append, List.nil_append, List.cons.injEq] at e; obtain ⟨rfl, rfl⟩ := e; exact (h _ _ _ (by simpa using key)).rot.rot
 | [x, y], t2, e => simp only [List.cons_append, List.nil_append, List.cons.injEq] at e; obtain ⟨rfl, rfl, rfl⟩ := e; exact (h _ _ _ (by simpa using key)).rot
 | [x, y, z], t2, e => simp only [List.cons_append, List.nil_append, List.cons.injEq] at e; obtain ⟨rfl, rfl, rfl, e4⟩ := e; subst e4; exact h _ _ _ (by simpa using key)
 | x :: y :: z :: w :: r, t2, e => simp at e
def Tq (f g : El → Int) : Int → Int → List El → Int
 | _, _, [] => 0
 | a0, a1, e :: L => f e * (a0 * e.1.f1 - a1 * e.1.f0) + Tq f g (a0 + g e * e.1.f0) (a1 + g e * e.1.f1) L
theorem Tq_eq (f g : El → Int) : ∀ (L : List El) (a0 a1 : Int), 2 * Tq f g a0 a1 L = Bq f g L - (s0 f L * s1 g L - s1 f L * s0 g L) + 2 * (a0 * s1 f L - a1 * s0 f L) := by
 intro L
 induction L with
 | nil => intro a0 a1; simp [Tq, Bq, s0, s1]
 | cons e L ih =>
  intro a0 a1
  have := ih (a0 + g e * e.1.f0) (a1 + g e * e.1.f1)
  simp only [Tq, Bq, s0, s1]; grind
theorem cross_sum (f : El → Int) (v : Pt) : ∀ L : List El, (∀ e ∈ L, 0 ≤ f e * cx e.1 v) → 0 ≤ s0 f L * v.f1 - s1 f L * v.f0 := by
 intro L
 induction L with
 | nil => intro _; simp [s0, s1]
 | cons e L ih =>
  intro h
  have h1 := h e (by simp)
  have h2 := ih (fun x hx => h x (by simp [hx]))
  have : (f e * e.1.f0 + s0 f L) * v.f1 - (f e * e.1.f1 + s1 f L) * v.f0 = f e * cx e.1 v + (s0 f L * v.f1 - s1 f L * v.f0) := by unfold cx; grind
  simp only [s0, s1]; omega
theorem cross_sum' (f : El → Int) (v : Pt) : ∀ L : List El, (∀ e ∈ L, f e * cx e.1 v ≤ 0) → s0 f L * v.f1 - s1 f L * v.f0 ≤ 0 := by
 intro L
 induction L with
 | nil => intro _; simp [s0, s1]
 | cons e L ih =>
  intro h
  have h1 := h e (by simp)
  have h2 := ih (fun x hx => h x (by simp [hx]))
  have : (f e * e.1.f0 + s0 f L) * v.f1 - (f e * e.1.f1 + s1 f L) * v.f0 = f e * cx e.1 v + (s0 f L * v.f1 - s1 f L * v.f0) := by unfold cx; grind
  simp only [s0, s1]; omega
theorem support {g : El → Int} {P R : List El} {e : El} (hg : ∀ x ∈ P ++ e :: R, 0 ≤ g x) (hc : Clo g (P ++ e :: R)) (hC : Cyc (P ++ e :: R)) : 0 ≤ s0 g P * e.1.f1 - s1 g P * e.1.f0 := by
 have hC2 : Cyc (e :: R ++ P) := hC.rot
 by_cases hp : ∃ x ∈ R, 0 < cx x.1 e.1
 ·obtain ⟨x, hx, h0⟩ := hp
  refine cross_sum g e.1 P (fun y hy => Int.mul_nonneg (hg y (by simp [hy])) ?_)
  have s : List.Sublist [e.1, x.1, y.1] ((e :: R ++ P).map Prod.fst) := by
   rw [List.cons_append, List.map_cons, List.map_append]
   exact List.Sublist.cons_cons _ (List.Sublist.append (l₁ := [x.1]) (r₁ := [y.1]) (List.singleton_sublist.mpr (List.mem_map_of_mem hx)) (List.singleton_sublist.mpr (List.mem_map_of_mem hy)))
  have t := hC2 _ _ _ s
  have sw := cx_swap e.1 x.1
  unfold tri at t; omega
 ·have hR : s0 g R * e.1.f1 - s1 g R * e.1.f0 ≤ 0 := cross_sum' g e.1 R (fun y hy => by
   rcases Int.lt_or_le 0 (cx y.1 e.1) with h | h
   ·exact absurd ⟨y, hy, h⟩ hp
   ·exact Int.mul_nonpos_of_nonneg_of_nonpos (hg y (by simp [hy])) h)
  unfold Clo at hc
  rw [s0_app, s1_app] at hc
  simp only [s0, s1] at hc
  have e0 : s0 g P = - (g e * e.1.f0 + s0 g R) := by omega
  have e1 : s1 g P = - (g e * e.1.f1 + s1 g R) := by omega
  have : s0 g P * e.1.f1 - s1 g P * e.1.f0 = - (s0 g R * e.1.f1 - s1 g R * e.1.f0) := by rw [e0, e1]; grind
  omega
theorem Tq_nonneg {f g : El → Int} : ∀ (L P : List El), (∀ x ∈ P ++ L, 0 ≤ f x) → (∀ x ∈ P ++ L, 0 ≤ g x) → Clo g (P ++ L) → Cyc (P ++ L) → 0 ≤ Tq f g (s0 g P) (s1 g P) L := by
 intro L
 induction L with
 | nil => intro P _ _ _ _; simp [Tq]
 | cons e L ih =>
  intro P hf hg hc hC
  have e1 : P ++ e :: L = (P ++ [e]) ++ L := by simp
  have h1 := support hg hc hC
  rw [e1] at hf hg hc hC
  have h2 := ih (P ++ [e]) hf hg hc hC
  rw [s0_app, s1_app] at h2
  simp only [s0, s1, Int.add_zero] at h2
  simp only [Tq]
  have := Int.mul_nonneg (hf e (by simp)) h1
  omega
theorem Bq_nonneg {f g : El → Int} {L : List El} (hf : ∀ x ∈ L, 0 ≤ f x) (hg : ∀ x ∈ L, 0 ≤ g x) (cf : Clo f L) (cg : Clo g L) (hC : Cyc L) : 0 ≤ Bq f g L := by
 have h := Tq_nonneg (f := f) (g := g) L [] hf hg cg hC
 have e := Tq_eq f g L (s0 g []) (s1 g [])
 unfold Clo at cf cg
 rw [cf.1, cf.2, cg.1, cg.2] at e
 simp only [s0, s1] at h e
 omega
end Go.Proofs.Ytoffmpkgickfhaa.M
end
section
namespace Go.Proofs.Ytoffmpkgickfhaa.M
open Go.Proofs.Ytoffmpkgickfhaa.PG
theorem s0_lin (f g : El → Int) (a b : Int) (L : List El) : s0 (fun e => a * f e + b * g e) L = a * s0 f L + b * s0 g L := by
 induction L with
 | nil => simp [s0]
 | cons e L ih => simp only [s0, ih]; grind
theorem s1_lin (f g : El → Int) (a b : Int) (L : List El) : s1 (fun e => a * f e + b * g e) L = a * s1 f L + b * s1 g L := by
 induction L with
 | nil => simp [s1]
 | cons e L ih => simp only [s1, ih]; grind
theorem Bq_lin (f g h : El → Int) (a b : Int) (L : List El) : Bq (fun e => a * f e + b * g e) h L = a * Bq f h L + b * Bq g h L := by
 induction L with
 | nil => simp [Bq]
 | cons e L ih => simp only [Bq, ih, s0_lin, s1_lin]; grind
theorem Bq_comm (f g : El → Int) (L : List El) : Bq f g L = Bq g f L := by
 induction L with
 | nil => rfl
 | cons e L ih => simp only [Bq, ih]; omega
theorem s0_map (f : El → Int) (m : El → El) (h : ∀ e, (m e).1 = e.1) (L : List El) : s0 f (L.map m) = s0 (fun e => f (m e)) L := by
 induction L with
 | nil => rfl
 | cons e L ih => simp only [List.map_cons, s0, ih, h]
theorem s1_map (f : El → Int) (m : El → El) (h : ∀ e, (m e).1 = e.1) (L : List El) : s1 f (L.map m) = s1 (fun e => f (m e)) L := by
 induction L with
 | nil => rfl
 | cons e L ih => simp only [List.map_cons, s1, ih, h]
theorem Bq_map (f g : El → Int) (m : El → El) (h : ∀ e, (m e).1 = e.1) (L : List El) : Bq f g (L.map m) = Bq (fun e => f (m e)) (fun e => g (m e)) L := by
 induction L with
 | nil => rfl
 | cons e L ih => simp only [List.map_cons, Bq, ih, h, s0_map f m h, s1_map f m h, s0_map g m h, s1_map g m h]
theorem cyc_map (m : El → El) (h : ∀ e, (m e).1 = e.1) {L : List El} (hC : Cyc L) : Cyc (L.map m) := by
 unfold Cyc at *
 have : (L.map m).map Prod.fst = L.map Prod.fst := by rw [List.map_map]; exact List.map_congr_left (fun e _ => h e)
 rw [this]; exact hC
theorem Bq_flat (f : El → Int) (p : Pt) (hp : ¬ (p.f0 = 0 ∧ p.f1 = 0)) : ∀ L : List El, (∀ e ∈ L, f e * cx p e.1 = 0) → Bq f f L = 0 ∧ p.f0 * s1 f L - p.f1 * s0 f L = 0 := by
 intro L
 induction L with
 | nil => intro _; simp [Bq, s0, s1]
 | cons e L ih =>
  intro h
  obtain ⟨h1, h2⟩ := ih (fun x hx => h x (by simp [hx]))
  have h3 := h e (by simp)
  unfold cx at h3
  have z : f e * (e.1.f0 * s1 f L - e.1.f1 * s0 f L) = 0 := by
   have z0 : p.f0 * (f e * (e.1.f0 * s1 f L - e.1.f1 * s0 f L)) = 0 := by grind
   have z1 : p.f1 * (f e * (e.1.f0 * s1 f L - e.1.f1 * s0 f L)) = 0 := by grind
   rcases Int.mul_eq_zero.mp z0 with h | h
   ·rcases Int.mul_eq_zero.mp z1 with h' | h'
    ·exact absurd ⟨h, h'⟩ hp
    ·exact h'
   ·exact h
  refine ⟨by simp only [Bq]; omega, by simp only [s0, s1]; grind⟩
def Ok (L : List El) : Prop := (∀ e ∈ L, 0 ≤ X e ∧ 0 ≤ Y e) ∧ Clo X L ∧ Clo Y L ∧ Cyc L
def Ineq (L : List El) : Prop := Bq X X L * Bq Y Y L ≤ Bq X Y L * Bq X Y L
theorem Ok.rot {L M : List El} (h : Ok (L ++ M)) : Ok (M ++ L) :=
 ⟨fun e he => h.1 e (by simp only [List.mem_append] at *; exact he.symm), h.2.1.rot, h.2.2.1.rot, h.2.2.2.rot⟩
theorem Ineq.rot {L M : List El} (ok : Ok (L ++ M)) (h : Ineq (M ++ L)) : Ineq (L ++ M) := by
 unfold Ineq at *
 rw [Bq_rot ok.2.1 ok.2.1, Bq_rot ok.2.2.1 ok.2.2.1, Bq_rot ok.2.1 ok.2.2.1] at h; exact h
def swp (e : El) : El := (e.1, e.2.2, e.2.1)
theorem Ok.swap {L : List El} (h : Ok L) : Ok (L.map swp) := by
 refine ⟨fun e he => ?_, ?_, ?_, cyc_map swp (fun _ => rfl) h.2.2.2⟩
 ·obtain ⟨x, hx, rfl⟩ := List.mem_map.mp he
  have := h.1 x hx; unfold X Y swp at *; dsimp only; omega
 ·unfold Clo; rw [s0_map _ swp (fun _ => rfl), s1_map _ swp (fun _ => rfl)]; exact h.2.2.1
 ·unfold Clo; rw [s0_map _ swp (fun _ => rfl), s1_map _ swp (fun _ => rfl)]; exact h.2.1
theorem Ineq.swap {L : List El} (h : Ineq (L.map swp)) : Ineq L := by
 unfold Ineq at *
 rw [Bq_map _ _ swp (fun _ => rfl), Bq_map _ _ swp (fun _ => rfl), Bq_map _ _ swp (fun _ => rfl)] at h
 have e1 : Bq (fun e => X (swp e)) (fun e => X (swp e)) L = Bq Y Y L := rfl
 have e2 : Bq (fun e => Y (swp e)) (fun e => Y (swp e)) L = Bq X X L := rfl
 have e3 : Bq (fun e => X (swp e)) (fun e => Y (swp e)) L = Bq X Y L := Bq_comm Y X L
 rw [e1, e2, e3, Int.mul_comm] at h; exact h
theorem move (m u p : Pt) (xm xp ym yp yu b z : Int) (R : List El) (h0 : yu * u.f0 = b * m.f0 + z * p.f0) (h1 : yu * u.f1 = b * m.f1 + z * p.f1) :
  s0 Y ((m, xm, ym + b) :: (p, xp, yp + z) :: R) = s0 Y ((m, xm, ym) :: (u, 0, yu) :: (p, xp, yp) :: R) ∧
  s1 Y ((m, xm, ym + b) :: (p, xp, yp + z) :: R) = s1 Y ((m, xm, ym) :: (u, 0, yu) :: (p, xp, yp) :: R) ∧
  Bq X Y ((m, xm, ym + b) :: (p, xp, yp + z) :: R) = Bq X Y ((m, xm, ym) :: (u, 0, yu) :: (p, xp, yp) :: R) ∧
  Bq Y Y ((m, xm, ym + b) :: (p, xp, yp + z) :: R) = Bq Y Y ((m, xm, ym) :: (u, 0, yu) :: (p, xp, yp) :: R) + 2 * (b * (z * cx m p)) ∧
  Bq X X ((m, xm, ym + b) :: (p, xp, yp + z) :: R) = Bq X X ((m, xm, ym) :: (u, 0, yu) :: (p, xp, yp) :: R) := by
 simp only [Bq, s0, s1, X, Y, cx]
 refine ⟨by grind, by grind, ?_, ?_, by grind⟩
 ·grind
 ·grind
end Go.Proofs.Ytoffmpkgickfhaa.M
end
section
namespace Go.Proofs.Ytoffmpkgickfhaa.M
open Go.Proofs.Ytoffmpkgickfhaa.PG
theorem each_zero (f : El → Int) (p : Pt) : ∀ L : List El, (∀ e ∈ L, 0 ≤ f e * cx p e.1) → p.f0 * s1 f L - p.f1 * s0 f L = 0 → ∀ e ∈ L, f e * cx p e.1 = 0 := by
 intro L
 induction L with
 | nil => intro _ _ e he; simp at he
 | cons e L ih =>
  intro h hz x hx
  have h1 := h e (by simp)
  have h2 := cross_sum' f p L (fun y hy => by
   have := h y (by simp [hy])
   rw [cx_swap p y.1, Int.mul_neg]; omega)
  have e1 : p.f0 * s1 f (e :: L) - p.f1 * s0 f (e :: L) = f e * cx p e.1 - (s0 f L * p.f1 - s1 f L * p.f0) := by unfold cx; simp only [s0, s1]; grind
  rw [e1] at hz
  rcases List.mem_cons.mp hx with r | r
  ·subst r; omega
  ·exact ih (fun y hy => h y (by simp [hy])) (by rw [Int.mul_comm p.f0, Int.mul_comm p.f1]; omega) x r
theorem Bq_first (f : El → Int) (e : El) (L : List El) (h : Clo f (e :: L)) : Bq f f (e :: L) = Bq f f L := by
 unfold Clo at h
 simp only [s0, s1] at h
 have a : s0 f L = - (f e * e.1.f0) := by omega
 have b : s1 f L = - (f e * e.1.f1) := by omega
 simp only [Bq, a, b]; grind
theorem sq_nonneg (a : Int) : 0 ≤ a * a := by
 rcases Int.le_total 0 a with h | h
 ·exact Int.mul_nonneg h h
 ·exact Int.mul_nonneg_of_nonpos_of_nonpos h h
theorem Ineq.of_flat {L : List El} (h : Bq X X L = 0) : Ineq L := by
 unfold Ineq; rw [h, Int.zero_mul]; exact sq_nonneg _
def scY (c : Int) (e : El) : El := (e.1, e.2.1, c * e.2.2)
theorem s0_sc (f : El → Int) (c : Int) (L : List El) : s0 (fun e => c * f e) L = c * s0 f L := by
 have := s0_lin f f c 0 L; simpa using this
theorem s1_sc (f : El → Int) (c : Int) (L : List El) : s1 (fun e => c * f e) L = c * s1 f L := by
 have := s1_lin f f c 0 L; simpa using this
theorem Bq_sc (f h : El → Int) (c : Int) (L : List El) : Bq (fun e => c * f e) h L = c * Bq f h L := by
 have := Bq_lin f f h c 0 L; simpa using this
theorem less_one {m u p : El} {R : List El} (ok : Ok (m :: u :: p :: R)) (hu : X u = 0) (ih : ∀ L', L'.length < (m :: u :: p :: R).length → Ok L' → Ineq L') : Ineq (m :: u :: p :: R) := by
 obtain ⟨m, xm, ym⟩ := m
 obtain ⟨u, xu, yu⟩ := u
 obtain ⟨p, xp, yp⟩ := p
 have hxu : xu = 0 := hu
 subst hxu
 obtain ⟨pos, cX, cY, cyc⟩ := ok
 have t1 : tri m u p := cyc _ _ _ (by simp)
 by_cases hc : 0 < cx m p
 ·have sw := cx_swap m p
  have ha : 0 < cx u p := by unfold tri at t1; omega
  have hg : 0 < cx m u := by unfold tri at t1; omega
  have pm := pos (m, xm, ym) (by simp)
  have pp := pos (p, xp, yp) (by simp)
  have pu := pos (u, 0, yu) (by simp)
  dsimp only [X, Y] at pm pp pu
  obtain ⟨c, hcd⟩ : ∃ c, c = cx m p := ⟨_, rfl⟩
  obtain ⟨R1, hR1⟩ : ∃ R1, R1 = R.map (scY c) := ⟨_, rfl⟩
  have L1 : (m, xm, c * ym) :: (u, 0, c * yu) :: (p, xp, c * yp) :: R1 = ((m, xm, ym) :: (u, 0, yu) :: (p, xp, yp) :: R).map (scY c) := by rw [hR1]; rfl
  have v0 : c * yu * u.f0 = yu * cx u p * m.f0 + yu * cx m u * p.f0 := by rw [hcd]; unfold cx; grind
  have v1 : c * yu * u.f1 = yu * cx u p * m.f1 + yu * cx m u * p.f1 := by rw [hcd]; unfold cx; grind
  obtain ⟨g0, g1, g2, g3, g4⟩ := move m u p xm xp (c * ym) (c * yp) (c * yu) (yu * cx u p) (yu * cx m u) R1 v0 v1
  have n1 : 0 ≤ c * ym := Int.mul_nonneg (by omega) pm.2
  have n2 : 0 ≤ c * yp := Int.mul_nonneg (by omega) pp.2
  have n3 : 0 ≤ yu * cx u p := Int.mul_nonneg pu.2 (by omega)
  have n4 : 0 ≤ yu * cx m u := Int.mul_nonneg pu.2 (by omega)
  have sX0 : s0 X (((m, xm, ym) :: (u, 0, yu) :: (p, xp, yp) :: R).map (scY c)) = s0 X ((m, xm, ym) :: (u, 0, yu) :: (p, xp, yp) :: R) := by rw [s0_map _ (scY c) (fun _ => rfl)]; rfl
  have sX1 : s1 X (((m, xm, ym) :: (u, 0, yu) :: (p, xp, yp) :: R).map (scY c)) = s1 X ((m, xm, ym) :: (u, 0, yu) :: (p, xp, yp) :: R) := by rw [s1_map _ (scY c) (fun _ => rfl)]; rfl
  have sY0 : s0 Y (((m, xm, ym) :: (u, 0, yu) :: (p, xp, yp) :: R).map (scY c)) = c * s0 Y ((m, xm, ym) :: (u, 0, yu) :: (p, xp, yp) :: R) := by rw [s0_map _ (scY c) (fun _ => rfl), ← s0_sc]; rfl
  have sY1 : s1 Y (((m, xm, ym) :: (u, 0, yu) :: (p, xp, yp) :: R).map (scY c)) = c * s1 Y ((m, xm, ym) :: (u, 0, yu) :: (p, xp, yp) :: R) := by rw [s1_map _ (scY c) (fun _ => rfl), ← s1_sc]; rfl
  have bXX : Bq X X (((m, xm, ym) :: (u, 0, yu) :: (p, xp, yp) :: R).map (scY c)) = Bq X X ((m, xm, ym) :: (u, 0, yu) :: (p, xp, yp) :: R) := by rw [Bq_map _ _ (scY c) (fun _ => rfl)]; rfl
  have bXY : Bq X Y (((m, xm, ym) :: (u, 0, yu) :: (p, xp, yp) :: R).map (scY c)) = c * Bq X Y ((m, xm, ym) :: (u, 0, yu) :: (p, xp, yp) :: R) := by
   rw [Bq_map _ _ (scY c) (fun _ => rfl), Bq_comm X Y, ← Bq_sc, Bq_comm]; rfl
  have bYY : Bq Y Y (((m, xm, ym) :: (u, 0, yu) :: (p, xp, yp) :: R).map (scY c)) = c * (c * Bq Y Y ((m, xm, ym) :: (u, 0, yu) :: (p, xp, yp) :: R)) := by
   have e1 : Bq Y (fun e => c * Y e) ((m, xm, ym) :: (u, 0, yu) :: (p, xp, yp) :: R) = c * Bq Y Y ((m, xm, ym) :: (u, 0, yu) :: (p, xp, yp) :: R) := by rw [Bq_comm, Bq_sc]
   rw [Bq_map _ _ (scY c) (fun _ => rfl), ← e1, ← Bq_sc]; rfl
  rw [L1] at g0 g1 g2 g3 g4
  have ok2 : Ok ((m, xm, c * ym + yu * cx u p) :: (p, xp, c * yp + yu * cx m u) :: R1) := by
   refine ⟨fun e he => ?_, ⟨?_, ?_⟩, ⟨?_, ?_⟩, ?_⟩
   ·rcases List.mem_cons.mp he with r | he
    ·subst r; dsimp only [X, Y]; omega
    ·rcases List.mem_cons.mp he with r | he
     ·subst r; dsimp only [X, Y]; omega
     ·rw [hR1] at he
      obtain ⟨y, hy, rfl⟩ := List.mem_map.mp he
      have := pos y (by simp [hy])
      exact ⟨this.1, Int.mul_nonneg (by omega) this.2⟩
   ·have e : s0 X ((m, xm, c * ym + yu * cx u p) :: (p, xp, c * yp + yu * cx m u) :: R1) = s0 X ((m, xm, c * ym) :: (u, 0, c * yu) :: (p, xp, c * yp) :: R1) := by simp only [s0, X]; omega
    rw [e, L1, sX0]; exact cX.1
   ·have e : s1 X ((m, xm, c * ym + yu * cx u p) :: (p, xp, c * yp + yu * cx m u) :: R1) = s1 X ((m, xm, c * ym) :: (u, 0, c * yu) :: (p, xp, c * yp) :: R1) := by simp only [s1, X]; omega
    rw [e, L1, sX1]; exact cX.2
   ·rw [g0, sY0, cY.1, Int.mul_zero]
   ·rw [g1, sY1, cY.2, Int.mul_zero]
   ·have c2 : Cyc ((m, xm, c * ym) :: (p, xp, c * yp) :: R1) := by
     have : Cyc (((m, xm, ym) :: (u, 0, yu) :: (p, xp, yp) :: R).map (scY c)) := cyc_map (scY c) (fun _ => rfl) cyc
     rw [← L1] at this
     exact this.sub (List.Sublist.cons_cons _ (List.Sublist.cons _ (List.Sublist.refl _)))
    intro a b d hs
    exact c2 a b d (by simpa using hs)
  have I := ih _ (by rw [hR1]; simp) ok2
  unfold Ineq at I ⊢
  rw [g2, g3, g4, bXX, bXY, bYY] at I
  have nn : 0 ≤ Bq X X ((m, xm, ym) :: (u, 0, yu) :: (p, xp, yp) :: R) := Bq_nonneg (fun e he => (pos e he).1) (fun e he => (pos e he).1) cX cX cyc
  have n5 : 0 ≤ yu * cx u p * (yu * cx m u * cx m p) := Int.mul_nonneg n3 (Int.mul_nonneg n4 (by omega))
  generalize Bq X X ((m, xm, ym) :: (u, 0, yu) :: (p, xp, yp) :: R) = Bxx at *
  generalize Bq X Y ((m, xm, ym) :: (u, 0, yu) :: (p, xp, yp) :: R) = Bxy at *
  generalize Bq Y Y ((m, xm, ym) :: (u, 0, yu) :: (p, xp, yp) :: R) = Byy at *
  generalize yu * cx u p * (yu * cx m u * cx m p) = Z at *
  have s1 : 0 ≤ Bxx * (2 * Z) := Int.mul_nonneg nn (by omega)
  have s2 : Bxx * (c * (c * Byy) + 2 * Z) = (c * c) * (Bxx * Byy) + Bxx * (2 * Z) := by grind
  have s3 : c * Bxy * (c * Bxy) = (c * c) * (Bxy * Bxy) := by grind
  rw [s2, s3] at I
  exact Int.le_of_mul_le_mul_left (a := c * c) (by omega) (Int.mul_pos (by omega) (by omega))
 ·have hp0 : ¬ (p.f0 = 0 ∧ p.f1 = 0) := by
   intro h
   have z1 : cx u p = 0 := by unfold cx; rw [h.1, h.2]; omega
   have z2 : cx p m = 0 := by unfold cx; rw [h.1, h.2]; omega
   unfold tri at t1; omega
  have sw := cx_swap m p
  refine Ineq.of_flat (Bq_flat X p hp0 _ (each_zero X p _ (fun e he => ?_) (by rw [cX.1, cX.2]; omega))).1
  have hx := (pos e he).1
  rcases List.mem_cons.mp he with r | he
  ·subst r; exact Int.mul_nonneg hx (by dsimp only; omega)
  ·rcases List.mem_cons.mp he with r | he
   ·subst r; dsimp only [X]; omega
   ·rcases List.mem_cons.mp he with r | he
    ·subst r; exact Int.mul_nonneg hx (by dsimp only; unfold cx; rw [Int.mul_comm]; omega)
    ·have t2 : tri m p e.1 := cyc _ _ _ (by
      rw [List.map_cons, List.map_cons, List.map_cons]
      exact List.Sublist.cons_cons _ (List.Sublist.cons _ (List.Sublist.cons_cons _ (List.singleton_sublist.mpr (List.mem_map_of_mem he)))))
     exact Int.mul_nonneg hx (by unfold tri at t2; omega)
theorem ineq_zero (n : Nat) (ih : ∀ L', L'.length < n → Ok L' → Ineq L') (L : List El) (hn : L.length = n) (ok : Ok L) (h : ∃ u ∈ L, X u = 0) : Ineq L := by
 obtain ⟨u, hu, h0⟩ := h
 obtain ⟨P, R, rfl⟩ := List.append_of_mem hu
 refine Ineq.rot ok ?_
 have ok1 := ok.rot
 have l1 : (u :: R ++ P).length = n := by rw [← hn]; simp; omega
 rw [List.cons_append] at ok1 l1 ⊢
 generalize R ++ P = M at ok1 l1
 match M, ok1, l1 with
 | [], ok1, _ => exact Ineq.of_flat (by rw [Bq_first X _ _ ok1.2.1]; rfl)
 | [p], ok1, _ => exact Ineq.of_flat (by rw [Bq_first X _ _ ok1.2.1]; simp [Bq, s0, s1])
 | p :: q :: M', ok1, l1 =>
  have e : u :: p :: q :: M' = (u :: p :: (q :: M').dropLast) ++ [(q :: M').getLast (by simp)] := by
   rw [List.cons_append, List.cons_append, List.dropLast_concat_getLast]
  rw [e] at ok1 l1 ⊢
  refine Ineq.rot ok1 ?_
  have ok2 := ok1.rot
  refine less_one ok2 h0 (fun L' hl => ih L' ?_)
  simp at l1 hl ⊢; omega
theorem least_q : ∀ L : List El, L ≠ [] → (∀ e ∈ L, 0 < Y e) → ∃ e ∈ L, ∀ e' ∈ L, X e * Y e' ≤ X e' * Y e := by
 intro L
 induction L with
 | nil => intro h; exact absurd rfl h
 | cons a L ih =>
  intro _ hp
  by_cases hL : L = []
  ·subst hL; exact ⟨a, by simp, fun e' he => by simp at he; subst he; omega⟩
  ·obtain ⟨e, he, h⟩ := ih hL (fun e he => hp e (by simp [he]))
   have pe := hp e (by simp [he])
   have pa := hp a (by simp)
   by_cases hc : X e * Y a ≤ X a * Y e
   ·refine ⟨e, by simp [he], fun e' he' => ?_⟩
    rcases List.mem_cons.mp he' with r | r
    ·subst r; exact hc
    ·exact h e' r
   ·refine ⟨a, by simp, fun e' he' => ?_⟩
    rcases List.mem_cons.mp he' with r | r
    ·subst r; omega
    ·have h1 := h e' r
     have pe' := hp e' (by simp [r])
     have h2 : (X a * Y e) * Y e' ≤ (X e * Y a) * Y e' := Int.mul_le_mul_of_nonneg_right (by omega) (by omega)
     have h3 : (X e * Y e') * Y a ≤ (X e' * Y e) * Y a := Int.mul_le_mul_of_nonneg_right h1 (by omega)
     have h4 : Y e * (X a * Y e') ≤ Y e * (X e' * Y a) := by grind
     exact Int.le_of_mul_le_mul_left h4 pe
theorem ineq_all : ∀ n (L : List El), L.length = n → Ok L → Ineq L := by
 intro n
 induction n using Nat.strongRecOn with
 | _ n ih =>
  intro L hn ok
  have ih' : ∀ L', L'.length < n → Ok L' → Ineq L' := fun L' hl o => ih _ hl L' rfl o
  by_cases h1 : ∃ u ∈ L, X u = 0
  ·exact ineq_zero n ih' L hn ok h1
  by_cases h2 : ∃ u ∈ L, Y u = 0
  ·refine Ineq.swap (ineq_zero n ih' _ (by rw [List.length_map]; exact hn) ok.swap ?_)
   obtain ⟨u, hu, h0⟩ := h2
   exact ⟨swp u, List.mem_map_of_mem hu, h0⟩
  by_cases hL : L = []
  ·subst hL; exact Ineq.of_flat rfl
  have py : ∀ e ∈ L, 0 < Y e := fun e he => by
   have := (ok.1 e he).2
   rcases Int.lt_or_eq_of_le this with h | h
   ·exact h
   ·exact absurd ⟨e, he, h.symm⟩ h2
  obtain ⟨e, he, hmin⟩ := least_q L hL py
  obtain ⟨a, ha⟩ : ∃ a, a = Y e := ⟨_, rfl⟩
  obtain ⟨b, hb⟩ : ∃ b, b = - X e := ⟨_, rfl⟩
  have pa : 0 < a := by rw [ha]; exact py e he
  let st : El → El := fun z => (z.1, a * z.2.1 + b * z.2.2, z.2.2)
  have ok2 : Ok (L.map st) := by
   refine ⟨fun z hz => ?_, ⟨?_, ?_⟩, ⟨?_, ?_⟩, cyc_map st (fun _ => rfl) ok.2.2.2⟩
   ·obtain ⟨y, hy, rfl⟩ := List.mem_map.mp hz
    have h3 := hmin y hy
    have h4 := ok.1 y hy
    refine ⟨?_, h4.2⟩
    show 0 ≤ a * X y + b * Y y
    rw [ha, hb, Int.neg_mul, Int.mul_comm (Y e)]; omega
   ·rw [s0_map X st (fun _ => rfl)]
    have : s0 (fun e => X (st e)) L = a * s0 X L + b * s0 Y L := s0_lin X Y a b L
    rw [this, ok.2.1.1, ok.2.2.1.1]; omega
   ·rw [s1_map X st (fun _ => rfl)]
    have : s1 (fun e => X (st e)) L = a * s1 X L + b * s1 Y L := s1_lin X Y a b L
    rw [this, ok.2.1.2, ok.2.2.1.2]; omega
   ·rw [s0_map Y st (fun _ => rfl)]; exact ok.2.2.1.1
   ·rw [s1_map Y st (fun _ => rfl)]; exact ok.2.2.1.2
  have I := ineq_zero n ih' (L.map st) (by rw [List.length_map]; exact hn) ok2 ⟨st e, List.mem_map_of_mem he, by
   show a * X e + b * Y e = 0
   rw [ha, hb, Int.neg_mul, Int.mul_comm (Y e)]; omega⟩
  unfold Ineq at I ⊢
  rw [Bq_map X X st (fun _ => rfl), Bq_map X Y st (fun _ => rfl), Bq_map Y Y st (fun _ => rfl)] at I
  have e1 : Bq (fun e => X (st e)) (fun e => Y (st e)) L = a * Bq X Y L + b * Bq Y Y L := Bq_lin X Y Y a b L
  have e2 : Bq (fun e => X (st e)) (fun e => X (st e)) L = a * (a * Bq X X L + b * Bq X Y L) + b * (a * Bq X Y L + b * Bq Y Y L) := by
   have k1 : Bq (fun e => X (st e)) (fun e => X (st e)) L = a * Bq X (fun e => X (st e)) L + b * Bq Y (fun e => X (st e)) L := Bq_lin X Y _ a b L
   have k2 : Bq X (fun e => X (st e)) L = a * Bq X X L + b * Bq X Y L := by rw [Bq_comm, Bq_comm X Y]; exact Bq_lin X Y X a b L
   have k3 : Bq Y (fun e => X (st e)) L = a * Bq X Y L + b * Bq Y Y L := by rw [Bq_comm]; exact Bq_lin X Y Y a b L
   rw [k1, k2, k3]
  have e3 : Bq (fun e => Y (st e)) (fun e => Y (st e)) L = Bq Y Y L := rfl
  rw [e1, e2, e3] at I
  have k : (a * a) * (Bq X X L * Bq Y Y L) ≤ (a * a) * (Bq X Y L * Bq X Y L) := by grind
  exact Int.le_of_mul_le_mul_left k (Int.mul_pos pa pa)
end Go.Proofs.Ytoffmpkgickfhaa.M
end
section
namespace Go.Proofs.Ytoffmpkgickfhaa.M
open Go.Proofs.Ytoffmpkgickfhaa.PG
section
variable {p q : Int} {a b : List Pt} {S : List Pt}
def Sums (a b S : List Pt) : Prop := ∀ s, s ∈ S ↔ ∃ k l, k < a.length ∧ l < b.length ∧ s = plus (at_ a k) (at_ b l)
def V (a b : List Pt) (i j : Nat) : Pt := plus (P a i) (P b j)
theorem Sums.swap (h : Sums a b S) : Sums b a S := by
 intro s
 rw [h s]
 constructor
 ·rintro ⟨k, l, h1, h2, h3⟩; exact ⟨l, k, h2, h1, by rw [h3]; unfold plus; rw [Int.add_comm, Int.add_comm (at_ a k).f1]⟩
 ·rintro ⟨k, l, h1, h2, h3⟩; exact ⟨l, k, h2, h1, by rw [h3]; unfold plus; rw [Int.add_comm, Int.add_comm (at_ b k).f1]⟩
theorem V_swap (a b : List Pt) (i j : Nat) : V a b i j = V b a j i := by unfold V plus; rw [Int.add_comm, Int.add_comm (P a i).f1]
theorem Sums.mem (h : Sums a b S) (ha : 0 < a.length) (hb : 0 < b.length) (i j : Nat) : V a b i j ∈ S := by
 rw [h]; exact ⟨i % a.length, j % b.length, Nat.mod_lt _ ha, Nat.mod_lt _ hb, rfl⟩
theorem Sums.get (h : Sums a b S) {s : Pt} (hs : s ∈ S) : ∃ k l, s = V a b k l := by
 obtain ⟨k, l, h1, h2, h3⟩ := (h s).mp hs
 exact ⟨k, l, by unfold V; rw [P_lt h1, P_lt h2]; exact h3⟩
theorem ed_ne (h : Cvx p q a) (i : Nat) : P a i ≠ P a (i + 1) := by
 intro e
 have := h.some_ i
 apply this
 unfold ed vec ph; rw [e]; dsimp only; simp
theorem step_a (ca : Cvx p q a) (cb : Cvx p q b) (hS : Sums a b S) (i j : Nat) (h1 : 0 < cx (ed a i) (ed b (j + 1))) (h2 : 0 < cx (ed b j) (ed a i)) : HE S (V a b i (j + 1)) (V a b (i + 1) (j + 1)) := by
 have la := ca.three
 have lb := cb.three
 refine ⟨fun e => ed_ne ca i ?_, hS.mem (by omega) (by omega) _ _, hS.mem (by omega) (by omega) _ _, fun s hs => ?_⟩
 ·unfold V plus at e
  have e0 := congrArg S29.f0 e
  have e1 := congrArg S29.f1 e
  dsimp only at e0 e1
  exact pt_ext (by omega) (by omega)
 ·obtain ⟨k, l, rfl⟩ := hS.get hs
  obtain ⟨a1, a2⟩ := ca.left i k
  obtain ⟨b1, b2⟩ := cb.extreme j (ed a i) (by omega) h2 l
  have e : cr (V a b i (j + 1)) (V a b (i + 1) (j + 1)) (V a b k l) = cx (ed a i) (vec (P a i) (P a k)) + cx (ed a i) (vec (P b (j + 1)) (P b l)) := by
   unfold cr V plus cx ed vec; dsimp only; grind
  rw [e]
  refine ⟨by omega, fun h0 => ?_⟩
  have c1 := a2 (by omega)
  have c2 := (b2 (by omega)).resolve_right (by omega)
  rcases c1 with c1 | c1
  ·have : V a b k l = V a b i (j + 1) := by unfold V; rw [c1, c2]
   rw [this]; exact btw_start _ _
  ·have : V a b k l = V a b (i + 1) (j + 1) := by unfold V; rw [c1, c2]
   rw [this]; exact btw_end _ _
theorem step_ab (ca : Cvx p q a) (cb : Cvx p q b) (hS : Sums a b S) (i j : Nat) (h0 : cx (ed a (i + 1)) (ed b (j + 1)) = 0) (hs : 0 < ph p q (ed a (i + 1)) * ph p q (ed b (j + 1))) (_h1 : 0 < cx (ed a i) (ed b (j + 1))) (h2 : 0 < cx (ed b j) (ed a (i + 1))) :
  HE S (V a b (i + 1) (j + 1)) (V a b (i + 2) (j + 2)) := by
 have la := ca.three
 have lb := cb.three
 have par : ∀ w, ph p q (ed a (i + 1)) * cx (ed b (j + 1)) w = ph p q (ed b (j + 1)) * cx (ed a (i + 1)) w := by
  intro w
  have := id3 p q (ed a (i + 1)) (ed b (j + 1)) w
  rw [h0, Int.mul_zero, Int.sub_zero] at this; exact this
 have sgn : ∀ u v : Int, ph p q (ed a (i + 1)) * v = ph p q (ed b (j + 1)) * u → 0 ≤ u → 0 ≤ v ∧ (v = 0 ↔ u = 0) := by
  intro u v e hu
  generalize ph p q (ed a (i + 1)) = A at *
  generalize ph p q (ed b (j + 1)) = B at *
  have e2 : (A * B) * v = (B * B) * u := by
   have : B * (A * v) = B * (B * u) := by rw [e]
   grind
  have hB : B ≠ 0 := by intro h; rw [h, Int.mul_zero] at hs; omega
  have hBB : 0 < B * B := by
   rcases Int.lt_trichotomy B 0 with h | h | h
   ·exact Int.mul_pos_of_neg_of_neg h h
   ·exact absurd h hB
   ·exact Int.mul_pos h h
  have m : 0 ≤ (B * B) * u := Int.mul_nonneg (by omega) hu
  refine ⟨nonneg_of_mul hs (by omega), fun hv => ?_, fun hu => ?_⟩
  ·rw [hv, Int.mul_zero] at e2
   rcases Int.mul_eq_zero.mp e2.symm with h | h
   ·omega
   ·exact h
  ·rw [hu, Int.mul_zero] at e2
   rcases Int.mul_eq_zero.mp e2 with h | h
   ·omega
   ·exact h
 have sgn2 : ∀ u v : Int, ph p q (ed a (i + 1)) * v = ph p q (ed b (j + 1)) * u → (0 ≤ u ∧ 0 ≤ v) ∨ (u ≤ 0 ∧ v ≤ 0) := by
  intro u v e
  rcases Int.le_total 0 u with hu | hu
  ·exact Or.inl ⟨hu, (sgn u v e hu).1⟩
  ·right
   have := sgn (-u) (-v) (by rw [Int.mul_neg, Int.mul_neg, e]) (by omega)
   omega
 have ne : P a (i + 1) ≠ P a (i + 2) := ed_ne ca (i + 1)
 have f0 : ph p q (ed a (i + 1)) * (ed b (j + 1)).f0 = ph p q (ed b (j + 1)) * (ed a (i + 1)).f0 := by
  have := h0; unfold cx at this; unfold ph; grind
 have f1 : ph p q (ed a (i + 1)) * (ed b (j + 1)).f1 = ph p q (ed b (j + 1)) * (ed a (i + 1)).f1 := by
  have := h0; unfold cx at this; unfold ph; grind
 have g0 := sgn2 _ _ f0
 have g1 := sgn2 _ _ f1
 have ea0 : (ed a (i + 1)).f0 = (P a (i + 2)).f0 - (P a (i + 1)).f0 := rfl
 have ea1 : (ed a (i + 1)).f1 = (P a (i + 2)).f1 - (P a (i + 1)).f1 := rfl
 have eb0 : (ed b (j + 1)).f0 = (P b (j + 2)).f0 - (P b (j + 1)).f0 := rfl
 have eb1 : (ed b (j + 1)).f1 = (P b (j + 2)).f1 - (P b (j + 1)).f1 := rfl
 refine ⟨fun e => ne ?_, hS.mem (by omega) (by omega) _ _, hS.mem (by omega) (by omega) _ _, fun s hs' => ?_⟩
 ·unfold V plus at e
  have e0 := congrArg S29.f0 e
  have e1 := congrArg S29.f1 e
  dsimp only at e0 e1
  exact pt_ext (by omega) (by omega)
 ·obtain ⟨k, l, rfl⟩ := hS.get hs'
  obtain ⟨a1, a2⟩ := ca.left (i + 1) k
  obtain ⟨b1, b2⟩ := cb.left (j + 1) l
  have x1 := sgn _ _ (par (vec (P a (i + 1)) (P a k))) a1
  have hab : 0 ≤ cx (ed a (i + 1)) (vec (P b (j + 1)) (P b l)) := (cb.extreme j (ed a (i + 1)) (by omega) h2 l).1
  have e : cr (V a b (i + 1) (j + 1)) (V a b (i + 2) (j + 2)) (V a b k l) = cx (ed a (i + 1)) (vec (P a (i + 1)) (P a k)) + cx (ed b (j + 1)) (vec (P a (i + 1)) (P a k)) + cx (ed a (i + 1)) (vec (P b (j + 1)) (P b l)) + cx (ed b (j + 1)) (vec (P b (j + 1)) (P b l)) := by
   unfold cr V plus cx ed vec; dsimp only; grind
  rw [e]
  refine ⟨by omega, fun hz => ?_⟩
  have c1 := a2 (by omega)
  have c2 := b2 (by omega)
  rcases c1 with c1 | c1 <;> rcases c2 with c2 | c2
  ·have : V a b k l = V a b (i + 1) (j + 1) := by unfold V; rw [c1, c2]
   rw [this]; exact btw_start _ _
  ·have : V a b k l = V a b (i + 1) (j + 2) := by unfold V; rw [c1, c2]
   rw [this]; unfold btw V plus; dsimp only; omega
  ·have : V a b k l = V a b (i + 2) (j + 1) := by unfold V; rw [c1, c2]
   rw [this]; unfold btw V plus; dsimp only; omega
  ·have : V a b k l = V a b (i + 2) (j + 2) := by unfold V; rw [c1, c2]
   rw [this]; exact btw_end _ _
def Inv (p q : Int) (a b : List Pt) (i j : Nat) : Prop := i ≤ a.length ∧ j ≤ b.length ∧ (i < a.length → 0 < j → Bf p q (ed b (j - 1)) (ed a i)) ∧ (j < b.length → 0 < i → Bf p q (ed a (i - 1)) (ed b j))
theorem Inv.swap {i j : Nat} (h : Inv p q a b i j) : Inv p q b a j i := ⟨h.2.1, h.1, h.2.2.2, h.2.2.1⟩
theorem cmp_ud (_ca : Cvx p q a) (cb : Cvx p q b) {i j : Nat} (h : Inv p q a b i j) (hi : i < a.length) (hj : j < b.length) (h1 : 0 < ph p q (ed a i)) (h2 : ph p q (ed b j) < 0) : 0 < cx (ed a i) (ed b j) := by
 have j0 : 0 < j := by
  rcases Nat.eq_zero_or_pos j with e | e
  ·subst e; have := cb.up0; omega
  ·exact e
 have hB := h.2.2.1 hi j0
 have T := cb.turn (j - 1)
 rw [show j - 1 + 1 = j by omega] at T
 have id := id3 p q (ed b (j - 1)) (ed a i) (ed b j)
 rcases hB with ⟨x, y⟩ | ⟨x, y, z⟩ | ⟨x, y, z⟩
 ·omega
 ·have m1 : 0 < ph p q (ed a i) * cx (ed b (j - 1)) (ed b j) := Int.mul_pos h1 T
  have m2 : ph p q (ed b j) * cx (ed b (j - 1)) (ed a i) < 0 := Int.mul_neg_of_neg_of_pos h2 z
  exact pos_of_mul x (by omega)
 ·omega
theorem cmp3 (ca : Cvx p q a) (cb : Cvx p q b) {i j : Nat} (h : Inv p q a b i j) (hi : i < a.length) (hj : j < b.length) :
  (0 < cx (ed a i) (ed b j) → Bf p q (ed a i) (ed b j)) ∧ (cx (ed a i) (ed b j) < 0 → Bf p q (ed b j) (ed a i)) ∧ (cx (ed a i) (ed b j) = 0 → 0 < ph p q (ed a i) * ph p q (ed b j)) := by
 have n1 := ca.some_ i
 have n2 := cb.some_ j
 have s : cx (ed b j) (ed a i) = - cx (ed a i) (ed b j) := cx_swap _ _
 have ud : 0 < ph p q (ed a i) → ph p q (ed b j) < 0 → 0 < cx (ed a i) (ed b j) := cmp_ud ca cb h hi hj
 have du : 0 < ph p q (ed b j) → ph p q (ed a i) < 0 → 0 < cx (ed b j) (ed a i) := cmp_ud cb ca h.swap hj hi
 unfold Bf
 rcases Int.lt_trichotomy (ph p q (ed a i)) 0 with x | x | x <;> rcases Int.lt_trichotomy (ph p q (ed b j)) 0 with y | y | y
 ·exact ⟨fun h => Or.inr (Or.inr ⟨x, y, h⟩), fun h => Or.inr (Or.inr ⟨y, x, by omega⟩), fun _ => Int.mul_pos_of_neg_of_neg x y⟩
 ·exact absurd y n2
 ·have := du y x
  exact ⟨fun h => by omega, fun _ => Or.inl ⟨y, x⟩, fun h => by omega⟩
 ·exact absurd x n1
 ·exact absurd x n1
 ·exact absurd x n1
 ·have := ud x y
  exact ⟨fun _ => Or.inl ⟨x, y⟩, fun h => by omega, fun h => by omega⟩
 ·exact absurd y n2
 ·exact ⟨fun h => Or.inr (Or.inl ⟨x, y, h⟩), fun h => Or.inr (Or.inl ⟨y, x, by omega⟩), fun _ => Int.mul_pos x y⟩
theorem prev_ed (cb : Cvx p q b) (j : Nat) (_hj : j ≤ b.length) : ∃ j', ed b (j' + 1) = ed b j ∧ P b (j' + 1) = P b j ∧ P b (j' + 2) = P b (j + 1) ∧ ((0 < j → ed b j' = ed b (j - 1)) ∧ (j = 0 → ed b j' = ed b (b.length - 1))) := by
 have := cb.three
 by_cases h : j = 0
 ·refine ⟨b.length - 1, ?_, ?_, ?_, ?_, fun _ => rfl⟩
  ·rw [show b.length - 1 + 1 = b.length by omega, ed_len, h]
  ·rw [show b.length - 1 + 1 = b.length by omega, P_len, h]
  ·rw [show b.length - 1 + 2 = 1 + b.length by omega, P_add, h]
  ·intro h1; omega
 ·exact ⟨j - 1, by rw [show j - 1 + 1 = j by omega], by rw [show j - 1 + 1 = j by omega], by rw [show j - 1 + 2 = j + 1 by omega], fun _ => rfl, fun h1 => absurd h1 h⟩
theorem before_a (ca : Cvx p q a) (cb : Cvx p q b) {i j : Nat} (h : Inv p q a b i j) (hi : i < a.length) (hc : j < b.length → 0 ≤ cx (ed a i) (ed b j) ∧ (Bf p q (ed a i) (ed b j) ∨ 0 < ph p q (ed a i) * ph p q (ed b j))) {j' : Nat} (hj' : (0 < j → ed b j' = ed b (j - 1)) ∧ (j = 0 → ed b j' = ed b (b.length - 1))) (ht : 0 < cx (ed b j') (ed b j)) : 0 < cx (ed b j') (ed a i) := by
 have lb := cb.three
 have n1 := ca.some_ i
 by_cases j0 : j = 0
 ·subst j0
  obtain ⟨c1, c2⟩ := hc (by omega)
  have u := cb.up0
  have d := cb.down
  rw [hj'.2 rfl] at ht ⊢
  have ua : 0 < ph p q (ed a i) := by
   rcases c2 with c2 | c2
   ·unfold Bf at c2; omega
   ·exact pos_of_mul u (by rw [Int.mul_comm]; exact c2)
  have id := id3 p q (ed b 0) (ed b (b.length - 1)) (ed a i)
  have s : cx (ed b 0) (ed a i) = - cx (ed a i) (ed b 0) := cx_swap _ _
  have s2 : cx (ed b 0) (ed b (b.length - 1)) = - cx (ed b (b.length - 1)) (ed b 0) := cx_swap _ _
  rw [s, s2] at id
  have m1 : 0 ≤ ph p q (ed b (b.length - 1)) * - cx (ed a i) (ed b 0) := Int.mul_nonneg_of_nonpos_of_nonpos (by omega) (by omega)
  have m2 : ph p q (ed a i) * - cx (ed b (b.length - 1)) (ed b 0) < 0 := Int.mul_neg_of_pos_of_neg ua (by omega)
  exact pos_of_mul u (by omega)
 ·rw [hj'.1 (by omega)] at ht ⊢
  rcases h.2.2.1 hi (by omega) with ⟨x, y⟩ | ⟨x, y, z⟩ | ⟨x, y, z⟩
  ·have jl : j < b.length := by
    rcases Nat.lt_or_ge j b.length with h1 | h1
    ·exact h1
    ·have := h.2.1
     have e : j = b.length := by omega
     subst e
     have := cb.down; omega
   obtain ⟨c1, c2⟩ := hc jl
   have db : ph p q (ed b j) < 0 := by
    rcases c2 with c2 | c2
    ·unfold Bf at c2; omega
    ·rcases Int.lt_or_le (ph p q (ed b j)) 0 with h1 | h1
     ·exact h1
     ·have := Int.mul_nonpos_of_nonpos_of_nonneg (show ph p q (ed a i) ≤ 0 by omega) h1; omega
   have id := id3 p q (ed b j) (ed b (j - 1)) (ed a i)
   have s : cx (ed b j) (ed a i) = - cx (ed a i) (ed b j) := cx_swap _ _
   have s2 : cx (ed b j) (ed b (j - 1)) = - cx (ed b (j - 1)) (ed b j) := cx_swap _ _
   rw [s, s2] at id
   have m1 : ph p q (ed b (j - 1)) * - cx (ed a i) (ed b j) ≤ 0 := Int.mul_nonpos_of_nonneg_of_nonpos (by omega) (by omega)
   have m2 : 0 < ph p q (ed a i) * - cx (ed b (j - 1)) (ed b j) := Int.mul_pos_of_neg_of_neg y (by omega)
   rcases Int.lt_or_le 0 (cx (ed b (j - 1)) (ed a i)) with h1 | h1
   ·exact h1
   ·have := Int.mul_nonneg_of_nonpos_of_nonpos (show ph p q (ed b j) ≤ 0 by omega) h1; omega
  ·exact z
  ·exact z
theorem after_b (_ca : Cvx p q a) (cb : Cvx p q b) {i : Nat} (h : Inv p q a b i b.length) (hi : i < a.length) : 0 < cx (ed a i) (ed b b.length) := by
 have lb := cb.three
 have u := cb.up0
 have d := cb.down
 have T := cb.turn (b.length - 1)
 rw [show b.length - 1 + 1 = b.length by omega] at T
 rw [ed_len] at T ⊢
 rcases h.2.2.1 hi (by omega) with ⟨x, y⟩ | ⟨x, y, z⟩ | ⟨x, y, z⟩
 ·omega
 ·omega
 ·have id := id3 p q (ed b (b.length - 1)) (ed a i) (ed b 0)
  have m1 : ph p q (ed a i) * cx (ed b (b.length - 1)) (ed b 0) < 0 := Int.mul_neg_of_neg_of_pos y T
  have m2 : 0 < ph p q (ed b 0) * cx (ed b (b.length - 1)) (ed a i) := Int.mul_pos u z
  rcases Int.lt_or_le 0 (cx (ed a i) (ed b 0)) with h1 | h1
  ·exact h1
  ·have := Int.mul_nonneg_of_nonpos_of_nonpos (show ph p q (ed b (b.length - 1)) ≤ 0 by omega) h1; omega
theorem take_a (ca : Cvx p q a) (cb : Cvx p q b) (hS : Sums a b S) {i j : Nat} (h : Inv p q a b i j) (hi : i < a.length) (hc : j < b.length → 0 < cx (ed a i) (ed b j)) : HE S (V a b i j) (V a b (i + 1) j) ∧ Inv p q a b (i + 1) j := by
 obtain ⟨j', e1, e2, _, e3⟩ := prev_ed cb j h.2.1
 have hB : j < b.length → Bf p q (ed a i) (ed b j) := fun hj => (cmp3 ca cb h hi hj).1 (hc hj)
 have T := cb.turn j'
 rw [e1] at T
 have x1 := before_a ca cb h hi (fun hj => ⟨by have := hc hj; omega, Or.inl (hB hj)⟩) e3 T
 have x2 : 0 < cx (ed a i) (ed b j) := by
  rcases Nat.lt_or_ge j b.length with h1 | h1
  ·exact hc h1
  ·have e : j = b.length := by have := h.2.1; omega
   subst e; exact after_b ca cb h hi
 constructor
 ·have := step_a ca cb hS i j' (by rw [e1]; exact x2) x1
  unfold V at this ⊢; rw [e2] at this; exact this
 ·refine ⟨by omega, h.2.1, fun h1 h2 => ?_, fun h1 _ => by rw [Nat.add_sub_cancel]; exact hB h1⟩
  exact Bf.trans (h.2.2.1 hi h2) (ca.sorted i h1)
theorem take_b (ca : Cvx p q a) (cb : Cvx p q b) (hS : Sums a b S) {i j : Nat} (h : Inv p q a b i j) (hj : j < b.length) (hc : i < a.length → cx (ed a i) (ed b j) < 0) : HE S (V a b i j) (V a b i (j + 1)) ∧ Inv p q a b i (j + 1) := by
 obtain ⟨h1, h2⟩ := take_a cb ca hS.swap h.swap hj (fun hi => by have := hc hi; rw [cx_swap]; omega)
 exact ⟨by rw [V_swap a b, V_swap a b]; exact h1, h2.swap⟩
theorem take_ab (ca : Cvx p q a) (cb : Cvx p q b) (hS : Sums a b S) {i j : Nat} (h : Inv p q a b i j) (hi : i < a.length) (hj : j < b.length) (hc : cx (ed a i) (ed b j) = 0) : HE S (V a b i j) (V a b (i + 1) (j + 1)) ∧ Inv p q a b (i + 1) (j + 1) := by
 obtain ⟨j', e1, e2, e2', e3⟩ := prev_ed cb j h.2.1
 obtain ⟨i', d1, d2, d2', d3⟩ := prev_ed ca i h.1
 have hs := (cmp3 ca cb h hi hj).2.2 hc
 have Tb := cb.turn j'
 have Ta := ca.turn i'
 rw [e1] at Tb
 rw [d1] at Ta
 have hc' : cx (ed b j) (ed a i) = 0 := by rw [cx_swap]; omega
 have x1 := before_a ca cb h hi (fun _ => ⟨by omega, Or.inr hs⟩) e3 Tb
 have x2 := before_a cb ca h.swap hj (fun _ => ⟨by omega, Or.inr (by rw [Int.mul_comm]; exact hs)⟩) d3 Ta
 constructor
 ·have := step_ab ca cb hS i' j' (by rw [d1, e1]; exact hc) (by rw [d1, e1]; exact hs) (by rw [e1]; exact x2) (by rw [d1]; exact x1)
  unfold V at this ⊢; rw [d2, e2, d2', e2'] at this; exact this
 ·have par : ∀ {u v w : Pt}, cx u v = 0 → 0 < ph p q u * ph p q v → Bf p q v w → Bf p q u w := by
   intro u v w h0 hs hB
   have id := id3 p q v u w
   have s : cx v u = - cx u v := cx_swap u v
   rw [s, h0, Int.neg_zero, Int.mul_zero, Int.sub_zero] at id
   have sg : (0 < ph p q u ∧ 0 < ph p q v) ∨ (ph p q u < 0 ∧ ph p q v < 0) := by
    rcases Int.lt_trichotomy (ph p q u) 0 with h | h | h
    ·right; refine ⟨h, ?_⟩
     rcases Int.lt_or_le (ph p q v) 0 with h1 | h1
     ·exact h1
     ·have := Int.mul_nonpos_of_nonpos_of_nonneg (show ph p q u ≤ 0 by omega) h1; omega
    ·rw [h, Int.zero_mul] at hs; omega
    ·left; exact ⟨h, pos_of_mul h hs⟩
   rcases hB with ⟨x, y⟩ | ⟨x, y, z⟩ | ⟨x, y, z⟩
   ·exact Or.inl ⟨by omega, y⟩
   ·refine Or.inr (Or.inl ⟨by omega, y, ?_⟩)
    have m : 0 < ph p q u * cx v w := Int.mul_pos (by omega) z
    exact pos_of_mul x (by omega)
   ·refine Or.inr (Or.inr ⟨by omega, y, ?_⟩)
    have m : ph p q u * cx v w < 0 := Int.mul_neg_of_neg_of_pos (by omega) z
    rcases Int.lt_or_le 0 (cx u w) with h1 | h1
    ·exact h1
    ·have := Int.mul_nonneg_of_nonpos_of_nonpos (show ph p q v ≤ 0 by omega) h1; omega
  refine ⟨by omega, by omega, fun h1 _ => ?_, fun h1 _ => ?_⟩
  ·rw [Nat.add_sub_cancel]
   exact par hc' (by rw [Int.mul_comm]; exact hs) (ca.sorted i h1)
  ·rw [Nat.add_sub_cancel]
   exact par hc hs (cb.sorted j h1)
end
end Go.Proofs.Ytoffmpkgickfhaa.M
end
section
namespace Go.Proofs.Ytoffmpkgickfhaa.M
open Go.Proofs.Ytoffmpkgickfhaa.PG
def path (a b : List Pt) : Nat → Nat → Nat → List Pt
 | 0, _, _ => []
 | d + 1, i, j =>
  if i < a.length ∧ (j < b.length → 0 < cx (ed a i) (ed b j)) then V a b (i + 1) j :: path a b d (i + 1) j
  else if j < b.length ∧ (i < a.length → cx (ed a i) (ed b j) < 0) then V a b i (j + 1) :: path a b d i (j + 1)
  else if i < a.length ∧ j < b.length then V a b (i + 1) (j + 1) :: path a b d (i + 1) (j + 1)
  else []
section
variable {p q : Int} {a b S : List Pt}
theorem path_pairs (ca : Cvx p q a) (cb : Cvx p q b) (hS : Sums a b S) : ∀ d i j, Inv p q a b i j → Pairs (HE S) (V a b i j :: path a b d i j) := by
 intro d
 induction d with
 | zero => intro i j _; trivial
 | succ d ih =>
  intro i j h
  unfold path
  by_cases h1 : i < a.length ∧ (j < b.length → 0 < cx (ed a i) (ed b j))
  ·rw [if_pos h1]
   obtain ⟨s1, s2⟩ := take_a ca cb hS h h1.1 h1.2
   exact ⟨s1, ih _ _ s2⟩
  ·rw [if_neg h1]
   by_cases h2 : j < b.length ∧ (i < a.length → cx (ed a i) (ed b j) < 0)
   ·rw [if_pos h2]
    obtain ⟨s1, s2⟩ := take_b ca cb hS h h2.1 h2.2
    exact ⟨s1, ih _ _ s2⟩
   ·rw [if_neg h2]
    by_cases h3 : i < a.length ∧ j < b.length
    ·rw [if_pos h3]
     have hc : cx (ed a i) (ed b j) = 0 := by
      rcases Int.lt_trichotomy (cx (ed a i) (ed b j)) 0 with x | x | x
      ·exact absurd ⟨h3.2, fun _ => x⟩ h2
      ·exact x
      ·exact absurd ⟨h3.1, fun _ => x⟩ h1
     obtain ⟨s1, s2⟩ := take_ab ca cb hS h h3.1 h3.2 hc
     exact ⟨s1, ih _ _ s2⟩
    ·rw [if_neg h3]; trivial
theorem start_once (ca : Cvx p q a) (cb : Cvx p q b) {i j : Nat} (h : Inv p q a b i j) (h0 : 0 < i + j) (h1 : i < a.length ∨ j < b.length) : V a b i j ≠ V a b 0 0 := by
 have la := ca.three
 have lb := cb.three
 intro e
 have lin : fn p q (V a b 0 0) (V a b i j) = fn p q (P a 0) (P a i) + fn p q (P b 0) (P b j) := by unfold V plus fn; dsimp only; grind
 have z : fn p q (V a b 0 0) (V a b i j) = 0 := by rw [e]; unfold fn; simp
 have lo : ∀ {c : List Pt}, Cvx p q c → ∀ i, i ≤ c.length → (i = 0 ∨ i = c.length) ∨ 0 < fn p q (P c 0) (P c i) := by
  intro c cc i hi
  have := cc.three
  rcases Nat.lt_or_ge i c.length with h | h
  ·rcases cc.low i h with h2 | h2
   ·exact Or.inl (Or.inl h2)
   ·right; rw [P_lt (by omega), P_lt h]; exact h2
  ·exact Or.inl (Or.inr (by omega))
 have nn : ∀ {c : List Pt}, Cvx p q c → ∀ i, i ≤ c.length → 0 ≤ fn p q (P c 0) (P c i) := by
  intro c cc i hi
  rcases lo cc i hi with (h | h) | h
  ·rw [h]; unfold fn; simp
  ·rw [h, P_len]; unfold fn; simp
  ·omega
 have na := nn ca i h.1
 have nb := nn cb j h.2.1
 have xa := (lo ca i h.1).resolve_right (by omega)
 have xb := (lo cb j h.2.1).resolve_right (by omega)
 have u := ca.up0
 have u' := cb.up0
 have d := ca.down
 have d' := cb.down
 rcases xa with xa | xa <;> rcases xb with xb | xb
 ·omega
 ·subst xa; subst xb
  have := h.2.2.1 (by omega) (by omega)
  unfold Bf at this; omega
 ·subst xa; subst xb
  have := h.2.2.2 (by omega) (by omega)
  unfold Bf at this; omega
 ·omega
theorem path_ends (ca : Cvx p q a) (cb : Cvx p q b) (hS : Sums a b S) : ∀ d i j, Inv p q a b i j → (a.length - i) + (b.length - j) ≤ d → (i < a.length ∨ j < b.length) → ∃ t, path a b d i j = t ++ [V a b a.length b.length] ∧ t.length < (a.length - i) + (b.length - j) ∧ V a b 0 0 ∉ t := by
 intro d
 induction d with
 | zero => intro i j _ h1 h2; omega
 | succ d ih =>
  intro i j h hd hij
  have next : ∀ i' j', Inv p q a b i' j' → (a.length - i') + (b.length - j') < (a.length - i) + (b.length - j) → 0 < i' + j' → ∃ t, V a b i' j' :: path a b d i' j' = t ++ [V a b a.length b.length] ∧ t.length < (a.length - i) + (b.length - j) ∧ V a b 0 0 ∉ t := by
   intro i' j' h' hlt h0
   by_cases he : i' < a.length ∨ j' < b.length
   ·obtain ⟨t, e, hl, hn⟩ := ih i' j' h' (by omega) he
    refine ⟨V a b i' j' :: t, by rw [e]; rfl, by simp only [List.length_cons]; omega, ?_⟩
    intro hm
    rcases List.mem_cons.mp hm with h1 | h1
    ·exact start_once ca cb h' h0 he h1.symm
    ·exact hn h1
   ·have e1 : i' = a.length := by have := h'.1; omega
    have e2 : j' = b.length := by have := h'.2.1; omega
    subst e1; subst e2
    have ep : path a b d a.length b.length = [] := by
     cases d with
     | zero => rfl
     | succ d => unfold path; rw [if_neg (by omega), if_neg (by omega), if_neg (by omega)]
    exact ⟨[], by rw [ep]; rfl, by simp only [List.length_nil]; omega, by simp⟩
  unfold path
  by_cases h1 : i < a.length ∧ (j < b.length → 0 < cx (ed a i) (ed b j))
  ·rw [if_pos h1]
   exact next _ _ (take_a ca cb hS h h1.1 h1.2).2 (by omega) (by omega)
  ·rw [if_neg h1]
   by_cases h2 : j < b.length ∧ (i < a.length → cx (ed a i) (ed b j) < 0)
   ·rw [if_pos h2]
    exact next _ _ (take_b ca cb hS h h2.1 h2.2).2 (by omega) (by omega)
   ·rw [if_neg h2]
    have h3 : i < a.length ∧ j < b.length := by
     rcases hij with x | x
     ·refine ⟨x, ?_⟩
      apply Classical.byContradiction
      intro hn; exact h1 ⟨x, fun hy => absurd hy hn⟩
     ·refine ⟨?_, x⟩
      apply Classical.byContradiction
      intro hn; exact h2 ⟨x, fun hy => absurd hy hn⟩
    rw [if_pos h3]
    have hc : cx (ed a i) (ed b j) = 0 := by
     rcases Int.lt_trichotomy (cx (ed a i) (ed b j)) 0 with x | x | x
     ·exact absurd ⟨h3.2, fun _ => x⟩ h2
     ·exact x
     ·exact absurd ⟨h3.1, fun _ => x⟩ h1
    exact next _ _ (take_ab ca cb hS h h3.1 h3.2 hc).2 (by omega) (by omega)
theorem sum_ring (ca : Cvx p q a) (cb : Cvx p q b) (hS : Sums a b S) : ∃ t, path a b (a.length + b.length) 0 0 = t ++ [V a b 0 0] ∧ Ring S (V a b 0 0 :: t) ∧ t.length < a.length + b.length := by
 have la := ca.three
 have h : Inv p q a b 0 0 := ⟨Nat.zero_le _, Nat.zero_le _, fun _ h => absurd h (by omega), fun _ h => absurd h (by omega)⟩
 obtain ⟨t, e, hl, hn⟩ := path_ends ca cb hS (a.length + b.length) 0 0 h (by omega) (by omega)
 have hp := path_pairs ca cb hS (a.length + b.length) 0 0 h
 have ev : V a b a.length b.length = V a b 0 0 := by unfold V; rw [P_len, P_len]
 rw [ev] at e
 rw [e] at hp
 exact ⟨t, e, ⟨V a b 0 0, t, rfl, hn, hp⟩, by omega⟩
theorem sum_low (ca : Cvx p q a) (cb : Cvx p q b) (hS : Sums a b S) : ∀ s ∈ S, s = V a b 0 0 ∨ 0 < fn p q (V a b 0 0) s := by
 have la := ca.three
 have lb := cb.three
 intro s hs
 obtain ⟨k, l, hk, hl, rfl⟩ := (hS s).mp hs
 have e0 : V a b 0 0 = plus (at_ a 0) (at_ b 0) := by unfold V; rw [P_lt (by omega), P_lt (by omega)]
 have lin : fn p q (plus (at_ a 0) (at_ b 0)) (plus (at_ a k) (at_ b l)) = fn p q (at_ a 0) (at_ a k) + fn p q (at_ b 0) (at_ b l) := by unfold plus fn; dsimp only; grind
 rw [e0, lin]
 have z : ∀ c : Pt, fn p q c c = 0 := by intro c; unfold fn; simp
 rcases ca.low k hk with h1 | h1 <;> rcases cb.low l hl with h2 | h2
 ·subst h1; subst h2; exact Or.inl rfl
 ·right; subst h1; rw [z]; omega
 ·right; subst h2; rw [z]; omega
 ·right; omega
end
end Go.Proofs.Ytoffmpkgickfhaa.M
end
section
namespace Go.Proofs.Ytoffmpkgickfhaa.M
open Go.RowKit Go.Proofs.Ytoffmpkgickfhaa.PG Go.Proofs.YtoffmpkgickfhaaW.PrintMore Go.Proofs.YtoffmpkgickfhaaW.PrintWords
def Rt {α : Type} (g : Nat → Option α) (v : α) : Prop := ∃ K, ∀ k, K ≤ k → g k = some v
theorem wz (n : Int) (h0 : -9223372036854775808 ≤ n) (h1 : n ≤ 9223372036854775807) : wrap64 n = n := by unfold wrap64; omega
def Bd (p : Pt) : Prop := -1000000 ≤ p.f0 ∧ p.f0 ≤ 1000000 ∧ -1000000 ≤ p.f1 ∧ p.f1 ≤ 1000000
theorem mulb {a b : Int} (h0 : -2000000 ≤ a) (h1 : a ≤ 2000000) (h2 : -2000000 ≤ b) (h3 : b ≤ 2000000) : -4000000000000 ≤ a * b ∧ a * b ≤ 4000000000000 := by
 have h : (a * b).natAbs = a.natAbs * b.natAbs := Int.natAbs_mul a b
 have h' : a.natAbs * b.natAbs ≤ 2000000 * 2000000 := Nat.mul_le_mul (by omega) (by omega)
 omega
theorem cr_eq (a b c : Pt) : cr a b c = (b.f0 - a.f0) * (c.f1 - a.f1) - (c.f0 - a.f0) * (b.f1 - a.f1) := rfl
theorem Cross_f {a b c : Pt} (ha : Bd a) (hb : Bd b) (hc : Bd c) : cracknelref04_Cross.f a.f0 a.f1 b.f0 b.f1 c.f0 c.f1 = some (cr a b c) := by
 obtain ⟨a0, a1, a2, a3⟩ := ha; obtain ⟨b0, b1, b2, b3⟩ := hb; obtain ⟨c0, c1, c2, c3⟩ := hc
 have h1 := @mulb (b.f0 - a.f0) (c.f1 - a.f1) (by omega) (by omega) (by omega) (by omega)
 have h2 := @mulb (c.f0 - a.f0) (b.f1 - a.f1) (by omega) (by omega) (by omega) (by omega)
 unfold cracknelref04_Cross.f
 rw [wz (b.f0 - a.f0) (by omega) (by omega), wz (c.f1 - a.f1) (by omega) (by omega), wz (c.f0 - a.f0) (by omega) (by omega), wz (b.f1 - a.f1) (by omega) (by omega), wz ((b.f0 - a.f0) * (c.f1 - a.f1)) (by omega) (by omega), wz ((c.f0 - a.f0) * (b.f1 - a.f1)) (by omega) (by omega), wz _ (by omega) (by omega), cr_eq]
theorem side_f {a b c : Pt} (ha : Bd a) (hb : Bd b) (hc : Bd c) : shape_side.f a.f0 a.f1 b.f0 b.f1 c.f0 c.f1 = some (cr a b c) := by
 obtain ⟨a0, a1, a2, a3⟩ := ha; obtain ⟨b0, b1, b2, b3⟩ := hb; obtain ⟨c0, c1, c2, c3⟩ := hc
 have h1 := @mulb (b.f0 - a.f0) (c.f1 - a.f1) (by omega) (by omega) (by omega) (by omega)
 have h2 := @mulb (b.f1 - a.f1) (c.f0 - a.f0) (by omega) (by omega) (by omega) (by omega)
 unfold shape_side.f shape_sub.f shape_cross.f
 simp only [Option.bind_some]
 rw [wz (b.f0 - a.f0) (by omega) (by omega), wz (c.f1 - a.f1) (by omega) (by omega), wz (c.f0 - a.f0) (by omega) (by omega), wz (b.f1 - a.f1) (by omega) (by omega), wz ((b.f0 - a.f0) * (c.f1 - a.f1)) (by omega) (by omega), wz ((b.f1 - a.f1) * (c.f0 - a.f0)) (by omega) (by omega), wz _ (by omega) (by omega), cr_eq]
 congr 1; grind
theorem in_f (v a b : Int) : cracknelref04_in.f v a b = some (decide (a ≤ v ∧ v ≤ b)) := by
 unfold cracknelref04_in.f
 by_cases h : v ≥ a
 ·rw [if_pos h]; simp; omega
 ·rw [if_neg h]; simp; omega
theorem mn_eq (a b : Int) : mn a b = min a b := by unfold mn; split <;> omega
theorem mx_eq (a b : Int) : mx a b = max a b := by unfold mx; split <;> omega
theorem On_f {a b c : Pt} (ha : Bd a) (hb : Bd b) (hc : Bd c) : cracknelref04_On.f a.f0 a.f1 b.f0 b.f1 c.f0 c.f1 = some (decide (On a b c)) := by
 unfold cracknelref04_On.f
 rw [Cross_f ha hb hc]
 simp only [Option.bind_some, in_f, mn_eq, mx_eq]
 by_cases h : cr a b c = 0
 ·rw [if_pos h]
  by_cases h2 : min a.f0 b.f0 ≤ c.f0 ∧ c.f0 ≤ max a.f0 b.f0
  ·simp only [h2, and_self, decide_true, if_true]; simp only [On, btw, h, h2, true_and]
  ·rw [if_neg (by simpa using h2)]; simp only [On, btw, h, true_and]; rw [decide_eq_false]; intro h3; exact h2 ⟨h3.1, h3.2.1⟩
 ·rw [if_neg h]; simp only [On, h, false_and, decide_false]
theorem sq_nn (x : Int) : 0 ≤ x * x := by
 rcases Int.le_total 0 x with h | h
 ·exact Int.mul_nonneg h h
 ·exact Int.mul_nonneg_of_nonpos_of_nonpos h h
theorem dot_on {a b p : Pt} (h : cr a b p = 0) : (a.f0 - p.f0) * (b.f0 - p.f0) + (a.f1 - p.f1) * (b.f1 - p.f1) ≤ 0 ↔ btw a b p := by
 have hx : (a.f0 - p.f0) * (b.f1 - p.f1) = (a.f1 - p.f1) * (b.f0 - p.f0) := by rw [cr_eq] at h; grind
 generalize hu : a.f0 - p.f0 = u at *
 generalize hv : b.f0 - p.f0 = v at *
 generalize hs : a.f1 - p.f1 = s at *
 generalize ht : b.f1 - p.f1 = t at *
 have key : u * v + s * t ≤ 0 ↔ (u * v ≤ 0 ∧ s * t ≤ 0) := by
  constructor
  ·intro h0
   have e : (u * v) * (s * t) = (u * t) * (u * t) := by grind
   have sq : 0 ≤ (u * v) * (s * t) := by rw [e]; exact sq_nn _
   constructor
   ·rcases Int.lt_or_le 0 (u * v) with h1 | h1
    ·have h2 : s * t < 0 := by omega
     have := Int.mul_neg_of_pos_of_neg h1 h2; omega
    ·exact h1
   ·rcases Int.lt_or_le 0 (s * t) with h1 | h1
    ·have h2 : u * v < 0 := by omega
     have := Int.mul_neg_of_neg_of_pos h2 h1; omega
    ·exact h1
  ·omega
 have sgn : ∀ x y : Int, x * y ≤ 0 ↔ ((x ≤ 0 ∧ 0 ≤ y) ∨ (0 ≤ x ∧ y ≤ 0)) := by
  intro x y
  constructor
  ·intro h
   rcases Int.lt_trichotomy x 0 with h1 | h1 | h1
   ·rcases Int.lt_or_le y 0 with h2 | h2
    ·have := Int.mul_pos_of_neg_of_neg h1 h2; omega
    ·omega
   ·omega
   ·rcases Int.lt_or_le 0 y with h2 | h2
    ·have := Int.mul_pos h1 h2; omega
    ·omega
  ·rintro (⟨h1, h2⟩ | ⟨h1, h2⟩)
   ·exact Int.mul_nonpos_of_nonpos_of_nonneg h1 h2
   ·exact Int.mul_nonpos_of_nonneg_of_nonpos h1 h2
 rw [key, sgn, sgn]; unfold btw; omega
theorem dot_f {a b p : Pt} (ha : Bd a) (hb : Bd b) (hp : Bd p) : shape_dot.f (a.f0 - p.f0) (a.f1 - p.f1) (b.f0 - p.f0) (b.f1 - p.f1) = some ((a.f0 - p.f0) * (b.f0 - p.f0) + (a.f1 - p.f1) * (b.f1 - p.f1)) := by
 obtain ⟨a0, a1, a2, a3⟩ := ha; obtain ⟨b0, b1, b2, b3⟩ := hb; obtain ⟨c0, c1, c2, c3⟩ := hp
 have h1 := @mulb (a.f0 - p.f0) (b.f0 - p.f0) (by omega) (by omega) (by omega) (by omega)
 have h2 := @mulb (a.f1 - p.f1) (b.f1 - p.f1) (by omega) (by omega) (by omega) (by omega)
 unfold shape_dot.f
 rw [wz ((a.f0 - p.f0) * (b.f0 - p.f0)) (by omega) (by omega), wz ((a.f1 - p.f1) * (b.f1 - p.f1)) (by omega) (by omega), wz _ (by omega) (by omega)]
theorem sub_f {a b : Pt} (ha : Bd a) (hb : Bd b) : shape_sub.f a.f0 a.f1 b.f0 b.f1 = some (a.f0 - b.f0, a.f1 - b.f1) := by
 obtain ⟨a0, a1, a2, a3⟩ := ha; obtain ⟨b0, b1, b2, b3⟩ := hb
 unfold shape_sub.f
 rw [wz _ (by omega) (by omega), wz _ (by omega) (by omega)]
theorem on_f {a b c : Pt} (ha : Bd a) (hb : Bd b) (hc : Bd c) : shape_on.f a.f0 a.f1 b.f0 b.f1 c.f0 c.f1 = some (decide (On a b c)) := by
 unfold shape_on.f
 rw [side_f ha hb hc, sub_f ha hc, sub_f hb hc]
 simp only [Option.bind_some]
 rw [dot_f ha hb hc]
 simp only [Option.bind_some]
 by_cases h : cr a b c = 0
 ·rw [if_pos h]; have e := dot_on h; simp only [e, On, h, true_and]
 ·rw [if_neg h]; simp only [On, h, false_and, decide_false]
def sg (n : Int) : Int := if n > 0 then 1 else if n < 0 then -1 else 0
theorem compare_f (a b : Int) : cmp_Compare_int.f a b = some (sg (a - b)) := by
 unfold cmp_Compare_int.f cmp_isNaN_int.f sg
 simp
 split <;> (try split) <;> (try split) <;> (try split) <;> first | rfl | omega | (simp; done) | skip
theorem sign_f (n : Int) : shape_sign.f n = some (sg n) := by
 unfold shape_sign.f; rw [compare_f]; simp
theorem sg_neg (x y : Int) : wrap64 (sg x * sg y) < 0 ↔ ((0 < x ∧ y < 0) ∨ (x < 0 ∧ 0 < y)) := by
 unfold sg
 split <;> (try split) <;> (try split) <;> (try split) <;> simp only [wrap64] <;> omega
theorem meet_f {a b c d : Pt} (ha : Bd a) (hb : Bd b) (hc : Bd c) (hd : Bd d) (k : Nat) : shape_meet.f (k + 1) a.f0 a.f1 b.f0 b.f1 c.f0 c.f1 d.f0 d.f1 = some (decide (Meet a b c d)) := by
 unfold shape_meet.f
 simp only [shape_meet.j0, on_f ha hb hc, on_f ha hb hd, on_f hc hd ha, on_f hc hd hb, side_f ha hb hc, side_f ha hb hd, side_f hc hd ha, side_f hc hd hb, sign_f, Option.bind_some, sg_neg, decide_eq_true_eq]
 unfold Meet
 split
 ·simp_all
 ·split
  ·simp_all
  ·split
   ·simp_all
   ·split
    ·simp_all
    ·split <;> simp_all <;> omega
theorem rd_at (l : List Pt) (i : Nat) : rd_T29 l (i : Int) = at_ l i := rfl
theorem tmod_nat (i n : Nat) (h : (i : Int) ≤ 9223372036854775806) : Int.tmod (wrap64 ((i : Int) + 1)) (n : Int) = (((i + 1) % n : Nat) : Int) := by
 rw [wz _ (by omega) (by omega)]
 rw [show ((i : Int) + 1) = ((i + 1 : Nat) : Int) by omega, ← Int.ofNat_tmod]
theorem first_f (a b : Pt) : cracknelref04_first.f a.f0 a.f1 b.f0 b.f1 = some (decide (first a b)) := by
 unfold cracknelref04_first.f first
 split
 ·simp_all
 ·split
  ·simp_all
  ·simp_all
theorem pt_beq (a b : Pt) : (a.f0 == b.f0 && a.f1 == b.f1) = decide (a = b) := by
 by_cases h : a = b
 ·subst h; simp
 ·simp only [h, decide_false, Bool.and_eq_false_imp, beq_iff_eq]
  intro h0
  simp only [beq_eq_false_iff_ne, ne_eq]
  intro h1; exact h (pt_ext h0 h1)
theorem from_split {n i : Nat} (hi : i < n) (P : Nat → Prop) : (∀ i', i ≤ i' → i' < n → P i') ↔ (P i ∧ ∀ i', i + 1 ≤ i' → i' < n → P i') := by
 constructor
 ·intro h; exact ⟨h i (Nat.le_refl _) hi, fun j' h1 h2 => h j' (by omega) h2⟩
 ·rintro ⟨h0, h⟩ j' h1 h2
  rcases Nat.eq_or_lt_of_le h1 with rfl | h3
  ·exact h0
  ·exact h j' h3 h2
theorem fuel1 {k K : Nat} (h : K + 1 ≤ k) : ∃ m, k = m + 1 := ⟨k - 1, by omega⟩
theorem rt_step {α : Type} {g h : Nat → Option α} {v : α} (e : ∀ k, g (k + 1) = h k) (r : Rt h v) : Rt g v := by
 obtain ⟨K, hK⟩ := r
 refine ⟨K + 1, fun k hk => ?_⟩
 obtain ⟨k, rfl⟩ := fuel1 hk
 rw [e]; exact hK k (by omega)
theorem rt_ret {α : Type} {g : Nat → Option α} {v : α} (e : ∀ k, g (k + 1) = some v) : Rt g v := by
 refine ⟨0 + 1, fun k hk => ?_⟩
 obtain ⟨k, rfl⟩ := fuel1 hk
 exact e k
theorem wrap_succ (i : Nat) (h : i ≤ 1000000) : wrap64 ((i : Int) + 1) = ((i + 1 : Nat) : Int) := by rw [wz _ (by omega) (by omega)]; omega
theorem wrap_succ2 (i : Nat) (h : i ≤ 1000000) : wrap64 ((i : Int) + 2) = ((i + 2 : Nat) : Int) := by rw [wz _ (by omega) (by omega)]; omega
theorem at_bd {l : List Pt} (hb : ∀ p ∈ l, Bd p) {i : Nat} (hi : i < l.length) : Bd (at_ l i) := hb _ (at_mem hi)
theorem tmod_in (i n : Nat) (hn : 0 < n) : (0 : Int) ≤ (((i % n : Nat)) : Int) ∧ (((i % n : Nat)) : Int) < (n : Int) := by
 have := Nat.mod_lt i hn; omega
end Go.Proofs.Ytoffmpkgickfhaa.M
end
