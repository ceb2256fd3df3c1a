/- Parts of the proof of YtoffmpkgickfhaaLawShapeNoFit: printed walks, their words, and plain laws. -/
import Derived.Test.YtoffmpkgickfhaaQN1
import Derived.Test.YtoffmpkgickfhaaQN2
import Derived.Test.YtoffmpkgickfhaaQN3
import Derived.Test.YtoffmpkgickfhaaQN4
section
namespace Go.Proofs.Ytoffmpkgickfhaa.PG
open Go.RowKit Go.Proofs.YtoffmpkgickfhaaW.PrintWords Go.Proofs.YtoffmpkgickfhaaW.PrintLast Go.Proofs.YtoffmpkgickfhaaW.PrintMore
attribute [local go_sem] max2_int min2_int max_two min_two max_three min_three max_four min_four
set_option linter.unusedVariables false
set_option linter.unusedSimpArgs false
/-! ### shape_where: function 73 -/
mutual
def shape_where.l0 : Nat → List (S29) → Int → Int → Int → Int → Int → Option (Int)
 | 0, _, _, _, _, _, _ => none
 | k + 1, x0, x5, x10, x11, x102000, x102001 => if x11 < x10 then (if 0 ≤ x11 then (if x11 < (x0.length : Int) then (if (x0.length : Int) = 0 then (none) else (if 0 ≤ (Int.tmod (wrap64 (x11 + 1)) (x0.length : Int)) then (if (Int.tmod (wrap64 (x11 + 1)) (x0.length : Int)) < (x0.length : Int) then ((shape_on.f ((rd_T29 x0 x11).f0) ((rd_T29 x0 x11).f1) ((rd_T29 x0 (Int.tmod (wrap64 (x11 + 1)) (x0.length : Int))).f0) ((rd_T29 x0 (Int.tmod (wrap64 (x11 + 1)) (x0.length : Int))).f1) x102000 x102001).bind fun t106 => (if t106 = true then (some 0) else (if ((rd_T29 x0 x11).f1) > ((rd_T29 x0 (Int.tmod (wrap64 (x11 + 1)) (x0.length : Int))).f1) then (shape_where.j1 k x0 x5 x10 x11 x102000 x102001 ((rd_T29 x0 (Int.tmod (wrap64 (x11 + 1)) (x0.length : Int))).f0) ((rd_T29 x0 (Int.tmod (wrap64 (x11 + 1)) (x0.length : Int))).f1) ((rd_T29 x0 x11).f0) ((rd_T29 x0 x11).f1)) else (shape_where.j1 k x0 x5 x10 x11 x102000 x102001 ((rd_T29 x0 x11).f0) ((rd_T29 x0 x11).f1) ((rd_T29 x0 (Int.tmod (wrap64 (x11 + 1)) (x0.length : Int))).f0) ((rd_T29 x0 (Int.tmod (wrap64 (x11 + 1)) (x0.length : Int))).f1))))) else (none)) else (none))) else (none)) else (none)) else (some x5)
def shape_where.j1 : Nat → List (S29) → Int → Int → Int → Int → Int → Int → Int → Int → Int → Option (Int)
 | 0, _, _, _, _, _, _, _, _, _, _ => none
 | k + 1, x0, x5, x10, x11, x102000, x102001, x105000, x105001, x106000, x106001 => if x105001 ≤ x102001 then (if x102001 < x106001 then ((shape_side.f x105000 x105001 x106000 x106001 x102000 x102001).bind fun t107 => (shape_where.j2 k x0 x5 x10 x11 (decide (t107 > 0)) x102000 x102001)) else (shape_where.j2 k x0 x5 x10 x11 false x102000 x102001)) else (shape_where.j2 k x0 x5 x10 x11 false x102000 x102001)
def shape_where.j2 : Nat → List (S29) → Int → Int → Int → Bool → Int → Int → Option (Int)
 | 0, _, _, _, _, _, _, _ => none
 | k + 1, x0, x5, x10, x11, x55, x102000, x102001 => if x55 = true then (shape_where.l0 k x0 (wrap64 (-x5)) x10 (wrap64 (x11 + 1)) x102000 x102001) else (shape_where.l0 k x0 x5 x10 (wrap64 (x11 + 1)) x102000 x102001)
end
def shape_where.f (k : Nat) (l0 : List (S29)) (a1_0 : Int) (a1_1 : Int) : Option (Int) := shape_where.l0 k l0 (-1) (l0.length : Int) 0 a1_0 a1_1
def shape_where.T5 : Bool × List (List Nat × List Nat) := (true, [([], []), ([], []), ([0, 1], [0, 1]), ([2], [2]), ([], []), ([], []), ([5], [5]), ([], []), ([7], [7]), ([6, 8], [6, 8]), ([4, 9], [4, 9]), ([10], [10]), ([], []), ([], []), ([12, 3, 0, 1, 2, 3, 12, 13], [3, 12]), ([13, 11, 14, 0, 1, 2, 3, 4, 5, 6, 7, 8, 9, 10, 11, 12, 13, 14], [11, 13])])
def shape_where.B5 : List Nat := [0, 0, 3, 7, 0, 0, 32, 0, 128, 480, 1008, 2032, 0, 0, 12303, 32767]
theorem shape_where.tab5 : rtab .any (opsOf Try.f73 5) = shape_where.T5 := by kernel_rfl
theorem shape_where.bits5 : waitsOk shape_where.T5.2 shape_where.B5 = true := by kernel_rfl
set_option maxHeartbeats 8000000 in
set_option maxRecDepth 100000 in
theorem shape_where.calls (k : Nat) (A0 : Option Addr) (c0 : Nat) (l0 : List (S29)) (a1_0 : Int) (a1_1 : Int) (r : Int) (w : World) (hr0 : Kd.C k29 w A0 l0.length l0) (hc0 : l0.length ≤ c0) (h : shape_where.f k l0 a1_0 a1_1 = some r) :
  Calls Try.prog 73 #[.slice A0 l0.length c0, .agg #[.int .i64 a1_0, .int .i64 a1_1]] w fun e w' => e = .returned (.int .i64 r) ∧ Below w.heap.size w w' := by
 have hu29 := Try.underlying29
 have HR0 := Aside0.mk hr0
 have HC0 := Aside0.mk hc0
 clear hr0 hc0
 have HB := Aside0.mk (Below.refl w.heap.size w)
 have H : (shape_where.l0 k l0 (-1) (l0.length : Int) 0 a1_0 a1_1) = some r := h
 clear h
 have H' := Aside0.mk H
 clear H
 go_enter Try.func73, Try.ntmps73
 go_wp2_with (first | ((with_reducible refine gate_dst (N := 3) rfl ?_); refine bxe 3 #[.int .i64 a1_0, .int .i64 a1_1] 29 ?_; intro gb101 hg w3 hbox hb; have BK101 := Aside0.mk (hbox); have GW101 := Aside0.mk (gs hg : w.heap.size ≤ gb101); have GE101 := Aside0.mk (gs hg : w.heap.size ≤ gb101); replace HB := Aside0.mk (below_step bh hb); clear hb hbox hg))
 go_loopg [5, 11] k (fun kq v5 v11 w' => ∃ (x5_1 : Int) (x11_1 : Int), v5 = .int .i64 x5_1 ∧ v11 = .int .i64 x11_1 ∧ Aside0 (shape_where.l0 kq l0 x5_1 (l0.length : Int) x11_1 a1_0 a1_1 = some r) ∧ Aside0 (kq ≤ k) ∧ Aside0 (w'.heap[gb101]? = some (.cells #[.int .i64 a1_0, .int .i64 a1_1] 29 (0, 0))) ∧ Aside0 (Below w.heap.size w w'))
 case atStart => exact ⟨((-1)), (0), sd, sd, H', ⟨Nat.le_refl _⟩, ⟨bk BK101⟩, ⟨bh⟩⟩
 case round =>
  clear H'
  (try clear p2)
  obtain ⟨x5_1, x11_1, rfl, rfl, HA, HK1, BK101, HB⟩ := hrel
  cases gk with
  | zero => exact absurd HA.out (by simp [shape_where.l0])
  | succ k1 =>
   have H := HA.out
   clear HA
   simp only [shape_where.l0] at H
   by_cases c4 : x11_1 < (l0.length : Int)
   ·rw [if_pos c4] at H
    have c4b0 := decide_eq_true c4
    clear c4
    by_cases c5 : 0 ≤ x11_1
    ·rw [if_pos c5] at H
     have c5b0 := decide_eq_true c5
     clear c5
     by_cases c6 : x11_1 < (l0.length : Int)
     ·rw [if_pos c6] at H
      have c6b0 := decide_eq_true c6
      clear c6
      by_cases c7 : (l0.length : Int) = 0
      ·rw [if_pos c7] at H
       exact absurd H (by simp)
      ·rw [if_neg c7] at H
       have c7b0 : ((l0.length : Int) == 0) = false := beq_eq_false_iff_ne.mpr c7
       have c7b1 : ((l0.length : Int) != 0) = true := bne_iff_ne.mpr c7
       have c7b2 : ¬ (l0 = []) := fun h_ => c7 (by rw [h_]; rfl)
       obtain ⟨ji8, hji8⟩ : ∃ j_ : Int, (Int.tmod (wrap64 (x11_1 + 1)) (l0.length : Int)) = j_ := ⟨_, rfl⟩
       first | rw [hji8] at H | simp only [hji8] at H
       by_cases c9 : 0 ≤ (ji8)
       ·rw [if_pos c9] at H
        have c9b0 := decide_eq_true c9
        clear c9
        by_cases c10 : (ji8) < (l0.length : Int)
        ·rw [if_pos c10] at H
         have c10b0 := decide_eq_true c10
         clear c10
         replace H := Option.bind_eq_some_iff.mp H
         obtain ⟨t106, A110, H⟩ := H
         try dsimp only at H
         have A11 := Aside0.mk A110
         clear A110
         by_cases c12 : t106 = true
         ·subst c12
          rw [if_pos rfl] at H
          obtain rfl := Option.some.inj H
          try go_wp2
          replace BK101 := Aside0.mk (blk_drew BK101.out)
          replace HB := Aside0.mk (below_drew1 HB.out)
          have p102 : 0 ≤ (x11_1 : Int) := dt
          have q102 : x11_1 < (l0.length : Int) := dt
          obtain ⟨ad102, e102, hx102_0, hx102_1⟩ := at_T29 HR0.out x11_1 p102 q102
          have hw102_1 := hx102_1
          have hw102_0 := hx102_0
          cases e102
          replace hx102_0 := hc HB hx102_0
          replace hx102_1 := hc HB hx102_1
          replace p102 := eq_true p102
          replace q102 := eq_true q102
          have p103 : 0 ≤ ((ji8) : Int) := dt
          have q103 : (ji8) < (l0.length : Int) := dt
          obtain ⟨ad103, e103, hx103_0, hx103_1⟩ := at_T29 HR0.out (ji8) p103 q103
          have hw103_1 := hx103_1
          have hw103_0 := hx103_0
          obtain rfl : ad102 = ad103 := (by injection e103)
          replace hx103_0 := hc HB hx103_0
          replace hx103_1 := hc HB hx103_1
          replace p103 := eq_true p103
          replace q103 := eq_true q103
          refine start_ (n := 16) (S := fun w' => w'.cell? (ad102.add ((x11_1).toNat * 2)) = some (.int .i64 ((rd_T29 l0 x11_1).f0)) ∧ w'.cell? ⟨(ad102.add ((x11_1).toNat * 2)).block, (ad102.add ((x11_1).toNat * 2)).off + 1, none⟩ = some (.int .i64 ((rd_T29 l0 x11_1).f1)) ∧ w'.cell? (ad102.add (((ji8)).toNat * 2)) = some (.int .i64 ((rd_T29 l0 (ji8)).f0)) ∧ w'.cell? ⟨(ad102.add (((ji8)).toNat * 2)).block, (ad102.add (((ji8)).toNat * 2)).off + 1, none⟩ = some (.int .i64 ((rd_T29 l0 (ji8)).f1))) (ds := []) #[false, false, false, false, false, false, false, false, false, false, false, false, false, false, false, false] (by kernel_rfl) rfl rfl ⟨(hc HB hw102_0), (hc HB hw102_1), (hc HB hw103_0), (hc HB hw103_1)⟩ (fun hHeld => ?_); refine with_tabW shape_where.tab5 shape_where.bits5 (fun HT_ HW_ => ?_)
          generalize wr.drew = w13 at BK101 HB hx102_0 hx102_1 hx103_0 hx103_1 hHeld ⊢
          refine pu 0 14 HT_ ?_
          refine pu 1 15 HT_ ?_
          refine pu 2 16 HT_ ?_
          refine pu 4 18 HT_ ?_
          refine pu 5 19 HT_ ?_
          refine pu 6 20 HT_ ?_
          refine pu 7 21 HT_ ?_
          refine pu 8 22 HT_ ?_
          refine pu 9 23 HT_ ?_
          refine pu 10 24 HT_ ?_
          refine tk4 3 17 hHeld HT_ HW_ ?_
          refine tk4 11 25 hHeld HT_ HW_ ?_
          refine join_ (σ := Nat × Nat) 2 #[true, true, true, true, true, true, true, true, true, true, true, true, true, true, false, false] (fun s_ => [(7, .pointer (some ⟨s_.1, 0, none⟩)), (8, .pointer (some ⟨s_.2, 0, none⟩))]) (fun s_ w' => (w'.cell? (ad102.add ((x11_1).toNat * 2)) = some (.int .i64 ((rd_T29 l0 x11_1).f0)) ∧ w'.cell? ⟨(ad102.add ((x11_1).toNat * 2)).block, (ad102.add ((x11_1).toNat * 2)).off + 1, none⟩ = some (.int .i64 ((rd_T29 l0 x11_1).f1)) ∧ w'.cell? (ad102.add (((ji8)).toNat * 2)) = some (.int .i64 ((rd_T29 l0 (ji8)).f0)) ∧ w'.cell? ⟨(ad102.add (((ji8)).toNat * 2)).block, (ad102.add (((ji8)).toNat * 2)).off + 1, none⟩ = some (.int .i64 ((rd_T29 l0 (ji8)).f1))) ∧ (w'.heap[gb101]? = some (.cells #[.int .i64 a1_0, .int .i64 a1_1] 29 (0, 0))) ∧ (w'.heap[s_.1]? = some (.cells #[.int .i64 0, .int .i64 0] 29 (0, 0))) ∧ (w'.heap[s_.2]? = some (.cells #[.int .i64 0, .int .i64 0] 29 (0, 0))) ∧ (w.heap.size ≤ s_.1) ∧ (w.heap.size ≤ s_.1) ∧ (gb101 ≠ s_.1) ∧ (s_.1 ≠ gb101) ∧ (s_.2 ≠ s_.1) ∧ (s_.1 ≠ s_.2) ∧ (w.heap.size ≤ s_.2) ∧ (w.heap.size ≤ s_.2) ∧ (gb101 ≠ s_.2) ∧ (s_.2 ≠ gb101) ∧ (Below w.heap.size w w')) ?_ ?_
          rotate_left
          ·intro hCont
           refine two_ (i := 12) (j := 13) (Ni := some 7) (Nj := some 8) #[true, true, true, true, true, true, true, true, true, true, true, true, true, false, false, false] #[true, true, true, true, true, true, true, true, true, true, true, true, false, true, false, false] rfl rfl rfl rfl (on2 HT_) (by decide) (by decide) (fun K hK => ?_) (fun K hK => ?_)
           ·skip
            refine bxs 7 #[.int .i64 0, .int .i64 0] 29 ?_
            intro gb104 hg w14 hbox hb
            have BK104 := Aside0.mk (hbox)
            have GW104 := Aside0.mk (gs hg : w.heap.size ≤ gb104)
            have GE104 := Aside0.mk (gs hg : w.heap.size ≤ gb104)
            have NB101_104 := Aside0.mk ((by rw [hg]; exact Nat.ne_of_lt (kl BK101) : gb101 ≠ gb104))
            have NB104_101 := Aside0.mk ((by rw [hg]; exact Nat.ne_of_gt (kl BK101) : gb104 ≠ gb101))
            replace BK101 := kb BK101 hb
            replace HB := Aside0.mk (below_step bh hb)
            clear hb hbox hg
            refine hK.out _ _ ⟨(hc HB hw102_0), (hc HB hw102_1), (hc HB hw103_0), (hc HB hw103_1)⟩ (fun hHeld => ?_)
            clear hK K
            refine nm 7 ?_
            refine one_ (i := 13) (N := some 8) #[true, true, true, true, true, true, true, true, true, true, true, true, true, true, false, false] rfl rfl (on1 HT_) (by decide) (fun K hK => ?_)
            refine bxs 8 #[.int .i64 0, .int .i64 0] 29 ?_
            intro gb105 hg w15 hbox hb
            have BK105 := Aside0.mk (hbox)
            have GW105 := Aside0.mk (gs hg : w.heap.size ≤ gb105)
            have GE105 := Aside0.mk (gs hg : w.heap.size ≤ gb105)
            have NB101_105 := Aside0.mk ((by rw [hg]; exact Nat.ne_of_lt (kl BK101) : gb101 ≠ gb105))
            have NB105_101 := Aside0.mk ((by rw [hg]; exact Nat.ne_of_gt (kl BK101) : gb105 ≠ gb101))
            have NB104_105 := Aside0.mk ((by rw [hg]; exact Nat.ne_of_lt (kl BK104) : gb104 ≠ gb105))
            have NB105_104 := Aside0.mk ((by rw [hg]; exact Nat.ne_of_gt (kl BK104) : gb105 ≠ gb104))
            replace BK101 := kb BK101 hb
            replace BK104 := kb BK104 hb
            replace HB := Aside0.mk (below_step bh hb)
            clear hb hbox hg
            refine hK.out _ _ ⟨(hc HB hw102_0), (hc HB hw102_1), (hc HB hw103_0), (hc HB hw103_1)⟩ (fun hHeld => ?_)
            clear hK K
            refine nm 8 ?_
            exact norm_ pa (hCont (gb104, gb105) _ ⟨hHeld, bk BK101, bk BK104, bk BK105, GW104.out, GE104.out, NB101_104.out, NB104_101.out, NB105_104.out, NB104_105.out, GW105.out, GE105.out, NB101_105.out, NB105_101.out, bh⟩)
           ·skip
            refine bxs 8 #[.int .i64 0, .int .i64 0] 29 ?_
            intro gb105 hg w14 hbox hb
            have BK105 := Aside0.mk (hbox)
            have GW105 := Aside0.mk (gs hg : w.heap.size ≤ gb105)
            have GE105 := Aside0.mk (gs hg : w.heap.size ≤ gb105)
            have NB101_105 := Aside0.mk ((by rw [hg]; exact Nat.ne_of_lt (kl BK101) : gb101 ≠ gb105))
            have NB105_101 := Aside0.mk ((by rw [hg]; exact Nat.ne_of_gt (kl BK101) : gb105 ≠ gb101))
            replace BK101 := kb BK101 hb
            replace HB := Aside0.mk (below_step bh hb)
            clear hb hbox hg
            refine hK.out _ _ ⟨(hc HB hw102_0), (hc HB hw102_1), (hc HB hw103_0), (hc HB hw103_1)⟩ (fun hHeld => ?_)
            clear hK K
            refine nm 8 ?_
            refine one_ (i := 12) (N := some 7) #[true, true, true, true, true, true, true, true, true, true, true, true, true, true, false, false] rfl rfl (on1 HT_) (by decide) (fun K hK => ?_)
            refine bxs 7 #[.int .i64 0, .int .i64 0] 29 ?_
            intro gb104 hg w15 hbox hb
            have BK104 := Aside0.mk (hbox)
            have GW104 := Aside0.mk (gs hg : w.heap.size ≤ gb104)
            have GE104 := Aside0.mk (gs hg : w.heap.size ≤ gb104)
            have NB101_104 := Aside0.mk ((by rw [hg]; exact Nat.ne_of_lt (kl BK101) : gb101 ≠ gb104))
            have NB104_101 := Aside0.mk ((by rw [hg]; exact Nat.ne_of_gt (kl BK101) : gb104 ≠ gb101))
            have NB105_104 := Aside0.mk ((by rw [hg]; exact Nat.ne_of_lt (kl BK105) : gb105 ≠ gb104))
            have NB104_105 := Aside0.mk ((by rw [hg]; exact Nat.ne_of_gt (kl BK105) : gb104 ≠ gb105))
            replace BK101 := kb BK101 hb
            replace BK105 := kb BK105 hb
            replace HB := Aside0.mk (below_step bh hb)
            clear hb hbox hg
            refine hK.out _ _ ⟨(hc HB hw102_0), (hc HB hw102_1), (hc HB hw103_0), (hc HB hw103_1)⟩ (fun hHeld => ?_)
            clear hK K
            refine nm 7 ?_
            exact norm_ pa (hCont (gb104, gb105) _ ⟨hHeld, bk BK101, bk BK104, bk BK105, GW104.out, GE104.out, NB101_104.out, NB104_101.out, NB105_104.out, NB104_105.out, GW105.out, GE105.out, NB101_105.out, NB105_101.out, bh⟩)
          rintro ⟨gb104, gb105⟩ w16 ⟨hS_, h0_, h1_, h2_, h3_, h4_, h5_, h6_, h7_, h8_, h9_, h10_, h11_, h12_, h13_⟩
          have BK104 := Aside0.mk h1_
          have BK105 := Aside0.mk h2_
          have GW104 := Aside0.mk h3_
          have GE104 := Aside0.mk h4_
          have NB101_104 := Aside0.mk h5_
          have NB104_101 := Aside0.mk h6_
          have NB105_104 := Aside0.mk h7_
          have NB104_105 := Aside0.mk h8_
          have GW105 := Aside0.mk h9_
          have GE105 := Aside0.mk h10_
          have NB101_105 := Aside0.mk h11_
          have NB105_101 := Aside0.mk h12_
          replace BK101 := Aside0.mk h0_
          replace HB := Aside0.mk h13_
          clear h0_ h1_ h2_ h3_ h4_ h5_ h6_ h7_ h8_ h9_ h10_ h11_ h12_ h13_
          have hHeld := hS_
          refine nn ?_
          refine one_ (i := 14) (N := none) #[true, true, true, true, true, true, true, true, true, true, true, true, true, true, true, false] rfl rfl (on1 HT_) (by decide) (fun K hK => ?_)
          have hs17 : w16.cell? ⟨gb104, 0, none⟩ = some (.int .i64 0) := bc BK104 0
          have hfs17 := blk_frozen BK104.out 0
          have hns17_0 := NB101_104.out
          have hns17_2 := NB105_104.out
          have hms17_0 := NB104_101.out
          have hms17_2 := NB104_105.out
          have hs18 : w16.cell? ⟨gb104, 1, none⟩ = some (.int .i64 0) := bc BK104 1
          have hfs18 := blk_frozen BK104.out 1
          have hns18_0 := NB101_104.out
          have hns18_2 := NB105_104.out
          have hms18_0 := NB104_101.out
          have hms18_2 := NB104_105.out
          refine skip_ (w1 := ?_) (by rfl) rfl ?_ ?_
          rotate_left
          ·go_simp
           rfl
          refine hK.out _ _ ⟨((cell_far (p := ⟨gb104, _, none⟩) (fr hw102_0 GW104) _).trans (((cell_far (p := ⟨gb104, _, none⟩) (fr hw102_0 GW104) _).trans (hHeld.1)))), ((cell_far (p := ⟨gb104, _, none⟩) (fr hw102_1 GW104) _).trans (((cell_far (p := ⟨gb104, _, none⟩) (fr hw102_1 GW104) _).trans (hHeld.2.1)))), ((cell_far (p := ⟨gb104, _, none⟩) (fr hw103_0 GW104) _).trans (((cell_far (p := ⟨gb104, _, none⟩) (fr hw103_0 GW104) _).trans (hHeld.2.2.1)))), ((cell_far (p := ⟨gb104, _, none⟩) (fr hw103_1 GW104) _).trans (((cell_far (p := ⟨gb104, _, none⟩) (fr hw103_1 GW104) _).trans (hHeld.2.2.2))))⟩ (fun hHeld => ?_)
          clear hK K
          refine one_ (i := 15) (N := none) #[true, true, true, true, true, true, true, true, true, true, true, true, true, true, true, true] rfl rfl (on1 HT_) (by decide) (fun K hK => ?_)
          have hs19 : w16.cell? ⟨gb105, 0, none⟩ = some (.int .i64 0) := bc BK105 0
          have hfs19 := blk_frozen BK105.out 0
          have hns19_0 := NB101_105.out
          have hns19_1 := NB104_105.out
          have hms19_0 := NB105_101.out
          have hms19_1 := NB105_104.out
          have hs20 : w16.cell? ⟨gb105, 1, none⟩ = some (.int .i64 0) := bc BK105 1
          have hfs20 := blk_frozen BK105.out 1
          have hns20_0 := NB101_105.out
          have hns20_1 := NB104_105.out
          have hms20_0 := NB105_101.out
          have hms20_1 := NB105_104.out
          refine skip_ (w1 := ?_) (by rfl) rfl ?_ ?_
          rotate_left
          ·go_simp
           rfl
          refine hK.out _ _ ⟨((cell_far (p := ⟨gb105, _, none⟩) (fr hw102_0 GW105) _).trans (((cell_far (p := ⟨gb105, _, none⟩) (fr hw102_0 GW105) _).trans (hHeld.1)))), ((cell_far (p := ⟨gb105, _, none⟩) (fr hw102_1 GW105) _).trans (((cell_far (p := ⟨gb105, _, none⟩) (fr hw102_1 GW105) _).trans (hHeld.2.1)))), ((cell_far (p := ⟨gb105, _, none⟩) (fr hw103_0 GW105) _).trans (((cell_far (p := ⟨gb105, _, none⟩) (fr hw103_0 GW105) _).trans (hHeld.2.2.1)))), ((cell_far (p := ⟨gb105, _, none⟩) (fr hw103_1 GW105) _).trans (((cell_far (p := ⟨gb105, _, none⟩) (fr hw103_1 GW105) _).trans (hHeld.2.2.2))))⟩ (fun hHeld => ?_)
          clear hK K
          refine done_ (done_of HT_.out (by kernel_rfl)) ?_
          have hnb21 := NB104_101.out
          have hnc21 := NB101_104.out
          have hnb22 := NB104_105.out
          have hnc22 := NB105_104.out
          obtain ⟨hcz23_0, hcz23_1, hfz23_0, hfz23_1⟩ := b2 BK104
          have hnb24 := NB105_101.out
          have hnc24 := NB101_105.out
          obtain ⟨hcz25_0, hcz25_1, hfz25_0, hfz25_1⟩ := b2 BK105
          obtain ⟨hcz26_0, hcz26_1, hfz26_0, hfz26_1⟩ := b2 BK101
          try go_wp2_with (first | ((with_reducible refine gc 100 rfl ?_); refine goesL_ (some 29) rfl rfl Try.func100 (by kernel_rfl) rfl #[.agg #[.int .i64 ((rd_T29 l0 x11_1).f0), .int .i64 ((rd_T29 l0 x11_1).f1)], .agg #[.int .i64 ((rd_T29 l0 (ji8)).f0), .int .i64 ((rd_T29 l0 (ji8)).f1)], .agg #[.int .i64 a1_0, .int .i64 a1_1]] rfl (by (try simp only [List.map_toArray, List.map_cons, List.map_nil]); first | done | (simp only [hji8]; rfl) | rfl | (simp only [List.length_drop, List.length_take]; rfl)) ?_; (with_reducible refine (shape_on.calls ((rd_T29 l0 x11_1).f0) ((rd_T29 l0 x11_1).f1) ((rd_T29 l0 (ji8)).f0) ((rd_T29 l0 (ji8)).f1) a1_0 a1_1 true _ A11.out).mono ?_); rintro e w27 ⟨rfl, hb⟩; refine ⟨_, rfl, ?_⟩; replace BK101 := Aside0.mk (blk_below (g := gb101) (o := .cells #[.int .i64 a1_0, .int .i64 a1_1] 29 (0, 0)) (by (with_reducible repeat (first | refine blk_drewN ?_ _ | refine blk_drew ?_ | refine blk_alloc ?_ _)); refine blk_far ?_ NB101_105.out _; (with_reducible repeat (first | refine blk_drewN ?_ _ | refine blk_drew ?_ | refine blk_alloc ?_ _)); refine blk_far ?_ NB101_105.out _; (with_reducible repeat (first | refine blk_drewN ?_ _ | refine blk_drew ?_ | refine blk_alloc ?_ _)); refine blk_far ?_ NB101_104.out _; (with_reducible repeat (first | refine blk_drewN ?_ _ | refine blk_drew ?_ | refine blk_alloc ?_ _)); refine blk_far ?_ NB101_104.out _; (with_reducible repeat (first | refine blk_drewN ?_ _ | refine blk_drew ?_ | refine blk_alloc ?_ _)); exact BK101.out) hb); replace BK104 := Aside0.mk (blk_below (g := gb104) (o := .cells #[.int .i64 ((rd_T29 l0 x11_1).f0), .int .i64 ((rd_T29 l0 x11_1).f1)] 29 (0, 0)) (by (with_reducible repeat (first | refine blk_drewN ?_ _ | refine blk_drew ?_ | refine blk_alloc ?_ _)); refine blk_far ?_ NB104_105.out _; (with_reducible repeat (first | refine blk_drewN ?_ _ | refine blk_drew ?_ | refine blk_alloc ?_ _)); refine blk_far ?_ NB104_105.out _; (with_reducible repeat (first | refine blk_drewN ?_ _ | refine blk_drew ?_ | refine blk_alloc ?_ _)); refine blk_put (cs := #[.int .i64 ((rd_T29 l0 x11_1).f0), .int .i64 0]) ?_ 1 _ rfl; (with_reducible repeat (first | refine blk_drewN ?_ _ | refine blk_drew ?_ | refine blk_alloc ?_ _)); refine blk_put (cs := #[.int .i64 0, .int .i64 0]) ?_ 0 _ rfl; (with_reducible repeat (first | refine blk_drewN ?_ _ | refine blk_drew ?_ | refine blk_alloc ?_ _)); exact BK104.out) hb); replace BK105 := Aside0.mk (blk_below (g := gb105) (o := .cells #[.int .i64 ((rd_T29 l0 (ji8)).f0), .int .i64 ((rd_T29 l0 (ji8)).f1)] 29 (0, 0)) (by (with_reducible repeat (first | refine blk_drewN ?_ _ | refine blk_drew ?_ | refine blk_alloc ?_ _)); refine blk_put (cs := #[.int .i64 ((rd_T29 l0 (ji8)).f0), .int .i64 0]) ?_ 1 _ rfl; (with_reducible repeat (first | refine blk_drewN ?_ _ | refine blk_drew ?_ | refine blk_alloc ?_ _)); refine blk_put (cs := #[.int .i64 0, .int .i64 0]) ?_ 0 _ rfl; (with_reducible repeat (first | refine blk_drewN ?_ _ | refine blk_drew ?_ | refine blk_alloc ?_ _)); refine blk_far ?_ NB105_104.out _; (with_reducible repeat (first | refine blk_drewN ?_ _ | refine blk_drew ?_ | refine blk_alloc ?_ _)); refine blk_far ?_ NB105_104.out _; (with_reducible repeat (first | refine blk_drewN ?_ _ | refine blk_drew ?_ | refine blk_alloc ?_ _)); exact BK105.out) hb); replace HB := Aside0.mk (below_step bh hb); (try clear hb); (try clear hb2); (try clear hk); (try clear hi)))
          go_ret
          exact ⟨by first | rfl | (simp [errW_none, errW_some] <;> rfl) | (simp only [← hji8]; first | rfl | (simp [errW_none, errW_some] <;> rfl)) | (simp [*, errW_none, errW_some] <;> rfl), bh⟩
         ·replace c12 := Bool.eq_false_iff.mpr c12
          subst c12
          rw [if_neg (show ¬ (false = true) by decide)] at H
          have HC28 := Aside0.mk H
          clear H
          try go_wp2
          replace BK101 := Aside0.mk (blk_drew BK101.out)
          replace HB := Aside0.mk (below_drew1 HB.out)
          have p102 : 0 ≤ (x11_1 : Int) := dt
          have q102 : x11_1 < (l0.length : Int) := dt
          obtain ⟨ad102, e102, hx102_0, hx102_1⟩ := at_T29 HR0.out x11_1 p102 q102
          have hw102_1 := hx102_1
          have hw102_0 := hx102_0
          cases e102
          replace hx102_0 := hc HB hx102_0
          replace hx102_1 := hc HB hx102_1
          replace p102 := eq_true p102
          replace q102 := eq_true q102
          have p103 : 0 ≤ ((ji8) : Int) := dt
          have q103 : (ji8) < (l0.length : Int) := dt
          obtain ⟨ad103, e103, hx103_0, hx103_1⟩ := at_T29 HR0.out (ji8) p103 q103
          have hw103_1 := hx103_1
          have hw103_0 := hx103_0
          obtain rfl : ad102 = ad103 := (by injection e103)
          replace hx103_0 := hc HB hx103_0
          replace hx103_1 := hc HB hx103_1
          replace p103 := eq_true p103
          replace q103 := eq_true q103
          refine start_ (n := 16) (S := fun w' => w'.cell? (ad102.add ((x11_1).toNat * 2)) = some (.int .i64 ((rd_T29 l0 x11_1).f0)) ∧ w'.cell? ⟨(ad102.add ((x11_1).toNat * 2)).block, (ad102.add ((x11_1).toNat * 2)).off + 1, none⟩ = some (.int .i64 ((rd_T29 l0 x11_1).f1)) ∧ w'.cell? (ad102.add (((ji8)).toNat * 2)) = some (.int .i64 ((rd_T29 l0 (ji8)).f0)) ∧ w'.cell? ⟨(ad102.add (((ji8)).toNat * 2)).block, (ad102.add (((ji8)).toNat * 2)).off + 1, none⟩ = some (.int .i64 ((rd_T29 l0 (ji8)).f1))) (ds := []) #[false, false, false, false, false, false, false, false, false, false, false, false, false, false, false, false] (by kernel_rfl) rfl rfl ⟨(hc HB hw102_0), (hc HB hw102_1), (hc HB hw103_0), (hc HB hw103_1)⟩ (fun hHeld => ?_); refine with_tabW shape_where.tab5 shape_where.bits5 (fun HT_ HW_ => ?_)
          generalize wr.drew = w29 at BK101 HB hx102_0 hx102_1 hx103_0 hx103_1 hHeld ⊢
          refine pu 0 14 HT_ ?_
          refine pu 1 15 HT_ ?_
          refine pu 2 16 HT_ ?_
          refine pu 4 18 HT_ ?_
          refine pu 5 19 HT_ ?_
          refine pu 6 20 HT_ ?_
          refine pu 7 21 HT_ ?_
          refine pu 8 22 HT_ ?_
          refine pu 9 23 HT_ ?_
          refine pu 10 24 HT_ ?_
          refine tk4 3 17 hHeld HT_ HW_ ?_
          refine tk4 11 25 hHeld HT_ HW_ ?_
          refine join_ (σ := Nat × Nat) 2 #[true, true, true, true, true, true, true, true, true, true, true, true, true, true, false, false] (fun s_ => [(7, .pointer (some ⟨s_.1, 0, none⟩)), (8, .pointer (some ⟨s_.2, 0, none⟩))]) (fun s_ w' => (w'.cell? (ad102.add ((x11_1).toNat * 2)) = some (.int .i64 ((rd_T29 l0 x11_1).f0)) ∧ w'.cell? ⟨(ad102.add ((x11_1).toNat * 2)).block, (ad102.add ((x11_1).toNat * 2)).off + 1, none⟩ = some (.int .i64 ((rd_T29 l0 x11_1).f1)) ∧ w'.cell? (ad102.add (((ji8)).toNat * 2)) = some (.int .i64 ((rd_T29 l0 (ji8)).f0)) ∧ w'.cell? ⟨(ad102.add (((ji8)).toNat * 2)).block, (ad102.add (((ji8)).toNat * 2)).off + 1, none⟩ = some (.int .i64 ((rd_T29 l0 (ji8)).f1))) ∧ (w'.heap[gb101]? = some (.cells #[.int .i64 a1_0, .int .i64 a1_1] 29 (0, 0))) ∧ (w'.heap[s_.1]? = some (.cells #[.int .i64 0, .int .i64 0] 29 (0, 0))) ∧ (w'.heap[s_.2]? = some (.cells #[.int .i64 0, .int .i64 0] 29 (0, 0))) ∧ (w.heap.size ≤ s_.1) ∧ (w.heap.size ≤ s_.1) ∧ (gb101 ≠ s_.1) ∧ (s_.1 ≠ gb101) ∧ (s_.2 ≠ s_.1) ∧ (s_.1 ≠ s_.2) ∧ (w.heap.size ≤ s_.2) ∧ (w.heap.size ≤ s_.2) ∧ (gb101 ≠ s_.2) ∧ (s_.2 ≠ gb101) ∧ (Below w.heap.size w w')) ?_ ?_
          rotate_left
          ·intro hCont
           refine two_ (i := 12) (j := 13) (Ni := some 7) (Nj := some 8) #[true, true, true, true, true, true, true, true, true, true, true, true, true, false, false, false] #[true, true, true, true, true, true, true, true, true, true, true, true, false, true, false, false] rfl rfl rfl rfl (on2 HT_) (by decide) (by decide) (fun K hK => ?_) (fun K hK => ?_)
           ·skip
            refine bxs 7 #[.int .i64 0, .int .i64 0] 29 ?_
            intro gb104 hg w30 hbox hb
            have BK104 := Aside0.mk (hbox)
            have GW104 := Aside0.mk (gs hg : w.heap.size ≤ gb104)
            have GE104 := Aside0.mk (gs hg : w.heap.size ≤ gb104)
            have NB101_104 := Aside0.mk ((by rw [hg]; exact Nat.ne_of_lt (kl BK101) : gb101 ≠ gb104))
            have NB104_101 := Aside0.mk ((by rw [hg]; exact Nat.ne_of_gt (kl BK101) : gb104 ≠ gb101))
            replace BK101 := kb BK101 hb
            replace HB := Aside0.mk (below_step bh hb)
            clear hb hbox hg
            refine hK.out _ _ ⟨(hc HB hw102_0), (hc HB hw102_1), (hc HB hw103_0), (hc HB hw103_1)⟩ (fun hHeld => ?_)
            clear hK K
            refine nm 7 ?_
            refine one_ (i := 13) (N := some 8) #[true, true, true, true, true, true, true, true, true, true, true, true, true, true, false, false] rfl rfl (on1 HT_) (by decide) (fun K hK => ?_)
            refine bxs 8 #[.int .i64 0, .int .i64 0] 29 ?_
            intro gb105 hg w31 hbox hb
            have BK105 := Aside0.mk (hbox)
            have GW105 := Aside0.mk (gs hg : w.heap.size ≤ gb105)
            have GE105 := Aside0.mk (gs hg : w.heap.size ≤ gb105)
            have NB101_105 := Aside0.mk ((by rw [hg]; exact Nat.ne_of_lt (kl BK101) : gb101 ≠ gb105))
            have NB105_101 := Aside0.mk ((by rw [hg]; exact Nat.ne_of_gt (kl BK101) : gb105 ≠ gb101))
            have NB104_105 := Aside0.mk ((by rw [hg]; exact Nat.ne_of_lt (kl BK104) : gb104 ≠ gb105))
            have NB105_104 := Aside0.mk ((by rw [hg]; exact Nat.ne_of_gt (kl BK104) : gb105 ≠ gb104))
            replace BK101 := kb BK101 hb
            replace BK104 := kb BK104 hb
            replace HB := Aside0.mk (below_step bh hb)
            clear hb hbox hg
            refine hK.out _ _ ⟨(hc HB hw102_0), (hc HB hw102_1), (hc HB hw103_0), (hc HB hw103_1)⟩ (fun hHeld => ?_)
            clear hK K
            refine nm 8 ?_
            exact norm_ pa (hCont (gb104, gb105) _ ⟨hHeld, bk BK101, bk BK104, bk BK105, GW104.out, GE104.out, NB101_104.out, NB104_101.out, NB105_104.out, NB104_105.out, GW105.out, GE105.out, NB101_105.out, NB105_101.out, bh⟩)
           ·skip
            refine bxs 8 #[.int .i64 0, .int .i64 0] 29 ?_
            intro gb105 hg w30 hbox hb
            have BK105 := Aside0.mk (hbox)
            have GW105 := Aside0.mk (gs hg : w.heap.size ≤ gb105)
            have GE105 := Aside0.mk (gs hg : w.heap.size ≤ gb105)
            have NB101_105 := Aside0.mk ((by rw [hg]; exact Nat.ne_of_lt (kl BK101) : gb101 ≠ gb105))
            have NB105_101 := Aside0.mk ((by rw [hg]; exact Nat.ne_of_gt (kl BK101) : gb105 ≠ gb101))
            replace BK101 := kb BK101 hb
            replace HB := Aside0.mk (below_step bh hb)
            clear hb hbox hg
            refine hK.out _ _ ⟨(hc HB hw102_0), (hc HB hw102_1), (hc HB hw103_0), (hc HB hw103_1)⟩ (fun hHeld => ?_)
            clear hK K
            refine nm 8 ?_
            refine one_ (i := 12) (N := some 7) #[true, true, true, true, true, true, true, true, true, true, true, true, true, true, false, false] rfl rfl (on1 HT_) (by decide) (fun K hK => ?_)
            refine bxs 7 #[.int .i64 0, .int .i64 0] 29 ?_
            intro gb104 hg w31 hbox hb
            have BK104 := Aside0.mk (hbox)
            have GW104 := Aside0.mk (gs hg : w.heap.size ≤ gb104)
            have GE104 := Aside0.mk (gs hg : w.heap.size ≤ gb104)
            have NB101_104 := Aside0.mk ((by rw [hg]; exact Nat.ne_of_lt (kl BK101) : gb101 ≠ gb104))
            have NB104_101 := Aside0.mk ((by rw [hg]; exact Nat.ne_of_gt (kl BK101) : gb104 ≠ gb101))
            have NB105_104 := Aside0.mk ((by rw [hg]; exact Nat.ne_of_lt (kl BK105) : gb105 ≠ gb104))
            have NB104_105 := Aside0.mk ((by rw [hg]; exact Nat.ne_of_gt (kl BK105) : gb104 ≠ gb105))
            replace BK101 := kb BK101 hb
            replace BK105 := kb BK105 hb
            replace HB := Aside0.mk (below_step bh hb)
            clear hb hbox hg
            refine hK.out _ _ ⟨(hc HB hw102_0), (hc HB hw102_1), (hc HB hw103_0), (hc HB hw103_1)⟩ (fun hHeld => ?_)
            clear hK K
            refine nm 7 ?_
            exact norm_ pa (hCont (gb104, gb105) _ ⟨hHeld, bk BK101, bk BK104, bk BK105, GW104.out, GE104.out, NB101_104.out, NB104_101.out, NB105_104.out, NB104_105.out, GW105.out, GE105.out, NB101_105.out, NB105_101.out, bh⟩)
          rintro ⟨gb104, gb105⟩ w32 ⟨hS_, h0_, h1_, h2_, h3_, h4_, h5_, h6_, h7_, h8_, h9_, h10_, h11_, h12_, h13_⟩
          have BK104 := Aside0.mk h1_
          have BK105 := Aside0.mk h2_
          have GW104 := Aside0.mk h3_
          have GE104 := Aside0.mk h4_
          have NB101_104 := Aside0.mk h5_
          have NB104_101 := Aside0.mk h6_
          have NB105_104 := Aside0.mk h7_
          have NB104_105 := Aside0.mk h8_
          have GW105 := Aside0.mk h9_
          have GE105 := Aside0.mk h10_
          have NB101_105 := Aside0.mk h11_
          have NB105_101 := Aside0.mk h12_
          replace BK101 := Aside0.mk h0_
          replace HB := Aside0.mk h13_
          clear h0_ h1_ h2_ h3_ h4_ h5_ h6_ h7_ h8_ h9_ h10_ h11_ h12_ h13_
          have hHeld := hS_
          refine nn ?_
          refine one_ (i := 14) (N := none) #[true, true, true, true, true, true, true, true, true, true, true, true, true, true, true, false] rfl rfl (on1 HT_) (by decide) (fun K hK => ?_)
          have hs33 : w32.cell? ⟨gb104, 0, none⟩ = some (.int .i64 0) := bc BK104 0
          have hfs33 := blk_frozen BK104.out 0
          have hns33_0 := NB101_104.out
          have hns33_2 := NB105_104.out
          have hms33_0 := NB104_101.out
          have hms33_2 := NB104_105.out
          have hs34 : w32.cell? ⟨gb104, 1, none⟩ = some (.int .i64 0) := bc BK104 1
          have hfs34 := blk_frozen BK104.out 1
          have hns34_0 := NB101_104.out
          have hns34_2 := NB105_104.out
          have hms34_0 := NB104_101.out
          have hms34_2 := NB104_105.out
          refine skip_ (w1 := ?_) (by rfl) rfl ?_ ?_
          rotate_left
          ·go_simp
           rfl
          refine hK.out _ _ ⟨((cell_far (p := ⟨gb104, _, none⟩) (fr hw102_0 GW104) _).trans (((cell_far (p := ⟨gb104, _, none⟩) (fr hw102_0 GW104) _).trans (hHeld.1)))), ((cell_far (p := ⟨gb104, _, none⟩) (fr hw102_1 GW104) _).trans (((cell_far (p := ⟨gb104, _, none⟩) (fr hw102_1 GW104) _).trans (hHeld.2.1)))), ((cell_far (p := ⟨gb104, _, none⟩) (fr hw103_0 GW104) _).trans (((cell_far (p := ⟨gb104, _, none⟩) (fr hw103_0 GW104) _).trans (hHeld.2.2.1)))), ((cell_far (p := ⟨gb104, _, none⟩) (fr hw103_1 GW104) _).trans (((cell_far (p := ⟨gb104, _, none⟩) (fr hw103_1 GW104) _).trans (hHeld.2.2.2))))⟩ (fun hHeld => ?_)
          clear hK K
          refine one_ (i := 15) (N := none) #[true, true, true, true, true, true, true, true, true, true, true, true, true, true, true, true] rfl rfl (on1 HT_) (by decide) (fun K hK => ?_)
          have hs35 : w32.cell? ⟨gb105, 0, none⟩ = some (.int .i64 0) := bc BK105 0
          have hfs35 := blk_frozen BK105.out 0
          have hns35_0 := NB101_105.out
          have hns35_1 := NB104_105.out
          have hms35_0 := NB105_101.out
          have hms35_1 := NB105_104.out
          have hs36 : w32.cell? ⟨gb105, 1, none⟩ = some (.int .i64 0) := bc BK105 1
          have hfs36 := blk_frozen BK105.out 1
          have hns36_0 := NB101_105.out
          have hns36_1 := NB104_105.out
          have hms36_0 := NB105_101.out
          have hms36_1 := NB105_104.out
          refine skip_ (w1 := ?_) (by rfl) rfl ?_ ?_
          rotate_left
          ·go_simp
           rfl
          refine hK.out _ _ ⟨((cell_far (p := ⟨gb105, _, none⟩) (fr hw102_0 GW105) _).trans (((cell_far (p := ⟨gb105, _, none⟩) (fr hw102_0 GW105) _).trans (hHeld.1)))), ((cell_far (p := ⟨gb105, _, none⟩) (fr hw102_1 GW105) _).trans (((cell_far (p := ⟨gb105, _, none⟩) (fr hw102_1 GW105) _).trans (hHeld.2.1)))), ((cell_far (p := ⟨gb105, _, none⟩) (fr hw103_0 GW105) _).trans (((cell_far (p := ⟨gb105, _, none⟩) (fr hw103_0 GW105) _).trans (hHeld.2.2.1)))), ((cell_far (p := ⟨gb105, _, none⟩) (fr hw103_1 GW105) _).trans (((cell_far (p := ⟨gb105, _, none⟩) (fr hw103_1 GW105) _).trans (hHeld.2.2.2))))⟩ (fun hHeld => ?_)
          clear hK K
          refine done_ (done_of HT_.out (by kernel_rfl)) ?_
          have hnb37 := NB104_101.out
          have hnc37 := NB101_104.out
          have hnb38 := NB104_105.out
          have hnc38 := NB105_104.out
          obtain ⟨hcz39_0, hcz39_1, hfz39_0, hfz39_1⟩ := b2 BK104
          have hnb40 := NB105_101.out
          have hnc40 := NB101_105.out
          obtain ⟨hcz41_0, hcz41_1, hfz41_0, hfz41_1⟩ := b2 BK105
          obtain ⟨hcz42_0, hcz42_1, hfz42_0, hfz42_1⟩ := b2 BK101
          go_upto_if 34 with (first | ((with_reducible refine gc 100 rfl ?_); refine goesL_ (some 29) rfl rfl Try.func100 (by kernel_rfl) rfl #[.agg #[.int .i64 ((rd_T29 l0 x11_1).f0), .int .i64 ((rd_T29 l0 x11_1).f1)], .agg #[.int .i64 ((rd_T29 l0 (ji8)).f0), .int .i64 ((rd_T29 l0 (ji8)).f1)], .agg #[.int .i64 a1_0, .int .i64 a1_1]] rfl (by (try simp only [List.map_toArray, List.map_cons, List.map_nil]); first | done | (simp only [hji8]; rfl) | rfl | (simp only [List.length_drop, List.length_take]; rfl)) ?_; (with_reducible refine (shape_on.calls ((rd_T29 l0 x11_1).f0) ((rd_T29 l0 x11_1).f1) ((rd_T29 l0 (ji8)).f0) ((rd_T29 l0 (ji8)).f1) a1_0 a1_1 false _ A11.out).mono ?_); rintro e w43 ⟨rfl, hb⟩; refine ⟨_, rfl, ?_⟩; replace BK101 := Aside0.mk (blk_below (g := gb101) (o := .cells #[.int .i64 a1_0, .int .i64 a1_1] 29 (0, 0)) (by (with_reducible repeat (first | refine blk_drewN ?_ _ | refine blk_drew ?_ | refine blk_alloc ?_ _)); refine blk_far ?_ NB101_105.out _; (with_reducible repeat (first | refine blk_drewN ?_ _ | refine blk_drew ?_ | refine blk_alloc ?_ _)); refine blk_far ?_ NB101_105.out _; (with_reducible repeat (first | refine blk_drewN ?_ _ | refine blk_drew ?_ | refine blk_alloc ?_ _)); refine blk_far ?_ NB101_104.out _; (with_reducible repeat (first | refine blk_drewN ?_ _ | refine blk_drew ?_ | refine blk_alloc ?_ _)); refine blk_far ?_ NB101_104.out _; (with_reducible repeat (first | refine blk_drewN ?_ _ | refine blk_drew ?_ | refine blk_alloc ?_ _)); exact BK101.out) hb); replace BK104 := Aside0.mk (blk_below (g := gb104) (o := .cells #[.int .i64 ((rd_T29 l0 x11_1).f0), .int .i64 ((rd_T29 l0 x11_1).f1)] 29 (0, 0)) (by (with_reducible repeat (first | refine blk_drewN ?_ _ | refine blk_drew ?_ | refine blk_alloc ?_ _)); refine blk_far ?_ NB104_105.out _; (with_reducible repeat (first | refine blk_drewN ?_ _ | refine blk_drew ?_ | refine blk_alloc ?_ _)); refine blk_far ?_ NB104_105.out _; (with_reducible repeat (first | refine blk_drewN ?_ _ | refine blk_drew ?_ | refine blk_alloc ?_ _)); refine blk_put (cs := #[.int .i64 ((rd_T29 l0 x11_1).f0), .int .i64 0]) ?_ 1 _ rfl; (with_reducible repeat (first | refine blk_drewN ?_ _ | refine blk_drew ?_ | refine blk_alloc ?_ _)); refine blk_put (cs := #[.int .i64 0, .int .i64 0]) ?_ 0 _ rfl; (with_reducible repeat (first | refine blk_drewN ?_ _ | refine blk_drew ?_ | refine blk_alloc ?_ _)); exact BK104.out) hb); replace BK105 := Aside0.mk (blk_below (g := gb105) (o := .cells #[.int .i64 ((rd_T29 l0 (ji8)).f0), .int .i64 ((rd_T29 l0 (ji8)).f1)] 29 (0, 0)) (by (with_reducible repeat (first | refine blk_drewN ?_ _ | refine blk_drew ?_ | refine blk_alloc ?_ _)); refine blk_put (cs := #[.int .i64 ((rd_T29 l0 (ji8)).f0), .int .i64 0]) ?_ 1 _ rfl; (with_reducible repeat (first | refine blk_drewN ?_ _ | refine blk_drew ?_ | refine blk_alloc ?_ _)); refine blk_put (cs := #[.int .i64 0, .int .i64 0]) ?_ 0 _ rfl; (with_reducible repeat (first | refine blk_drewN ?_ _ | refine blk_drew ?_ | refine blk_alloc ?_ _)); refine blk_far ?_ NB105_104.out _; (with_reducible repeat (first | refine blk_drewN ?_ _ | refine blk_drew ?_ | refine blk_alloc ?_ _)); refine blk_far ?_ NB105_104.out _; (with_reducible repeat (first | refine blk_drewN ?_ _ | refine blk_drew ?_ | refine blk_alloc ?_ _)); exact BK105.out) hb); replace HB := Aside0.mk (below_step bh hb); (try clear hb); (try clear hb2); (try clear hk); (try clear hi); have hcz44_0 : w43.cell? ⟨gb104, 0, none⟩ = some (.int .i64 ((rd_T29 l0 x11_1).f0)) := bc BK104 0; have hcz44_1 : w43.cell? ⟨gb104, 1, none⟩ = some (.int .i64 ((rd_T29 l0 x11_1).f1)) := bc BK104 1; have hfz44_0 := blk_frozen BK104.out 0; have hfz44_1 := blk_frozen BK104.out 1; have hcz45_0 : w43.cell? ⟨gb105, 0, none⟩ = some (.int .i64 ((rd_T29 l0 (ji8)).f0)) := bc BK105 0; have hcz45_1 : w43.cell? ⟨gb105, 1, none⟩ = some (.int .i64 ((rd_T29 l0 (ji8)).f1)) := bc BK105 1; have hfz45_0 := blk_frozen BK105.out 0; have hfz45_1 := blk_frozen BK105.out 1))
          (try simp only [Act.put, List.setIfInBounds_toArray, List.set_cons_zero, List.set_cons_succ])
          go_cut [] (fun wc => ∃ (kq : Nat) (x105000_27 : Int) (x105001_27 : Int) (x106000_27 : Int) (x106001_27 : Int), Aside0 (shape_where.j1 kq l0 x5_1 (l0.length : Int) x11_1 a1_0 a1_1 x105000_27 x105001_27 x106000_27 x106001_27 = some r) ∧ Aside0 (kq ≤ k1) ∧ Aside0 (wc.heap[gb101]? = some (.cells #[.int .i64 a1_0, .int .i64 a1_1] 29 (0, 0))) ∧ Aside0 (wc.heap[gb104]? = some (.cells #[.int .i64 x105000_27, .int .i64 x105001_27] 29 (0, 0))) ∧ Aside0 (wc.heap[gb105]? = some (.cells #[.int .i64 x106000_27, .int .i64 x106001_27] 29 (0, 0))) ∧ Aside0 (Below w.heap.size w wc))
          case first =>
           have H := HC28.out
           clear HC28
           by_cases c46 : ((rd_T29 l0 x11_1).f1) > ((rd_T29 l0 (ji8)).f1)
           ·rw [if_pos c46] at H
            have c46b0 := decide_eq_true c46
            clear c46
            (first | rw [c46b0] | (simp only [i64_w, i32_w]; rw [c46b0]) | skip)
            have H' := Aside0.mk H
            clear H
            have hnb47 := NB105_101.out
            have hnc47 := NB101_105.out
            have hnb48 := NB105_104.out
            have hnc48 := NB104_105.out
            obtain ⟨hcz49_0, hcz49_1, hfz49_0, hfz49_1⟩ := b2 BK105
            have hnb50 := NB104_101.out
            have hnc50 := NB101_104.out
            obtain ⟨hcz51_0, hcz51_1, hfz51_0, hfz51_1⟩ := b2 BK104
            go_wp2
            go_meet
            case rel => exact ⟨_, ((rd_T29 l0 (ji8)).f0), ((rd_T29 l0 (ji8)).f1), ((rd_T29 l0 x11_1).f0), ((rd_T29 l0 x11_1).f1), H', ⟨by have := HK1.out; first | omega | exact Nat.le_refl _⟩, ⟨by (with_reducible repeat (first | refine blk_drewN ?_ _ | refine blk_drew ?_ | refine blk_alloc ?_ _)); refine blk_far ?_ NB101_105.out _; (with_reducible repeat (first | refine blk_drewN ?_ _ | refine blk_drew ?_ | refine blk_alloc ?_ _)); refine blk_far ?_ NB101_105.out _; (with_reducible repeat (first | refine blk_drewN ?_ _ | refine blk_drew ?_ | refine blk_alloc ?_ _)); refine blk_far ?_ NB101_104.out _; (with_reducible repeat (first | refine blk_drewN ?_ _ | refine blk_drew ?_ | refine blk_alloc ?_ _)); refine blk_far ?_ NB101_104.out _; (with_reducible repeat (first | refine blk_drewN ?_ _ | refine blk_drew ?_ | refine blk_alloc ?_ _)); exact BK101.out⟩, ⟨by (with_reducible repeat (first | refine blk_drewN ?_ _ | refine blk_drew ?_ | refine blk_alloc ?_ _)); refine blk_far ?_ NB104_105.out _; (with_reducible repeat (first | refine blk_drewN ?_ _ | refine blk_drew ?_ | refine blk_alloc ?_ _)); refine blk_far ?_ NB104_105.out _; (with_reducible repeat (first | refine blk_drewN ?_ _ | refine blk_drew ?_ | refine blk_alloc ?_ _)); refine blk_put (cs := #[.int .i64 ((rd_T29 l0 (ji8)).f0), .int .i64 ((rd_T29 l0 x11_1).f1)]) ?_ 1 _ rfl; (with_reducible repeat (first | refine blk_drewN ?_ _ | refine blk_drew ?_ | refine blk_alloc ?_ _)); refine blk_put (cs := #[.int .i64 ((rd_T29 l0 x11_1).f0), .int .i64 ((rd_T29 l0 x11_1).f1)]) ?_ 0 _ rfl; (with_reducible repeat (first | refine blk_drewN ?_ _ | refine blk_drew ?_ | refine blk_alloc ?_ _)); exact BK104.out⟩, ⟨by (with_reducible repeat (first | refine blk_drewN ?_ _ | refine blk_drew ?_ | refine blk_alloc ?_ _)); refine blk_put (cs := #[.int .i64 ((rd_T29 l0 x11_1).f0), .int .i64 ((rd_T29 l0 (ji8)).f1)]) ?_ 1 _ rfl; (with_reducible repeat (first | refine blk_drewN ?_ _ | refine blk_drew ?_ | refine blk_alloc ?_ _)); refine blk_put (cs := #[.int .i64 ((rd_T29 l0 (ji8)).f0), .int .i64 ((rd_T29 l0 (ji8)).f1)]) ?_ 0 _ rfl; (with_reducible repeat (first | refine blk_drewN ?_ _ | refine blk_drew ?_ | refine blk_alloc ?_ _)); refine blk_far ?_ NB105_104.out _; (with_reducible repeat (first | refine blk_drewN ?_ _ | refine blk_drew ?_ | refine blk_alloc ?_ _)); refine blk_far ?_ NB105_104.out _; (with_reducible repeat (first | refine blk_drewN ?_ _ | refine blk_drew ?_ | refine blk_alloc ?_ _)); exact BK105.out⟩, ⟨bh⟩⟩
           ·rw [if_neg c46] at H
            have c46b0 := decide_eq_false c46
            clear c46
            (first | rw [c46b0] | (simp only [i64_w, i32_w]; rw [c46b0]) | skip)
            have H' := Aside0.mk H
            clear H
            go_wp2
            go_meet
            case rel => exact ⟨_, ((rd_T29 l0 x11_1).f0), ((rd_T29 l0 x11_1).f1), ((rd_T29 l0 (ji8)).f0), ((rd_T29 l0 (ji8)).f1), H', ⟨by have := HK1.out; first | omega | exact Nat.le_refl _⟩, ⟨bk BK101⟩, ⟨bk BK104⟩, ⟨bk BK105⟩, ⟨bh⟩⟩
          case rest =>
           clear HC28
           (try clear c1); (try clear p1); (try clear q1); (try clear hx1); (try clear c2); (try clear p2); (try clear c3); (try clear c4); (try clear c5); (try clear c10); (try clear p10); (try clear q10); (try clear hx10); (try clear c12); (try clear c21); (try clear c22); (try clear c24); (try clear c37); (try clear c38); (try clear c40); (try clear c46); (try clear c46b0); (try clear c47); (try clear c48); (try clear c50); (try clear hcz23_0); (try clear hcz23_1); (try clear hcz25_0); (try clear hcz25_1); (try clear hcz26_0); (try clear hcz26_1); (try clear hcz39_0); (try clear hcz39_1); (try clear hcz41_0); (try clear hcz41_1); (try clear hcz42_0); (try clear hcz42_1); (try clear hcz44_0); (try clear hcz44_1); (try clear hcz45_0); (try clear hcz45_1); (try clear hcz49_0); (try clear hcz49_1); (try clear hcz51_0); (try clear hcz51_1); (try clear hfz23_0); (try clear hfz23_1); (try clear hfz25_0); (try clear hfz25_1); (try clear hfz26_0); (try clear hfz26_1); (try clear hfz39_0); (try clear hfz39_1); (try clear hfz41_0); (try clear hfz41_1); (try clear hfz42_0); (try clear hfz42_1); (try clear hfz44_0); (try clear hfz44_1); (try clear hfz45_0); (try clear hfz45_1); (try clear hfz49_0); (try clear hfz49_1); (try clear hfz51_0); (try clear hfz51_1); (try clear hx102_0); (try clear hx102_1); (try clear hx103_0); (try clear hx103_1); (try clear p102); (try clear p103); (try clear q102); (try clear q103)
           obtain ⟨kq, x105000_27, x105001_27, x106000_27, x106001_27, HA, HJ27, BK101, BK104, BK105, HB⟩ := hcut
           cases kq with
           | zero => exact absurd HA.out (by simp [shape_where.j1])
           | succ kj27 =>
            have H := HA.out
            clear HA
            simp only [shape_where.j1] at H
            have HC52 := Aside0.mk H
            clear H
            go_upto_region 10 with (fail)
            go_cut [55] (fun v55 wc => ∃ (kq : Nat) (x55_51 : Bool), v55 = .bool x55_51 ∧ Aside0 (shape_where.j2 kq l0 x5_1 (l0.length : Int) x11_1 x55_51 a1_0 a1_1 = some r) ∧ Aside0 (kq ≤ kj27) ∧ Aside0 (wc.heap[gb101]? = some (.cells #[.int .i64 a1_0, .int .i64 a1_1] 29 (0, 0))) ∧ Aside0 (wc.heap[gb104]? = some (.cells #[.int .i64 x105000_27, .int .i64 x105001_27] 29 (0, 0))) ∧ Aside0 (wc.heap[gb105]? = some (.cells #[.int .i64 x106000_27, .int .i64 x106001_27] 29 (0, 0))) ∧ Aside0 (Below w.heap.size w wc))
            case first =>
             have H := HC52.out
             clear HC52
             by_cases c53 : x105001_27 ≤ a1_1
             ·rw [if_pos c53] at H
              have c53b0 := decide_eq_true c53
              clear c53
              (first | rw [c53b0] | (simp only [i64_w, i32_w]; rw [c53b0]) | skip)
              by_cases c54 : a1_1 < x106001_27
              ·rw [if_pos c54] at H
               have c54b0 := decide_eq_true c54
               clear c54
               replace H := Option.bind_eq_some_iff.mp H
               obtain ⟨t107, A550, H⟩ := H
               try dsimp only at H
               have A55 := Aside0.mk A550
               clear A550
               have H' := Aside0.mk H
               clear H
               have hnb56 := NB104_101.out
               have hnc56 := NB101_104.out
               have hnb57 := NB104_105.out
               have hnc57 := NB105_104.out
               obtain ⟨hcz58_0, hcz58_1, hfz58_0, hfz58_1⟩ := b2 BK104
               have hnb59 := NB101_105.out
               have hnc59 := NB105_101.out
               obtain ⟨hcz60_0, hcz60_1, hfz60_0, hfz60_1⟩ := b2 BK101
               obtain ⟨hcz61_0, hcz61_1, hfz61_0, hfz61_1⟩ := b2 BK105
               go_wp2_with (first | (go_at_call 91; (with_reducible refine (shape_side.calls x105000_27 x105001_27 x106000_27 x106001_27 a1_0 a1_1 t107 _ A55.out).mono ?_); rintro e w62 ⟨rfl, hb⟩; replace BK101 := kb BK101 hb; replace BK104 := kb BK104 hb; replace BK105 := kb BK105 hb; replace HB := Aside0.mk (below_step bh hb); (try clear hb); (try clear hb2); (try clear hk); (try clear hi)))
               go_meet
               case rel => exact ⟨_, (decide (t107 > 0)), sd, H', ⟨by have := HK1.out; have := HJ27.out; first | omega | exact Nat.le_refl _⟩, ⟨bk BK101⟩, ⟨bk BK104⟩, ⟨bk BK105⟩, ⟨bh⟩⟩
              ·rw [if_neg c54] at H
               have c54b0 := decide_eq_false c54
               clear c54
               have H' := Aside0.mk H
               clear H
               have hnb63 := NB104_101.out
               have hnc63 := NB101_104.out
               have hnb64 := NB104_105.out
               have hnc64 := NB105_104.out
               obtain ⟨hcz65_0, hcz65_1, hfz65_0, hfz65_1⟩ := b2 BK104
               have hnb66 := NB101_105.out
               have hnc66 := NB105_101.out
               obtain ⟨hcz67_0, hcz67_1, hfz67_0, hfz67_1⟩ := b2 BK101
               obtain ⟨hcz68_0, hcz68_1, hfz68_0, hfz68_1⟩ := b2 BK105
               go_wp2
               go_meet
               case rel => exact ⟨_, (false), sd, H', ⟨by have := HK1.out; have := HJ27.out; first | omega | exact Nat.le_refl _⟩, ⟨bk BK101⟩, ⟨bk BK104⟩, ⟨bk BK105⟩, ⟨bh⟩⟩
             ·rw [if_neg c53] at H
              have c53b0 := decide_eq_false c53
              clear c53
              (first | rw [c53b0] | (simp only [i64_w, i32_w]; rw [c53b0]) | skip)
              have H' := Aside0.mk H
              clear H
              have hnb69 := NB104_101.out
              have hnc69 := NB101_104.out
              have hnb70 := NB104_105.out
              have hnc70 := NB105_104.out
              obtain ⟨hcz71_0, hcz71_1, hfz71_0, hfz71_1⟩ := b2 BK104
              have hnb72 := NB101_105.out
              have hnc72 := NB105_101.out
              obtain ⟨hcz73_0, hcz73_1, hfz73_0, hfz73_1⟩ := b2 BK101
              go_wp2
              go_meet
              case rel => exact ⟨_, (false), sd, H', ⟨by have := HK1.out; have := HJ27.out; first | omega | exact Nat.le_refl _⟩, ⟨bk BK101⟩, ⟨bk BK104⟩, ⟨bk BK105⟩, ⟨bh⟩⟩
            case rest =>
             clear HC52
             (try clear c1); (try clear p1); (try clear q1); (try clear hx1); (try clear c2); (try clear p2); (try clear c3); (try clear c4); (try clear c5); (try clear c6); (try clear c7); (try clear c10); (try clear p10); (try clear q10); (try clear hx10); (try clear c12); (try clear c21); (try clear c22); (try clear c24); (try clear c37); (try clear c38); (try clear c40); (try clear c46); (try clear c46b0); (try clear c47); (try clear c48); (try clear c50); (try clear c53); (try clear c53b0); (try clear c54); (try clear c54b0); (try clear c56); (try clear c57); (try clear c59); (try clear c63); (try clear c64); (try clear c66); (try clear c69); (try clear c70); (try clear c72); (try clear hcz23_0); (try clear hcz23_1); (try clear hcz25_0); (try clear hcz25_1); (try clear hcz26_0); (try clear hcz26_1); (try clear hcz39_0); (try clear hcz39_1); (try clear hcz41_0); (try clear hcz41_1); (try clear hcz42_0); (try clear hcz42_1); (try clear hcz44_0); (try clear hcz44_1); (try clear hcz45_0); (try clear hcz45_1); (try clear hcz49_0); (try clear hcz49_1); (try clear hcz51_0); (try clear hcz51_1); (try clear hcz58_0); (try clear hcz58_1); (try clear hcz60_0); (try clear hcz60_1); (try clear hcz61_0); (try clear hcz61_1); (try clear hcz65_0); (try clear hcz65_1); (try clear hcz67_0); (try clear hcz67_1); (try clear hcz68_0); (try clear hcz68_1); (try clear hcz71_0); (try clear hcz71_1); (try clear hcz73_0); (try clear hcz73_1); (try clear hfz23_0); (try clear hfz23_1); (try clear hfz25_0); (try clear hfz25_1); (try clear hfz26_0); (try clear hfz26_1); (try clear hfz39_0); (try clear hfz39_1); (try clear hfz41_0); (try clear hfz41_1); (try clear hfz42_0); (try clear hfz42_1); (try clear hfz44_0); (try clear hfz44_1); (try clear hfz45_0); (try clear hfz45_1); (try clear hfz49_0); (try clear hfz49_1); (try clear hfz51_0); (try clear hfz51_1); (try clear hfz58_0); (try clear hfz58_1); (try clear hfz60_0); (try clear hfz60_1); (try clear hfz61_0); (try clear hfz61_1); (try clear hfz65_0); (try clear hfz65_1); (try clear hfz67_0); (try clear hfz67_1); (try clear hfz68_0); (try clear hfz68_1); (try clear hfz71_0); (try clear hfz71_1); (try clear hfz73_0); (try clear hfz73_1); (try clear hx102_0); (try clear hx102_1); (try clear hx103_0); (try clear hx103_1); (try clear p1); (try clear p10); (try clear p102); (try clear p103); (try clear p2); (try clear q1); (try clear q10); (try clear q102); (try clear q103)
             obtain ⟨kq, x55_51, rfl, HA, HJ51, BK101, BK104, BK105, HB⟩ := hcut
             cases kq with
             | zero => exact absurd HA.out (by simp [shape_where.j2])
             | succ kj51 =>
              have H := HA.out
              clear HA
              simp only [shape_where.j2] at H
              by_cases c74 : x55_51 = true
              ·subst c74
               rw [if_pos rfl] at H
               have H' := Aside0.mk H
               clear H
               go_wp2
               go_roundg kj51
               case measure => have := HK1.out; have := HJ27.out; have := HJ51.out; omega
               case rel => exact ⟨(wrap64 (-x5_1)), (wrap64 (x11_1 + 1)), sd, sd, H', ⟨by have := HK1.out; have := HJ27.out; have := HJ51.out; omega⟩, ⟨bk BK101⟩, ⟨bh⟩⟩
              ·replace c74 := Bool.eq_false_iff.mpr c74
               subst c74
               rw [if_neg (show ¬ (false = true) by decide)] at H
               have H' := Aside0.mk H
               clear H
               go_wp2
               go_roundg kj51
               case measure => have := HK1.out; have := HJ27.out; have := HJ51.out; omega
               case rel => exact ⟨(x5_1), (wrap64 (x11_1 + 1)), sd, sd, H', ⟨by have := HK1.out; have := HJ27.out; have := HJ51.out; omega⟩, ⟨bk BK101⟩, ⟨bh⟩⟩
        ·rw [if_neg c10] at H
         exact absurd H (by simp)
       ·rw [if_neg c9] at H
        exact absurd H (by simp)
     ·rw [if_neg c6] at H
      exact absurd H (by simp)
    ·rw [if_neg c5] at H
     exact absurd H (by simp)
   ·rw [if_neg c4] at H
    have c4b0 := decide_eq_false c4
    clear c4
    obtain rfl := Option.some.inj H
    go_wp2
    go_ret
    exact ⟨by exact er, bh⟩
/-! ### shape_Where: function 32 -/
def shape_Where.f (k : Nat) (l0 : List (S29)) (a1_0 : Int) (a1_1 : Int) : Option (Int × Int) := (shape_refused_simple.f k l0).bind fun t102 => (if t102 = 0 then ((shape_within.f (([(⟨a1_0, a1_1⟩ : S29)] : List (S29))) 10000).bind fun t106 => (if t106 = true then ((shape_where.f k l0 a1_0 a1_1).bind fun t107 => (some (t107, 0))) else (some (0, 1)))) else (some (0, t102)))
set_option maxHeartbeats 8000000 in
set_option maxRecDepth 100000 in
theorem shape_Where.calls (k : Nat) (A0 : Option Addr) (c0 : Nat) (l0 : List (S29)) (a1_0 : Int) (a1_1 : Int) (r1 : Int) (r2 : Int) (w : World) (hr0 : Kd.C k29 w A0 l0.length l0) (hc0 : l0.length ≤ c0) (h : shape_Where.f k l0 a1_0 a1_1 = some (r1, r2)) :
  Calls Try.prog 32 #[.slice A0 l0.length c0, .agg #[.int .i64 a1_0, .int .i64 a1_1]] w fun e w' => e = .returned (.tuple #[.int .i64 r1, .int .i64 r2]) ∧ Below w.heap.size w w' := by
 have hu29 := Try.underlying29
 have HR0 := Aside0.mk hr0
 have HC0 := Aside0.mk hc0
 clear hr0 hc0
 have HB := Aside0.mk (Below.refl w.heap.size w)
 have H : ((shape_refused_simple.f k l0).bind fun t102 => (if t102 = 0 then ((shape_within.f (([(⟨a1_0, a1_1⟩ : S29)] : List (S29))) 10000).bind fun t106 => (if t106 = true then ((shape_where.f k l0 a1_0 a1_1).bind fun t107 => (some (t107, 0))) else (some (0, 1)))) else (some (0, t102)))) = some (r1, r2) := h
 clear h
 replace H := Option.bind_eq_some_iff.mp H
 obtain ⟨t102, A30, H⟩ := H
 replace H : (if t102 = 0 then ((shape_within.f (([(⟨a1_0, a1_1⟩ : S29)] : List (S29))) 10000).bind fun t106 => (if t106 = true then ((shape_where.f k l0 a1_0 a1_1).bind fun t107 => (some (t107, 0))) else (some (0, 1)))) else (some (0, t102))) = some (r1, r2) := H
 have A3 := Aside0.mk A30
 clear A30
 by_cases c4 : t102 = 0
 ·rw [if_pos c4] at H
  have c4b0 : (t102 == 0) = true := beq_iff_eq.mpr c4
  have c4b1 : (t102 != 0) = false := bne_eq_false_iff_eq.mpr c4
  clear c4
  obtain ⟨y103, hy103⟩ : ∃ y_ : List (S29), y_ = (([(⟨a1_0, a1_1⟩ : S29)] : List (S29))) := ⟨_, rfl⟩
  replace H : ((shape_within.f y103 10000).bind fun t106 => (if t106 = true then ((shape_where.f k l0 a1_0 a1_1).bind fun t107 => (some (t107, 0))) else (some (0, 1)))) = some (r1, r2) := by first | (rw [hy103]; with_reducible exact H) | (have H2_ := (Option.bind_some _ _).symm.trans H; rw [hy103]; with_reducible exact H2_) | (have H2_ := (Option.bind_some _ _).symm.trans H; with_reducible exact H2_) | with_reducible exact H | (rw [hy103]; exact H) | exact H
  have Ny103 := Aside0.mk hy103
  clear hy103
  replace H := Option.bind_eq_some_iff.mp H
  obtain ⟨t106, A50, H⟩ := H
  replace H : (if t106 = true then ((shape_where.f k l0 a1_0 a1_1).bind fun t107 => (some (t107, 0))) else (some (0, 1))) = some (r1, r2) := H
  have A5 := Aside0.mk A50
  clear A50
  by_cases c6 : t106 = true
  ·subst c6
   rw [if_pos rfl] at H
   replace H := Option.bind_eq_some_iff.mp H
   obtain ⟨t107, A70, H⟩ := H
   replace H : (some (t107, 0)) = some (r1, r2) := H
   have A7 := Aside0.mk A70
   clear A70
   simp only [Option.some.injEq, Prod.mk.injEq] at H
   obtain ⟨rfl, rfl⟩ := H
   go_enter Try.func32, Try.ntmps32
   go_wp2_with (first | ((with_reducible refine gate_dst (N := 3) rfl ?_); refine bxe 3 #[.int .i64 a1_0, .int .i64 a1_1] 29 ?_; intro gb101 hg w8 hbox hb; have BK101 := Aside0.mk (hbox); have GW101 := Aside0.mk (gs hg : w.heap.size ≤ gb101); have GE101 := Aside0.mk (gs hg : w.heap.size ≤ gb101); replace HB := Aside0.mk (below_step bh hb); clear hb hbox hg) | ((with_reducible refine gc 68 rfl ?_); refine goesL_ (some 8) rfl rfl Try.func68 (by kernel_rfl) rfl #[.slice A0 l0.length c0, .func (.func 69) #[] #[]] rfl sg ?_; (with_reducible refine (shape_refused_simple.calls k _ _ l0  t102 _ ?side1 ?side2 A3.out).mono ?_); (case side1 => exact cs (Kd.C_below HR0.out HB.out)); (case side2 => exact HC0.out); rintro e w9 ⟨rfl, hb⟩; refine ⟨_, rfl, ?_⟩; replace BK101 := kb BK101 hb; replace HB := Aside0.mk (below_step bh hb); (try clear hb); (try clear hb2); (try clear hk); (try clear hi); have hcz10_0 : w9.cell? ⟨gb101, 0, none⟩ = some (.int .i64 a1_0) := bc BK101 0; have hcz10_1 : w9.cell? ⟨gb101, 1, none⟩ = some (.int .i64 a1_1) := bc BK101 1; have hfz10_0 := blk_frozen BK101.out 0; have hfz10_1 := blk_frozen BK101.out 1) | ((with_reducible refine gate_dst (N := 13) rfl ?_); refine Kd.R_lit k29 _ 29 ?hg (N := 13) ?hd (xs := ([(⟨a1_0, a1_1⟩ : S29)] : List (S29))) (inner := [.int .i64 a1_0, .int .i64 a1_1]) (ok := fun _ => True) (okp := fun _ => True) ?hr ?hp (fun _ hk => hk) trivial (Below.refl _ _) (Nat.le_refl _) (by simp) ?_; (case hd => rfl); (case hg => rfl); (case hr => first | (go_simp; done) | (go_simp; rfl)); (case hp => exact (Reps.c2 (show Kd.M k29 _ _ _ (⟨a1_0, a1_1⟩ : S29) [.int .i64 a1_0, .int .i64 a1_1] from (k29_mkM _ _ _ (⟨a1_0, a1_1⟩ : S29) )) (Reps.none _ _))); intro v104 w11 ho12 hb hg_ hnew_; clear hg_ hnew_; (first | rw [← Ny103.out] at ho12 | (simp only [Int.reduceToNat] at ho12; rw [← Ny103.out] at ho12)); have HO105 := Aside0.mk (Kd.R_lower (Kd.R_newB ho12 (g := gb101) (o := .cells #[.int .i64 a1_0, .int .i64 a1_1] 29 (0, 0)) (bk BK101)) (below_size bh)); replace BK101 := kb BK101 hb; replace HB := Aside0.mk (below_step bh hb); clear hb ho12; obtain ⟨Ao13, co13, eo13⟩ := Kd.R_slice HO105.out; subst eo13) | ((with_reducible refine gc 48 rfl ?_); refine goesL_ (some 14) rfl rfl Try.func48 (by kernel_rfl) rfl #[.slice Ao13 y103.length co13, .int .i64 10000] rfl sg ?_; (with_reducible refine (shape_within.calls _ _ y103 10000 true _ ?side1 ?side2 A5.out).mono ?_); (case side1 => exact cs (Kd.R_reads' HO105.out).2.2); (case side2 => exact (Kd.R_reads' HO105.out).2.1); rintro e w14 ⟨rfl, hb⟩; refine ⟨_, rfl, ?_⟩; replace HO105 := Aside0.mk (Kd.R_below (ro HO105) hb); replace BK101 := kb BK101 hb; replace HB := Aside0.mk (below_step bh hb); (try clear hb); (try clear hb2); (try clear hk); (try clear hi); have hcz15_0 : w14.cell? ⟨gb101, 0, none⟩ = some (.int .i64 a1_0) := bc BK101 0; have hcz15_1 : w14.cell? ⟨gb101, 1, none⟩ = some (.int .i64 a1_1) := bc BK101 1; have hfz15_0 := blk_frozen BK101.out 0; have hfz15_1 := blk_frozen BK101.out 1) | ((with_reducible refine gc 73 rfl ?_); refine goesL_ (some 18) rfl rfl Try.func73 (by kernel_rfl) rfl #[.slice A0 l0.length c0, .agg #[.int .i64 a1_0, .int .i64 a1_1]] rfl sg ?_; (with_reducible refine (shape_where.calls k _ _ l0 a1_0 a1_1 t107 _ ?side1 ?side2 A7.out).mono ?_); (case side1 => exact cs (Kd.C_below HR0.out HB.out)); (case side2 => exact HC0.out); rintro e w16 ⟨rfl, hb⟩; refine ⟨_, rfl, ?_⟩; replace HO105 := Aside0.mk (Kd.R_below (ro HO105) hb); replace BK101 := kb BK101 hb; replace HB := Aside0.mk (below_step bh hb); (try clear hb); (try clear hb2); (try clear hk); (try clear hi)))
   go_ret2
   exact ⟨by exact er, bh⟩
  ·replace c6 := Bool.eq_false_iff.mpr c6
   subst c6
   rw [if_neg (show ¬ (false = true) by decide)] at H
   simp only [Option.some.injEq, Prod.mk.injEq] at H
   obtain ⟨rfl, rfl⟩ := H
   go_enter Try.func32, Try.ntmps32
   go_wp2_with (first | ((with_reducible refine gate_dst (N := 3) rfl ?_); refine bxe 3 #[.int .i64 a1_0, .int .i64 a1_1] 29 ?_; intro gb101 hg w17 hbox hb; have BK101 := Aside0.mk (hbox); have GW101 := Aside0.mk (gs hg : w.heap.size ≤ gb101); have GE101 := Aside0.mk (gs hg : w.heap.size ≤ gb101); replace HB := Aside0.mk (below_step bh hb); clear hb hbox hg) | ((with_reducible refine gc 68 rfl ?_); refine goesL_ (some 8) rfl rfl Try.func68 (by kernel_rfl) rfl #[.slice A0 l0.length c0, .func (.func 69) #[] #[]] rfl sg ?_; (with_reducible refine (shape_refused_simple.calls k _ _ l0  t102 _ ?side1 ?side2 A3.out).mono ?_); (case side1 => exact cs (Kd.C_below HR0.out HB.out)); (case side2 => exact HC0.out); rintro e w18 ⟨rfl, hb⟩; refine ⟨_, rfl, ?_⟩; replace BK101 := kb BK101 hb; replace HB := Aside0.mk (below_step bh hb); (try clear hb); (try clear hb2); (try clear hk); (try clear hi); have hcz19_0 : w18.cell? ⟨gb101, 0, none⟩ = some (.int .i64 a1_0) := bc BK101 0; have hcz19_1 : w18.cell? ⟨gb101, 1, none⟩ = some (.int .i64 a1_1) := bc BK101 1; have hfz19_0 := blk_frozen BK101.out 0; have hfz19_1 := blk_frozen BK101.out 1) | ((with_reducible refine gate_dst (N := 13) rfl ?_); refine Kd.R_lit k29 _ 29 ?hg (N := 13) ?hd (xs := ([(⟨a1_0, a1_1⟩ : S29)] : List (S29))) (inner := [.int .i64 a1_0, .int .i64 a1_1]) (ok := fun _ => True) (okp := fun _ => True) ?hr ?hp (fun _ hk => hk) trivial (Below.refl _ _) (Nat.le_refl _) (by simp) ?_; (case hd => rfl); (case hg => rfl); (case hr => first | (go_simp; done) | (go_simp; rfl)); (case hp => exact (Reps.c2 (show Kd.M k29 _ _ _ (⟨a1_0, a1_1⟩ : S29) [.int .i64 a1_0, .int .i64 a1_1] from (k29_mkM _ _ _ (⟨a1_0, a1_1⟩ : S29) )) (Reps.none _ _))); intro v104 w20 ho21 hb hg_ hnew_; clear hg_ hnew_; (first | rw [← Ny103.out] at ho21 | (simp only [Int.reduceToNat] at ho21; rw [← Ny103.out] at ho21)); have HO105 := Aside0.mk (Kd.R_lower (Kd.R_newB ho21 (g := gb101) (o := .cells #[.int .i64 a1_0, .int .i64 a1_1] 29 (0, 0)) (bk BK101)) (below_size bh)); replace BK101 := kb BK101 hb; replace HB := Aside0.mk (below_step bh hb); clear hb ho21; obtain ⟨Ao22, co22, eo22⟩ := Kd.R_slice HO105.out; subst eo22) | ((with_reducible refine gc 48 rfl ?_); refine goesL_ (some 14) rfl rfl Try.func48 (by kernel_rfl) rfl #[.slice Ao22 y103.length co22, .int .i64 10000] rfl sg ?_; (with_reducible refine (shape_within.calls _ _ y103 10000 false _ ?side1 ?side2 A5.out).mono ?_); (case side1 => exact cs (Kd.R_reads' HO105.out).2.2); (case side2 => exact (Kd.R_reads' HO105.out).2.1); rintro e w23 ⟨rfl, hb⟩; refine ⟨_, rfl, ?_⟩; replace HO105 := Aside0.mk (Kd.R_below (ro HO105) hb); replace BK101 := kb BK101 hb; replace HB := Aside0.mk (below_step bh hb); (try clear hb); (try clear hb2); (try clear hk); (try clear hi)))
   go_ret2
   exact ⟨by exact er, bh⟩
 ·rw [if_neg c4] at H
  have c4b0 : (t102 == 0) = false := beq_eq_false_iff_ne.mpr c4
  have c4b1 : (t102 != 0) = true := bne_iff_ne.mpr c4
  simp only [Option.some.injEq, Prod.mk.injEq] at H
  obtain ⟨rfl, rfl⟩ := H
  go_enter Try.func32, Try.ntmps32
  go_wp2_with (first | ((with_reducible refine gate_dst (N := 3) rfl ?_); refine bxe 3 #[.int .i64 a1_0, .int .i64 a1_1] 29 ?_; intro gb101 hg w24 hbox hb; have BK101 := Aside0.mk (hbox); have GW101 := Aside0.mk (gs hg : w.heap.size ≤ gb101); have GE101 := Aside0.mk (gs hg : w.heap.size ≤ gb101); replace HB := Aside0.mk (below_step bh hb); clear hb hbox hg) | ((with_reducible refine gc 68 rfl ?_); refine goesL_ (some 8) rfl rfl Try.func68 (by kernel_rfl) rfl #[.slice A0 l0.length c0, .func (.func 69) #[] #[]] rfl sg ?_; (with_reducible refine (shape_refused_simple.calls k _ _ l0  t102 _ ?side1 ?side2 A3.out).mono ?_); (case side1 => exact cs (Kd.C_below HR0.out HB.out)); (case side2 => exact HC0.out); rintro e w25 ⟨rfl, hb⟩; refine ⟨_, rfl, ?_⟩; replace BK101 := kb BK101 hb; replace HB := Aside0.mk (below_step bh hb); (try clear hb); (try clear hb2); (try clear hk); (try clear hi)))
  go_ret2
  exact ⟨by exact er, bh⟩
end Go.Proofs.Ytoffmpkgickfhaa.PG
end
section
namespace Go.Proofs.Ytoffmpkgickfhaa.PG
open Go.RowKit Go.Proofs.YtoffmpkgickfhaaW.PrintWords Go.Proofs.YtoffmpkgickfhaaW.PrintLast Go.Proofs.YtoffmpkgickfhaaW.PrintMore
/-- is p to the left of the line from (x0, x1) to (y0, y1), as the code reckons -/
def leftOf (x0 x1 y0 y1 : Int) (p : S29) : Bool := decide (((shape_side.f x0 x1 y0 y1 p.f0 p.f1).getD 0) > 0)
set_option maxHeartbeats 2000000 in
set_option maxRecDepth 100000 in
theorem left_1 (x0 x1 y0 y1 : Int) (g1 g2 : Nat) (W : World) (p : S29) (h1 : W.heap[g1]? = some (.cells #[.int .i64 x0, .int .i64 x1] 29 (0, 0))) (h2 : W.heap[g2]? = some (.cells #[.int .i64 y0, .int .i64 y1] 29 (0, 0))) :
  Calls Try.prog 120 #[.agg #[.int .i64 p.f0, .int .i64 p.f1], .pointer (some ⟨g1, 0, none⟩), .pointer (some ⟨g2, 0, none⟩)] W fun e w' => e = .returned (.bool (leftOf x0 x1 y0 y1 p)) ∧ Below W.heap.size W w' := by
 have hu29 := Try.underlying29
 have n1 : g1 ≠ W.heap.size := Nat.ne_of_lt (blk_lt h1)
 have n2 : g2 ≠ W.heap.size := Nat.ne_of_lt (blk_lt h2)
 have a0 : W.cell? ⟨g1, 0, none⟩ = some (.int .i64 x0) := (blk_cell h1 0).trans rfl
 have a1 : W.cell? ⟨g1, 1, none⟩ = some (.int .i64 x1) := (blk_cell h1 1).trans rfl
 have b0 : W.cell? ⟨g2, 0, none⟩ = some (.int .i64 y0) := (blk_cell h2 0).trans rfl
 have b1 : W.cell? ⟨g2, 1, none⟩ = some (.int .i64 y1) := (blk_cell h2 1).trans rfl
 clear h1 h2
 unfold leftOf
 have hs : shape_side.f x0 x1 y0 y1 p.f0 p.f1 = some ((shape_side.f x0 x1 y0 y1 p.f0 p.f1).getD 0) := by unfold shape_side.f shape_sub.f shape_cross.f; rfl
 generalize (shape_side.f x0 x1 y0 y1 p.f0 p.f1).getD 0 = s at hs ⊢
 have HS := Aside0.mk hs
 clear hs
 generalize p.f0 = q0 at HS ⊢
 generalize p.f1 = q1 at HS ⊢
 have hB := below_alloc (Below.refl W.heap.size W) (.cells #[.int .i64 q0, .int .i64 q1] 29)
 replace a0 := (hB.cell (World.block_lt_of_cell? W _ a0)).trans a0
 replace a1 := (hB.cell (World.block_lt_of_cell? W _ a1)).trans a1
 replace b0 := (hB.cell (World.block_lt_of_cell? W _ b0)).trans b0
 replace b1 := (hB.cell (World.block_lt_of_cell? W _ b1)).trans b1
 clear hB
 go_enter Try.func120, Try.ntmps120
 go_wp2_with (go_at_call 91; refine (shape_side.calls x0 x1 y0 y1 q0 q1 s _ HS.out).mono ?_; rintro e w' ⟨rfl, hb'⟩)
 go_ret
 exact ⟨rfl, ((Below.refl _ W).alloc (Nat.le_refl _) _).trans (hb'.mono (by simp))⟩
def left_any.f (l0 : List (S29)) (x0 x1 y0 y1 : Int) : Option (Bool) := some (l0.any (leftOf x0 x1 y0 y1))
theorem left_any.calls (A0 : Option Addr) (c0 : Nat) (l0 : List (S29)) (x0 x1 y0 y1 : Int) (g1 g2 : Nat) (r : Bool) (w : World) (h1 : w.heap[g1]? = some (.cells #[.int .i64 x0, .int .i64 x1] 29 (0, 0))) (h2 : w.heap[g2]? = some (.cells #[.int .i64 y0, .int .i64 y1] 29 (0, 0)))
  (hr0 : Kd.C k29 w A0 l0.length l0) (_hc0 : l0.length ≤ c0) (h : left_any.f l0 x0 x1 y0 y1 = some r) :
  Calls Try.prog 86 #[.slice A0 l0.length c0, .func (.func 120) #[] #[.pointer (some ⟨g1, 0, none⟩), .pointer (some ⟨g2, 0, none⟩)]] w fun e w' => e = .returned (.bool r) ∧ Below w.heap.size w w' := by
 obtain rfl := Option.some.inj h
 exact ContainsFunc_any 120 #[.pointer (some ⟨g1, 0, none⟩), .pointer (some ⟨g2, 0, none⟩)] (leftOf x0 x1 y0 y1) (enters_of Try.func120 (by kernel_rfl) rfl) A0 c0 l0 w hr0
  (fun W x hb => (left_1 x0 x1 y0 y1 g1 g2 W x (blk_below h1 hb) (blk_below h2 hb)).mono fun e w' ⟨he, hb'⟩ => ⟨he, hb.trans (hb'.mono hb.size)⟩)
end Go.Proofs.Ytoffmpkgickfhaa.PG
end
section
namespace Go.Proofs.Ytoffmpkgickfhaa.PG
open Go.RowKit Go.Proofs.YtoffmpkgickfhaaW.PrintWords Go.Proofs.YtoffmpkgickfhaaW.PrintLast Go.Proofs.YtoffmpkgickfhaaW.PrintMore
attribute [local go_sem] max2_int min2_int max_two min_two max_three min_three max_four min_four
set_option linter.unusedVariables false
set_option linter.unusedSimpArgs false
/-! ### shape_parted: function 101 -/
def shape_parted.l0 : Nat → List (S29) → List (S29) → Int → Int → Option (Bool)
 | 0, _, _, _, _ => none
 | k + 1, x0, x1, x9, x10 => if x10 < x9 then (if 0 ≤ x10 then (if x10 < (x0.length : Int) then (if (x0.length : Int) = 0 then (none) else (if 0 ≤ (Int.tmod (wrap64 (x10 + 1)) (x0.length : Int)) then (if (Int.tmod (wrap64 (x10 + 1)) (x0.length : Int)) < (x0.length : Int) then ((left_any.f x1 ((rd_T29 x0 x10).f0) ((rd_T29 x0 x10).f1) ((rd_T29 x0 (Int.tmod (wrap64 (x10 + 1)) (x0.length : Int))).f0) ((rd_T29 x0 (Int.tmod (wrap64 (x10 + 1)) (x0.length : Int))).f1)).bind fun t105 => (if t105 = true then (shape_parted.l0 k x0 x1 x9 (wrap64 (x10 + 1))) else (some true))) else (none)) else (none))) else (none)) else (none)) else (some false)
def shape_parted.f (k : Nat) (l0 : List (S29)) (l1 : List (S29)) : Option (Bool) := shape_parted.l0 k l0 l1 (l0.length : Int) 0
def shape_parted.T4 : Bool × List (List Nat × List Nat) := (true, [([], []), ([], []), ([0, 1], [0, 1]), ([2], [2]), ([], []), ([], []), ([5], [5]), ([], []), ([7], [7]), ([6, 8], [6, 8]), ([4, 9], [4, 9]), ([10], [10]), ([], []), ([], []), ([12, 3, 0, 1, 2, 3, 12, 13], [3, 12]), ([13, 11, 14, 0, 1, 2, 3, 4, 5, 6, 7, 8, 9, 10, 11, 12, 13, 14], [11, 13])])
def shape_parted.B4 : List Nat := [0, 0, 3, 7, 0, 0, 32, 0, 128, 480, 1008, 2032, 0, 0, 12303, 32767]
theorem shape_parted.tab4 : rtab .any (opsOf Try.f101 4) = shape_parted.T4 := by kernel_rfl
theorem shape_parted.bits4 : waitsOk shape_parted.T4.2 shape_parted.B4 = true := by kernel_rfl
set_option maxHeartbeats 8000000 in
set_option maxRecDepth 100000 in
theorem shape_parted.calls (k : Nat) (A0 : Option Addr) (c0 : Nat) (l0 : List (S29)) (A1 : Option Addr) (c1 : Nat) (l1 : List (S29)) (r : Bool) (w : World) (hr0 : Kd.C k29 w A0 l0.length l0) (hc0 : l0.length ≤ c0) (hr1 : Kd.C k29 w A1 l1.length l1) (hc1 : l1.length ≤ c1) (h : shape_parted.f k l0 l1 = some r) :
  Calls Try.prog 101 #[.slice A0 l0.length c0, .slice A1 l1.length c1] w fun e w' => e = .returned (.bool r) ∧ Below w.heap.size w w' := by
 have hu29 := Try.underlying29
 have HR0 := Aside0.mk hr0
 have HC0 := Aside0.mk hc0
 clear hr0 hc0
 have HR1 := Aside0.mk hr1
 have HC1 := Aside0.mk hc1
 clear hr1 hc1
 have HB := Aside0.mk (Below.refl w.heap.size w)
 have H : (shape_parted.l0 k l0 l1 (l0.length : Int) 0) = some r := h
 clear h
 have H' := Aside0.mk H
 clear H
 go_enter Try.func101, Try.ntmps101
 go_wp2
 go_loopg [10] k (fun kq v10 w' => ∃ (x10_1 : Int), v10 = .int .i64 x10_1 ∧ Aside0 (shape_parted.l0 kq l0 l1 (l0.length : Int) x10_1 = some r) ∧ Aside0 (kq ≤ k) ∧ Aside0 (Below w.heap.size w w'))
 case atStart => exact ⟨(0), sd, H', ⟨Nat.le_refl _⟩, ⟨bh⟩⟩
 case round =>
  clear H'
  (try clear c1); (try clear p2)
  obtain ⟨x10_1, rfl, HA, HK1, HB⟩ := hrel
  cases gk with
  | zero => exact absurd HA.out (by simp [shape_parted.l0])
  | succ k1 =>
   have H := HA.out
   clear HA
   simp only [shape_parted.l0] at H
   by_cases c3 : x10_1 < (l0.length : Int)
   ·rw [if_pos c3] at H
    have c3b0 := decide_eq_true c3
    clear c3
    by_cases c4 : 0 ≤ x10_1
    ·rw [if_pos c4] at H
     have c4b0 := decide_eq_true c4
     clear c4
     by_cases c5 : x10_1 < (l0.length : Int)
     ·rw [if_pos c5] at H
      have c5b0 := decide_eq_true c5
      clear c5
      by_cases c6 : (l0.length : Int) = 0
      ·rw [if_pos c6] at H
       exact absurd H (by simp)
      ·rw [if_neg c6] at H
       have c6b0 : ((l0.length : Int) == 0) = false := beq_eq_false_iff_ne.mpr c6
       have c6b1 : ((l0.length : Int) != 0) = true := bne_iff_ne.mpr c6
       have c6b2 : ¬ (l0 = []) := fun h_ => c6 (by rw [h_]; rfl)
       obtain ⟨ji7, hji7⟩ : ∃ j_ : Int, (Int.tmod (wrap64 (x10_1 + 1)) (l0.length : Int)) = j_ := ⟨_, rfl⟩
       first | rw [hji7] at H | simp only [hji7] at H
       by_cases c8 : 0 ≤ (ji7)
       ·rw [if_pos c8] at H
        have c8b0 := decide_eq_true c8
        clear c8
        by_cases c9 : (ji7) < (l0.length : Int)
        ·rw [if_pos c9] at H
         have c9b0 := decide_eq_true c9
         clear c9
         replace H := Option.bind_eq_some_iff.mp H
         obtain ⟨t105, A100, H⟩ := H
         try dsimp only at H
         have A10 := Aside0.mk A100
         clear A100
         by_cases c11 : t105 = true
         ·subst c11
          rw [if_pos rfl] at H
          have H' := Aside0.mk H
          clear H
          try go_wp2
          replace HB := Aside0.mk (below_drew1 HB.out)
          have p101 : 0 ≤ (x10_1 : Int) := dt
          have q101 : x10_1 < (l0.length : Int) := dt
          obtain ⟨ad101, e101, hx101_0, hx101_1⟩ := at_T29 HR0.out x10_1 p101 q101
          have hw101_1 := hx101_1
          have hw101_0 := hx101_0
          cases e101
          replace hx101_0 := hc HB hx101_0
          replace hx101_1 := hc HB hx101_1
          replace p101 := eq_true p101
          replace q101 := eq_true q101
          have p102 : 0 ≤ ((ji7) : Int) := dt
          have q102 : (ji7) < (l0.length : Int) := dt
          obtain ⟨ad102, e102, hx102_0, hx102_1⟩ := at_T29 HR0.out (ji7) p102 q102
          have hw102_1 := hx102_1
          have hw102_0 := hx102_0
          obtain rfl : ad101 = ad102 := (by injection e102)
          replace hx102_0 := hc HB hx102_0
          replace hx102_1 := hc HB hx102_1
          replace p102 := eq_true p102
          replace q102 := eq_true q102
          refine start_ (n := 16) (S := fun w' => w'.cell? (ad101.add ((x10_1).toNat * 2)) = some (.int .i64 ((rd_T29 l0 x10_1).f0)) ∧ w'.cell? ⟨(ad101.add ((x10_1).toNat * 2)).block, (ad101.add ((x10_1).toNat * 2)).off + 1, none⟩ = some (.int .i64 ((rd_T29 l0 x10_1).f1)) ∧ w'.cell? (ad101.add (((ji7)).toNat * 2)) = some (.int .i64 ((rd_T29 l0 (ji7)).f0)) ∧ w'.cell? ⟨(ad101.add (((ji7)).toNat * 2)).block, (ad101.add (((ji7)).toNat * 2)).off + 1, none⟩ = some (.int .i64 ((rd_T29 l0 (ji7)).f1))) (ds := []) #[false, false, false, false, false, false, false, false, false, false, false, false, false, false, false, false] (by kernel_rfl) rfl rfl ⟨(hc HB hw101_0), (hc HB hw101_1), (hc HB hw102_0), (hc HB hw102_1)⟩ (fun hHeld => ?_); refine with_tabW shape_parted.tab4 shape_parted.bits4 (fun HT_ HW_ => ?_)
          generalize wr.drew = w12 at HB hx101_0 hx101_1 hx102_0 hx102_1 hHeld ⊢
          refine pu 0 13 HT_ ?_
          refine pu 1 14 HT_ ?_
          refine pu 2 15 HT_ ?_
          refine pu 4 17 HT_ ?_
          refine pu 5 18 HT_ ?_
          refine pu 6 19 HT_ ?_
          refine pu 7 20 HT_ ?_
          refine pu 8 21 HT_ ?_
          refine pu 9 22 HT_ ?_
          refine pu 10 23 HT_ ?_
          refine tk4 3 16 hHeld HT_ HW_ ?_
          refine tk4 11 24 hHeld HT_ HW_ ?_
          refine join_ (σ := Nat × Nat) 2 #[true, true, true, true, true, true, true, true, true, true, true, true, true, true, false, false] (fun s_ => [(6, .pointer (some ⟨s_.1, 0, none⟩)), (7, .pointer (some ⟨s_.2, 0, none⟩))]) (fun s_ w' => (w'.cell? (ad101.add ((x10_1).toNat * 2)) = some (.int .i64 ((rd_T29 l0 x10_1).f0)) ∧ w'.cell? ⟨(ad101.add ((x10_1).toNat * 2)).block, (ad101.add ((x10_1).toNat * 2)).off + 1, none⟩ = some (.int .i64 ((rd_T29 l0 x10_1).f1)) ∧ w'.cell? (ad101.add (((ji7)).toNat * 2)) = some (.int .i64 ((rd_T29 l0 (ji7)).f0)) ∧ w'.cell? ⟨(ad101.add (((ji7)).toNat * 2)).block, (ad101.add (((ji7)).toNat * 2)).off + 1, none⟩ = some (.int .i64 ((rd_T29 l0 (ji7)).f1))) ∧ (w'.heap[s_.1]? = some (.cells #[.int .i64 0, .int .i64 0] 29 (0, 0))) ∧ (w'.heap[s_.2]? = some (.cells #[.int .i64 0, .int .i64 0] 29 (0, 0))) ∧ (w.heap.size ≤ s_.1) ∧ (w.heap.size ≤ s_.1) ∧ (s_.2 ≠ s_.1) ∧ (s_.1 ≠ s_.2) ∧ (w.heap.size ≤ s_.2) ∧ (w.heap.size ≤ s_.2) ∧ (Below w.heap.size w w')) ?_ ?_
          rotate_left
          ·intro hCont
           refine two_ (i := 12) (j := 13) (Ni := some 6) (Nj := some 7) #[true, true, true, true, true, true, true, true, true, true, true, true, true, false, false, false] #[true, true, true, true, true, true, true, true, true, true, true, true, false, true, false, false] rfl rfl rfl rfl (on2 HT_) (by decide) (by decide) (fun K hK => ?_) (fun K hK => ?_)
           ·skip
            refine bxs 6 #[.int .i64 0, .int .i64 0] 29 ?_
            intro gb103 hg w13 hbox hb
            have BK103 := Aside0.mk (hbox)
            have GW103 := Aside0.mk (gs hg : w.heap.size ≤ gb103)
            have GE103 := Aside0.mk (gs hg : w.heap.size ≤ gb103)
            replace HB := Aside0.mk (below_step bh hb)
            clear hb hbox hg
            refine hK.out _ _ ⟨(hc HB hw101_0), (hc HB hw101_1), (hc HB hw102_0), (hc HB hw102_1)⟩ (fun hHeld => ?_)
            clear hK K
            refine nm 6 ?_
            refine one_ (i := 13) (N := some 7) #[true, true, true, true, true, true, true, true, true, true, true, true, true, true, false, false] rfl rfl (on1 HT_) (by decide) (fun K hK => ?_)
            refine bxs 7 #[.int .i64 0, .int .i64 0] 29 ?_
            intro gb104 hg w14 hbox hb
            have BK104 := Aside0.mk (hbox)
            have GW104 := Aside0.mk (gs hg : w.heap.size ≤ gb104)
            have GE104 := Aside0.mk (gs hg : w.heap.size ≤ gb104)
            have NB103_104 := Aside0.mk ((by rw [hg]; exact Nat.ne_of_lt (kl BK103) : gb103 ≠ gb104))
            have NB104_103 := Aside0.mk ((by rw [hg]; exact Nat.ne_of_gt (kl BK103) : gb104 ≠ gb103))
            replace BK103 := kb BK103 hb
            replace HB := Aside0.mk (below_step bh hb)
            clear hb hbox hg
            refine hK.out _ _ ⟨(hc HB hw101_0), (hc HB hw101_1), (hc HB hw102_0), (hc HB hw102_1)⟩ (fun hHeld => ?_)
            clear hK K
            refine nm 7 ?_
            exact norm_ pa (hCont (gb103, gb104) _ ⟨hHeld, bk BK103, bk BK104, GW103.out, GE103.out, NB104_103.out, NB103_104.out, GW104.out, GE104.out, bh⟩)
           ·skip
            refine bxs 7 #[.int .i64 0, .int .i64 0] 29 ?_
            intro gb104 hg w13 hbox hb
            have BK104 := Aside0.mk (hbox)
            have GW104 := Aside0.mk (gs hg : w.heap.size ≤ gb104)
            have GE104 := Aside0.mk (gs hg : w.heap.size ≤ gb104)
            replace HB := Aside0.mk (below_step bh hb)
            clear hb hbox hg
            refine hK.out _ _ ⟨(hc HB hw101_0), (hc HB hw101_1), (hc HB hw102_0), (hc HB hw102_1)⟩ (fun hHeld => ?_)
            clear hK K
            refine nm 7 ?_
            refine one_ (i := 12) (N := some 6) #[true, true, true, true, true, true, true, true, true, true, true, true, true, true, false, false] rfl rfl (on1 HT_) (by decide) (fun K hK => ?_)
            refine bxs 6 #[.int .i64 0, .int .i64 0] 29 ?_
            intro gb103 hg w14 hbox hb
            have BK103 := Aside0.mk (hbox)
            have GW103 := Aside0.mk (gs hg : w.heap.size ≤ gb103)
            have GE103 := Aside0.mk (gs hg : w.heap.size ≤ gb103)
            have NB104_103 := Aside0.mk ((by rw [hg]; exact Nat.ne_of_lt (kl BK104) : gb104 ≠ gb103))
            have NB103_104 := Aside0.mk ((by rw [hg]; exact Nat.ne_of_gt (kl BK104) : gb103 ≠ gb104))
            replace BK104 := kb BK104 hb
            replace HB := Aside0.mk (below_step bh hb)
            clear hb hbox hg
            refine hK.out _ _ ⟨(hc HB hw101_0), (hc HB hw101_1), (hc HB hw102_0), (hc HB hw102_1)⟩ (fun hHeld => ?_)
            clear hK K
            refine nm 6 ?_
            exact norm_ pa (hCont (gb103, gb104) _ ⟨hHeld, bk BK103, bk BK104, GW103.out, GE103.out, NB104_103.out, NB103_104.out, GW104.out, GE104.out, bh⟩)
          rintro ⟨gb103, gb104⟩ w15 ⟨hS_, h0_, h1_, h2_, h3_, h4_, h5_, h6_, h7_, h8_⟩
          have BK103 := Aside0.mk h0_
          have BK104 := Aside0.mk h1_
          have GW103 := Aside0.mk h2_
          have GE103 := Aside0.mk h3_
          have NB104_103 := Aside0.mk h4_
          have NB103_104 := Aside0.mk h5_
          have GW104 := Aside0.mk h6_
          have GE104 := Aside0.mk h7_
          replace HB := Aside0.mk h8_
          clear h0_ h1_ h2_ h3_ h4_ h5_ h6_ h7_ h8_
          have hHeld := hS_
          refine nn ?_
          refine one_ (i := 14) (N := none) #[true, true, true, true, true, true, true, true, true, true, true, true, true, true, true, false] rfl rfl (on1 HT_) (by decide) (fun K hK => ?_)
          have hs16 : w15.cell? ⟨gb103, 0, none⟩ = some (.int .i64 0) := bc BK103 0
          have hfs16 := blk_frozen BK103.out 0
          have hns16_1 := NB104_103.out
          have hms16_1 := NB103_104.out
          have hs17 : w15.cell? ⟨gb103, 1, none⟩ = some (.int .i64 0) := bc BK103 1
          have hfs17 := blk_frozen BK103.out 1
          have hns17_1 := NB104_103.out
          have hms17_1 := NB103_104.out
          refine skip_ (w1 := ?_) (by rfl) rfl ?_ ?_
          rotate_left
          ·go_simp
           rfl
          refine hK.out _ _ ⟨((cell_far (p := ⟨gb103, _, none⟩) (fr hw101_0 GW103) _).trans (((cell_far (p := ⟨gb103, _, none⟩) (fr hw101_0 GW103) _).trans (hHeld.1)))), ((cell_far (p := ⟨gb103, _, none⟩) (fr hw101_1 GW103) _).trans (((cell_far (p := ⟨gb103, _, none⟩) (fr hw101_1 GW103) _).trans (hHeld.2.1)))), ((cell_far (p := ⟨gb103, _, none⟩) (fr hw102_0 GW103) _).trans (((cell_far (p := ⟨gb103, _, none⟩) (fr hw102_0 GW103) _).trans (hHeld.2.2.1)))), ((cell_far (p := ⟨gb103, _, none⟩) (fr hw102_1 GW103) _).trans (((cell_far (p := ⟨gb103, _, none⟩) (fr hw102_1 GW103) _).trans (hHeld.2.2.2))))⟩ (fun hHeld => ?_)
          clear hK K
          refine one_ (i := 15) (N := none) #[true, true, true, true, true, true, true, true, true, true, true, true, true, true, true, true] rfl rfl (on1 HT_) (by decide) (fun K hK => ?_)
          have hs18 : w15.cell? ⟨gb104, 0, none⟩ = some (.int .i64 0) := bc BK104 0
          have hfs18 := blk_frozen BK104.out 0
          have hns18_0 := NB103_104.out
          have hms18_0 := NB104_103.out
          have hs19 : w15.cell? ⟨gb104, 1, none⟩ = some (.int .i64 0) := bc BK104 1
          have hfs19 := blk_frozen BK104.out 1
          have hns19_0 := NB103_104.out
          have hms19_0 := NB104_103.out
          refine skip_ (w1 := ?_) (by rfl) rfl ?_ ?_
          rotate_left
          ·go_simp
           rfl
          refine hK.out _ _ ⟨((cell_far (p := ⟨gb104, _, none⟩) (fr hw101_0 GW104) _).trans (((cell_far (p := ⟨gb104, _, none⟩) (fr hw101_0 GW104) _).trans (hHeld.1)))), ((cell_far (p := ⟨gb104, _, none⟩) (fr hw101_1 GW104) _).trans (((cell_far (p := ⟨gb104, _, none⟩) (fr hw101_1 GW104) _).trans (hHeld.2.1)))), ((cell_far (p := ⟨gb104, _, none⟩) (fr hw102_0 GW104) _).trans (((cell_far (p := ⟨gb104, _, none⟩) (fr hw102_0 GW104) _).trans (hHeld.2.2.1)))), ((cell_far (p := ⟨gb104, _, none⟩) (fr hw102_1 GW104) _).trans (((cell_far (p := ⟨gb104, _, none⟩) (fr hw102_1 GW104) _).trans (hHeld.2.2.2))))⟩ (fun hHeld => ?_)
          clear hK K
          refine done_ (done_of HT_.out (by kernel_rfl)) ?_
          try go_wp2_with (first | ((with_reducible refine gc 86 rfl ?_); refine goesL_ (some 27) rfl rfl Try.func86 (by kernel_rfl) rfl #[.slice A1 l1.length c1, .func (.func 120) #[] #[.pointer (some ⟨gb103, 0, none⟩), .pointer (some ⟨gb104, 0, none⟩)]] rfl sg ?_; (with_reducible refine (left_any.calls _ _ l1 ((rd_T29 l0 x10_1).f0) ((rd_T29 l0 x10_1).f1) ((rd_T29 l0 (ji7)).f0) ((rd_T29 l0 (ji7)).f1) gb103 gb104 true _ (by (with_reducible repeat (first | refine blk_drewN ?_ _ | refine blk_drew ?_ | refine blk_alloc ?_ _)); refine blk_far ?_ NB103_104.out _; (with_reducible repeat (first | refine blk_drewN ?_ _ | refine blk_drew ?_ | refine blk_alloc ?_ _)); refine blk_far ?_ NB103_104.out _; (with_reducible repeat (first | refine blk_drewN ?_ _ | refine blk_drew ?_ | refine blk_alloc ?_ _)); refine blk_put (cs := #[.int .i64 ((rd_T29 l0 x10_1).f0), .int .i64 0]) ?_ 1 _ rfl; (with_reducible repeat (first | refine blk_drewN ?_ _ | refine blk_drew ?_ | refine blk_alloc ?_ _)); refine blk_put (cs := #[.int .i64 0, .int .i64 0]) ?_ 0 _ rfl; (with_reducible repeat (first | refine blk_drewN ?_ _ | refine blk_drew ?_ | refine blk_alloc ?_ _)); exact BK103.out) (by (with_reducible repeat (first | refine blk_drewN ?_ _ | refine blk_drew ?_ | refine blk_alloc ?_ _)); refine blk_put (cs := #[.int .i64 ((rd_T29 l0 (ji7)).f0), .int .i64 0]) ?_ 1 _ rfl; (with_reducible repeat (first | refine blk_drewN ?_ _ | refine blk_drew ?_ | refine blk_alloc ?_ _)); refine blk_put (cs := #[.int .i64 0, .int .i64 0]) ?_ 0 _ rfl; (with_reducible repeat (first | refine blk_drewN ?_ _ | refine blk_drew ?_ | refine blk_alloc ?_ _)); refine blk_far ?_ NB104_103.out _; (with_reducible repeat (first | refine blk_drewN ?_ _ | refine blk_drew ?_ | refine blk_alloc ?_ _)); refine blk_far ?_ NB104_103.out _; (with_reducible repeat (first | refine blk_drewN ?_ _ | refine blk_drew ?_ | refine blk_alloc ?_ _)); exact BK104.out) ?side1 ?side2 A10.out).mono ?_); (case side1 => exact Kd.C_below HR1.out bh); (case side2 => exact HC1.out); rintro e w20 ⟨rfl, hb⟩; refine ⟨_, rfl, ?_⟩; replace BK103 := Aside0.mk (blk_below (g := gb103) (o := .cells #[.int .i64 ((rd_T29 l0 x10_1).f0), .int .i64 ((rd_T29 l0 x10_1).f1)] 29 (0, 0)) (by (with_reducible repeat (first | refine blk_drewN ?_ _ | refine blk_drew ?_ | refine blk_alloc ?_ _)); refine blk_far ?_ NB103_104.out _; (with_reducible repeat (first | refine blk_drewN ?_ _ | refine blk_drew ?_ | refine blk_alloc ?_ _)); refine blk_far ?_ NB103_104.out _; (with_reducible repeat (first | refine blk_drewN ?_ _ | refine blk_drew ?_ | refine blk_alloc ?_ _)); refine blk_put (cs := #[.int .i64 ((rd_T29 l0 x10_1).f0), .int .i64 0]) ?_ 1 _ rfl; (with_reducible repeat (first | refine blk_drewN ?_ _ | refine blk_drew ?_ | refine blk_alloc ?_ _)); refine blk_put (cs := #[.int .i64 0, .int .i64 0]) ?_ 0 _ rfl; (with_reducible repeat (first | refine blk_drewN ?_ _ | refine blk_drew ?_ | refine blk_alloc ?_ _)); exact BK103.out) hb); replace BK104 := Aside0.mk (blk_below (g := gb104) (o := .cells #[.int .i64 ((rd_T29 l0 (ji7)).f0), .int .i64 ((rd_T29 l0 (ji7)).f1)] 29 (0, 0)) (by (with_reducible repeat (first | refine blk_drewN ?_ _ | refine blk_drew ?_ | refine blk_alloc ?_ _)); refine blk_put (cs := #[.int .i64 ((rd_T29 l0 (ji7)).f0), .int .i64 0]) ?_ 1 _ rfl; (with_reducible repeat (first | refine blk_drewN ?_ _ | refine blk_drew ?_ | refine blk_alloc ?_ _)); refine blk_put (cs := #[.int .i64 0, .int .i64 0]) ?_ 0 _ rfl; (with_reducible repeat (first | refine blk_drewN ?_ _ | refine blk_drew ?_ | refine blk_alloc ?_ _)); refine blk_far ?_ NB104_103.out _; (with_reducible repeat (first | refine blk_drewN ?_ _ | refine blk_drew ?_ | refine blk_alloc ?_ _)); refine blk_far ?_ NB104_103.out _; (with_reducible repeat (first | refine blk_drewN ?_ _ | refine blk_drew ?_ | refine blk_alloc ?_ _)); exact BK104.out) hb); replace HB := Aside0.mk (below_step bh hb); (try clear hb); (try clear hb2); (try clear hk); (try clear hi)))
          go_roundg k1
          case measure => have := HK1.out; omega
          case rel => exact ⟨(wrap64 (x10_1 + 1)), sd, H', ⟨by have := HK1.out; omega⟩, ⟨bh⟩⟩
         ·replace c11 := Bool.eq_false_iff.mpr c11
          subst c11
          rw [if_neg (show ¬ (false = true) by decide)] at H
          obtain rfl := Option.some.inj H
          try go_wp2
          replace HB := Aside0.mk (below_drew1 HB.out)
          have p101 : 0 ≤ (x10_1 : Int) := dt
          have q101 : x10_1 < (l0.length : Int) := dt
          obtain ⟨ad101, e101, hx101_0, hx101_1⟩ := at_T29 HR0.out x10_1 p101 q101
          have hw101_1 := hx101_1
          have hw101_0 := hx101_0
          cases e101
          replace hx101_0 := hc HB hx101_0
          replace hx101_1 := hc HB hx101_1
          replace p101 := eq_true p101
          replace q101 := eq_true q101
          have p102 : 0 ≤ ((ji7) : Int) := dt
          have q102 : (ji7) < (l0.length : Int) := dt
          obtain ⟨ad102, e102, hx102_0, hx102_1⟩ := at_T29 HR0.out (ji7) p102 q102
          have hw102_1 := hx102_1
          have hw102_0 := hx102_0
          obtain rfl : ad101 = ad102 := (by injection e102)
          replace hx102_0 := hc HB hx102_0
          replace hx102_1 := hc HB hx102_1
          replace p102 := eq_true p102
          replace q102 := eq_true q102
          refine start_ (n := 16) (S := fun w' => w'.cell? (ad101.add ((x10_1).toNat * 2)) = some (.int .i64 ((rd_T29 l0 x10_1).f0)) ∧ w'.cell? ⟨(ad101.add ((x10_1).toNat * 2)).block, (ad101.add ((x10_1).toNat * 2)).off + 1, none⟩ = some (.int .i64 ((rd_T29 l0 x10_1).f1)) ∧ w'.cell? (ad101.add (((ji7)).toNat * 2)) = some (.int .i64 ((rd_T29 l0 (ji7)).f0)) ∧ w'.cell? ⟨(ad101.add (((ji7)).toNat * 2)).block, (ad101.add (((ji7)).toNat * 2)).off + 1, none⟩ = some (.int .i64 ((rd_T29 l0 (ji7)).f1))) (ds := []) #[false, false, false, false, false, false, false, false, false, false, false, false, false, false, false, false] (by kernel_rfl) rfl rfl ⟨(hc HB hw101_0), (hc HB hw101_1), (hc HB hw102_0), (hc HB hw102_1)⟩ (fun hHeld => ?_); refine with_tabW shape_parted.tab4 shape_parted.bits4 (fun HT_ HW_ => ?_)
          generalize wr.drew = w21 at HB hx101_0 hx101_1 hx102_0 hx102_1 hHeld ⊢
          refine pu 0 13 HT_ ?_
          refine pu 1 14 HT_ ?_
          refine pu 2 15 HT_ ?_
          refine pu 4 17 HT_ ?_
          refine pu 5 18 HT_ ?_
          refine pu 6 19 HT_ ?_
          refine pu 7 20 HT_ ?_
          refine pu 8 21 HT_ ?_
          refine pu 9 22 HT_ ?_
          refine pu 10 23 HT_ ?_
          refine tk4 3 16 hHeld HT_ HW_ ?_
          refine tk4 11 24 hHeld HT_ HW_ ?_
          refine join_ (σ := Nat × Nat) 2 #[true, true, true, true, true, true, true, true, true, true, true, true, true, true, false, false] (fun s_ => [(6, .pointer (some ⟨s_.1, 0, none⟩)), (7, .pointer (some ⟨s_.2, 0, none⟩))]) (fun s_ w' => (w'.cell? (ad101.add ((x10_1).toNat * 2)) = some (.int .i64 ((rd_T29 l0 x10_1).f0)) ∧ w'.cell? ⟨(ad101.add ((x10_1).toNat * 2)).block, (ad101.add ((x10_1).toNat * 2)).off + 1, none⟩ = some (.int .i64 ((rd_T29 l0 x10_1).f1)) ∧ w'.cell? (ad101.add (((ji7)).toNat * 2)) = some (.int .i64 ((rd_T29 l0 (ji7)).f0)) ∧ w'.cell? ⟨(ad101.add (((ji7)).toNat * 2)).block, (ad101.add (((ji7)).toNat * 2)).off + 1, none⟩ = some (.int .i64 ((rd_T29 l0 (ji7)).f1))) ∧ (w'.heap[s_.1]? = some (.cells #[.int .i64 0, .int .i64 0] 29 (0, 0))) ∧ (w'.heap[s_.2]? = some (.cells #[.int .i64 0, .int .i64 0] 29 (0, 0))) ∧ (w.heap.size ≤ s_.1) ∧ (w.heap.size ≤ s_.1) ∧ (s_.2 ≠ s_.1) ∧ (s_.1 ≠ s_.2) ∧ (w.heap.size ≤ s_.2) ∧ (w.heap.size ≤ s_.2) ∧ (Below w.heap.size w w')) ?_ ?_
          rotate_left
          ·intro hCont
           refine two_ (i := 12) (j := 13) (Ni := some 6) (Nj := some 7) #[true, true, true, true, true, true, true, true, true, true, true, true, true, false, false, false] #[true, true, true, true, true, true, true, true, true, true, true, true, false, true, false, false] rfl rfl rfl rfl (on2 HT_) (by decide) (by decide) (fun K hK => ?_) (fun K hK => ?_)
           ·skip
            refine bxs 6 #[.int .i64 0, .int .i64 0] 29 ?_
            intro gb103 hg w22 hbox hb
            have BK103 := Aside0.mk (hbox)
            have GW103 := Aside0.mk (gs hg : w.heap.size ≤ gb103)
            have GE103 := Aside0.mk (gs hg : w.heap.size ≤ gb103)
            replace HB := Aside0.mk (below_step bh hb)
            clear hb hbox hg
            refine hK.out _ _ ⟨(hc HB hw101_0), (hc HB hw101_1), (hc HB hw102_0), (hc HB hw102_1)⟩ (fun hHeld => ?_)
            clear hK K
            refine nm 6 ?_
            refine one_ (i := 13) (N := some 7) #[true, true, true, true, true, true, true, true, true, true, true, true, true, true, false, false] rfl rfl (on1 HT_) (by decide) (fun K hK => ?_)
            refine bxs 7 #[.int .i64 0, .int .i64 0] 29 ?_
            intro gb104 hg w23 hbox hb
            have BK104 := Aside0.mk (hbox)
            have GW104 := Aside0.mk (gs hg : w.heap.size ≤ gb104)
            have GE104 := Aside0.mk (gs hg : w.heap.size ≤ gb104)
            have NB103_104 := Aside0.mk ((by rw [hg]; exact Nat.ne_of_lt (kl BK103) : gb103 ≠ gb104))
            have NB104_103 := Aside0.mk ((by rw [hg]; exact Nat.ne_of_gt (kl BK103) : gb104 ≠ gb103))
            replace BK103 := kb BK103 hb
            replace HB := Aside0.mk (below_step bh hb)
            clear hb hbox hg
            refine hK.out _ _ ⟨(hc HB hw101_0), (hc HB hw101_1), (hc HB hw102_0), (hc HB hw102_1)⟩ (fun hHeld => ?_)
            clear hK K
            refine nm 7 ?_
            exact norm_ pa (hCont (gb103, gb104) _ ⟨hHeld, bk BK103, bk BK104, GW103.out, GE103.out, NB104_103.out, NB103_104.out, GW104.out, GE104.out, bh⟩)
           ·skip
            refine bxs 7 #[.int .i64 0, .int .i64 0] 29 ?_
            intro gb104 hg w22 hbox hb
            have BK104 := Aside0.mk (hbox)
            have GW104 := Aside0.mk (gs hg : w.heap.size ≤ gb104)
            have GE104 := Aside0.mk (gs hg : w.heap.size ≤ gb104)
            replace HB := Aside0.mk (below_step bh hb)
            clear hb hbox hg
            refine hK.out _ _ ⟨(hc HB hw101_0), (hc HB hw101_1), (hc HB hw102_0), (hc HB hw102_1)⟩ (fun hHeld => ?_)
            clear hK K
            refine nm 7 ?_
            refine one_ (i := 12) (N := some 6) #[true, true, true, true, true, true, true, true, true, true, true, true, true, true, false, false] rfl rfl (on1 HT_) (by decide) (fun K hK => ?_)
            refine bxs 6 #[.int .i64 0, .int .i64 0] 29 ?_
            intro gb103 hg w23 hbox hb
            have BK103 := Aside0.mk (hbox)
            have GW103 := Aside0.mk (gs hg : w.heap.size ≤ gb103)
            have GE103 := Aside0.mk (gs hg : w.heap.size ≤ gb103)
            have NB104_103 := Aside0.mk ((by rw [hg]; exact Nat.ne_of_lt (kl BK104) : gb104 ≠ gb103))
            have NB103_104 := Aside0.mk ((by rw [hg]; exact Nat.ne_of_gt (kl BK104) : gb103 ≠ gb104))
            replace BK104 := kb BK104 hb
            replace HB := Aside0.mk (below_step bh hb)
            clear hb hbox hg
            refine hK.out _ _ ⟨(hc HB hw101_0), (hc HB hw101_1), (hc HB hw102_0), (hc HB hw102_1)⟩ (fun hHeld => ?_)
            clear hK K
            refine nm 6 ?_
            exact norm_ pa (hCont (gb103, gb104) _ ⟨hHeld, bk BK103, bk BK104, GW103.out, GE103.out, NB104_103.out, NB103_104.out, GW104.out, GE104.out, bh⟩)
          rintro ⟨gb103, gb104⟩ w24 ⟨hS_, h0_, h1_, h2_, h3_, h4_, h5_, h6_, h7_, h8_⟩
          have BK103 := Aside0.mk h0_
          have BK104 := Aside0.mk h1_
          have GW103 := Aside0.mk h2_
          have GE103 := Aside0.mk h3_
          have NB104_103 := Aside0.mk h4_
          have NB103_104 := Aside0.mk h5_
          have GW104 := Aside0.mk h6_
          have GE104 := Aside0.mk h7_
          replace HB := Aside0.mk h8_
          clear h0_ h1_ h2_ h3_ h4_ h5_ h6_ h7_ h8_
          have hHeld := hS_
          refine nn ?_
          refine one_ (i := 14) (N := none) #[true, true, true, true, true, true, true, true, true, true, true, true, true, true, true, false] rfl rfl (on1 HT_) (by decide) (fun K hK => ?_)
          have hs25 : w24.cell? ⟨gb103, 0, none⟩ = some (.int .i64 0) := bc BK103 0
          have hfs25 := blk_frozen BK103.out 0
          have hns25_1 := NB104_103.out
          have hms25_1 := NB103_104.out
          have hs26 : w24.cell? ⟨gb103, 1, none⟩ = some (.int .i64 0) := bc BK103 1
          have hfs26 := blk_frozen BK103.out 1
          have hns26_1 := NB104_103.out
          have hms26_1 := NB103_104.out
          refine skip_ (w1 := ?_) (by rfl) rfl ?_ ?_
          rotate_left
          ·go_simp
           rfl
          refine hK.out _ _ ⟨((cell_far (p := ⟨gb103, _, none⟩) (fr hw101_0 GW103) _).trans (((cell_far (p := ⟨gb103, _, none⟩) (fr hw101_0 GW103) _).trans (hHeld.1)))), ((cell_far (p := ⟨gb103, _, none⟩) (fr hw101_1 GW103) _).trans (((cell_far (p := ⟨gb103, _, none⟩) (fr hw101_1 GW103) _).trans (hHeld.2.1)))), ((cell_far (p := ⟨gb103, _, none⟩) (fr hw102_0 GW103) _).trans (((cell_far (p := ⟨gb103, _, none⟩) (fr hw102_0 GW103) _).trans (hHeld.2.2.1)))), ((cell_far (p := ⟨gb103, _, none⟩) (fr hw102_1 GW103) _).trans (((cell_far (p := ⟨gb103, _, none⟩) (fr hw102_1 GW103) _).trans (hHeld.2.2.2))))⟩ (fun hHeld => ?_)
          clear hK K
          refine one_ (i := 15) (N := none) #[true, true, true, true, true, true, true, true, true, true, true, true, true, true, true, true] rfl rfl (on1 HT_) (by decide) (fun K hK => ?_)
          have hs27 : w24.cell? ⟨gb104, 0, none⟩ = some (.int .i64 0) := bc BK104 0
          have hfs27 := blk_frozen BK104.out 0
          have hns27_0 := NB103_104.out
          have hms27_0 := NB104_103.out
          have hs28 : w24.cell? ⟨gb104, 1, none⟩ = some (.int .i64 0) := bc BK104 1
          have hfs28 := blk_frozen BK104.out 1
          have hns28_0 := NB103_104.out
          have hms28_0 := NB104_103.out
          refine skip_ (w1 := ?_) (by rfl) rfl ?_ ?_
          rotate_left
          ·go_simp
           rfl
          refine hK.out _ _ ⟨((cell_far (p := ⟨gb104, _, none⟩) (fr hw101_0 GW104) _).trans (((cell_far (p := ⟨gb104, _, none⟩) (fr hw101_0 GW104) _).trans (hHeld.1)))), ((cell_far (p := ⟨gb104, _, none⟩) (fr hw101_1 GW104) _).trans (((cell_far (p := ⟨gb104, _, none⟩) (fr hw101_1 GW104) _).trans (hHeld.2.1)))), ((cell_far (p := ⟨gb104, _, none⟩) (fr hw102_0 GW104) _).trans (((cell_far (p := ⟨gb104, _, none⟩) (fr hw102_0 GW104) _).trans (hHeld.2.2.1)))), ((cell_far (p := ⟨gb104, _, none⟩) (fr hw102_1 GW104) _).trans (((cell_far (p := ⟨gb104, _, none⟩) (fr hw102_1 GW104) _).trans (hHeld.2.2.2))))⟩ (fun hHeld => ?_)
          clear hK K
          refine done_ (done_of HT_.out (by kernel_rfl)) ?_
          try go_wp2_with (first | ((with_reducible refine gc 86 rfl ?_); refine goesL_ (some 27) rfl rfl Try.func86 (by kernel_rfl) rfl #[.slice A1 l1.length c1, .func (.func 120) #[] #[.pointer (some ⟨gb103, 0, none⟩), .pointer (some ⟨gb104, 0, none⟩)]] rfl sg ?_; (with_reducible refine (left_any.calls _ _ l1 ((rd_T29 l0 x10_1).f0) ((rd_T29 l0 x10_1).f1) ((rd_T29 l0 (ji7)).f0) ((rd_T29 l0 (ji7)).f1) gb103 gb104 false _ (by (with_reducible repeat (first | refine blk_drewN ?_ _ | refine blk_drew ?_ | refine blk_alloc ?_ _)); refine blk_far ?_ NB103_104.out _; (with_reducible repeat (first | refine blk_drewN ?_ _ | refine blk_drew ?_ | refine blk_alloc ?_ _)); refine blk_far ?_ NB103_104.out _; (with_reducible repeat (first | refine blk_drewN ?_ _ | refine blk_drew ?_ | refine blk_alloc ?_ _)); refine blk_put (cs := #[.int .i64 ((rd_T29 l0 x10_1).f0), .int .i64 0]) ?_ 1 _ rfl; (with_reducible repeat (first | refine blk_drewN ?_ _ | refine blk_drew ?_ | refine blk_alloc ?_ _)); refine blk_put (cs := #[.int .i64 0, .int .i64 0]) ?_ 0 _ rfl; (with_reducible repeat (first | refine blk_drewN ?_ _ | refine blk_drew ?_ | refine blk_alloc ?_ _)); exact BK103.out) (by (with_reducible repeat (first | refine blk_drewN ?_ _ | refine blk_drew ?_ | refine blk_alloc ?_ _)); refine blk_put (cs := #[.int .i64 ((rd_T29 l0 (ji7)).f0), .int .i64 0]) ?_ 1 _ rfl; (with_reducible repeat (first | refine blk_drewN ?_ _ | refine blk_drew ?_ | refine blk_alloc ?_ _)); refine blk_put (cs := #[.int .i64 0, .int .i64 0]) ?_ 0 _ rfl; (with_reducible repeat (first | refine blk_drewN ?_ _ | refine blk_drew ?_ | refine blk_alloc ?_ _)); refine blk_far ?_ NB104_103.out _; (with_reducible repeat (first | refine blk_drewN ?_ _ | refine blk_drew ?_ | refine blk_alloc ?_ _)); refine blk_far ?_ NB104_103.out _; (with_reducible repeat (first | refine blk_drewN ?_ _ | refine blk_drew ?_ | refine blk_alloc ?_ _)); exact BK104.out) ?side1 ?side2 A10.out).mono ?_); (case side1 => exact Kd.C_below HR1.out bh); (case side2 => exact HC1.out); rintro e w29 ⟨rfl, hb⟩; refine ⟨_, rfl, ?_⟩; replace BK103 := Aside0.mk (blk_below (g := gb103) (o := .cells #[.int .i64 ((rd_T29 l0 x10_1).f0), .int .i64 ((rd_T29 l0 x10_1).f1)] 29 (0, 0)) (by (with_reducible repeat (first | refine blk_drewN ?_ _ | refine blk_drew ?_ | refine blk_alloc ?_ _)); refine blk_far ?_ NB103_104.out _; (with_reducible repeat (first | refine blk_drewN ?_ _ | refine blk_drew ?_ | refine blk_alloc ?_ _)); refine blk_far ?_ NB103_104.out _; (with_reducible repeat (first | refine blk_drewN ?_ _ | refine blk_drew ?_ | refine blk_alloc ?_ _)); refine blk_put (cs := #[.int .i64 ((rd_T29 l0 x10_1).f0), .int .i64 0]) ?_ 1 _ rfl; (with_reducible repeat (first | refine blk_drewN ?_ _ | refine blk_drew ?_ | refine blk_alloc ?_ _)); refine blk_put (cs := #[.int .i64 0, .int .i64 0]) ?_ 0 _ rfl; (with_reducible repeat (first | refine blk_drewN ?_ _ | refine blk_drew ?_ | refine blk_alloc ?_ _)); exact BK103.out) hb); replace BK104 := Aside0.mk (blk_below (g := gb104) (o := .cells #[.int .i64 ((rd_T29 l0 (ji7)).f0), .int .i64 ((rd_T29 l0 (ji7)).f1)] 29 (0, 0)) (by (with_reducible repeat (first | refine blk_drewN ?_ _ | refine blk_drew ?_ | refine blk_alloc ?_ _)); refine blk_put (cs := #[.int .i64 ((rd_T29 l0 (ji7)).f0), .int .i64 0]) ?_ 1 _ rfl; (with_reducible repeat (first | refine blk_drewN ?_ _ | refine blk_drew ?_ | refine blk_alloc ?_ _)); refine blk_put (cs := #[.int .i64 0, .int .i64 0]) ?_ 0 _ rfl; (with_reducible repeat (first | refine blk_drewN ?_ _ | refine blk_drew ?_ | refine blk_alloc ?_ _)); refine blk_far ?_ NB104_103.out _; (with_reducible repeat (first | refine blk_drewN ?_ _ | refine blk_drew ?_ | refine blk_alloc ?_ _)); refine blk_far ?_ NB104_103.out _; (with_reducible repeat (first | refine blk_drewN ?_ _ | refine blk_drew ?_ | refine blk_alloc ?_ _)); exact BK104.out) hb); replace HB := Aside0.mk (below_step bh hb); (try clear hb); (try clear hb2); (try clear hk); (try clear hi)))
          go_ret
          exact ⟨by first | rfl | (simp [errW_none, errW_some] <;> rfl) | (simp only [← hji7]; first | rfl | (simp [errW_none, errW_some] <;> rfl)) | (simp [*, errW_none, errW_some] <;> rfl), bh⟩
        ·rw [if_neg c9] at H
         exact absurd H (by simp)
       ·rw [if_neg c8] at H
        exact absurd H (by simp)
     ·rw [if_neg c5] at H
      exact absurd H (by simp)
    ·rw [if_neg c4] at H
     exact absurd H (by simp)
   ·rw [if_neg c3] at H
    have c3b0 := decide_eq_false c3
    clear c3
    obtain rfl := Option.some.inj H
    go_wp2
    go_ret
    exact ⟨by exact er, bh⟩
/-! ### shape_apart: function 74 -/
def shape_apart.f (k : Nat) (l0 : List (S29)) (l1 : List (S29)) : Option (Bool) := (shape_parted.f k l0 l1).bind fun t101 => (if t101 = true then (some true) else ((shape_parted.f k l1 l0).bind fun t102 => (some t102)))
set_option maxHeartbeats 8000000 in
set_option maxRecDepth 100000 in
theorem shape_apart.calls (k : Nat) (A0 : Option Addr) (c0 : Nat) (l0 : List (S29)) (A1 : Option Addr) (c1 : Nat) (l1 : List (S29)) (r : Bool) (w : World) (hr0 : Kd.C k29 w A0 l0.length l0) (hc0 : l0.length ≤ c0) (hr1 : Kd.C k29 w A1 l1.length l1) (hc1 : l1.length ≤ c1) (h : shape_apart.f k l0 l1 = some r) :
  Calls Try.prog 74 #[.slice A0 l0.length c0, .slice A1 l1.length c1] w fun e w' => e = .returned (.bool r) ∧ Below w.heap.size w w' := by
 have HR0 := Aside0.mk hr0
 have HC0 := Aside0.mk hc0
 clear hr0 hc0
 have HR1 := Aside0.mk hr1
 have HC1 := Aside0.mk hc1
 clear hr1 hc1
 have HB := Aside0.mk (Below.refl w.heap.size w)
 have H : ((shape_parted.f k l0 l1).bind fun t101 => (if t101 = true then (some true) else ((shape_parted.f k l1 l0).bind fun t102 => (some t102)))) = some r := h
 clear h
 replace H := Option.bind_eq_some_iff.mp H
 obtain ⟨t101, A30, H⟩ := H
 try dsimp only at H
 have A3 := Aside0.mk A30
 clear A30
 by_cases c4 : t101 = true
 ·subst c4
  rw [if_pos rfl] at H
  obtain rfl := Option.some.inj H
  go_enter Try.func74, Try.ntmps74
  go_wp2_with (first | ((with_reducible refine gc 101 rfl ?_); refine goesL_ (some 7) rfl rfl Try.func101 (by kernel_rfl) rfl #[.slice A0 l0.length c0, .slice A1 l1.length c1] rfl sg ?_; (with_reducible refine (shape_parted.calls k _ _ l0 _ _ l1 true _ ?side1 ?side2 ?side3 ?side4 A3.out).mono ?_); (case side1 => repeat (first | exact HR0.out | (with_reducible refine Kd.C_alloc ?_ _) | (with_reducible refine Kd.C_drewN ?_ _) | (with_reducible refine Kd.C_drew ?_))); (case side2 => exact HC0.out); (case side3 => repeat (first | exact HR1.out | (with_reducible refine Kd.C_alloc ?_ _) | (with_reducible refine Kd.C_drewN ?_ _) | (with_reducible refine Kd.C_drew ?_))); (case side4 => exact HC1.out); rintro e w5 ⟨rfl, hb⟩; refine ⟨_, rfl, ?_⟩; replace HB := Aside0.mk (below_step bh hb); (try clear hb); (try clear hb2); (try clear hk); (try clear hi)))
  go_ret
  exact ⟨by exact er, bh⟩
 ·replace c4 := Bool.eq_false_iff.mpr c4
  subst c4
  rw [if_neg (show ¬ (false = true) by decide)] at H
  replace H := Option.bind_eq_some_iff.mp H
  obtain ⟨t102, A60, H⟩ := H
  try dsimp only at H
  have A6 := Aside0.mk A60
  clear A60
  obtain rfl := Option.some.inj H
  go_enter Try.func74, Try.ntmps74
  go_wp2_with (first | ((with_reducible refine gc 101 rfl ?_); refine goesL_ (some 7) rfl rfl Try.func101 (by kernel_rfl) rfl #[.slice A0 l0.length c0, .slice A1 l1.length c1] rfl sg ?_; (with_reducible refine (shape_parted.calls k _ _ l0 _ _ l1 false _ ?side1 ?side2 ?side3 ?side4 A3.out).mono ?_); (case side1 => repeat (first | exact HR0.out | (with_reducible refine Kd.C_alloc ?_ _) | (with_reducible refine Kd.C_drewN ?_ _) | (with_reducible refine Kd.C_drew ?_))); (case side2 => exact HC0.out); (case side3 => repeat (first | exact HR1.out | (with_reducible refine Kd.C_alloc ?_ _) | (with_reducible refine Kd.C_drewN ?_ _) | (with_reducible refine Kd.C_drew ?_))); (case side4 => exact HC1.out); rintro e w7 ⟨rfl, hb⟩; refine ⟨_, rfl, ?_⟩; replace HB := Aside0.mk (below_step bh hb); (try clear hb); (try clear hb2); (try clear hk); (try clear hi)) | (go_at_call 101; (with_reducible refine (shape_parted.calls k _ _ l1 _ _ l0 t102 _ ?side1 ?side2 ?side3 ?side4 A6.out).mono ?_); (case side1 => exact cs (Kd.C_below HR1.out HB.out)); (case side2 => exact HC1.out); (case side3 => exact cs (Kd.C_below HR0.out HB.out)); (case side4 => exact HC0.out); rintro e w8 ⟨rfl, hb⟩; replace HB := Aside0.mk (below_step bh hb); (try clear hb); (try clear hb2); (try clear hk); (try clear hi)))
  go_ret
  exact ⟨by exact er, bh⟩
/-! ### shape_add: function 78 -/
def shape_add.f (a0_0 : Int) (a0_1 : Int) (a1_0 : Int) (a1_1 : Int) : Option (Int × Int) := some (wrap64 (a0_0 + a1_0), wrap64 (a0_1 + a1_1))
set_option maxHeartbeats 8000000 in
set_option maxRecDepth 100000 in
theorem shape_add.calls (a0_0 : Int) (a0_1 : Int) (a1_0 : Int) (a1_1 : Int) (r1 : Int) (r2 : Int) (w : World) (h : shape_add.f a0_0 a0_1 a1_0 a1_1 = some (r1, r2)) :
  Calls Try.prog 78 #[.agg #[.int .i64 a0_0, .int .i64 a0_1], .agg #[.int .i64 a1_0, .int .i64 a1_1]] w fun e w' => e = .returned (.agg #[.int .i64 r1, .int .i64 r2]) ∧ Below w.heap.size w w' := by
 have hu29 := Try.underlying29
 have HB := Aside0.mk (Below.refl w.heap.size w)
 have H : (some (wrap64 (a0_0 + a1_0), wrap64 (a0_1 + a1_1))) = some (r1, r2) := h
 clear h
 simp only [Option.some.injEq, Prod.mk.injEq] at H
 obtain ⟨rfl, rfl⟩ := H
 go_enter Try.func78, Try.ntmps78
 go_wp2_with (first | ((with_reducible refine gate_dst (N := 2) rfl ?_); refine bxe 2 #[.int .i64 a0_0, .int .i64 a0_1] 29 ?_; intro gb101 hg w3 hbox hb; have BK101 := Aside0.mk (hbox); have GW101 := Aside0.mk (gs hg : w.heap.size ≤ gb101); have GE101 := Aside0.mk (gs hg : w.heap.size ≤ gb101); replace HB := Aside0.mk (below_step bh hb); clear hb hbox hg) | ((with_reducible refine gate_dst (N := 3) rfl ?_); refine bxe 3 #[.int .i64 a1_0, .int .i64 a1_1] 29 ?_; intro gb102 hg w4 hbox hb; have BK102 := Aside0.mk (hbox); have GW102 := Aside0.mk (gs hg : w.heap.size ≤ gb102); have GE102 := Aside0.mk (gs hg : w.heap.size ≤ gb102); have NB101_102 := Aside0.mk ((by rw [hg]; exact Nat.ne_of_lt (kl BK101) : gb101 ≠ gb102)); have NB102_101 := Aside0.mk ((by rw [hg]; exact Nat.ne_of_gt (kl BK101) : gb102 ≠ gb101)); replace BK101 := kb BK101 hb; replace HB := Aside0.mk (below_step bh hb); clear hb hbox hg) | ((with_reducible refine gate_dst (N := 4) rfl ?_); refine bxe 4 #[.int .i64 0, .int .i64 0] 29 ?_; intro gb103 hg w5 hbox hb; have BK103 := Aside0.mk (hbox); have GW103 := Aside0.mk (gs hg : w.heap.size ≤ gb103); have GE103 := Aside0.mk (gs hg : w.heap.size ≤ gb103); have NB101_103 := Aside0.mk ((by rw [hg]; exact Nat.ne_of_lt (kl BK101) : gb101 ≠ gb103)); have NB103_101 := Aside0.mk ((by rw [hg]; exact Nat.ne_of_gt (kl BK101) : gb103 ≠ gb101)); have NB102_103 := Aside0.mk ((by rw [hg]; exact Nat.ne_of_lt (kl BK102) : gb102 ≠ gb103)); have NB103_102 := Aside0.mk ((by rw [hg]; exact Nat.ne_of_gt (kl BK102) : gb103 ≠ gb102)); replace BK101 := kb BK101 hb; replace BK102 := kb BK102 hb; replace HB := Aside0.mk (below_step bh hb); clear hb hbox hg; have hnb6 := NB101_102.out; have hnc6 := NB102_101.out; have hnb7 := NB101_103.out; have hnc7 := NB103_101.out; have hcz8_0 : w5.cell? ⟨gb101, 0, none⟩ = some (.int .i64 a0_0) := bc BK101 0; have hcz8_1 : w5.cell? ⟨gb101, 1, none⟩ = some (.int .i64 a0_1) := bc BK101 1; have hfz8_0 := blk_frozen BK101.out 0; have hfz8_1 := blk_frozen BK101.out 1; have hnb9 := NB102_103.out; have hnc9 := NB103_102.out; have hcz10_0 : w5.cell? ⟨gb102, 0, none⟩ = some (.int .i64 a1_0) := bc BK102 0; have hcz10_1 : w5.cell? ⟨gb102, 1, none⟩ = some (.int .i64 a1_1) := bc BK102 1; have hfz10_0 := blk_frozen BK102.out 0; have hfz10_1 := blk_frozen BK102.out 1; have hcz11_0 : w5.cell? ⟨gb103, 0, none⟩ = some (.int .i64 0) := bc BK103 0; have hcz11_1 : w5.cell? ⟨gb103, 1, none⟩ = some (.int .i64 0) := bc BK103 1; have hfz11_0 := blk_frozen BK103.out 0; have hfz11_1 := blk_frozen BK103.out 1))
 refine bodyPost_ret (results_cell_row rfl _ _ gb103 29 #[.int .i64 (wrap64 (a0_0 + a1_0)), .int .i64 (wrap64 (a0_1 + a1_1))] (0, 0) _ rfl (by (with_reducible repeat (first | refine blk_drewN ?_ _ | refine blk_drew ?_ | refine blk_alloc ?_ _)); refine blk_put (cs := #[.int .i64 (wrap64 (a0_0 + a1_0)), .int .i64 0]) ?_ 1 _ rfl; (with_reducible repeat (first | refine blk_drewN ?_ _ | refine blk_drew ?_ | refine blk_alloc ?_ _)); refine blk_put (cs := #[.int .i64 0, .int .i64 0]) ?_ 0 _ rfl; (with_reducible repeat (first | refine blk_drewN ?_ _ | refine blk_drew ?_ | refine blk_alloc ?_ _)); exact BK103.out) Try.underlying29 rfl (by kernel_rfl)) rfl ?_
 exact ⟨by exact er, bh⟩
/-! ### shape_moved: function 75 -/
def shape_moved.l0 : Nat → List (S29) → List (S29) → Int → Int → Int → Int → Option ((List (S29)))
 | 0, _, _, _, _, _, _ => none
 | k + 1, x5, x8, x9, x10, x102000, x102001 => if x10 < x9 then (if 0 ≤ x10 then (if x10 < (x8.length : Int) then ((shape_add.f ((rd_T29 x8 x10).f0) ((rd_T29 x8 x10).f1) x102000 x102001).bind fun bt104 => (if x5.length < 8796093022208 then (shape_moved.l0 k (x5 ++ [(⟨bt104.1, bt104.2⟩ : S29)]) x8 x9 (wrap64 (x10 + 1)) x102000 x102001) else (none))) else (none)) else (none)) else (some x5)
def shape_moved.f (k : Nat) (l0 : List (S29)) (a1_0 : Int) (a1_1 : Int) : Option ((List (S29))) := shape_moved.l0 k ([] : List (S29)) l0 (l0.length : Int) 0 a1_0 a1_1
set_option maxHeartbeats 8000000 in
set_option maxRecDepth 100000 in
theorem shape_moved.calls (k : Nat) (A0 : Option Addr) (c0 : Nat) (l0 : List (S29)) (a1_0 : Int) (a1_1 : Int) (r : List (S29)) (w : World) (hr0 : Kd.C k29 w A0 l0.length l0) (hc0 : l0.length ≤ c0) (h : shape_moved.f k l0 a1_0 a1_1 = some r) :
  Calls Try.prog 75 #[.slice A0 l0.length c0, .agg #[.int .i64 a1_0, .int .i64 a1_1]] w fun e w' => ∃ v0_ : Value, e = .returned (v0_) ∧ Kd.R k29 29 w' w.heap.size (fun _ => True) v0_ r ∧ Below w.heap.size w w' := by
 have hu29 := Try.underlying29
 have HR0 := Aside0.mk hr0
 have HC0 := Aside0.mk hc0
 clear hr0 hc0
 have HB := Aside0.mk (Below.refl w.heap.size w)
 have H : (shape_moved.l0 k ([] : List (S29)) l0 (l0.length : Int) 0 a1_0 a1_1) = some r := h
 clear h
 have H' := Aside0.mk H
 clear H
 go_enter Try.func75, Try.ntmps75
 go_wp2_with (first | ((with_reducible refine gate_dst (N := 3) rfl ?_); refine bxe 3 #[.int .i64 a1_0, .int .i64 a1_1] 29 ?_; intro gb101 hg w3 hbox hb; have BK101 := Aside0.mk (hbox); have GW101 := Aside0.mk (gs hg : w.heap.size ≤ gb101); have GE101 := Aside0.mk (gs hg : w.heap.size ≤ gb101); replace HB := Aside0.mk (below_step bh hb); clear hb hbox hg))
 go_loopg [5, 10] k (fun kq v5 v10 w' => ∃ (x5_1 : List (S29)) (x10_1 : Int), v10 = .int .i64 x10_1 ∧ Aside0 (shape_moved.l0 kq x5_1 l0 (l0.length : Int) x10_1 a1_0 a1_1 = some r) ∧ Aside0 (kq ≤ k) ∧ Aside0 (Kd.R k29 29 w' w.heap.size (fun k_ => k_ ≠ gb101) v5 x5_1) ∧ Aside0 (w'.heap[gb101]? = some (.cells #[.int .i64 a1_0, .int .i64 a1_1] 29 (0, 0))) ∧ Aside0 (Below w.heap.size w w'))
 case atStart => exact ⟨(([] : List (S29))), (0), sd, H', ⟨Nat.le_refl _⟩, ⟨by first | exact Kd.R_nil _ _ _ _ _ | exact Kd.N_nil _ _ _ _ _ | exact Kd.V_nil _ _ _ _ _ | exact Kd.Q_nil _ _ _ _ _ | exact Kd.S_nil _ _ _ _ _⟩, ⟨bk BK101⟩, ⟨bh⟩⟩
 case round =>
  clear H'
  (try clear p2)
  obtain ⟨x5_1, x10_1, rfl, HA, HK1, HO_5, BK101, HB⟩ := hrel
  cases gk with
  | zero => exact absurd HA.out (by simp [shape_moved.l0])
  | succ k1 =>
   have H := HA.out
   clear HA
   simp only [shape_moved.l0] at H
   by_cases c4 : x10_1 < (l0.length : Int)
   ·rw [if_pos c4] at H
    have c4b0 := decide_eq_true c4
    clear c4
    by_cases c5 : 0 ≤ x10_1
    ·rw [if_pos c5] at H
     have c5b0 := decide_eq_true c5
     clear c5
     by_cases c6 : x10_1 < (l0.length : Int)
     ·rw [if_pos c6] at H
      have c6b0 := decide_eq_true c6
      clear c6
      replace H := Option.bind_eq_some_iff.mp H
      obtain ⟨⟨t104, t105⟩, A70, H⟩ := H
      try dsimp only at H
      have A7 := Aside0.mk A70
      clear A70
      by_cases c8 : x5_1.length < 8796093022208
      ·rw [if_pos c8] at H
       have LMc8 := Aside0.mk c8
       clear c8
       obtain ⟨y106, hy106⟩ : ∃ y_ : List (S29), y_ = (x5_1 ++ [(⟨t104, t105⟩ : S29)]) := ⟨_, rfl⟩
       replace H : (shape_moved.l0 k1 y106 l0 (l0.length : Int) (wrap64 (x10_1 + 1)) a1_0 a1_1) = some r := by first | (rw [hy106]; with_reducible exact H) | (have H2_ := (Option.bind_some _ _).symm.trans H; rw [hy106]; with_reducible exact H2_) | (have H2_ := (Option.bind_some _ _).symm.trans H; with_reducible exact H2_) | with_reducible exact H | (rw [hy106]; exact H) | exact H
       have Ny106 := Aside0.mk hy106
       clear hy106
       have H' := Aside0.mk H
       clear H
       have p102 : 0 ≤ (x10_1 : Int) := dt
       have q102 : x10_1 < (l0.length : Int) := dt
       obtain ⟨ad102, e102, hx102_0, hx102_1⟩ := at_T29 HR0.out x10_1 p102 q102
       cases e102
       replace hx102_0 := hc HB hx102_0
       replace hx102_1 := hc HB hx102_1
       replace p102 := eq_true p102
       replace q102 := eq_true q102
       go_wp2_with (first | ((with_reducible refine gate_dst (N := 7) rfl ?_); refine bxe 7 #[.int .i64 0, .int .i64 0] 29 ?_; intro gb103 hg w9 hbox hb; have BK103 := Aside0.mk (hbox); have GW103 := Aside0.mk (gs hg : w.heap.size ≤ gb103); have GE103 := Aside0.mk (gs hg : w.heap.size ≤ gb103); have NB101_103 := Aside0.mk ((by rw [hg]; exact Nat.ne_of_lt (kl BK101) : gb101 ≠ gb103)); have NB103_101 := Aside0.mk ((by rw [hg]; exact Nat.ne_of_gt (kl BK101) : gb103 ≠ gb101)); replace HO_5 := Aside0.mk (Kd.R_below (Kd.R_elderB (ro HO_5) gb103 (Nat.le_of_eq hg.symm)) hb); replace BK101 := kb BK101 hb; replace HB := Aside0.mk (below_step bh hb); clear hb hbox hg; have hnb10 := NB103_101.out; have hnc10 := NB101_103.out; have hcz11_0 : w9.cell? ⟨gb103, 0, none⟩ = some (.int .i64 0) := bc BK103 0; have hcz11_1 : w9.cell? ⟨gb103, 1, none⟩ = some (.int .i64 0) := bc BK103 1; have hfz11_0 := blk_frozen BK103.out 0; have hfz11_1 := blk_frozen BK103.out 1; have hcz12_0 : w9.cell? ⟨gb101, 0, none⟩ = some (.int .i64 a1_0) := bc BK101 0; have hcz12_1 : w9.cell? ⟨gb101, 1, none⟩ = some (.int .i64 a1_1) := bc BK101 1; have hfz12_0 := blk_frozen BK101.out 0; have hfz12_1 := blk_frozen BK101.out 1) | ((with_reducible refine gc 78 rfl ?_); refine goesL_ (some 17) rfl rfl Try.func78 (by kernel_rfl) rfl #[.agg #[.int .i64 ((rd_T29 l0 x10_1).f0), .int .i64 ((rd_T29 l0 x10_1).f1)], .agg #[.int .i64 a1_0, .int .i64 a1_1]] rfl sg ?_; (with_reducible refine (shape_add.calls ((rd_T29 l0 x10_1).f0) ((rd_T29 l0 x10_1).f1) a1_0 a1_1 t104 t105 _ A7.out).mono ?_); rintro e w13 ⟨rfl, hb⟩; refine ⟨_, rfl, ?_⟩; replace HO_5 := Aside0.mk (Kd.R_below (by (with_reducible repeat (first | apply Kd.R_alloc | apply Kd.R_drewN | apply Kd.R_drew)); exact (Kd.R_mono (Kd.R_far (p := ⟨gb103, 1, none⟩) (Kd.R_far (p := ⟨gb103, 0, none⟩) (Kd.R_mono HO_5.out (fun k_ hk => (⟨hk, hk.2⟩ : _ ∧ k_ ≠ gb103))) (fun _ hk => hk.2) (.int .i64 ((rd_T29 l0 x10_1).f0))) (fun _ hk => hk.2) (.int .i64 ((rd_T29 l0 x10_1).f1))) (fun _ h_ => h_.1))) hb); replace BK101 := Aside0.mk (blk_below (g := gb101) (o := .cells #[.int .i64 a1_0, .int .i64 a1_1] 29 (0, 0)) (by (with_reducible repeat (first | refine blk_drewN ?_ _ | refine blk_drew ?_ | refine blk_alloc ?_ _)); refine blk_far ?_ NB101_103.out _; (with_reducible repeat (first | refine blk_drewN ?_ _ | refine blk_drew ?_ | refine blk_alloc ?_ _)); refine blk_far ?_ NB101_103.out _; (with_reducible repeat (first | refine blk_drewN ?_ _ | refine blk_drew ?_ | refine blk_alloc ?_ _)); exact BK101.out) hb); replace BK103 := Aside0.mk (blk_below (g := gb103) (o := .cells #[.int .i64 ((rd_T29 l0 x10_1).f0), .int .i64 ((rd_T29 l0 x10_1).f1)] 29 (0, 0)) (by (with_reducible repeat (first | refine blk_drewN ?_ _ | refine blk_drew ?_ | refine blk_alloc ?_ _)); refine blk_put (cs := #[.int .i64 ((rd_T29 l0 x10_1).f0), .int .i64 0]) ?_ 1 _ rfl; (with_reducible repeat (first | refine blk_drewN ?_ _ | refine blk_drew ?_ | refine blk_alloc ?_ _)); refine blk_put (cs := #[.int .i64 0, .int .i64 0]) ?_ 0 _ rfl; (with_reducible repeat (first | refine blk_drewN ?_ _ | refine blk_drew ?_ | refine blk_alloc ?_ _)); exact BK103.out) hb); replace HB := Aside0.mk (below_step bh hb); (try clear hb); (try clear hb2); (try clear hk); (try clear hi)) | ((with_reducible refine gate_builtin (b := .append) (xs := #[.tmp 14, .tmp 18]) rfl ?_); at_builtin; refine Kd.R_append k29 (w0 := w) w.heap.size rfl (.tmp 14) (.tmp 18) 22 29 (.agg #[(.int .i64 0), (.int .i64 0)]) 16 rfl Try.underlying22 info29 rfl (by decide) (by omega) u5 x5_1 (⟨t104, t105⟩ : S29) [.int .i64 t104, .int .i64 t105] (fun k_ => k_ ≠ gb101 ∧ k_ ≠ gb103) (fun _ => False) rfl rfl ?aP (fun _ hk => hk.elim) ?aF ?aO ?aB ?aS ?aL ?_; (case aP => exact k29_mkM _ _ _ (⟨t104, t105⟩ : S29)); (case aB => exact bh); (case aF => exact (fun k_ hk => ⟨Kd.freshB (g := gb101) (o := .cells #[.int .i64 a1_0, .int .i64 a1_1] 29 (0, 0)) (bk BK101) k_ hk, Kd.freshB (g := gb103) (o := .cells #[.int .i64 ((rd_T29 l0 x10_1).f0), .int .i64 ((rd_T29 l0 x10_1).f1)] 29 (0, 0)) (bk BK103) k_ hk⟩)); (case aO => exact (ro HO_5)); (case aS => exact (below_size bh)); (case aL => have := LMc8.out; omega); intro v107 w14 ho hb hg hat; rw [← Ny106.out] at ho; have HO108 := Aside0.mk (ho); replace BK101 := Aside0.mk (blk_grown (g := gb101) (o := .cells #[.int .i64 a1_0, .int .i64 a1_1] 29 (0, 0)) (bk BK101) hg (Kd.R_away HO_5.out (fun _ hk => hk.1))); replace BK103 := Aside0.mk (blk_grown (g := gb103) (o := .cells #[.int .i64 ((rd_T29 l0 x10_1).f0), .int .i64 ((rd_T29 l0 x10_1).f1)] 29 (0, 0)) (bk BK103) hg (Kd.R_away HO_5.out (fun _ hk => hk.2))); replace HB := Aside0.mk (hb); clear HO_5; clear ho hb hg hat))
       go_roundg k1
       case measure => have := HK1.out; omega
       case rel => exact ⟨(y106), (wrap64 (x10_1 + 1)), sd, H', ⟨by have := HK1.out; omega⟩, ⟨by (with_reducible repeat (first | apply Kd.R_alloc | apply Kd.R_drewN | apply Kd.R_drew)); exact Kd.R_mono HO108.out (fun _ hk => hk.1)⟩, ⟨bk BK101⟩, ⟨bh⟩⟩
      ·rw [if_neg c8] at H
       exact absurd H (by simp)
     ·rw [if_neg c6] at H
      exact absurd H (by simp)
    ·rw [if_neg c5] at H
     exact absurd H (by simp)
   ·rw [if_neg c4] at H
    have c4b0 := decide_eq_false c4
    clear c4
    obtain rfl := Option.some.inj H
    go_wp2
    go_ret
    exact ⟨_, by exact er, by (with_reducible repeat (first | apply Kd.R_alloc | apply Kd.R_drewN | apply Kd.R_drew)); exact Kd.R_mono HO_5.out (fun _ hk => trivial), bh⟩
attribute [local go_sem high] eqA29
/-! ### shape_normal: function 72 -/
def shape_normal.l0 : Nat → List (S29) → Int → Int → Option (Bool)
 | 0, _, _, _ => none
 | k + 1, x0, x5, x6 => if x6 < x5 then (if 0 ≤ x6 then (if x6 < (x0.length : Int) then (if (x0.length : Int) = 0 then (none) else (if 0 ≤ (Int.tmod (wrap64 (x6 + 1)) (x0.length : Int)) then (if (Int.tmod (wrap64 (x6 + 1)) (x0.length : Int)) < (x0.length : Int) then (if 0 ≤ (Int.tmod (wrap64 (x6 + 2)) (x0.length : Int)) then (if (Int.tmod (wrap64 (x6 + 2)) (x0.length : Int)) < (x0.length : Int) then ((shape_side.f ((rd_T29 x0 x6).f0) ((rd_T29 x0 x6).f1) ((rd_T29 x0 (Int.tmod (wrap64 (x6 + 1)) (x0.length : Int))).f0) ((rd_T29 x0 (Int.tmod (wrap64 (x6 + 1)) (x0.length : Int))).f1) ((rd_T29 x0 (Int.tmod (wrap64 (x6 + 2)) (x0.length : Int))).f0) ((rd_T29 x0 (Int.tmod (wrap64 (x6 + 2)) (x0.length : Int))).f1)).bind fun t104 => (if t104 ≤ 0 then (some false) else (shape_normal.l0 k x0 x5 (wrap64 (x6 + 1))))) else (none)) else (none)) else (none)) else (none))) else (none)) else (none)) else (if 0 < (x0.length : Int) then ((slices_MinFunc_lower.f k x0).bind fun bt106 => (if (((rd_T29 x0 0).f0) == bt106.1 && (((rd_T29 x0 0).f1) == bt106.2)) = true then ((shape_simple.f k x0).bind fun t108 => (some t108)) else (some false))) else (none))
def shape_normal.f (k : Nat) (l0 : List (S29)) : Option (Bool) := shape_normal.l0 k l0 (l0.length : Int) 0
def shape_normal.T4 : Bool × List (List Nat × List Nat) := (true, [([], []), ([], []), ([0, 1], [0, 1]), ([2], [2]), ([], []), ([], []), ([5], [5]), ([], []), ([7], [7]), ([6, 8], [6, 8]), ([4, 9], [4, 9]), ([10], [10]), ([], []), ([], []), ([13], [13]), ([], []), ([15], [15]), ([14, 16], [14, 16]), ([12, 17], [12, 17]), ([18], [18]), ([3, 11, 19], [3, 11, 19]), ([20], [20])])
def shape_normal.B4 : List Nat := [0, 0, 3, 7, 0, 0, 32, 0, 128, 480, 1008, 2032, 0, 0, 8192, 0, 32768, 122880, 258048, 520192, 1048575, 2097151]
theorem shape_normal.tab4 : rtab .any (opsOf Try.f72 4) = shape_normal.T4 := by kernel_rfl
theorem shape_normal.bits4 : waitsOk shape_normal.T4.2 shape_normal.B4 = true := by kernel_rfl
def shape_normal.T7 : Bool × List (List Nat × List Nat) := (true, [([], []), ([0], [0]), ([1], [1]), ([], []), ([3], [3]), ([2, 4], [2, 4]), ([5, 4], [5]), ([6], [6]), ([7, 6, 6], [6, 7]), ([6, 8], [6, 8]), ([9, 8, 0, 1, 2, 3, 4, 5, 6, 7, 8, 9], [9])])
def shape_normal.B7 : List Nat := [0, 1, 3, 0, 8, 31, 63, 127, 255, 511, 1023]
theorem shape_normal.tab7 : rtab .any (opsOf Try.f72 7) = shape_normal.T7 := by kernel_rfl
theorem shape_normal.bits7 : waitsOk shape_normal.T7.2 shape_normal.B7 = true := by kernel_rfl
set_option maxHeartbeats 8000000 in
set_option maxRecDepth 100000 in
theorem shape_normal.calls (k : Nat) (A0 : Option Addr) (c0 : Nat) (l0 : List (S29)) (r : Bool) (w : World) (hr0 : Kd.C k29 w A0 l0.length l0) (hc0 : l0.length ≤ c0) (h : shape_normal.f k l0 = some r) :
  Calls Try.prog 72 #[.slice A0 l0.length c0] w fun e w' => e = .returned (.bool r) ∧ Below w.heap.size w w' := by
 have hu29 := Try.underlying29
 have HR0 := Aside0.mk hr0
 have HC0 := Aside0.mk hc0
 clear hr0 hc0
 have HB := Aside0.mk (Below.refl w.heap.size w)
 have H : (shape_normal.l0 k l0 (l0.length : Int) 0) = some r := h
 clear h
 have H' := Aside0.mk H
 clear H
 go_enter Try.func72, Try.ntmps72
 go_wp2
 go_loopg [6] k (fun kq v6 w' => ∃ (x6_1 : Int), v6 = .int .i64 x6_1 ∧ Aside0 (shape_normal.l0 kq l0 (l0.length : Int) x6_1 = some r) ∧ Aside0 (kq ≤ k) ∧ Aside0 (Below w.heap.size w w'))
 case atStart => exact ⟨(0), sd, H', ⟨Nat.le_refl _⟩, ⟨bh⟩⟩
 case round =>
  clear H'
  obtain ⟨x6_1, rfl, HA, HK1, HB⟩ := hrel
  cases gk with
  | zero => exact absurd HA.out (by simp [shape_normal.l0])
  | succ k1 =>
   have H := HA.out
   clear HA
   simp only [shape_normal.l0] at H
   by_cases c2 : x6_1 < (l0.length : Int)
   ·rw [if_pos c2] at H
    have c2b0 := decide_eq_true c2
    clear c2
    by_cases c3 : 0 ≤ x6_1
    ·rw [if_pos c3] at H
     have c3b0 := decide_eq_true c3
     clear c3
     by_cases c4 : x6_1 < (l0.length : Int)
     ·rw [if_pos c4] at H
      have c4b0 := decide_eq_true c4
      clear c4
      by_cases c5 : (l0.length : Int) = 0
      ·rw [if_pos c5] at H
       exact absurd H (by simp)
      ·rw [if_neg c5] at H
       have c5b0 : ((l0.length : Int) == 0) = false := beq_eq_false_iff_ne.mpr c5
       have c5b1 : ((l0.length : Int) != 0) = true := bne_iff_ne.mpr c5
       have c5b2 : ¬ (l0 = []) := fun h_ => c5 (by rw [h_]; rfl)
       obtain ⟨ji6, hji6⟩ : ∃ j_ : Int, (Int.tmod (wrap64 (x6_1 + 1)) (l0.length : Int)) = j_ := ⟨_, rfl⟩
       first | rw [hji6] at H | simp only [hji6] at H
       by_cases c7 : 0 ≤ (ji6)
       ·rw [if_pos c7] at H
        have c7b0 := decide_eq_true c7
        clear c7
        by_cases c8 : (ji6) < (l0.length : Int)
        ·rw [if_pos c8] at H
         have c8b0 := decide_eq_true c8
         clear c8
         obtain ⟨ji9, hji9⟩ : ∃ j_ : Int, (Int.tmod (wrap64 (x6_1 + 2)) (l0.length : Int)) = j_ := ⟨_, rfl⟩
         first | rw [hji9] at H | simp only [hji9] at H
         by_cases c10 : 0 ≤ (ji9)
         ·rw [if_pos c10] at H
          have c10b0 := decide_eq_true c10
          clear c10
          by_cases c11 : (ji9) < (l0.length : Int)
          ·rw [if_pos c11] at H
           have c11b0 := decide_eq_true c11
           clear c11
           replace H := Option.bind_eq_some_iff.mp H
           obtain ⟨t104, A120, H⟩ := H
           try dsimp only at H
           have A12 := Aside0.mk A120
           clear A120
           by_cases c13 : t104 ≤ 0
           ·rw [if_pos c13] at H
            have c13b0 := decide_eq_true c13
            clear c13
            obtain rfl := Option.some.inj H
            try go_wp2
            replace HB := Aside0.mk (below_drew1 HB.out)
            have p101 : 0 ≤ (x6_1 : Int) := dt
            have q101 : x6_1 < (l0.length : Int) := dt
            obtain ⟨ad101, e101, hx101_0, hx101_1⟩ := at_T29 HR0.out x6_1 p101 q101
            have hw101_1 := hx101_1
            have hw101_0 := hx101_0
            cases e101
            replace hx101_0 := hc HB hx101_0
            replace hx101_1 := hc HB hx101_1
            replace p101 := eq_true p101
            replace q101 := eq_true q101
            have p102 : 0 ≤ ((ji6) : Int) := dt
            have q102 : (ji6) < (l0.length : Int) := dt
            obtain ⟨ad102, e102, hx102_0, hx102_1⟩ := at_T29 HR0.out (ji6) p102 q102
            have hw102_1 := hx102_1
            have hw102_0 := hx102_0
            obtain rfl : ad101 = ad102 := (by injection e102)
            replace hx102_0 := hc HB hx102_0
            replace hx102_1 := hc HB hx102_1
            replace p102 := eq_true p102
            replace q102 := eq_true q102
            have p103 : 0 ≤ ((ji9) : Int) := dt
            have q103 : (ji9) < (l0.length : Int) := dt
            obtain ⟨ad103, e103, hx103_0, hx103_1⟩ := at_T29 HR0.out (ji9) p103 q103
            have hw103_1 := hx103_1
            have hw103_0 := hx103_0
            obtain rfl : ad101 = ad103 := (by injection e103)
            replace hx103_0 := hc HB hx103_0
            replace hx103_1 := hc HB hx103_1
            replace p103 := eq_true p103
            replace q103 := eq_true q103
            refine start_ (n := 22) (S := fun w' => w'.cell? (ad101.add ((x6_1).toNat * 2)) = some (.int .i64 ((rd_T29 l0 x6_1).f0)) ∧ w'.cell? ⟨(ad101.add ((x6_1).toNat * 2)).block, (ad101.add ((x6_1).toNat * 2)).off + 1, none⟩ = some (.int .i64 ((rd_T29 l0 x6_1).f1)) ∧ w'.cell? (ad101.add (((ji6)).toNat * 2)) = some (.int .i64 ((rd_T29 l0 (ji6)).f0)) ∧ w'.cell? ⟨(ad101.add (((ji6)).toNat * 2)).block, (ad101.add (((ji6)).toNat * 2)).off + 1, none⟩ = some (.int .i64 ((rd_T29 l0 (ji6)).f1)) ∧ w'.cell? (ad101.add (((ji9)).toNat * 2)) = some (.int .i64 ((rd_T29 l0 (ji9)).f0)) ∧ w'.cell? ⟨(ad101.add (((ji9)).toNat * 2)).block, (ad101.add (((ji9)).toNat * 2)).off + 1, none⟩ = some (.int .i64 ((rd_T29 l0 (ji9)).f1))) (ds := []) #[false, false, false, false, false, false, false, false, false, false, false, false, false, false, false, false, false, false, false, false, false, false] (by kernel_rfl) rfl rfl ⟨(hc HB hw101_0), (hc HB hw101_1), (hc HB hw102_0), (hc HB hw102_1), (hc HB hw103_0), (hc HB hw103_1)⟩ (fun hHeld => ?_); refine with_tabW shape_normal.tab4 shape_normal.bits4 (fun HT_ HW_ => ?_)
            generalize wr.drew = w14 at HB hx101_0 hx101_1 hx102_0 hx102_1 hx103_0 hx103_1 hHeld ⊢
            refine pu 0 9 HT_ ?_
            refine pu 1 10 HT_ ?_
            refine pu 2 11 HT_ ?_
            refine pu 4 13 HT_ ?_
            refine pu 5 14 HT_ ?_
            refine pu 6 15 HT_ ?_
            refine pu 7 16 HT_ ?_
            refine pu 8 17 HT_ ?_
            refine pu 9 18 HT_ ?_
            refine pu 10 19 HT_ ?_
            refine pu 12 21 HT_ ?_
            refine pu 13 22 HT_ ?_
            refine pu 14 23 HT_ ?_
            refine pu 15 24 HT_ ?_
            refine pu 16 25 HT_ ?_
            refine pu 17 26 HT_ ?_
            refine pu 18 27 HT_ ?_
            refine tk6 3 12 hHeld HT_ HW_ ?_
            refine tk6 11 20 hHeld HT_ HW_ ?_
            refine tk6 19 28 hHeld HT_ HW_ ?_
            refine one_ (i := 20) (N := some 29) #[true, true, true, true, true, true, true, true, true, true, true, true, true, true, true, true, true, true, true, true, true, false] rfl rfl (on1 HT_) (by decide) (fun K hK => ?_)
            refine goes_ Try.func91 (by kernel_rfl) rfl #[.agg #[.int .i64 ((rd_T29 l0 x6_1).f0), .int .i64 ((rd_T29 l0 x6_1).f1)], .agg #[.int .i64 ((rd_T29 l0 (ji6)).f0), .int .i64 ((rd_T29 l0 (ji6)).f1)], .agg #[.int .i64 ((rd_T29 l0 (ji9)).f0), .int .i64 ((rd_T29 l0 (ji9)).f1)]] (by rfl) rfl rfl (by (try simp only [List.map_toArray, List.map_cons, List.map_nil]); first | done | (simp only [hji6, hji9]; rfl) | rfl | (simp only [List.length_drop, List.length_take]; rfl)) ?_
            with_reducible refine (shape_side.calls ((rd_T29 l0 x6_1).f0) ((rd_T29 l0 x6_1).f1) ((rd_T29 l0 (ji6)).f0) ((rd_T29 l0 (ji6)).f1) ((rd_T29 l0 (ji9)).f0) ((rd_T29 l0 (ji9)).f1) t104 _ A12.out).mono ?_
            rintro e w15 ⟨rfl, hb⟩
            refine ⟨_, rfl, ?_⟩
            replace HB := Aside0.mk (below_step bh hb)
            (try clear hb); (try clear hb2); (try clear hk); (try clear hi)
            refine hK.out _ _ ⟨(hc HB hw101_0), (hc HB hw101_1), (hc HB hw102_0), (hc HB hw102_1), (hc HB hw103_0), (hc HB hw103_1)⟩ (fun hHeld => ?_)
            clear hK K
            refine nm 29 ?_
            refine pu 21 30 HT_ ?_
            refine done_ (done_of HT_.out (by kernel_rfl)) ?_
            try go_wp2
            go_ret
            exact ⟨by first | rfl | (simp [errW_none, errW_some] <;> rfl) | (simp only [← hji6, ← hji9]; first | rfl | (simp [errW_none, errW_some] <;> rfl)) | (simp [*, errW_none, errW_some] <;> rfl), bh⟩
           ·rw [if_neg c13] at H
            have c13b0 := decide_eq_false c13
            clear c13
            have H' := Aside0.mk H
            clear H
            try go_wp2
            replace HB := Aside0.mk (below_drew1 HB.out)
            have p101 : 0 ≤ (x6_1 : Int) := dt
            have q101 : x6_1 < (l0.length : Int) := dt
            obtain ⟨ad101, e101, hx101_0, hx101_1⟩ := at_T29 HR0.out x6_1 p101 q101
            have hw101_1 := hx101_1
            have hw101_0 := hx101_0
            cases e101
            replace hx101_0 := hc HB hx101_0
            replace hx101_1 := hc HB hx101_1
            replace p101 := eq_true p101
            replace q101 := eq_true q101
            have p102 : 0 ≤ ((ji6) : Int) := dt
            have q102 : (ji6) < (l0.length : Int) := dt
            obtain ⟨ad102, e102, hx102_0, hx102_1⟩ := at_T29 HR0.out (ji6) p102 q102
            have hw102_1 := hx102_1
            have hw102_0 := hx102_0
            obtain rfl : ad101 = ad102 := (by injection e102)
            replace hx102_0 := hc HB hx102_0
            replace hx102_1 := hc HB hx102_1
            replace p102 := eq_true p102
            replace q102 := eq_true q102
            have p103 : 0 ≤ ((ji9) : Int) := dt
            have q103 : (ji9) < (l0.length : Int) := dt
            obtain ⟨ad103, e103, hx103_0, hx103_1⟩ := at_T29 HR0.out (ji9) p103 q103
            have hw103_1 := hx103_1
            have hw103_0 := hx103_0
            obtain rfl : ad101 = ad103 := (by injection e103)
            replace hx103_0 := hc HB hx103_0
            replace hx103_1 := hc HB hx103_1
            replace p103 := eq_true p103
            replace q103 := eq_true q103
            refine start_ (n := 22) (S := fun w' => w'.cell? (ad101.add ((x6_1).toNat * 2)) = some (.int .i64 ((rd_T29 l0 x6_1).f0)) ∧ w'.cell? ⟨(ad101.add ((x6_1).toNat * 2)).block, (ad101.add ((x6_1).toNat * 2)).off + 1, none⟩ = some (.int .i64 ((rd_T29 l0 x6_1).f1)) ∧ w'.cell? (ad101.add (((ji6)).toNat * 2)) = some (.int .i64 ((rd_T29 l0 (ji6)).f0)) ∧ w'.cell? ⟨(ad101.add (((ji6)).toNat * 2)).block, (ad101.add (((ji6)).toNat * 2)).off + 1, none⟩ = some (.int .i64 ((rd_T29 l0 (ji6)).f1)) ∧ w'.cell? (ad101.add (((ji9)).toNat * 2)) = some (.int .i64 ((rd_T29 l0 (ji9)).f0)) ∧ w'.cell? ⟨(ad101.add (((ji9)).toNat * 2)).block, (ad101.add (((ji9)).toNat * 2)).off + 1, none⟩ = some (.int .i64 ((rd_T29 l0 (ji9)).f1))) (ds := []) #[false, false, false, false, false, false, false, false, false, false, false, false, false, false, false, false, false, false, false, false, false, false] (by kernel_rfl) rfl rfl ⟨(hc HB hw101_0), (hc HB hw101_1), (hc HB hw102_0), (hc HB hw102_1), (hc HB hw103_0), (hc HB hw103_1)⟩ (fun hHeld => ?_); refine with_tabW shape_normal.tab4 shape_normal.bits4 (fun HT_ HW_ => ?_)
            generalize wr.drew = w16 at HB hx101_0 hx101_1 hx102_0 hx102_1 hx103_0 hx103_1 hHeld ⊢
            refine pu 0 9 HT_ ?_
            refine pu 1 10 HT_ ?_
            refine pu 2 11 HT_ ?_
            refine pu 4 13 HT_ ?_
            refine pu 5 14 HT_ ?_
            refine pu 6 15 HT_ ?_
            refine pu 7 16 HT_ ?_
            refine pu 8 17 HT_ ?_
            refine pu 9 18 HT_ ?_
            refine pu 10 19 HT_ ?_
            refine pu 12 21 HT_ ?_
            refine pu 13 22 HT_ ?_
            refine pu 14 23 HT_ ?_
            refine pu 15 24 HT_ ?_
            refine pu 16 25 HT_ ?_
            refine pu 17 26 HT_ ?_
            refine pu 18 27 HT_ ?_
            refine tk6 3 12 hHeld HT_ HW_ ?_
            refine tk6 11 20 hHeld HT_ HW_ ?_
            refine tk6 19 28 hHeld HT_ HW_ ?_
            refine one_ (i := 20) (N := some 29) #[true, true, true, true, true, true, true, true, true, true, true, true, true, true, true, true, true, true, true, true, true, false] rfl rfl (on1 HT_) (by decide) (fun K hK => ?_)
            refine goes_ Try.func91 (by kernel_rfl) rfl #[.agg #[.int .i64 ((rd_T29 l0 x6_1).f0), .int .i64 ((rd_T29 l0 x6_1).f1)], .agg #[.int .i64 ((rd_T29 l0 (ji6)).f0), .int .i64 ((rd_T29 l0 (ji6)).f1)], .agg #[.int .i64 ((rd_T29 l0 (ji9)).f0), .int .i64 ((rd_T29 l0 (ji9)).f1)]] (by rfl) rfl rfl (by (try simp only [List.map_toArray, List.map_cons, List.map_nil]); first | done | (simp only [hji6, hji9]; rfl) | rfl | (simp only [List.length_drop, List.length_take]; rfl)) ?_
            with_reducible refine (shape_side.calls ((rd_T29 l0 x6_1).f0) ((rd_T29 l0 x6_1).f1) ((rd_T29 l0 (ji6)).f0) ((rd_T29 l0 (ji6)).f1) ((rd_T29 l0 (ji9)).f0) ((rd_T29 l0 (ji9)).f1) t104 _ A12.out).mono ?_
            rintro e w17 ⟨rfl, hb⟩
            refine ⟨_, rfl, ?_⟩
            replace HB := Aside0.mk (below_step bh hb)
            (try clear hb); (try clear hb2); (try clear hk); (try clear hi)
            refine hK.out _ _ ⟨(hc HB hw101_0), (hc HB hw101_1), (hc HB hw102_0), (hc HB hw102_1), (hc HB hw103_0), (hc HB hw103_1)⟩ (fun hHeld => ?_)
            clear hK K
            refine nm 29 ?_
            refine pu 21 30 HT_ ?_
            refine done_ (done_of HT_.out (by kernel_rfl)) ?_
            try go_wp2
            go_roundg k1
            case measure => have := HK1.out; omega
            case rel => exact ⟨(wrap64 (x6_1 + 1)), sd, H', ⟨by have := HK1.out; omega⟩, ⟨bh⟩⟩
          ·rw [if_neg c11] at H
           exact absurd H (by simp)
         ·rw [if_neg c10] at H
          exact absurd H (by simp)
        ·rw [if_neg c8] at H
         exact absurd H (by simp)
       ·rw [if_neg c7] at H
        exact absurd H (by simp)
     ·rw [if_neg c4] at H
      exact absurd H (by simp)
    ·rw [if_neg c3] at H
     exact absurd H (by simp)
   ·rw [if_neg c2] at H
    have c2b0 := decide_eq_false c2
    clear c2
    by_cases c18 : 0 < (l0.length : Int)
    ·rw [if_pos c18] at H
     have c18b0 := decide_eq_true c18
     have c18b1 : decide (0 < l0.length) = true := decide_eq_true (by omega)
     clear c18
     replace H := Option.bind_eq_some_iff.mp H
     obtain ⟨⟨t106, t107⟩, A190, H⟩ := H
     try dsimp only at H
     have A19 := Aside0.mk A190
     clear A190
     by_cases c20 : (((rd_T29 l0 0).f0) == t106 && (((rd_T29 l0 0).f1) == t107)) = true
     ·rw [if_pos c20] at H
      have c20b0 : (((rd_T29 l0 0).f0) == t106 && (((rd_T29 l0 0).f1) == t107)) = true := c20
      (try (have c20b1 : decide (((rd_T29 l0 0).f0) = t106 && (((rd_T29 l0 0).f1) == t107)) = true := by simpa using c20))
      (try (have c20b2 : (((rd_T29 l0 0).f0) == t106 && (((rd_T29 l0 0).f1) == t107)) = true := by simpa using c20))
      clear c20
      replace H := Option.bind_eq_some_iff.mp H
      obtain ⟨t108, A210, H⟩ := H
      try dsimp only at H
      have A21 := Aside0.mk A210
      clear A210
      obtain rfl := Option.some.inj H
      try go_wp2
      replace HB := Aside0.mk (below_drew1 HB.out)
      have p105 : 0 ≤ (0 : Int) := (by omega)
      have q105 : 0 < (l0.length : Int) := dt
      obtain ⟨ad105, e105, hx105_0, hx105_1⟩ := at_T29 HR0.out 0 p105 q105
      have hw105_1 := hx105_1
      (try rw [show ((0 : Int)).toNat = 0 from rfl] at hw105_1)
      (try rw [show 0 * 2 = 0 from rfl] at hw105_1)
      (try rw [Addr.add_zero'] at hw105_1)
      have hw105_0 := hx105_0
      (try rw [show ((0 : Int)).toNat = 0 from rfl] at hw105_0)
      (try rw [show 0 * 2 = 0 from rfl] at hw105_0)
      (try rw [Addr.add_zero'] at hw105_0)
      cases e105
      have qi105 : (0 < l0.length) = True := eq_true (by omega)
      (try rw [show ((0 : Int)).toNat = 0 from rfl] at hx105_0)
      (try rw [show 0 * 2 = 0 from rfl] at hx105_0)
      (try rw [Addr.add_zero'] at hx105_0)
      (try rw [show ((0 : Int)).toNat = 0 from rfl] at hx105_1)
      (try rw [show 0 * 2 = 0 from rfl] at hx105_1)
      (try rw [Addr.add_zero'] at hx105_1)
      replace hx105_0 := hc HB hx105_0
      replace hx105_1 := hc HB hx105_1
      replace p105 := eq_true p105
      replace q105 := eq_true q105
      refine start_ (n := 11) (S := fun w' => w'.cell? ad105 = some (.int .i64 ((rd_T29 l0 0).f0)) ∧ w'.cell? ⟨ad105.block, ad105.off + 1, none⟩ = some (.int .i64 ((rd_T29 l0 0).f1))) (ds := []) #[false, false, false, false, false, false, false, false, false, false, false] (by kernel_rfl) rfl rfl ⟨(hc HB hw105_0), (hc HB hw105_1)⟩ (fun hHeld => ?_); refine with_tabW shape_normal.tab7 shape_normal.bits7 (fun HT_ HW_ => ?_)
      generalize wr.drew = w22 at HB hx105_0 hx105_1 hHeld ⊢
      refine pu 0 32 HT_ ?_
      refine pu 1 33 HT_ ?_
      refine pu 3 35 HT_ ?_
      refine tk2 2 34 hHeld HT_ HW_ ?_
      refine one_ (i := 4) (N := some 36) #[true, true, true, true, true, false, false, false, false, false, false] rfl rfl (on1 HT_) (by decide) (fun K hK => ?_)
      refine goes_ Try.func94 (by kernel_rfl) rfl #[.slice (some ad105) l0.length c0, .func (.func 95) #[] #[]] (by rfl) rfl rfl sg ?_
      with_reducible refine (slices_MinFunc_lower.calls k1 _ _ l0  t106 t107 _ ?side1 ?side2 A19.out).mono ?_
      (case side1 => exact cs (Kd.C_below HR0.out HB.out))
      (case side2 => exact HC0.out)
      rintro e w23 ⟨rfl, hb⟩
      refine ⟨_, rfl, ?_⟩
      replace HB := Aside0.mk (below_step bh hb)
      (try clear hb); (try clear hb2); (try clear hk); (try clear hi)
      refine hK.out _ _ ⟨(hc HB hw105_0), (hc HB hw105_1)⟩ (fun hHeld => ?_)
      clear hK K
      refine nm 36 ?_
      refine pu 5 37 HT_ ?_
      refine pu 6 38 HT_ ?_
      refine pu 7 39 HT_ ?_
      refine one_ (i := 8) (N := some 40) #[true, true, true, true, true, true, true, true, true, false, false] rfl rfl (on1 HT_) (by decide) (fun K hK => ?_)
      refine goes_ Try.func69 (by kernel_rfl) rfl #[.slice (some ad105) l0.length c0] (by rfl) rfl rfl sg ?_
      with_reducible refine (shape_simple.calls k1 _ _ l0 t108 _ ?side1 ?side2 A21.out).mono ?_
      (case side1 => exact cs (Kd.C_below HR0.out HB.out))
      (case side2 => exact HC0.out)
      rintro e w24 ⟨rfl, hb⟩
      refine ⟨_, rfl, ?_⟩
      replace HB := Aside0.mk (below_step bh hb)
      (try clear hb); (try clear hb2); (try clear hk); (try clear hi)
      refine hK.out _ _ ⟨(hc HB hw105_0), (hc HB hw105_1)⟩ (fun hHeld => ?_)
      clear hK K
      refine nm 40 ?_
      refine pu 9 41 HT_ ?_
      refine pu 10 2 HT_ ?_
      refine done_ (done_of HT_.out (by kernel_rfl)) ?_
      try go_wp2
      go_ret
      exact ⟨by exact er, bh⟩
     ·rw [if_neg c20] at H
      have c20b0 : (((rd_T29 l0 0).f0) == t106 && (((rd_T29 l0 0).f1) == t107)) = false := by simpa using c20
      (try (have c20b1 : decide (((rd_T29 l0 0).f0) = t106 && (((rd_T29 l0 0).f1) == t107)) = false := by simpa using c20))
      (try (have c20b2 : (((rd_T29 l0 0).f0) == t106 && (((rd_T29 l0 0).f1) == t107)) = false := by simpa using c20))
      (try (have c20b3 : ¬ (((rd_T29 l0 0).f0) = t106 && (((rd_T29 l0 0).f1) == t107)) := by simpa using c20))
      clear c20
      obtain rfl := Option.some.inj H
      try go_wp2
      replace HB := Aside0.mk (below_drew1 HB.out)
      have p105 : 0 ≤ (0 : Int) := (by omega)
      have q105 : 0 < (l0.length : Int) := dt
      obtain ⟨ad105, e105, hx105_0, hx105_1⟩ := at_T29 HR0.out 0 p105 q105
      have hw105_1 := hx105_1
      (try rw [show ((0 : Int)).toNat = 0 from rfl] at hw105_1)
      (try rw [show 0 * 2 = 0 from rfl] at hw105_1)
      (try rw [Addr.add_zero'] at hw105_1)
      have hw105_0 := hx105_0
      (try rw [show ((0 : Int)).toNat = 0 from rfl] at hw105_0)
      (try rw [show 0 * 2 = 0 from rfl] at hw105_0)
      (try rw [Addr.add_zero'] at hw105_0)
      cases e105
      have qi105 : (0 < l0.length) = True := eq_true (by omega)
      (try rw [show ((0 : Int)).toNat = 0 from rfl] at hx105_0)
      (try rw [show 0 * 2 = 0 from rfl] at hx105_0)
      (try rw [Addr.add_zero'] at hx105_0)
      (try rw [show ((0 : Int)).toNat = 0 from rfl] at hx105_1)
      (try rw [show 0 * 2 = 0 from rfl] at hx105_1)
      (try rw [Addr.add_zero'] at hx105_1)
      replace hx105_0 := hc HB hx105_0
      replace hx105_1 := hc HB hx105_1
      replace p105 := eq_true p105
      replace q105 := eq_true q105
      refine start_ (n := 11) (S := fun w' => w'.cell? ad105 = some (.int .i64 ((rd_T29 l0 0).f0)) ∧ w'.cell? ⟨ad105.block, ad105.off + 1, none⟩ = some (.int .i64 ((rd_T29 l0 0).f1))) (ds := []) #[false, false, false, false, false, false, false, false, false, false, false] (by kernel_rfl) rfl rfl ⟨(hc HB hw105_0), (hc HB hw105_1)⟩ (fun hHeld => ?_); refine with_tabW shape_normal.tab7 shape_normal.bits7 (fun HT_ HW_ => ?_)
      generalize wr.drew = w25 at HB hx105_0 hx105_1 hHeld ⊢
      refine pu 0 32 HT_ ?_
      refine pu 1 33 HT_ ?_
      refine pu 3 35 HT_ ?_
      refine tk2 2 34 hHeld HT_ HW_ ?_
      refine one_ (i := 4) (N := some 36) #[true, true, true, true, true, false, false, false, false, false, false] rfl rfl (on1 HT_) (by decide) (fun K hK => ?_)
      refine goes_ Try.func94 (by kernel_rfl) rfl #[.slice (some ad105) l0.length c0, .func (.func 95) #[] #[]] (by rfl) rfl rfl sg ?_
      with_reducible refine (slices_MinFunc_lower.calls k1 _ _ l0  t106 t107 _ ?side1 ?side2 A19.out).mono ?_
      (case side1 => exact cs (Kd.C_below HR0.out HB.out))
      (case side2 => exact HC0.out)
      rintro e w26 ⟨rfl, hb⟩
      refine ⟨_, rfl, ?_⟩
      replace HB := Aside0.mk (below_step bh hb)
      (try clear hb); (try clear hb2); (try clear hk); (try clear hi)
      refine hK.out _ _ ⟨(hc HB hw105_0), (hc HB hw105_1)⟩ (fun hHeld => ?_)
      clear hK K
      refine nm 36 ?_
      refine pu 5 37 HT_ ?_
      refine pu 6 38 HT_ ?_
      refine pz 7 39 HT_ ?_
      refine pz 8 40 HT_ ?_
      refine pu 9 41 HT_ ?_
      refine pu 10 2 HT_ ?_
      refine done_ (done_of HT_.out (by kernel_rfl)) ?_
      try go_wp2
      go_ret
      exact ⟨by exact er, bh⟩
    ·rw [if_neg c18] at H
     exact absurd H (by simp)
/-! ### shape_refused_normal: function 2068 -/
def shape_refused_normal.f (k : Nat) (l0 : List (S29))  : Option (Int) := (shape_polygon.f l0).bind fun t101 => (if t101 = true then ((shape_normal.f k l0).bind fun t102 => (if t102 = true then (some 0) else (some 2))) else (some 1))
set_option maxHeartbeats 8000000 in
set_option maxRecDepth 100000 in
theorem shape_refused_normal.calls (k : Nat) (A0 : Option Addr) (c0 : Nat) (l0 : List (S29))  (r : Int) (w : World) (hr0 : Kd.C k29 w A0 l0.length l0) (hc0 : l0.length ≤ c0) (h : shape_refused_normal.f k l0 = some r) :
  Calls Try.prog 68 #[.slice A0 l0.length c0, .func (.func 72) #[] #[]] w fun e w' => e = .returned (.int .i64 r) ∧ Below w.heap.size w w' := by
 have HR0 := Aside0.mk hr0
 have HC0 := Aside0.mk hc0
 clear hr0 hc0
 have HB := Aside0.mk (Below.refl w.heap.size w)
 have H : ((shape_polygon.f l0).bind fun t101 => (if t101 = true then ((shape_normal.f k l0).bind fun t102 => (if t102 = true then (some 0) else (some 2))) else (some 1))) = some r := h
 clear h
 replace H := Option.bind_eq_some_iff.mp H
 obtain ⟨t101, A30, H⟩ := H
 try dsimp only at H
 have A3 := Aside0.mk A30
 clear A30
 by_cases c4 : t101 = true
 ·subst c4
  rw [if_pos rfl] at H
  replace H := Option.bind_eq_some_iff.mp H
  obtain ⟨t102, A50, H⟩ := H
  try dsimp only at H
  have A5 := Aside0.mk A50
  clear A50
  by_cases c6 : t102 = true
  ·subst c6
   rw [if_pos rfl] at H
   obtain rfl := Option.some.inj H
   go_enter Try.func68, Try.ntmps68
   go_wp2_with (first | ((first | ((with_reducible refine gc 66 rfl ?_); refine goesL_ (some 7) rfl rfl Try.func66 (by kernel_rfl) rfl #[.slice A0 l0.length c0] rfl sg ?_) | ((with_reducible refine gate_value 66 rfl rfl ?_); refine goesLV_ (some 7) rfl rfl Try.func66 (by kernel_rfl) rfl #[.slice A0 l0.length c0] rfl sg rfl ?_)); (with_reducible refine (shape_polygon.calls _ _ l0 true _ ?side1 ?side2 A3.out).mono ?_); (case side1 => repeat (first | exact HR0.out | (with_reducible refine Kd.C_alloc ?_ _) | (with_reducible refine Kd.C_drewN ?_ _) | (with_reducible refine Kd.C_drew ?_))); (case side2 => exact HC0.out); rintro e w7 ⟨rfl, hb⟩; refine ⟨_, rfl, ?_⟩; replace HB := Aside0.mk (below_step bh hb); (try clear hb); (try clear hb2); (try clear hk); (try clear hi)) | ((first | ((with_reducible refine gc 72 rfl ?_); refine goesL_ (some 12) rfl rfl Try.func72 (by kernel_rfl) rfl #[.slice A0 l0.length c0] rfl sg ?_) | ((with_reducible refine gate_value 72 rfl rfl ?_); refine goesLV_ (some 12) rfl rfl Try.func72 (by kernel_rfl) rfl #[.slice A0 l0.length c0] rfl sg rfl ?_)); (with_reducible refine (shape_normal.calls k _ _ l0 true _ ?side1 ?side2 A5.out).mono ?_); (case side1 => exact cs (Kd.C_below HR0.out HB.out)); (case side2 => exact HC0.out); rintro e w8 ⟨rfl, hb⟩; refine ⟨_, rfl, ?_⟩; replace HB := Aside0.mk (below_step bh hb); (try clear hb); (try clear hb2); (try clear hk); (try clear hi)))
   go_ret
   exact ⟨by exact er, bh⟩
  ·replace c6 := Bool.eq_false_iff.mpr c6
   subst c6
   rw [if_neg (show ¬ (false = true) by decide)] at H
   obtain rfl := Option.some.inj H
   go_enter Try.func68, Try.ntmps68
   go_wp2_with (first | ((first | ((with_reducible refine gc 66 rfl ?_); refine goesL_ (some 7) rfl rfl Try.func66 (by kernel_rfl) rfl #[.slice A0 l0.length c0] rfl sg ?_) | ((with_reducible refine gate_value 66 rfl rfl ?_); refine goesLV_ (some 7) rfl rfl Try.func66 (by kernel_rfl) rfl #[.slice A0 l0.length c0] rfl sg rfl ?_)); (with_reducible refine (shape_polygon.calls _ _ l0 true _ ?side1 ?side2 A3.out).mono ?_); (case side1 => repeat (first | exact HR0.out | (with_reducible refine Kd.C_alloc ?_ _) | (with_reducible refine Kd.C_drewN ?_ _) | (with_reducible refine Kd.C_drew ?_))); (case side2 => exact HC0.out); rintro e w9 ⟨rfl, hb⟩; refine ⟨_, rfl, ?_⟩; replace HB := Aside0.mk (below_step bh hb); (try clear hb); (try clear hb2); (try clear hk); (try clear hi)) | ((first | ((with_reducible refine gc 72 rfl ?_); refine goesL_ (some 12) rfl rfl Try.func72 (by kernel_rfl) rfl #[.slice A0 l0.length c0] rfl sg ?_) | ((with_reducible refine gate_value 72 rfl rfl ?_); refine goesLV_ (some 12) rfl rfl Try.func72 (by kernel_rfl) rfl #[.slice A0 l0.length c0] rfl sg rfl ?_)); (with_reducible refine (shape_normal.calls k _ _ l0 false _ ?side1 ?side2 A5.out).mono ?_); (case side1 => exact cs (Kd.C_below HR0.out HB.out)); (case side2 => exact HC0.out); rintro e w10 ⟨rfl, hb⟩; refine ⟨_, rfl, ?_⟩; replace HB := Aside0.mk (below_step bh hb); (try clear hb); (try clear hb2); (try clear hk); (try clear hi)))
   go_ret
   exact ⟨by exact er, bh⟩
 ·replace c4 := Bool.eq_false_iff.mpr c4
  subst c4
  rw [if_neg (show ¬ (false = true) by decide)] at H
  obtain rfl := Option.some.inj H
  go_enter Try.func68, Try.ntmps68
  go_wp2_with (first | ((first | ((with_reducible refine gc 66 rfl ?_); refine goesL_ (some 7) rfl rfl Try.func66 (by kernel_rfl) rfl #[.slice A0 l0.length c0] rfl sg ?_) | ((with_reducible refine gate_value 66 rfl rfl ?_); refine goesLV_ (some 7) rfl rfl Try.func66 (by kernel_rfl) rfl #[.slice A0 l0.length c0] rfl sg rfl ?_)); (with_reducible refine (shape_polygon.calls _ _ l0 false _ ?side1 ?side2 A3.out).mono ?_); (case side1 => repeat (first | exact HR0.out | (with_reducible refine Kd.C_alloc ?_ _) | (with_reducible refine Kd.C_drewN ?_ _) | (with_reducible refine Kd.C_drew ?_))); (case side2 => exact HC0.out); rintro e w11 ⟨rfl, hb⟩; refine ⟨_, rfl, ?_⟩; replace HB := Aside0.mk (below_step bh hb); (try clear hb); (try clear hb2); (try clear hk); (try clear hi)))
  go_ret
  exact ⟨by exact er, bh⟩
/-! ### shape_Apart: function 35 -/
def shape_Apart.l0 : Nat → List (S29) → List (S29) → List (List (S29)) → Int → Int → Int → Int → Option (Bool × Int)
 | 0, _, _, _, _, _, _, _ => none
 | k + 1, x0, x1, x13, x14, x15, x102000, x102001 => if x15 < x14 then (if 0 ≤ x15 then (if x15 < (x13.length : Int) then ((shape_refused_normal.f k (rd_L2 x13 x15)).bind fun t106 => (if t106 = 0 then (shape_Apart.l0 k x0 x1 x13 x14 (wrap64 (x15 + 1)) x102000 x102001) else (some (false, t106)))) else (none)) else (none)) else ((shape_within.f (([(⟨x102000, x102001⟩ : S29)] : List (S29))) 20000).bind fun t110 => (if t110 = true then ((shape_moved.f k x1 x102000 x102001).bind fun t111 => ((shape_apart.f k x0 t111).bind fun t114 => (some (t114, 0)))) else (some (false, 1))))
def shape_Apart.f (k : Nat) (l0 : List (S29)) (l1 : List (S29)) (a2_0 : Int) (a2_1 : Int) : Option (Bool × Int) := (some (([l0, l1] : List (List (S29))) : List (List (S29)))).bind fun y102 => (shape_Apart.l0 k l0 l1 y102 (y102.length : Int) 0 a2_0 a2_1)
set_option maxHeartbeats 8000000 in
set_option maxRecDepth 100000 in
theorem shape_Apart.calls (k : Nat) (P0_ : Nat → Prop) (A0 : Option Addr) (c0 : Nat) (l0 : List (S29)) (P1_ : Nat → Prop) (A1 : Option Addr) (c1 : Nat) (l1 : List (S29)) (a2_0 : Int) (a2_1 : Int) (r1 : Bool) (r2 : Int) (w : World) (hs0 : Kd.V k29 29 w w.heap.size (fun k_ => P0_ k_) (.slice A0 l0.length c0) l0) (hs1 : Kd.V k29 29 w w.heap.size (fun k_ => P1_ k_) (.slice A1 l1.length c1) l1) (h : shape_Apart.f k l0 l1 a2_0 a2_1 = some (r1, r2)) :
  Calls Try.prog 35 #[.slice A0 l0.length c0, .slice A1 l1.length c1, .agg #[.int .i64 a2_0, .int .i64 a2_1]] w fun e w' => e = .returned (.tuple #[.bool r1, .int .i64 r2]) ∧ Below w.heap.size w w' := by
 have hu29 := Try.underlying29
 have HO0 := Aside0.mk (show Kd.V k29 29 w w.heap.size (fun k_ => ((P0_ k_ ∨ P1_ k_) ∨ w.heap.size ≤ k_)) (.slice A0 l0.length c0) l0 from Kd.V_mono hs0 (fun k_ hk => .inl (.inl hk)))
 have HO1 := Aside0.mk (show Kd.V k29 29 w w.heap.size (fun k_ => ((P0_ k_ ∨ P1_ k_) ∨ w.heap.size ≤ k_)) (.slice A1 l1.length c1) l1 from Kd.V_mono hs1 (fun k_ hk => .inl (.inr hk)))
 have HB := Aside0.mk (Below.refl w.heap.size w)
 have H : ((some (([l0, l1] : List (List (S29))) : List (List (S29)))).bind fun y102 => (shape_Apart.l0 k l0 l1 y102 (y102.length : Int) 0 a2_0 a2_1)) = some (r1, r2) := h
 clear h
 obtain ⟨y102, hy102⟩ : ∃ y_ : List (List (S29)), y_ = (([l0, l1] : List (List (S29)))) := ⟨_, rfl⟩
 replace H : (shape_Apart.l0 k l0 l1 y102 (y102.length : Int) 0 a2_0 a2_1) = some (r1, r2) := by first | (rw [hy102]; with_reducible exact H) | (have H2_ := (Option.bind_some _ _).symm.trans H; rw [hy102]; with_reducible exact H2_) | (have H2_ := (Option.bind_some _ _).symm.trans H; with_reducible exact H2_) | with_reducible exact H | (rw [hy102]; exact H) | exact H
 have Ny102 := Aside0.mk hy102
 clear hy102
 have H' := Aside0.mk H
 clear H
 go_enter Try.func35, Try.ntmps35
 go_wp2_with (first | ((with_reducible refine gate_dst (N := 5) rfl ?_); refine bxe 5 #[.int .i64 a2_0, .int .i64 a2_1] 29 ?_; intro gb101 hg w4 hbox hb; have BK101 := Aside0.mk (hbox); have GW101 := Aside0.mk (gs hg : w.heap.size ≤ gb101); have GE101 := Aside0.mk (gs hg : w.heap.size ≤ gb101); replace HO0 := Aside0.mk (Kd.V_below (Kd.V_elderB (vo HO0) gb101 (Nat.le_of_eq hg.symm)) hb); replace HO1 := Aside0.mk (Kd.V_below (Kd.V_elderB (vo HO1) gb101 (Nat.le_of_eq hg.symm)) hb); replace HB := Aside0.mk (below_step bh hb); clear hb hbox hg) | ((with_reducible refine gate_dst (N := 13) rfl ?_); refine Kd.N_lit (Kd.slice 29 k29) _ 22 ?hg (N' := 13) ?hd (xs := ([l0, l1] : List (List (S29)))) (inner := [.slice A0 l0.length c0, .slice A1 l1.length c1]) (ok := (fun k_ => ((P0_ k_ ∨ P1_ k_) ∨ w.heap.size ≤ k_) ∧ k_ ≠ gb101)) (okp := (fun k_ => ((P0_ k_ ∨ P1_ k_) ∨ w.heap.size ≤ k_) ∧ k_ ≠ gb101)) ?hr ?hp (fun _ hk => hk) ((show ∀ k_, w4.heap.size ≤ k_ → (fun k_ => ((P0_ k_ ∨ P1_ k_) ∨ w.heap.size ≤ k_) ∧ k_ ≠ gb101) k_ from fun k_ hk => ⟨(.inr (Nat.le_trans (below_size bh) hk)), Kd.freshB (g := gb101) (o := .cells #[.int .i64 a2_0, .int .i64 a2_1] 29 (0, 0)) (bk BK101) k_ hk⟩) _ (Nat.le_refl _)) (Below.refl _ _) (Nat.le_refl _) (by simp) ?_; (case hd => rfl); (case hg => rfl); (case hr => first | (go_simp; done) | (go_simp; rfl)); (case hp => exact (Reps.one (show Kd.FK (Kd.slice 29 k29) _ _ l0 [.slice A0 l0.length c0] from (Kd.FK_slice_mk (Kd.V_reads' (Kd.V_mono (ok' := (fun k_ => ((P0_ k_ ∨ P1_ k_) ∨ w.heap.size ≤ k_) ∧ k_ ≠ gb101)) (HO0.out) (fun k_ hk => ⟨hk.1, hk.2⟩))).2.1 (Kd.V_F (Kd.V_mono (ok' := (fun k_ => ((P0_ k_ ∨ P1_ k_) ∨ w.heap.size ≤ k_) ∧ k_ ≠ gb101)) (HO0.out) (fun k_ hk => ⟨hk.1, hk.2⟩))))) (Reps.one (show Kd.FK (Kd.slice 29 k29) _ _ l1 [.slice A1 l1.length c1] from (Kd.FK_slice_mk (Kd.V_reads' (Kd.V_mono (ok' := (fun k_ => ((P0_ k_ ∨ P1_ k_) ∨ w.heap.size ≤ k_) ∧ k_ ≠ gb101)) (HO1.out) (fun k_ hk => ⟨hk.1, hk.2⟩))).2.1 (Kd.V_F (Kd.V_mono (ok' := (fun k_ => ((P0_ k_ ∨ P1_ k_) ∨ w.heap.size ≤ k_) ∧ k_ ≠ gb101)) (HO1.out) (fun k_ hk => ⟨hk.1, hk.2⟩))))) (Reps.none _ _)))); intro v103 w5 ho6 hb hg_ hnew_; clear hg_ hnew_; (first | rw [← Ny102.out] at ho6 | (simp only [Int.reduceToNat] at ho6; rw [← Ny102.out] at ho6)); have HO104 := Aside0.mk (Kd.N_lower ho6 (below_size bh)); replace HO0 := Aside0.mk (Kd.V_elder' (vo HO0) (Kd.N_base ho6) hb); replace HO1 := Aside0.mk (Kd.V_elder' (vo HO1) (Kd.N_base ho6) hb); replace BK101 := kb BK101 hb; replace HB := Aside0.mk (below_step bh hb); clear hb ho6; obtain ⟨Ao7, co7, eo7⟩ := Kd.N_slice HO104.out; subst eo7))
 go_loopg [15] k (fun kq v15 w' => ∃ (x15_1 : Int), v15 = .int .i64 x15_1 ∧ Aside0 (shape_Apart.l0 kq l0 l1 y102 (y102.length : Int) x15_1 a2_0 a2_1 = some (r1, r2)) ∧ Aside0 (kq ≤ k) ∧ Aside0 (Kd.V k29 29 w' w.heap.size (fun k_ => ((P0_ k_ ∨ P1_ k_) ∨ w.heap.size ≤ k_) ∧ some k_ ≠ ((.slice Ao7 y102.length co7) : Value).ownBlock ∧ k_ ≠ gb101) (.slice A0 l0.length c0) l0) ∧ Aside0 (Kd.V k29 29 w' w.heap.size (fun k_ => ((P0_ k_ ∨ P1_ k_) ∨ w.heap.size ≤ k_) ∧ some k_ ≠ ((.slice Ao7 y102.length co7) : Value).ownBlock ∧ k_ ≠ gb101) (.slice A1 l1.length c1) l1) ∧ Aside0 (Kd.N (Kd.slice 29 k29) 22 w' w.heap.size (fun k_ => ((P0_ k_ ∨ P1_ k_) ∨ w.heap.size ≤ k_) ∧ k_ ≠ gb101) (.slice Ao7 y102.length co7) y102) ∧ Aside0 (w'.heap[gb101]? = some (.cells #[.int .i64 a2_0, .int .i64 a2_1] 29 (0, 0))) ∧ Aside0 (Below w.heap.size w w'))
 case atStart => exact ⟨(0), sd, H', ⟨Nat.le_refl _⟩, ⟨by (with_reducible repeat (first | apply Kd.V_alloc | apply Kd.V_drewN | apply Kd.V_drew)); exact Kd.V_mono HO0.out (fun _ hk => ⟨hk.1.1, ⟨hk.2, hk.1.2⟩⟩)⟩, ⟨by (with_reducible repeat (first | apply Kd.V_alloc | apply Kd.V_drewN | apply Kd.V_drew)); exact Kd.V_mono HO1.out (fun _ hk => ⟨hk.1.1, ⟨hk.2, hk.1.2⟩⟩)⟩, ⟨by (with_reducible repeat (first | apply Kd.N_alloc | apply Kd.N_drewN | apply Kd.N_drew)); exact HO104.out⟩, ⟨bk BK101⟩, ⟨bh⟩⟩
 case round =>
  clear H'
  (try clear c1); (try clear p2); (try clear c3)
  obtain ⟨x15_1, rfl, HA, HK1, HO_0, HO_1, HO_13, BK101, HB⟩ := hrel
  cases gk with
  | zero => exact absurd HA.out (by simp [shape_Apart.l0])
  | succ k1 =>
   have H := HA.out
   clear HA
   simp only [shape_Apart.l0] at H
   by_cases c8 : x15_1 < (y102.length : Int)
   ·rw [if_pos c8] at H
    have c8b0 := decide_eq_true c8
    clear c8
    by_cases c9 : 0 ≤ x15_1
    ·rw [if_pos c9] at H
     have c9b0 := decide_eq_true c9
     clear c9
     by_cases c10 : x15_1 < (y102.length : Int)
     ·rw [if_pos c10] at H
      have c10b0 := decide_eq_true c10
      clear c10
      replace H := Option.bind_eq_some_iff.mp H
      obtain ⟨t106, A110, H⟩ := H
      replace H : (if t106 = 0 then (shape_Apart.l0 k1 l0 l1 y102 (y102.length : Int) (wrap64 (x15_1 + 1)) a2_0 a2_1) else (some (false, t106))) = some (r1, r2) := H
      have A11 := Aside0.mk A110
      clear A110
      by_cases c12 : t106 = 0
      ·rw [if_pos c12] at H
       have c12b0 : (t106 == 0) = true := beq_iff_eq.mpr c12
       have c12b1 : (t106 != 0) = false := bne_eq_false_iff_eq.mpr c12
       clear c12
       have H' := Aside0.mk H
       clear H
       have p105 : 0 ≤ (x15_1 : Int) := dt
       have q105 : x15_1 < (y102.length : Int) := dt
       obtain ⟨ad105, A105_0, c105_0, e105, hx105_0, hl105_0, hi105_0⟩ := at_L2 (Kd.N_reads' HO_13.out).2.2 x15_1 p105 q105
       cases e105
       obtain ⟨ce105, hce105, hMe105, hcc105⟩ := Kd.N_get HO_13.out [] x15_1 p105 (by first | exact q105 | exact dt | (have e_ := (Kd.N_reads' HO_13.out).1; omega))
       obtain ⟨ua105_0, uc105_0, rfl, ul105_0, ge105_0⟩ := Kd.FK_slice_open hMe105
       have hv105_0 := hcc105 0 _ rfl
       rw [Nat.add_zero, show ((Kd.slice 29 k29)).sz = 1 from rfl, Nat.mul_one] at hv105_0
       replace hv105_0 := Option.some.inj (hv105_0.symm.trans hx105_0)
       injection hv105_0 with hva_ hvn_ hvc_
       rw [hva_] at ge105_0
       rw [hvc_] at ul105_0
       have HL105_0 := Aside0.mk (show Kd.V k29 29 _ w.heap.size _ _ (rd_L2 y102 x15_1) from Kd.V_mk ul105_0 ge105_0)
       clear hva_ hvn_ hvc_ ge105_0 ul105_0
       clear hcc105 hce105
       have HR105_0 := Aside0.mk hi105_0
       have HC105_0 := Aside0.mk hl105_0
       clear hi105_0 hl105_0
       replace p105 := eq_true p105
       replace q105 := eq_true q105
       go_wp2_with (first | ((with_reducible refine gc 68 rfl ?_); refine goesL_ (some 20) rfl rfl Try.func68 (by kernel_rfl) rfl #[.slice A105_0 (rd_L2 y102 x15_1).length c105_0, .func (.func 72) #[] #[]] rfl sg ?_; (with_reducible refine (shape_refused_normal.calls k1 _ _ (rd_L2 y102 x15_1)  t106 _ ?side1 ?side2 A11.out).mono ?_); (case side1 => repeat (first | exact (by repeat (first | (with_reducible exact HR105_0.out) | (with_reducible refine Kd.C_alloc ?_ _) | (with_reducible refine Kd.C_drewN ?_ _) | (with_reducible refine Kd.C_drew ?_) | exact HR105_0.out)) | (with_reducible refine Kd.C_alloc ?_ _) | (with_reducible refine Kd.C_drewN ?_ _) | (with_reducible refine Kd.C_drew ?_))); (case side2 => exact HC105_0.out); rintro e w13 ⟨rfl, hb⟩; refine ⟨_, rfl, ?_⟩; replace HO_0 := Aside0.mk (Kd.V_below (vo HO_0) hb); replace HO_1 := Aside0.mk (Kd.V_below (vo HO_1) hb); replace HO_13 := Aside0.mk (Kd.N_below (no HO_13) hb); replace HL105_0 := Aside0.mk (Kd.V_below (by (with_reducible repeat (first | apply Kd.V_alloc | apply Kd.V_drewN | apply Kd.V_drew)); exact HL105_0.out) hb); replace BK101 := kb BK101 hb; replace HR105_0 := Aside0.mk (Kd.C_below (by repeat (first | (with_reducible exact HR105_0.out) | (with_reducible refine Kd.C_alloc ?_ _) | (with_reducible refine Kd.C_drewN ?_ _) | (with_reducible refine Kd.C_drew ?_) | exact HR105_0.out)) hb); replace HB := Aside0.mk (below_step bh hb); (try clear hb); (try clear hb2); (try clear hk); (try clear hi)))
       go_roundg k1
       case measure => have := HK1.out; omega
       case rel => exact ⟨(wrap64 (x15_1 + 1)), sd, H', ⟨by have := HK1.out; omega⟩, ⟨by (with_reducible repeat (first | apply Kd.V_alloc | apply Kd.V_drewN | apply Kd.V_drew)); exact HO_0.out⟩, ⟨by (with_reducible repeat (first | apply Kd.V_alloc | apply Kd.V_drewN | apply Kd.V_drew)); exact HO_1.out⟩, ⟨by (with_reducible repeat (first | apply Kd.N_alloc | apply Kd.N_drewN | apply Kd.N_drew)); exact HO_13.out⟩, ⟨bk BK101⟩, ⟨bh⟩⟩
      ·rw [if_neg c12] at H
       have c12b0 : (t106 == 0) = false := beq_eq_false_iff_ne.mpr c12
       have c12b1 : (t106 != 0) = true := bne_iff_ne.mpr c12
       simp only [Option.some.injEq, Prod.mk.injEq] at H
       obtain ⟨rfl, rfl⟩ := H
       have p105 : 0 ≤ (x15_1 : Int) := dt
       have q105 : x15_1 < (y102.length : Int) := dt
       obtain ⟨ad105, A105_0, c105_0, e105, hx105_0, hl105_0, hi105_0⟩ := at_L2 (Kd.N_reads' HO_13.out).2.2 x15_1 p105 q105
       cases e105
       obtain ⟨ce105, hce105, hMe105, hcc105⟩ := Kd.N_get HO_13.out [] x15_1 p105 (by first | exact q105 | exact dt | (have e_ := (Kd.N_reads' HO_13.out).1; omega))
       obtain ⟨ua105_0, uc105_0, rfl, ul105_0, ge105_0⟩ := Kd.FK_slice_open hMe105
       have hv105_0 := hcc105 0 _ rfl
       rw [Nat.add_zero, show ((Kd.slice 29 k29)).sz = 1 from rfl, Nat.mul_one] at hv105_0
       replace hv105_0 := Option.some.inj (hv105_0.symm.trans hx105_0)
       injection hv105_0 with hva_ hvn_ hvc_
       rw [hva_] at ge105_0
       rw [hvc_] at ul105_0
       have HL105_0 := Aside0.mk (show Kd.V k29 29 _ w.heap.size _ _ (rd_L2 y102 x15_1) from Kd.V_mk ul105_0 ge105_0)
       clear hva_ hvn_ hvc_ ge105_0 ul105_0
       clear hcc105 hce105
       have HR105_0 := Aside0.mk hi105_0
       have HC105_0 := Aside0.mk hl105_0
       clear hi105_0 hl105_0
       replace p105 := eq_true p105
       replace q105 := eq_true q105
       go_wp2_with (first | ((with_reducible refine gc 68 rfl ?_); refine goesL_ (some 20) rfl rfl Try.func68 (by kernel_rfl) rfl #[.slice A105_0 (rd_L2 y102 x15_1).length c105_0, .func (.func 72) #[] #[]] rfl sg ?_; (with_reducible refine (shape_refused_normal.calls k1 _ _ (rd_L2 y102 x15_1)  t106 _ ?side1 ?side2 A11.out).mono ?_); (case side1 => repeat (first | exact (by repeat (first | (with_reducible exact HR105_0.out) | (with_reducible refine Kd.C_alloc ?_ _) | (with_reducible refine Kd.C_drewN ?_ _) | (with_reducible refine Kd.C_drew ?_) | exact HR105_0.out)) | (with_reducible refine Kd.C_alloc ?_ _) | (with_reducible refine Kd.C_drewN ?_ _) | (with_reducible refine Kd.C_drew ?_))); (case side2 => exact HC105_0.out); rintro e w14 ⟨rfl, hb⟩; refine ⟨_, rfl, ?_⟩; replace HO_0 := Aside0.mk (Kd.V_below (vo HO_0) hb); replace HO_1 := Aside0.mk (Kd.V_below (vo HO_1) hb); replace HO_13 := Aside0.mk (Kd.N_below (no HO_13) hb); replace HL105_0 := Aside0.mk (Kd.V_below (by (with_reducible repeat (first | apply Kd.V_alloc | apply Kd.V_drewN | apply Kd.V_drew)); exact HL105_0.out) hb); replace BK101 := kb BK101 hb; replace HR105_0 := Aside0.mk (Kd.C_below (by repeat (first | (with_reducible exact HR105_0.out) | (with_reducible refine Kd.C_alloc ?_ _) | (with_reducible refine Kd.C_drewN ?_ _) | (with_reducible refine Kd.C_drew ?_) | exact HR105_0.out)) hb); replace HB := Aside0.mk (below_step bh hb); (try clear hb); (try clear hb2); (try clear hk); (try clear hi)))
       go_ret2
       exact ⟨by exact er, bh⟩
     ·rw [if_neg c10] at H
      exact absurd H (by simp)
    ·rw [if_neg c9] at H
     exact absurd H (by simp)
   ·rw [if_neg c8] at H
    have c8b0 := decide_eq_false c8
    clear c8
    obtain ⟨y107, hy107⟩ : ∃ y_ : List (S29), y_ = (([(⟨a2_0, a2_1⟩ : S29)] : List (S29))) := ⟨_, rfl⟩
    replace H : ((shape_within.f y107 20000).bind fun t110 => (if t110 = true then ((shape_moved.f k1 l1 a2_0 a2_1).bind fun t111 => ((shape_apart.f k1 l0 t111).bind fun t114 => (some (t114, 0)))) else (some (false, 1)))) = some (r1, r2) := by first | (rw [hy107]; with_reducible exact H) | (have H2_ := (Option.bind_some _ _).symm.trans H; rw [hy107]; with_reducible exact H2_) | (have H2_ := (Option.bind_some _ _).symm.trans H; with_reducible exact H2_) | with_reducible exact H | (rw [hy107]; exact H) | exact H
    have Ny107 := Aside0.mk hy107
    clear hy107
    replace H := Option.bind_eq_some_iff.mp H
    obtain ⟨t110, A150, H⟩ := H
    replace H : (if t110 = true then ((shape_moved.f k1 l1 a2_0 a2_1).bind fun t111 => ((shape_apart.f k1 l0 t111).bind fun t114 => (some (t114, 0)))) else (some (false, 1))) = some (r1, r2) := H
    have A15 := Aside0.mk A150
    clear A150
    by_cases c16 : t110 = true
    ·subst c16
     rw [if_pos rfl] at H
     replace H := Option.bind_eq_some_iff.mp H
     obtain ⟨t111, A170, H⟩ := H
     replace H : ((shape_apart.f k1 l0 t111).bind fun t114 => (some (t114, 0))) = some (r1, r2) := H
     have A17 := Aside0.mk A170
     clear A170
     replace H := Option.bind_eq_some_iff.mp H
     obtain ⟨t114, A180, H⟩ := H
     replace H : (some (t114, 0)) = some (r1, r2) := H
     have A18 := Aside0.mk A180
     clear A180
     simp only [Option.some.injEq, Prod.mk.injEq] at H
     obtain ⟨rfl, rfl⟩ := H
     obtain ⟨hcz19_0, hcz19_1, hfz19_0, hfz19_1⟩ := b2 BK101
     go_wp2_with (first | ((with_reducible refine gate_dst (N := 26) rfl ?_); refine Kd.R_lit k29 _ 29 ?hg (N := 26) ?hd (xs := ([(⟨a2_0, a2_1⟩ : S29)] : List (S29))) (inner := [.int .i64 a2_0, .int .i64 a2_1]) (ok := fun _ => True) (okp := fun _ => True) ?hr ?hp (fun _ hk => hk) trivial (Below.refl _ _) (Nat.le_refl _) (by simp) ?_; (case hd => rfl); (case hg => rfl); (case hr => first | (go_simp; done) | (go_simp; rfl)); (case hp => exact (Reps.c2 (show Kd.M k29 _ _ _ (⟨a2_0, a2_1⟩ : S29) [.int .i64 a2_0, .int .i64 a2_1] from (k29_mkM _ _ _ (⟨a2_0, a2_1⟩ : S29) )) (Reps.none _ _))); intro v108 w20 ho21 hb hg_ hnew_; clear hg_ hnew_; (first | rw [← Ny107.out] at ho21 | (simp only [Int.reduceToNat] at ho21; rw [← Ny107.out] at ho21)); have HO109 := Aside0.mk (Kd.R_lower (Kd.R_newB (Kd.R_newM (M := fun k_ => (w.heap.size ≤ k_)) ho21 (below_size bh) (fun k_ h_ => h_)) (g := gb101) (o := .cells #[.int .i64 a2_0, .int .i64 a2_1] 29 (0, 0)) (bk BK101)) (below_size bh)); replace HO_0 := Aside0.mk (Kd.V_elder' (vo HO_0) (Kd.R_base ho21) hb); replace HO_1 := Aside0.mk (Kd.V_elder' (vo HO_1) (Kd.R_base ho21) hb); replace HO_13 := Aside0.mk (Kd.N_elder' (no HO_13) (Kd.R_base ho21) hb); replace BK101 := kb BK101 hb; replace HB := Aside0.mk (below_step bh hb); clear hb ho21; obtain ⟨Ao22, co22, eo22⟩ := Kd.R_slice HO109.out; subst eo22) | ((with_reducible refine gc 48 rfl ?_); refine goesL_ (some 27) rfl rfl Try.func48 (by kernel_rfl) rfl #[.slice Ao22 y107.length co22, .int .i64 20000] rfl sg ?_; (with_reducible refine (shape_within.calls _ _ y107 20000 true _ ?side1 ?side2 A15.out).mono ?_); (case side1 => exact cs (Kd.R_reads' HO109.out).2.2); (case side2 => exact (Kd.R_reads' HO109.out).2.1); rintro e w23 ⟨rfl, hb⟩; refine ⟨_, rfl, ?_⟩; replace HO_0 := Aside0.mk (Kd.V_below (vo HO_0) hb); replace HO_1 := Aside0.mk (Kd.V_below (vo HO_1) hb); replace HO_13 := Aside0.mk (Kd.N_below (no HO_13) hb); replace HO109 := Aside0.mk (Kd.R_below (ro HO109) hb); replace BK101 := kb BK101 hb; replace HB := Aside0.mk (below_step bh hb); (try clear hb); (try clear hb2); (try clear hk); (try clear hi); have hcz24_0 : w23.cell? ⟨gb101, 0, none⟩ = some (.int .i64 a2_0) := bc BK101 0; have hcz24_1 : w23.cell? ⟨gb101, 1, none⟩ = some (.int .i64 a2_1) := bc BK101 1; have hfz24_0 := blk_frozen BK101.out 0; have hfz24_1 := blk_frozen BK101.out 1) | ((with_reducible refine gc 75 rfl ?_); refine goesL_ (some 32) rfl rfl Try.func75 (by kernel_rfl) rfl #[.slice A1 l1.length c1, .agg #[.int .i64 a2_0, .int .i64 a2_1]] rfl sg ?_; (with_reducible refine (shape_moved.calls k1 _ _ l1 a2_0 a2_1 t111 _ ?side1 ?side2 A17.out).mono ?_); (case side1 => exact cs (Kd.V_reads' HO_1.out).2.2); (case side2 => exact (Kd.V_reads' HO_1.out).2.1); rintro e w25 ⟨v112, rfl, ho0, hb⟩; refine ⟨_, rfl, ?_⟩; have HO113 := Aside0.mk (Kd.R_lower (Kd.R_newB (Kd.R_new' (Kd.R_newM (M := fun k_ => (w.heap.size ≤ k_)) ho0 (below_size bh) (fun k_ h_ => h_)) (Kd.R_lt (ro HO109))) (g := gb101) (o := .cells #[.int .i64 a2_0, .int .i64 a2_1] 29 (0, 0)) (bk BK101)) (below_size bh)); replace HO_0 := Aside0.mk (Kd.V_elder' (vo HO_0) (Kd.R_base ho0) hb); replace HO_1 := Aside0.mk (Kd.V_elder' (vo HO_1) (Kd.R_base ho0) hb); replace HO_13 := Aside0.mk (Kd.N_elder' (no HO_13) (Kd.R_base ho0) hb); replace HO109 := Aside0.mk (Kd.R_elder' (ro HO109) (Kd.R_base ho0) hb); replace BK101 := kb BK101 hb; replace HB := Aside0.mk (below_step bh hb); (try clear hb); (try clear hb2); (try clear hk); (try clear hi); (try clear ho0); obtain ⟨Ao26, co26, eo26⟩ := Kd.R_slice HO113.out; subst eo26) | ((with_reducible refine gc 74 rfl ?_); refine goesL_ (some 33) rfl rfl Try.func74 (by kernel_rfl) rfl #[.slice A0 l0.length c0, .slice Ao26 t111.length co26] rfl sg ?_; (with_reducible refine (shape_apart.calls k1 _ _ l0 _ _ t111 t114 _ ?side1 ?side2 ?side3 ?side4 A18.out).mono ?_); (case side1 => exact cs (Kd.V_reads' HO_0.out).2.2); (case side2 => exact (Kd.V_reads' HO_0.out).2.1); (case side3 => exact cs (Kd.R_reads' HO113.out).2.2); (case side4 => exact (Kd.R_reads' HO113.out).2.1); rintro e w27 ⟨rfl, hb⟩; refine ⟨_, rfl, ?_⟩; replace HO_0 := Aside0.mk (Kd.V_below (vo HO_0) hb); replace HO_1 := Aside0.mk (Kd.V_below (vo HO_1) hb); replace HO_13 := Aside0.mk (Kd.N_below (no HO_13) hb); replace HO109 := Aside0.mk (Kd.R_below (ro HO109) hb); replace HO113 := Aside0.mk (Kd.R_below (ro HO113) hb); replace BK101 := kb BK101 hb; replace HB := Aside0.mk (below_step bh hb); (try clear hb); (try clear hb2); (try clear hk); (try clear hi)))
     go_ret2
     exact ⟨by exact er, bh⟩
    ·replace c16 := Bool.eq_false_iff.mpr c16
     subst c16
     rw [if_neg (show ¬ (false = true) by decide)] at H
     simp only [Option.some.injEq, Prod.mk.injEq] at H
     obtain ⟨rfl, rfl⟩ := H
     obtain ⟨hcz28_0, hcz28_1, hfz28_0, hfz28_1⟩ := b2 BK101
     go_wp2_with (first | ((with_reducible refine gate_dst (N := 26) rfl ?_); refine Kd.R_lit k29 _ 29 ?hg (N := 26) ?hd (xs := ([(⟨a2_0, a2_1⟩ : S29)] : List (S29))) (inner := [.int .i64 a2_0, .int .i64 a2_1]) (ok := fun _ => True) (okp := fun _ => True) ?hr ?hp (fun _ hk => hk) trivial (Below.refl _ _) (Nat.le_refl _) (by simp) ?_; (case hd => rfl); (case hg => rfl); (case hr => first | (go_simp; done) | (go_simp; rfl)); (case hp => exact (Reps.c2 (show Kd.M k29 _ _ _ (⟨a2_0, a2_1⟩ : S29) [.int .i64 a2_0, .int .i64 a2_1] from (k29_mkM _ _ _ (⟨a2_0, a2_1⟩ : S29) )) (Reps.none _ _))); intro v108 w29 ho30 hb hg_ hnew_; clear hg_ hnew_; (first | rw [← Ny107.out] at ho30 | (simp only [Int.reduceToNat] at ho30; rw [← Ny107.out] at ho30)); have HO109 := Aside0.mk (Kd.R_lower (Kd.R_newB (Kd.R_newM (M := fun k_ => (w.heap.size ≤ k_)) ho30 (below_size bh) (fun k_ h_ => h_)) (g := gb101) (o := .cells #[.int .i64 a2_0, .int .i64 a2_1] 29 (0, 0)) (bk BK101)) (below_size bh)); replace HO_0 := Aside0.mk (Kd.V_elder' (vo HO_0) (Kd.R_base ho30) hb); replace HO_1 := Aside0.mk (Kd.V_elder' (vo HO_1) (Kd.R_base ho30) hb); replace HO_13 := Aside0.mk (Kd.N_elder' (no HO_13) (Kd.R_base ho30) hb); replace BK101 := kb BK101 hb; replace HB := Aside0.mk (below_step bh hb); clear hb ho30; obtain ⟨Ao31, co31, eo31⟩ := Kd.R_slice HO109.out; subst eo31) | ((with_reducible refine gc 48 rfl ?_); refine goesL_ (some 27) rfl rfl Try.func48 (by kernel_rfl) rfl #[.slice Ao31 y107.length co31, .int .i64 20000] rfl sg ?_; (with_reducible refine (shape_within.calls _ _ y107 20000 false _ ?side1 ?side2 A15.out).mono ?_); (case side1 => exact cs (Kd.R_reads' HO109.out).2.2); (case side2 => exact (Kd.R_reads' HO109.out).2.1); rintro e w32 ⟨rfl, hb⟩; refine ⟨_, rfl, ?_⟩; replace HO_0 := Aside0.mk (Kd.V_below (vo HO_0) hb); replace HO_1 := Aside0.mk (Kd.V_below (vo HO_1) hb); replace HO_13 := Aside0.mk (Kd.N_below (no HO_13) hb); replace HO109 := Aside0.mk (Kd.R_below (ro HO109) hb); replace BK101 := kb BK101 hb; replace HB := Aside0.mk (below_step bh hb); (try clear hb); (try clear hb2); (try clear hk); (try clear hi)))
     go_ret2
     exact ⟨by exact er, bh⟩
/-! ### shape_Sum_1: function 77 -/
def shape_Sum_1.f (l0 : List (S29)) (a1 : Int) : Option (Int × Int) := if (l0.length : Int) = 0 then (none) else (if 0 ≤ (Int.tmod (wrap64 (a1 + 1)) (l0.length : Int)) then (if (Int.tmod (wrap64 (a1 + 1)) (l0.length : Int)) < (l0.length : Int) then (if 0 ≤ a1 then (if a1 < (l0.length : Int) then ((shape_sub.f ((rd_T29 l0 (Int.tmod (wrap64 (a1 + 1)) (l0.length : Int))).f0) ((rd_T29 l0 (Int.tmod (wrap64 (a1 + 1)) (l0.length : Int))).f1) ((rd_T29 l0 a1).f0) ((rd_T29 l0 a1).f1)).bind fun bt104 => (some (bt104.1, bt104.2))) else (none)) else (none)) else (none)) else (none))
def shape_Sum_1.T1 : Bool × List (List Nat × List Nat) := (true, [([], []), ([], []), ([1], [1]), ([], []), ([3], [3]), ([2, 4], [2, 4]), ([0, 5], [0, 5]), ([6], [6]), ([], []), ([], []), ([8, 9], [8, 9]), ([10], [10]), ([7, 11], [7, 11]), ([12, 12, 0, 1, 2, 3, 4, 5, 6, 7, 8, 9, 10, 11, 12], [12])])
def shape_Sum_1.B1 : List Nat := [0, 0, 2, 0, 8, 30, 63, 127, 0, 0, 768, 1792, 4095, 8191]
theorem shape_Sum_1.tab1 : rtab .any (opsOf Try.f77 1) = shape_Sum_1.T1 := by kernel_rfl
theorem shape_Sum_1.bits1 : waitsOk shape_Sum_1.T1.2 shape_Sum_1.B1 = true := by kernel_rfl
set_option maxHeartbeats 8000000 in
set_option maxRecDepth 100000 in
theorem shape_Sum_1.calls (A0 : Option Addr) (c0 : Nat) (l0 : List (S29)) (a1 : Int) (r1 : Int) (r2 : Int) (w : World) (hr0 : Kd.C k29 w A0 l0.length l0) (hc0 : l0.length ≤ c0) (h : shape_Sum_1.f l0 a1 = some (r1, r2)) :
  Calls Try.prog 77 #[.slice A0 l0.length c0, .int .i64 a1] w fun e w' => e = .returned (.agg #[.int .i64 r1, .int .i64 r2]) ∧ Below w.heap.size w w' := by
 have hu29 := Try.underlying29
 have HR0 := Aside0.mk hr0
 have HC0 := Aside0.mk hc0
 clear hr0 hc0
 have HB := Aside0.mk (Below.refl w.heap.size w)
 have H : (if (l0.length : Int) = 0 then (none) else (if 0 ≤ (Int.tmod (wrap64 (a1 + 1)) (l0.length : Int)) then (if (Int.tmod (wrap64 (a1 + 1)) (l0.length : Int)) < (l0.length : Int) then (if 0 ≤ a1 then (if a1 < (l0.length : Int) then ((shape_sub.f ((rd_T29 l0 (Int.tmod (wrap64 (a1 + 1)) (l0.length : Int))).f0) ((rd_T29 l0 (Int.tmod (wrap64 (a1 + 1)) (l0.length : Int))).f1) ((rd_T29 l0 a1).f0) ((rd_T29 l0 a1).f1)).bind fun bt104 => (some (bt104.1, bt104.2))) else (none)) else (none)) else (none)) else (none))) = some (r1, r2) := h
 clear h
 by_cases c3 : (l0.length : Int) = 0
 ·rw [if_pos c3] at H
  exact absurd H (by simp)
 ·rw [if_neg c3] at H
  have c3b0 : ((l0.length : Int) == 0) = false := beq_eq_false_iff_ne.mpr c3
  have c3b1 : ((l0.length : Int) != 0) = true := bne_iff_ne.mpr c3
  have c3b2 : ¬ (l0 = []) := fun h_ => c3 (by rw [h_]; rfl)
  obtain ⟨ji4, hji4⟩ : ∃ j_ : Int, (Int.tmod (wrap64 (a1 + 1)) (l0.length : Int)) = j_ := ⟨_, rfl⟩
  replace H : (if 0 ≤ (ji4) then (if (ji4) < (l0.length : Int) then (if 0 ≤ a1 then (if a1 < (l0.length : Int) then ((shape_sub.f ((rd_T29 l0 (ji4)).f0) ((rd_T29 l0 (ji4)).f1) ((rd_T29 l0 a1).f0) ((rd_T29 l0 a1).f1)).bind fun bt104 => (some (bt104.1, bt104.2))) else (none)) else (none)) else (none)) else (none)) = some (r1, r2) := by first | (rw [hji4] at H; exact H) | (simp only [hji4] at H ⊢; exact H)
  by_cases c5 : 0 ≤ (ji4)
  ·rw [if_pos c5] at H
   have c5b0 := decide_eq_true c5
   clear c5
   by_cases c6 : (ji4) < (l0.length : Int)
   ·rw [if_pos c6] at H
    have c6b0 := decide_eq_true c6
    clear c6
    by_cases c7 : 0 ≤ a1
    ·rw [if_pos c7] at H
     have c7b0 := decide_eq_true c7
     clear c7
     by_cases c8 : a1 < (l0.length : Int)
     ·rw [if_pos c8] at H
      have c8b0 := decide_eq_true c8
      clear c8
      replace H := Option.bind_eq_some_iff.mp H
      obtain ⟨⟨t104, t105⟩, A90, H⟩ := H
      replace H : (some (t104, t105)) = some (r1, r2) := H
      have A9 := Aside0.mk A90
      clear A90
      simp only [Option.some.injEq, Prod.mk.injEq] at H
      obtain ⟨rfl, rfl⟩ := H
      go_enter Try.func77, Try.ntmps77
      try go_wp2_with (first | ((with_reducible refine gate_dst (N := 4) rfl ?_); refine bxe 4 #[.int .i64 0, .int .i64 0] 29 ?_; intro gb101 hg w10 hbox hb; have BK101 := Aside0.mk (hbox); have GW101 := Aside0.mk (gs hg : w.heap.size ≤ gb101); have GE101 := Aside0.mk (gs hg : w.heap.size ≤ gb101); replace HB := Aside0.mk (below_step bh hb); clear hb hbox hg))
      replace BK101 := Aside0.mk (blk_drew BK101.out)
      replace HB := Aside0.mk (below_drew1 HB.out)
      have p102 : 0 ≤ ((ji4) : Int) := dt
      have q102 : (ji4) < (l0.length : Int) := dt
      obtain ⟨ad102, e102, hx102_0, hx102_1⟩ := at_T29 HR0.out (ji4) p102 q102
      have hw102_1 := hx102_1
      have hw102_0 := hx102_0
      cases e102
      replace hx102_0 := hc HB hx102_0
      replace hx102_1 := hc HB hx102_1
      replace p102 := eq_true p102
      replace q102 := eq_true q102
      have p103 : 0 ≤ (a1 : Int) := dt
      have q103 : a1 < (l0.length : Int) := dt
      obtain ⟨ad103, e103, hx103_0, hx103_1⟩ := at_T29 HR0.out a1 p103 q103
      have hw103_1 := hx103_1
      have hw103_0 := hx103_0
      obtain rfl : ad102 = ad103 := (by injection e103)
      replace hx103_0 := hc HB hx103_0
      replace hx103_1 := hc HB hx103_1
      replace p103 := eq_true p103
      replace q103 := eq_true q103
      refine start_ (n := 14) (S := fun w' => w'.cell? (ad102.add (((ji4)).toNat * 2)) = some (.int .i64 ((rd_T29 l0 (ji4)).f0)) ∧ w'.cell? ⟨(ad102.add (((ji4)).toNat * 2)).block, (ad102.add (((ji4)).toNat * 2)).off + 1, none⟩ = some (.int .i64 ((rd_T29 l0 (ji4)).f1)) ∧ w'.cell? (ad102.add ((a1).toNat * 2)) = some (.int .i64 ((rd_T29 l0 a1).f0)) ∧ w'.cell? ⟨(ad102.add ((a1).toNat * 2)).block, (ad102.add ((a1).toNat * 2)).off + 1, none⟩ = some (.int .i64 ((rd_T29 l0 a1).f1))) (ds := []) #[false, false, false, false, false, false, false, false, false, false, false, false, false, false] (by kernel_rfl) rfl rfl ⟨(hc HB hw102_0), (hc HB hw102_1), (hc HB hw103_0), (hc HB hw103_1)⟩ (fun hHeld => ?_); refine with_tabW shape_Sum_1.tab1 shape_Sum_1.bits1 (fun HT_ HW_ => ?_)
      generalize w10.drew = w11 at BK101 HB hx102_0 hx102_1 hx103_0 hx103_1 hHeld ⊢
      refine pu 0 5 HT_ ?_
      refine pu 1 6 HT_ ?_
      refine pu 2 7 HT_ ?_
      refine pu 3 8 HT_ ?_
      refine pu 4 9 HT_ ?_
      refine pu 5 10 HT_ ?_
      refine pu 6 11 HT_ ?_
      refine pu 8 13 HT_ ?_
      refine pu 9 14 HT_ ?_
      refine pu 10 15 HT_ ?_
      refine tk4 7 12 hHeld HT_ HW_ ?_
      refine tk4 11 16 hHeld HT_ HW_ ?_
      refine one_ (i := 12) (N := some 17) #[true, true, true, true, true, true, true, true, true, true, true, true, true, false] rfl rfl (on1 HT_) (by decide) (fun K hK => ?_)
      refine goes_ Try.func70 (by kernel_rfl) rfl #[.agg #[.int .i64 ((rd_T29 l0 (ji4)).f0), .int .i64 ((rd_T29 l0 (ji4)).f1)], .agg #[.int .i64 ((rd_T29 l0 a1).f0), .int .i64 ((rd_T29 l0 a1).f1)]] (by rfl) rfl rfl (by (try simp only [List.map_toArray, List.map_cons, List.map_nil]); first | done | (simp only [hji4]; rfl) | rfl | (simp only [List.length_drop, List.length_take]; rfl)) ?_
      with_reducible refine (shape_sub.calls ((rd_T29 l0 (ji4)).f0) ((rd_T29 l0 (ji4)).f1) ((rd_T29 l0 a1).f0) ((rd_T29 l0 a1).f1) t104 t105 _ A9.out).mono ?_
      rintro e w12 ⟨rfl, hb⟩
      refine ⟨_, rfl, ?_⟩
      replace BK101 := kb BK101 hb
      replace HB := Aside0.mk (below_step bh hb)
      (try clear hb); (try clear hb2); (try clear hk); (try clear hi)
      refine hK.out _ _ ⟨(hc HB hw102_0), (hc HB hw102_1), (hc HB hw103_0), (hc HB hw103_1)⟩ (fun hHeld => ?_)
      clear hK K
      refine nm 17 ?_
      refine one_ (i := 13) (N := none) #[true, true, true, true, true, true, true, true, true, true, true, true, true, true] rfl rfl (on1 HT_) (by decide) (fun K hK => ?_)
      have hs13 : w12.cell? ⟨gb101, 0, none⟩ = some (.int .i64 0) := bc BK101 0
      have hfs13 := blk_frozen BK101.out 0
      have hs14 : w12.cell? ⟨gb101, 1, none⟩ = some (.int .i64 0) := bc BK101 1
      have hfs14 := blk_frozen BK101.out 1
      refine skip_ (w1 := ?_) (by rfl) rfl ?_ ?_
      rotate_left
      ·go_simp
       rfl
      refine hK.out _ _ ⟨((cell_far (p := ⟨gb101, _, none⟩) (fr hw102_0 GW101) _).trans (((cell_far (p := ⟨gb101, _, none⟩) (fr hw102_0 GW101) _).trans (hHeld.1)))), ((cell_far (p := ⟨gb101, _, none⟩) (fr hw102_1 GW101) _).trans (((cell_far (p := ⟨gb101, _, none⟩) (fr hw102_1 GW101) _).trans (hHeld.2.1)))), ((cell_far (p := ⟨gb101, _, none⟩) (fr hw103_0 GW101) _).trans (((cell_far (p := ⟨gb101, _, none⟩) (fr hw103_0 GW101) _).trans (hHeld.2.2.1)))), ((cell_far (p := ⟨gb101, _, none⟩) (fr hw103_1 GW101) _).trans (((cell_far (p := ⟨gb101, _, none⟩) (fr hw103_1 GW101) _).trans (hHeld.2.2.2))))⟩ (fun hHeld => ?_)
      clear hK K
      refine done_ (done_of HT_.out (by kernel_rfl)) ?_
      try go_wp2
      refine bodyPost_ret (results_cell_row rfl _ _ gb101 29 #[.int .i64 t104, .int .i64 t105] (0, 0) _ rfl (by (with_reducible repeat (first | refine blk_drewN ?_ _ | refine blk_drew ?_ | refine blk_alloc ?_ _)); refine blk_put (cs := #[.int .i64 t104, .int .i64 0]) ?_ 1 _ rfl; (with_reducible repeat (first | refine blk_drewN ?_ _ | refine blk_drew ?_ | refine blk_alloc ?_ _)); refine blk_put (cs := #[.int .i64 0, .int .i64 0]) ?_ 0 _ rfl; (with_reducible repeat (first | refine blk_drewN ?_ _ | refine blk_drew ?_ | refine blk_alloc ?_ _)); exact BK101.out) Try.underlying29 rfl (by kernel_rfl)) rfl ?_
      exact ⟨by first | rfl | (simp [errW_none, errW_some] <;> rfl) | (simp only [← hji4]; first | rfl | (simp [errW_none, errW_some] <;> rfl)) | (simp [*, errW_none, errW_some] <;> rfl), bh⟩
     ·rw [if_neg c8] at H
      exact absurd H (by simp)
    ·rw [if_neg c7] at H
     exact absurd H (by simp)
   ·rw [if_neg c6] at H
    exact absurd H (by simp)
  ·rw [if_neg c5] at H
   exact absurd H (by simp)
/-! ### shape_Sum: function 40 -/
mutual
def shape_Sum.l0 : Nat → List (S29) → List (S29) → List (List (S29)) → Int → Int → Option ((List (S29)) × Int)
 | 0, _, _, _, _, _ => none
 | k + 1, x0, x1, x17, x18, x19 => if x19 < x18 then (if 0 ≤ x19 then (if x19 < (x17.length : Int) then ((shape_refused_normal.f k (rd_L2 x17 x19)).bind fun t105 => (if t105 = 0 then (shape_Sum.l0 k x0 x1 x17 x18 (wrap64 (x19 + 1))) else (some (([] : List (S29)), t105)))) else (none)) else (none)) else (if 0 < (x0.length : Int) then (if 0 < (x1.length : Int) then ((shape_add.f ((rd_T29 x0 0).f0) ((rd_T29 x0 0).f1) ((rd_T29 x1 0).f0) ((rd_T29 x1 0).f1)).bind fun bt108 => (shape_Sum.l1 k x0 x1 (([(⟨bt108.1, bt108.2⟩ : S29)] : List (S29))) 0 0)) else (none)) else (none))
def shape_Sum.l1 : Nat → List (S29) → List (S29) → List (S29) → Int → Int → Option ((List (S29)) × Int)
 | 0, _, _, _, _, _ => none
 | k + 1, x0, x1, x10, x11, x12 => if x11 < (x0.length : Int) then (shape_Sum.j2 k x0 x1 x10 x11 x12 true) else (shape_Sum.j2 k x0 x1 x10 x11 x12 (decide (x12 < (x1.length : Int))))
def shape_Sum.j2 : Nat → List (S29) → List (S29) → List (S29) → Int → Int → Bool → Option ((List (S29)) × Int)
 | 0, _, _, _, _, _, _ => none
 | k + 1, x0, x1, x10, x11, x12, x46 => if x46 = true then (if x12 = (x1.length : Int) then (shape_Sum.j3 k x0 x1 x10 x11 x12 1) else (if x11 = (x0.length : Int) then (shape_Sum.j3 k x0 x1 x10 x11 x12 (-1)) else ((shape_Sum_1.f x0 x11).bind fun bt116 => ((shape_Sum_1.f x1 x12).bind fun bt118 => ((shape_cross.f bt116.1 bt116.2 bt118.1 bt118.2).bind fun t120 => (shape_Sum.j3 k x0 x1 x10 x11 x12 t120)))))) else (if 0 ≤ (wrap64 ((x10.length : Int) - 1)) then (if (wrap64 ((x10.length : Int) - 1)) ≤ (x10.length : Int) then (some ((x10.take ((wrap64 ((x10.length : Int) - 1)) : Int).toNat), 0)) else (none)) else (none))
def shape_Sum.j3 : Nat → List (S29) → List (S29) → List (S29) → Int → Int → Int → Option ((List (S29)) × Int)
 | 0, _, _, _, _, _, _ => none
 | k + 1, x0, x1, x10, x11, x12, x13 => if x13 ≥ 0 then ((shape_Sum_1.f x0 x11).bind fun bt122 => (shape_Sum.j4 k x0 x1 x10 (wrap64 (x11 + 1)) x12 x13 bt122.1 bt122.2)) else (shape_Sum.j4 k x0 x1 x10 x11 x12 x13 0 0)
def shape_Sum.j4 : Nat → List (S29) → List (S29) → List (S29) → Int → Int → Int → Int → Int → Option ((List (S29)) × Int)
 | 0, _, _, _, _, _, _, _, _ => none
 | k + 1, x0, x1, x10, x11, x12, x13, x122000, x122001 => if x13 ≤ 0 then ((shape_Sum_1.f x1 x12).bind fun bt124 => ((shape_add.f x122000 x122001 bt124.1 bt124.2).bind fun bt126 => (if 0 ≤ (wrap64 ((x10.length : Int) - 1)) then (if (wrap64 ((x10.length : Int) - 1)) < (x10.length : Int) then ((shape_add.f ((rd_T29 x10 (wrap64 ((x10.length : Int) - 1))).f0) ((rd_T29 x10 (wrap64 ((x10.length : Int) - 1))).f1) bt126.1 bt126.2).bind fun bt129 => (if x10.length < 8796093022208 then (shape_Sum.l1 k x0 x1 (x10 ++ [(⟨bt129.1, bt129.2⟩ : S29)]) x11 (wrap64 (x12 + 1))) else (none))) else (none)) else (none)))) else (if 0 ≤ (wrap64 ((x10.length : Int) - 1)) then (if (wrap64 ((x10.length : Int) - 1)) < (x10.length : Int) then ((shape_add.f ((rd_T29 x10 (wrap64 ((x10.length : Int) - 1))).f0) ((rd_T29 x10 (wrap64 ((x10.length : Int) - 1))).f1) x122000 x122001).bind fun bt135 => (if x10.length < 8796093022208 then (shape_Sum.l1 k x0 x1 (x10 ++ [(⟨bt135.1, bt135.2⟩ : S29)]) x11 x12) else (none))) else (none)) else (none))
end
def shape_Sum.f (k : Nat) (l0 : List (S29)) (l1 : List (S29)) : Option ((List (S29)) × Int) := (some (([l0, l1] : List (List (S29))) : List (List (S29)))).bind fun y101 => (shape_Sum.l0 k l0 l1 y101 (y101.length : Int) 0)
def shape_Sum.T9 : Bool × List (List Nat × List Nat) := (true, [([], []), ([0], [0]), ([1], [1]), ([], []), ([3], [3]), ([4], [4]), ([2, 5], [2, 5]), ([6], [6]), ([7, 6, 0, 1, 2, 3, 4, 5, 6, 7], [7])])
def shape_Sum.B9 : List Nat := [0, 1, 3, 0, 8, 24, 63, 127, 255]
theorem shape_Sum.tab9 : rtab .any (opsOf Try.f40 9) = shape_Sum.T9 := by kernel_rfl
theorem shape_Sum.bits9 : waitsOk shape_Sum.T9.2 shape_Sum.B9 = true := by kernel_rfl
def shape_Sum.T24 : Bool × List (List Nat × List Nat) := (true, [([], []), ([], []), ([], []), ([2], [2]), ([3], [3]), ([1, 4], [1, 4]), ([5], [5]), ([], []), ([6, 7], [6, 7]), ([8], [8]), ([0, 9, 8], [0, 9]), ([10, 10, 0, 1, 2, 3, 4, 5, 6, 7, 8, 9, 10], [0, 1, 2, 10])])
def shape_Sum.B24 : List Nat := [0, 0, 0, 4, 12, 30, 62, 0, 254, 510, 1023, 2047]
theorem shape_Sum.tab24 : rtab .any (opsOf Try.f40 24) = shape_Sum.T24 := by kernel_rfl
theorem shape_Sum.bits24 : waitsOk shape_Sum.T24.2 shape_Sum.B24 = true := by kernel_rfl
set_option maxHeartbeats 8000000 in
set_option maxRecDepth 100000 in
theorem shape_Sum.calls (k : Nat) (P0_ : Nat → Prop) (A0 : Option Addr) (c0 : Nat) (l0 : List (S29)) (P1_ : Nat → Prop) (A1 : Option Addr) (c1 : Nat) (l1 : List (S29)) (r1 : List (S29)) (r2 : Int) (w : World) (hs0 : Kd.V k29 29 w w.heap.size (fun k_ => P0_ k_) (.slice A0 l0.length c0) l0) (hs1 : Kd.V k29 29 w w.heap.size (fun k_ => P1_ k_) (.slice A1 l1.length c1) l1) (h : shape_Sum.f k l0 l1 = some (r1, r2)) :
  Calls Try.prog 40 #[.slice A0 l0.length c0, .slice A1 l1.length c1] w fun e w' => ∃ v0_ : Value, e = .returned (.tuple #[v0_, .int .i64 r2]) ∧ Kd.R k29 29 w' w.heap.size (fun k_ => (w.heap.size ≤ k_)) v0_ r1 ∧ Below w.heap.size w w' := by
 have hu29 := Try.underlying29
 have HO0 := Aside0.mk (show Kd.V k29 29 w w.heap.size (fun k_ => ((P0_ k_ ∨ P1_ k_) ∨ w.heap.size ≤ k_)) (.slice A0 l0.length c0) l0 from Kd.V_mono hs0 (fun k_ hk => .inl (.inl hk)))
 have HO1 := Aside0.mk (show Kd.V k29 29 w w.heap.size (fun k_ => ((P0_ k_ ∨ P1_ k_) ∨ w.heap.size ≤ k_)) (.slice A1 l1.length c1) l1 from Kd.V_mono hs1 (fun k_ hk => .inl (.inr hk)))
 have HB := Aside0.mk (Below.refl w.heap.size w)
 have H : ((some (([l0, l1] : List (List (S29))) : List (List (S29)))).bind fun y101 => (shape_Sum.l0 k l0 l1 y101 (y101.length : Int) 0)) = some (r1, r2) := h
 clear h
 obtain ⟨y101, hy101⟩ : ∃ y_ : List (List (S29)), y_ = (([l0, l1] : List (List (S29)))) := ⟨_, rfl⟩
 replace H : (shape_Sum.l0 k l0 l1 y101 (y101.length : Int) 0) = some (r1, r2) := by first | (rw [hy101]; with_reducible exact H) | (have H2_ := (Option.bind_some _ _).symm.trans H; rw [hy101]; with_reducible exact H2_) | (have H2_ := (Option.bind_some _ _).symm.trans H; with_reducible exact H2_) | with_reducible exact H | (rw [hy101]; exact H) | exact H
 have Ny101 := Aside0.mk hy101
 clear hy101
 have H' := Aside0.mk H
 clear H
 go_enter Try.func40, Try.ntmps40
 go_wp2_with (first | ((with_reducible refine gate_dst (N := 17) rfl ?_); (try (refine gate_guard (by rfl) ?_; dsimp only)); refine Kd.N_lit (Kd.slice 29 k29) _ 22 ?hg (N' := 17) ?hd (xs := ([l0, l1] : List (List (S29)))) (inner := [.slice A0 l0.length c0, .slice A1 l1.length c1]) (ok := (fun k_ => ((P0_ k_ ∨ P1_ k_) ∨ w.heap.size ≤ k_))) (okp := (fun k_ => ((P0_ k_ ∨ P1_ k_) ∨ w.heap.size ≤ k_))) ?hr ?hp (fun _ hk => hk) ((show ∀ k_, w.heap.size ≤ k_ → (fun k_ => ((P0_ k_ ∨ P1_ k_) ∨ w.heap.size ≤ k_)) k_ from fun k_ hk => (.inr (Nat.le_trans (below_size bh) hk))) _ (Nat.le_refl _)) (Below.refl _ _) (Nat.le_refl _) (by simp) ?_; (case hd => rfl); (case hg => rfl); (case hr => first | (go_simp; done) | (go_simp; rfl)); (case hp => exact (Reps.one (show Kd.FK (Kd.slice 29 k29) _ _ l0 [.slice A0 l0.length c0] from (Kd.FK_slice_mk (Kd.V_reads' (Kd.V_mono (ok' := (fun k_ => ((P0_ k_ ∨ P1_ k_) ∨ w.heap.size ≤ k_))) (HO0.out) (fun k_ hk => hk))).2.1 (Kd.V_F (Kd.V_mono (ok' := (fun k_ => ((P0_ k_ ∨ P1_ k_) ∨ w.heap.size ≤ k_))) (HO0.out) (fun k_ hk => hk))))) (Reps.one (show Kd.FK (Kd.slice 29 k29) _ _ l1 [.slice A1 l1.length c1] from (Kd.FK_slice_mk (Kd.V_reads' (Kd.V_mono (ok' := (fun k_ => ((P0_ k_ ∨ P1_ k_) ∨ w.heap.size ≤ k_))) (HO1.out) (fun k_ hk => hk))).2.1 (Kd.V_F (Kd.V_mono (ok' := (fun k_ => ((P0_ k_ ∨ P1_ k_) ∨ w.heap.size ≤ k_))) (HO1.out) (fun k_ hk => hk))))) (Reps.none _ _)))); intro v102 w3 ho4 hb hg_ hnew_; clear hg_ hnew_; (first | rw [← Ny101.out] at ho4 | (simp only [Int.reduceToNat] at ho4; rw [← Ny101.out] at ho4)); have HO103 := Aside0.mk (Kd.N_lower ho4 (below_size bh)); replace HO0 := Aside0.mk (Kd.V_elder' (vo HO0) (Kd.N_base ho4) hb); replace HO1 := Aside0.mk (Kd.V_elder' (vo HO1) (Kd.N_base ho4) hb); replace HB := Aside0.mk (below_step bh hb); clear hb ho4; obtain ⟨Ao5, co5, eo5⟩ := Kd.N_slice HO103.out; subst eo5))
 go_loopg [19] k (fun kq v19 w' => ∃ (x19_1 : Int), v19 = .int .i64 x19_1 ∧ Aside0 (shape_Sum.l0 kq l0 l1 y101 (y101.length : Int) x19_1 = some (r1, r2)) ∧ Aside0 (kq ≤ k) ∧ Aside0 (Kd.V k29 29 w' w.heap.size (fun k_ => ((P0_ k_ ∨ P1_ k_) ∨ w.heap.size ≤ k_) ∧ some k_ ≠ ((.slice Ao5 y101.length co5) : Value).ownBlock) (.slice A0 l0.length c0) l0) ∧ Aside0 (Kd.V k29 29 w' w.heap.size (fun k_ => ((P0_ k_ ∨ P1_ k_) ∨ w.heap.size ≤ k_) ∧ some k_ ≠ ((.slice Ao5 y101.length co5) : Value).ownBlock) (.slice A1 l1.length c1) l1) ∧ Aside0 (Kd.N (Kd.slice 29 k29) 22 w' w.heap.size (fun k_ => ((P0_ k_ ∨ P1_ k_) ∨ w.heap.size ≤ k_)) (.slice Ao5 y101.length co5) y101) ∧ Aside0 (Below w.heap.size w w'))
 case atStart => exact ⟨(0), sd, H', ⟨Nat.le_refl _⟩, ⟨by (with_reducible repeat (first | apply Kd.V_alloc | apply Kd.V_drewN | apply Kd.V_drew)); exact HO0.out⟩, ⟨by (with_reducible repeat (first | apply Kd.V_alloc | apply Kd.V_drewN | apply Kd.V_drew)); exact HO1.out⟩, ⟨by (with_reducible repeat (first | apply Kd.N_alloc | apply Kd.N_drewN | apply Kd.N_drew)); exact HO103.out⟩, ⟨bh⟩⟩
 case round =>
  clear H'
  (try clear c1); (try clear p2); (try clear c4)
  obtain ⟨x19_1, rfl, HA, HK1, HO_0, HO_1, HO_17, HB⟩ := hrel
  cases gk with
  | zero => exact absurd HA.out (by simp [shape_Sum.l0])
  | succ k1 =>
   have H := HA.out
   clear HA
   simp only [shape_Sum.l0] at H
   by_cases c6 : x19_1 < (y101.length : Int)
   ·rw [if_pos c6] at H
    have c6b0 := decide_eq_true c6
    clear c6
    by_cases c7 : 0 ≤ x19_1
    ·rw [if_pos c7] at H
     have c7b0 := decide_eq_true c7
     clear c7
     by_cases c8 : x19_1 < (y101.length : Int)
     ·rw [if_pos c8] at H
      have c8b0 := decide_eq_true c8
      clear c8
      replace H := Option.bind_eq_some_iff.mp H
      obtain ⟨t105, A90, H⟩ := H
      replace H : (if t105 = 0 then (shape_Sum.l0 k1 l0 l1 y101 (y101.length : Int) (wrap64 (x19_1 + 1))) else (some (([] : List (S29)), t105))) = some (r1, r2) := H
      have A9 := Aside0.mk A90
      clear A90
      by_cases c10 : t105 = 0
      ·rw [if_pos c10] at H
       have c10b0 : (t105 == 0) = true := beq_iff_eq.mpr c10
       have c10b1 : (t105 != 0) = false := bne_eq_false_iff_eq.mpr c10
       clear c10
       have H' := Aside0.mk H
       clear H
       have p104 : 0 ≤ (x19_1 : Int) := dt
       have q104 : x19_1 < (y101.length : Int) := dt
       obtain ⟨ad104, A104_0, c104_0, e104, hx104_0, hl104_0, hi104_0⟩ := at_L2 (Kd.N_reads' HO_17.out).2.2 x19_1 p104 q104
       cases e104
       obtain ⟨ce104, hce104, hMe104, hcc104⟩ := Kd.N_get HO_17.out [] x19_1 p104 (by first | exact q104 | exact dt | (have e_ := (Kd.N_reads' HO_17.out).1; omega))
       obtain ⟨ua104_0, uc104_0, rfl, ul104_0, ge104_0⟩ := Kd.FK_slice_open hMe104
       have hv104_0 := hcc104 0 _ rfl
       rw [Nat.add_zero, show ((Kd.slice 29 k29)).sz = 1 from rfl, Nat.mul_one] at hv104_0
       replace hv104_0 := Option.some.inj (hv104_0.symm.trans hx104_0)
       injection hv104_0 with hva_ hvn_ hvc_
       rw [hva_] at ge104_0
       rw [hvc_] at ul104_0
       have HL104_0 := Aside0.mk (show Kd.V k29 29 _ w.heap.size _ _ (rd_L2 y101 x19_1) from Kd.V_mk ul104_0 ge104_0)
       clear hva_ hvn_ hvc_ ge104_0 ul104_0
       clear hcc104 hce104
       have HR104_0 := Aside0.mk hi104_0
       have HC104_0 := Aside0.mk hl104_0
       clear hi104_0 hl104_0
       replace p104 := eq_true p104
       replace q104 := eq_true q104
       go_wp2_with (first | ((first | ((with_reducible refine gc 68 rfl ?_); refine goesL_ (some 24) rfl rfl Try.func68 (by kernel_rfl) rfl #[.slice A104_0 (rd_L2 y101 x19_1).length c104_0, .func (.func 72) #[] #[]] rfl sg ?_) | ((with_reducible refine gate_value 68 rfl rfl ?_); refine goesLV_ (some 24) rfl rfl Try.func68 (by kernel_rfl) rfl #[.slice A104_0 (rd_L2 y101 x19_1).length c104_0, .func (.func 72) #[] #[]] rfl sg rfl ?_)); (with_reducible refine (shape_refused_normal.calls k1 _ _ (rd_L2 y101 x19_1)  t105 _ ?side1 ?side2 A9.out).mono ?_); (case side1 => repeat (first | exact (by repeat (first | (with_reducible exact HR104_0.out) | (with_reducible refine Kd.C_alloc ?_ _) | (with_reducible refine Kd.C_drewN ?_ _) | (with_reducible refine Kd.C_drew ?_) | exact HR104_0.out)) | (with_reducible refine Kd.C_alloc ?_ _) | (with_reducible refine Kd.C_drewN ?_ _) | (with_reducible refine Kd.C_drew ?_))); (case side2 => exact HC104_0.out); rintro e w11 ⟨rfl, hb⟩; refine ⟨_, rfl, ?_⟩; replace HO_0 := Aside0.mk (Kd.V_below (vo HO_0) hb); replace HO_1 := Aside0.mk (Kd.V_below (vo HO_1) hb); replace HO_17 := Aside0.mk (Kd.N_below (no HO_17) hb); replace HL104_0 := Aside0.mk (Kd.V_below (by (with_reducible repeat (first | apply Kd.V_alloc | apply Kd.V_drewN | apply Kd.V_drew)); exact HL104_0.out) hb); replace HR104_0 := Aside0.mk (Kd.C_below (by repeat (first | (with_reducible exact HR104_0.out) | (with_reducible refine Kd.C_alloc ?_ _) | (with_reducible refine Kd.C_drewN ?_ _) | (with_reducible refine Kd.C_drew ?_) | exact HR104_0.out)) hb); replace HB := Aside0.mk (below_step bh hb); (try clear hb); (try clear hb2); (try clear hk); (try clear hi)))
       go_roundg k1
       case measure => have := HK1.out; omega
       case rel => exact ⟨(wrap64 (x19_1 + 1)), sd, H', ⟨by have := HK1.out; omega⟩, ⟨by (with_reducible repeat (first | apply Kd.V_alloc | apply Kd.V_drewN | apply Kd.V_drew)); exact HO_0.out⟩, ⟨by (with_reducible repeat (first | apply Kd.V_alloc | apply Kd.V_drewN | apply Kd.V_drew)); exact HO_1.out⟩, ⟨by (with_reducible repeat (first | apply Kd.N_alloc | apply Kd.N_drewN | apply Kd.N_drew)); exact HO_17.out⟩, ⟨bh⟩⟩
      ·rw [if_neg c10] at H
       have c10b0 : (t105 == 0) = false := beq_eq_false_iff_ne.mpr c10
       have c10b1 : (t105 != 0) = true := bne_iff_ne.mpr c10
       simp only [Option.some.injEq, Prod.mk.injEq] at H
       obtain ⟨rfl, rfl⟩ := H
       have p104 : 0 ≤ (x19_1 : Int) := dt
       have q104 : x19_1 < (y101.length : Int) := dt
       obtain ⟨ad104, A104_0, c104_0, e104, hx104_0, hl104_0, hi104_0⟩ := at_L2 (Kd.N_reads' HO_17.out).2.2 x19_1 p104 q104
       cases e104
       obtain ⟨ce104, hce104, hMe104, hcc104⟩ := Kd.N_get HO_17.out [] x19_1 p104 (by first | exact q104 | exact dt | (have e_ := (Kd.N_reads' HO_17.out).1; omega))
       obtain ⟨ua104_0, uc104_0, rfl, ul104_0, ge104_0⟩ := Kd.FK_slice_open hMe104
       have hv104_0 := hcc104 0 _ rfl
       rw [Nat.add_zero, show ((Kd.slice 29 k29)).sz = 1 from rfl, Nat.mul_one] at hv104_0
       replace hv104_0 := Option.some.inj (hv104_0.symm.trans hx104_0)
       injection hv104_0 with hva_ hvn_ hvc_
       rw [hva_] at ge104_0
       rw [hvc_] at ul104_0
       have HL104_0 := Aside0.mk (show Kd.V k29 29 _ w.heap.size _ _ (rd_L2 y101 x19_1) from Kd.V_mk ul104_0 ge104_0)
       clear hva_ hvn_ hvc_ ge104_0 ul104_0
       clear hcc104 hce104
       have HR104_0 := Aside0.mk hi104_0
       have HC104_0 := Aside0.mk hl104_0
       clear hi104_0 hl104_0
       replace p104 := eq_true p104
       replace q104 := eq_true q104
       go_wp2_with (first | ((first | ((with_reducible refine gc 68 rfl ?_); refine goesL_ (some 24) rfl rfl Try.func68 (by kernel_rfl) rfl #[.slice A104_0 (rd_L2 y101 x19_1).length c104_0, .func (.func 72) #[] #[]] rfl sg ?_) | ((with_reducible refine gate_value 68 rfl rfl ?_); refine goesLV_ (some 24) rfl rfl Try.func68 (by kernel_rfl) rfl #[.slice A104_0 (rd_L2 y101 x19_1).length c104_0, .func (.func 72) #[] #[]] rfl sg rfl ?_)); (with_reducible refine (shape_refused_normal.calls k1 _ _ (rd_L2 y101 x19_1)  t105 _ ?side1 ?side2 A9.out).mono ?_); (case side1 => repeat (first | exact (by repeat (first | (with_reducible exact HR104_0.out) | (with_reducible refine Kd.C_alloc ?_ _) | (with_reducible refine Kd.C_drewN ?_ _) | (with_reducible refine Kd.C_drew ?_) | exact HR104_0.out)) | (with_reducible refine Kd.C_alloc ?_ _) | (with_reducible refine Kd.C_drewN ?_ _) | (with_reducible refine Kd.C_drew ?_))); (case side2 => exact HC104_0.out); rintro e w12 ⟨rfl, hb⟩; refine ⟨_, rfl, ?_⟩; replace HO_0 := Aside0.mk (Kd.V_below (vo HO_0) hb); replace HO_1 := Aside0.mk (Kd.V_below (vo HO_1) hb); replace HO_17 := Aside0.mk (Kd.N_below (no HO_17) hb); replace HL104_0 := Aside0.mk (Kd.V_below (by (with_reducible repeat (first | apply Kd.V_alloc | apply Kd.V_drewN | apply Kd.V_drew)); exact HL104_0.out) hb); replace HR104_0 := Aside0.mk (Kd.C_below (by repeat (first | (with_reducible exact HR104_0.out) | (with_reducible refine Kd.C_alloc ?_ _) | (with_reducible refine Kd.C_drewN ?_ _) | (with_reducible refine Kd.C_drew ?_) | exact HR104_0.out)) hb); replace HB := Aside0.mk (below_step bh hb); (try clear hb); (try clear hb2); (try clear hk); (try clear hi)))
       go_ret2
       exact ⟨_, by exact er, by first | exact Kd.R_nil _ _ _ _ _ | exact Kd.N_nil _ _ _ _ _ | exact Kd.V_nil _ _ _ _ _ | exact Kd.Q_nil _ _ _ _ _ | exact Kd.S_nil _ _ _ _ _, bh⟩
     ·rw [if_neg c8] at H
      exact absurd H (by simp)
    ·rw [if_neg c7] at H
     exact absurd H (by simp)
   ·rw [if_neg c6] at H
    have c6b0 := decide_eq_false c6
    clear c6
    by_cases c13 : 0 < (l0.length : Int)
    ·rw [if_pos c13] at H
     have c13b0 := decide_eq_true c13
     have c13b1 : decide (0 < l0.length) = true := decide_eq_true (by omega)
     clear c13
     by_cases c14 : 0 < (l1.length : Int)
     ·rw [if_pos c14] at H
      have c14b0 := decide_eq_true c14
      have c14b1 : decide (0 < l1.length) = true := decide_eq_true (by omega)
      clear c14
      replace H := Option.bind_eq_some_iff.mp H
      obtain ⟨⟨t108, t109⟩, A150, H⟩ := H
      replace H : (shape_Sum.l1 k1 l0 l1 (([(⟨t108, t109⟩ : S29)] : List (S29))) 0 0) = some (r1, r2) := H
      have A15 := Aside0.mk A150
      clear A150
      obtain ⟨y110, hy110⟩ : ∃ y_ : List (S29), y_ = (([(⟨t108, t109⟩ : S29)] : List (S29))) := ⟨_, rfl⟩
      replace H : (shape_Sum.l1 k1 l0 l1 y110 0 0) = some (r1, r2) := by first | (rw [hy110]; with_reducible exact H) | (have H2_ := (Option.bind_some _ _).symm.trans H; rw [hy110]; with_reducible exact H2_) | (have H2_ := (Option.bind_some _ _).symm.trans H; with_reducible exact H2_) | with_reducible exact H | (rw [hy110]; exact H) | exact H
      have Ny110 := Aside0.mk hy110
      clear hy110
      have H' := Aside0.mk H
      clear H
      try go_wp2
      replace HO_0 := Aside0.mk (Kd.V_drew HO_0.out)
      replace HO_1 := Aside0.mk (Kd.V_drew HO_1.out)
      replace HO_17 := Aside0.mk (Kd.N_drew HO_17.out)
      replace HB := Aside0.mk (below_drew1 HB.out)
      have p106 : 0 ≤ (0 : Int) := (by omega)
      have q106 : 0 < (l0.length : Int) := dt
      obtain ⟨ad106, e106, hx106_0, hx106_1⟩ := at_T29 (Kd.V_reads' HO_0.out).2.2 0 p106 q106
      cases e106
      have qi106 : (0 < l0.length) = True := eq_true (by omega)
      (try rw [show ((0 : Int)).toNat = 0 from rfl] at hx106_0)
      (try rw [show 0 * 2 = 0 from rfl] at hx106_0)
      (try rw [Addr.add_zero'] at hx106_0)
      (try rw [show ((0 : Int)).toNat = 0 from rfl] at hx106_1)
      (try rw [show 0 * 2 = 0 from rfl] at hx106_1)
      (try rw [Addr.add_zero'] at hx106_1)
      replace p106 := eq_true p106
      replace q106 := eq_true q106
      have p107 : 0 ≤ (0 : Int) := (by omega)
      have q107 : 0 < (l1.length : Int) := dt
      obtain ⟨ad107, e107, hx107_0, hx107_1⟩ := at_T29 (Kd.V_reads' HO_1.out).2.2 0 p107 q107
      cases e107
      have qi107 : (0 < l1.length) = True := eq_true (by omega)
      (try rw [show ((0 : Int)).toNat = 0 from rfl] at hx107_0)
      (try rw [show 0 * 2 = 0 from rfl] at hx107_0)
      (try rw [Addr.add_zero'] at hx107_0)
      (try rw [show ((0 : Int)).toNat = 0 from rfl] at hx107_1)
      (try rw [show 0 * 2 = 0 from rfl] at hx107_1)
      (try rw [Addr.add_zero'] at hx107_1)
      replace p107 := eq_true p107
      replace q107 := eq_true q107
      refine start_ (n := 9) (S := fun w' => w'.cell? ad106 = some (.int .i64 ((rd_T29 l0 0).f0)) ∧ w'.cell? ⟨ad106.block, ad106.off + 1, none⟩ = some (.int .i64 ((rd_T29 l0 0).f1)) ∧ w'.cell? ad107 = some (.int .i64 ((rd_T29 l1 0).f0)) ∧ w'.cell? ⟨ad107.block, ad107.off + 1, none⟩ = some (.int .i64 ((rd_T29 l1 0).f1))) (ds := []) #[false, false, false, false, false, false, false, false, false] (by kernel_rfl) rfl rfl ⟨hx106_0, hx106_1, hx107_0, hx107_1⟩ (fun hHeld => ?_); refine with_tabW shape_Sum.tab9 shape_Sum.bits9 (fun HT_ HW_ => ?_)
      generalize wr.drew = w16 at HO_0 HO_1 HO_17 HB hx106_0 hx106_1 hx107_0 hx107_1 hHeld ⊢
      refine pu 0 29 HT_ ?_
      refine pu 1 30 HT_ ?_
      refine pu 3 32 HT_ ?_
      refine pu 4 33 HT_ ?_
      refine tk4 2 31 hHeld HT_ HW_ ?_
      refine tk4 5 34 hHeld HT_ HW_ ?_
      refine one_ (i := 6) (N := some 35) #[true, true, true, true, true, true, true, false, false] rfl rfl (on1 HT_) (by decide) (fun K hK => ?_)
      first | (refine goes_ Try.func78 (by kernel_rfl) rfl #[.agg #[.int .i64 ((rd_T29 l0 0).f0), .int .i64 ((rd_T29 l0 0).f1)], .agg #[.int .i64 ((rd_T29 l1 0).f0), .int .i64 ((rd_T29 l1 0).f1)]] (by rfl) rfl rfl sg ?_) | (refine goesV_ Try.func78 (by kernel_rfl) rfl #[.agg #[.int .i64 ((rd_T29 l0 0).f0), .int .i64 ((rd_T29 l0 0).f1)], .agg #[.int .i64 ((rd_T29 l1 0).f0), .int .i64 ((rd_T29 l1 0).f1)]] (by rfl) rfl rfl sg (by rfl) ?_)
      with_reducible refine (shape_add.calls ((rd_T29 l0 0).f0) ((rd_T29 l0 0).f1) ((rd_T29 l1 0).f0) ((rd_T29 l1 0).f1) t108 t109 _ A15.out).mono ?_
      rintro e w17 ⟨rfl, hb⟩
      have HS0_ := (hb.cell (World.block_lt_of_cell? _ _ (hHeld.1))).trans (hHeld.1)
      have HS1_ := (hb.cell (World.block_lt_of_cell? _ _ (hHeld.2.1))).trans (hHeld.2.1)
      have HS2_ := (hb.cell (World.block_lt_of_cell? _ _ (hHeld.2.2.1))).trans (hHeld.2.2.1)
      have HS3_ := (hb.cell (World.block_lt_of_cell? _ _ (hHeld.2.2.2))).trans (hHeld.2.2.2)
      refine ⟨_, rfl, ?_⟩
      replace HO_0 := Aside0.mk (Kd.V_below (vo HO_0) hb)
      replace HO_1 := Aside0.mk (Kd.V_below (vo HO_1) hb)
      replace HO_17 := Aside0.mk (Kd.N_below (no HO_17) hb)
      replace HB := Aside0.mk (below_step bh hb)
      (try clear hb); (try clear hb2); (try clear hk); (try clear hi)
      refine hK.out _ _ ⟨HS0_, HS1_, HS2_, HS3_⟩ (fun hHeld => ?_)
      clear hK K
      refine nm 35 ?_
      refine one_ (i := 7) (N := some 36) #[true, true, true, true, true, true, true, true, false] rfl rfl (on1 HT_) (by decide) (fun K hK => ?_)
      refine Kd.R_lit_step k29 _ 29 ?hg (N := 36) ?hd (xs := ([(⟨t108, t109⟩ : S29)] : List (S29))) (inner := [.int .i64 t108, .int .i64 t109]) (ok := fun _ => True) (okp := fun _ => True) ?hr ?hp (fun _ hk => hk) trivial (Below.refl _ _) (Nat.le_refl _) (by simp) ?_; (case hd => rfl); (case hg => rfl); (case hr => first | (go_simp; done) | (go_simp; rfl)); (case hp => exact (Reps.c2 (show Kd.M k29 _ _ _ (⟨t108, t109⟩ : S29) [.int .i64 t108, .int .i64 t109] from (k29_mkM _ _ _ (⟨t108, t109⟩ : S29) )) (Reps.none _ _)))
      intro v111 w18 ho19 hb hg_ hnew_
      have HS0_ := (hb.cell (World.block_lt_of_cell? _ _ (hHeld.1))).trans (hHeld.1)
      have HS1_ := (hb.cell (World.block_lt_of_cell? _ _ (hHeld.2.1))).trans (hHeld.2.1)
      have HS2_ := (hb.cell (World.block_lt_of_cell? _ _ (hHeld.2.2.1))).trans (hHeld.2.2.1)
      have HS3_ := (hb.cell (World.block_lt_of_cell? _ _ (hHeld.2.2.2))).trans (hHeld.2.2.2)
      clear hg_ hnew_
      (first | rw [← Ny110.out] at ho19 | (simp only [Int.reduceToNat] at ho19; rw [← Ny110.out] at ho19))
      have HO112 := Aside0.mk (Kd.R_lower (Kd.R_newM (M := fun k_ => (w.heap.size ≤ k_)) ho19 (below_size bh) (fun k_ h_ => h_)) (below_size bh))
      replace HO_0 := Aside0.mk (Kd.V_elder' (vo HO_0) (Kd.R_base ho19) hb)
      replace HO_1 := Aside0.mk (Kd.V_elder' (vo HO_1) (Kd.R_base ho19) hb)
      replace HO_17 := Aside0.mk (Kd.N_elder' (no HO_17) (Kd.R_base ho19) hb)
      replace HB := Aside0.mk (below_step bh hb)
      clear hb ho19
      refine hK.out _ _ ⟨HS0_, HS1_, HS2_, HS3_⟩ (fun hHeld => ?_)
      clear hK K
      refine nm 36 ?_
      refine pu 8 10 HT_ ?_
      refine done_ (done_of HT_.out (by kernel_rfl)) ?_
      try go_wp2
      go_loopg [10, 11, 12] k1 (fun kq v10 v11 v12 w' => ∃ (x10_2 : List (S29)) (x11_2 : Int) (x12_2 : Int), v11 = .int .i64 x11_2 ∧ v12 = .int .i64 x12_2 ∧ Aside0 (shape_Sum.l1 kq l0 l1 x10_2 x11_2 x12_2 = some (r1, r2)) ∧ Aside0 (kq ≤ k1) ∧ Aside0 (Kd.V k29 29 w' w.heap.size (fun k_ => ((P0_ k_ ∨ P1_ k_) ∨ w.heap.size ≤ k_) ∧ some k_ ≠ (v10 : Value).ownBlock) (.slice (some ad106) l0.length c0) l0) ∧ Aside0 (Kd.V k29 29 w' w.heap.size (fun k_ => ((P0_ k_ ∨ P1_ k_) ∨ w.heap.size ≤ k_) ∧ some k_ ≠ (v10 : Value).ownBlock) (.slice (some ad107) l1.length c1) l1) ∧ Aside0 (Kd.R k29 29 w' w.heap.size (fun k_ => (w.heap.size ≤ k_)) v10 x10_2) ∧ Aside0 (Below w.heap.size w w'))
      case atStart => exact ⟨(y110), (0), (0), sd, sd, H', ⟨Nat.le_refl _⟩, ⟨by (with_reducible repeat (first | apply Kd.V_alloc | apply Kd.V_drewN | apply Kd.V_drew)); exact Kd.V_mono HO_0.out (fun _ hk => ⟨hk.1.1, hk.2⟩)⟩, ⟨by (with_reducible repeat (first | apply Kd.V_alloc | apply Kd.V_drewN | apply Kd.V_drew)); exact Kd.V_mono HO_1.out (fun _ hk => ⟨hk.1.1, hk.2⟩)⟩, ⟨by (with_reducible repeat (first | apply Kd.R_alloc | apply Kd.R_drewN | apply Kd.R_drew)); exact Kd.R_mono HO112.out (fun _ hk => hk.1)⟩, ⟨bh⟩⟩
      case round =>
       clear H'
       (try clear c1); (try clear p1); (try clear q1); (try clear hx1); (try clear qi1); (try clear c2); (try clear p2); (try clear c4); (try clear c6); (try clear c6b0); (try clear p6); (try clear c7); (try clear c7b0); (try clear c8); (try clear c8b0); (try clear c10); (try clear c10b0); (try clear c10b1); (try clear p10); (try clear q10); (try clear hx10); (try clear qi10); (try clear c13); (try clear c13b0); (try clear c13b1); (try clear c14); (try clear c14b0); (try clear c14b1); (try clear hx104_0); (try clear hx106_0); (try clear hx106_1); (try clear hx107_0); (try clear hx107_1); (try clear p104); (try clear p106); (try clear p107); (try clear p2); (try clear q104); (try clear q106); (try clear q107)
       obtain ⟨x10_2, x11_2, x12_2, rfl, rfl, HA, HK2, HO_0, HO_1, HO_10, HB⟩ := hrel
       cases gk with
       | zero => exact absurd HA.out (by simp [shape_Sum.l1])
       | succ k2 =>
        have H := HA.out
        clear HA
        simp only [shape_Sum.l1] at H
        have HC20 := Aside0.mk H
        clear H
        go_upto_region 11 with (fail)
        go_cut [46] (fun v46 wc => ∃ (kq : Nat) (x46_19 : Bool), v46 = .bool x46_19 ∧ Aside0 (shape_Sum.j2 kq l0 l1 x10_2 x11_2 x12_2 x46_19 = some (r1, r2)) ∧ Aside0 (kq ≤ k2) ∧ Aside0 (Kd.V k29 29 wc w.heap.size (fun k_ => ((P0_ k_ ∨ P1_ k_) ∨ w.heap.size ≤ k_) ∧ some k_ ≠ (u10 : Value).ownBlock) (.slice (some ad106) l0.length c0) l0) ∧ Aside0 (Kd.V k29 29 wc w.heap.size (fun k_ => ((P0_ k_ ∨ P1_ k_) ∨ w.heap.size ≤ k_) ∧ some k_ ≠ (u10 : Value).ownBlock) (.slice (some ad107) l1.length c1) l1) ∧ Aside0 (Kd.R k29 29 wc w.heap.size (fun k_ => (w.heap.size ≤ k_)) u10 x10_2) ∧ Aside0 (Below w.heap.size w wc))
        case first =>
         have H := HC20.out
         clear HC20
         by_cases c21 : x11_2 < (l0.length : Int)
         ·rw [if_pos c21] at H
          have c21b0 := decide_eq_true c21
          clear c21
          (first | rw [c21b0] | (simp only [i64_w, i32_w]; rw [c21b0]) | skip)
          have H' := Aside0.mk H
          clear H
          go_wp2
          go_meet
          case rel => exact ⟨_, (true), sd, H', ⟨by have := HK1.out; have := HK2.out; first | omega | exact Nat.le_refl _⟩, ⟨by (with_reducible repeat (first | apply Kd.V_alloc | apply Kd.V_drewN | apply Kd.V_drew)); exact HO_0.out⟩, ⟨by (with_reducible repeat (first | apply Kd.V_alloc | apply Kd.V_drewN | apply Kd.V_drew)); exact HO_1.out⟩, ⟨by (with_reducible repeat (first | apply Kd.R_alloc | apply Kd.R_drewN | apply Kd.R_drew)); exact HO_10.out⟩, ⟨bh⟩⟩
         ·rw [if_neg c21] at H
          have c21b0 := decide_eq_false c21
          clear c21
          (first | rw [c21b0] | (simp only [i64_w, i32_w]; rw [c21b0]) | skip)
          have H' := Aside0.mk H
          clear H
          go_wp2
          go_meet
          case rel => exact ⟨_, (decide (x12_2 < (l1.length : Int))), sd, H', ⟨by have := HK1.out; have := HK2.out; first | omega | exact Nat.le_refl _⟩, ⟨by (with_reducible repeat (first | apply Kd.V_alloc | apply Kd.V_drewN | apply Kd.V_drew)); exact HO_0.out⟩, ⟨by (with_reducible repeat (first | apply Kd.V_alloc | apply Kd.V_drewN | apply Kd.V_drew)); exact HO_1.out⟩, ⟨by (with_reducible repeat (first | apply Kd.R_alloc | apply Kd.R_drewN | apply Kd.R_drew)); exact HO_10.out⟩, ⟨bh⟩⟩
        case rest =>
         clear HC20
         (try clear c1); (try clear p1); (try clear q1); (try clear hx1); (try clear qi1); (try clear c2); (try clear p2); (try clear c4); (try clear c6); (try clear c6b0); (try clear p6); (try clear c7); (try clear c7b0); (try clear c8); (try clear c8b0); (try clear c10); (try clear c10b0); (try clear c10b1); (try clear p10); (try clear q10); (try clear hx10); (try clear qi10); (try clear c13); (try clear c13b0); (try clear c13b1); (try clear c14); (try clear c14b0); (try clear c14b1); (try clear c20); (try clear c21); (try clear c21b0); (try clear hx104_0); (try clear hx106_0); (try clear hx106_1); (try clear hx107_0); (try clear hx107_1); (try clear p1); (try clear p10); (try clear p104); (try clear p106); (try clear p107); (try clear p2); (try clear p6); (try clear q1); (try clear q10); (try clear q104); (try clear q106); (try clear q107)
         obtain ⟨kq, x46_19, rfl, HA, HJ19, HO_0, HO_1, HO_10, HB⟩ := hcut
         cases kq with
         | zero => exact absurd HA.out (by simp [shape_Sum.j2])
         | succ kj19 =>
          have H := HA.out
          clear HA
          simp only [shape_Sum.j2] at H
          by_cases c22 : x46_19 = true
          ·subst c22
           rw [if_pos rfl] at H
           have HC23 := Aside0.mk H
           clear H
           go_upto_block 4 with (fail)
           go_cut [13] (fun v13 wc => ∃ (kq : Nat) (x13_22 : Int), v13 = .int .i64 x13_22 ∧ Aside0 (shape_Sum.j3 kq l0 l1 x10_2 x11_2 x12_2 x13_22 = some (r1, r2)) ∧ Aside0 (kq ≤ kj19) ∧ Aside0 (Kd.V k29 29 wc w.heap.size (fun k_ => ((P0_ k_ ∨ P1_ k_) ∨ w.heap.size ≤ k_) ∧ some k_ ≠ (u10 : Value).ownBlock) (.slice (some ad106) l0.length c0) l0) ∧ Aside0 (Kd.V k29 29 wc w.heap.size (fun k_ => ((P0_ k_ ∨ P1_ k_) ∨ w.heap.size ≤ k_) ∧ some k_ ≠ (u10 : Value).ownBlock) (.slice (some ad107) l1.length c1) l1) ∧ Aside0 (Kd.R k29 29 wc w.heap.size (fun k_ => (w.heap.size ≤ k_)) u10 x10_2) ∧ Aside0 (Below w.heap.size w wc))
           case first =>
            have H := HC23.out
            clear HC23
            by_cases c24 : x12_2 = (l1.length : Int)
            ·rw [if_pos c24] at H
             have c24b0 : (x12_2 == (l1.length : Int)) = true := beq_iff_eq.mpr c24
             have c24b1 : (x12_2 != (l1.length : Int)) = false := bne_eq_false_iff_eq.mpr c24
             clear c24
             (first | rw [c24b0] | (simp only [i64_w, i32_w]; rw [c24b0]) | skip)
             have H' := Aside0.mk H
             clear H
             go_wp2
             go_meet
             case rel => exact ⟨_, (1), sd, H', ⟨by have := HK1.out; have := HK2.out; have := HJ19.out; first | omega | exact Nat.le_refl _⟩, ⟨by (with_reducible repeat (first | apply Kd.V_alloc | apply Kd.V_drewN | apply Kd.V_drew)); exact HO_0.out⟩, ⟨by (with_reducible repeat (first | apply Kd.V_alloc | apply Kd.V_drewN | apply Kd.V_drew)); exact HO_1.out⟩, ⟨by (with_reducible repeat (first | apply Kd.R_alloc | apply Kd.R_drewN | apply Kd.R_drew)); exact HO_10.out⟩, ⟨bh⟩⟩
            ·rw [if_neg c24] at H
             have c24b0 : (x12_2 == (l1.length : Int)) = false := beq_eq_false_iff_ne.mpr c24
             have c24b1 : (x12_2 != (l1.length : Int)) = true := bne_iff_ne.mpr c24
             (first | rw [c24b0] | (simp only [i64_w, i32_w]; rw [c24b0]) | skip)
             by_cases c25 : x11_2 = (l0.length : Int)
             ·rw [if_pos c25] at H
              have c25b0 : (x11_2 == (l0.length : Int)) = true := beq_iff_eq.mpr c25
              have c25b1 : (x11_2 != (l0.length : Int)) = false := bne_eq_false_iff_eq.mpr c25
              clear c25
              have H' := Aside0.mk H
              clear H
              go_wp2
              go_meet
              case rel => exact ⟨_, ((-1)), sd, H', ⟨by have := HK1.out; have := HK2.out; have := HJ19.out; first | omega | exact Nat.le_refl _⟩, ⟨by (with_reducible repeat (first | apply Kd.V_alloc | apply Kd.V_drewN | apply Kd.V_drew)); exact HO_0.out⟩, ⟨by (with_reducible repeat (first | apply Kd.V_alloc | apply Kd.V_drewN | apply Kd.V_drew)); exact HO_1.out⟩, ⟨by (with_reducible repeat (first | apply Kd.R_alloc | apply Kd.R_drewN | apply Kd.R_drew)); exact HO_10.out⟩, ⟨bh⟩⟩
             ·rw [if_neg c25] at H
              have c25b0 : (x11_2 == (l0.length : Int)) = false := beq_eq_false_iff_ne.mpr c25
              have c25b1 : (x11_2 != (l0.length : Int)) = true := bne_iff_ne.mpr c25
              replace H := Option.bind_eq_some_iff.mp H
              obtain ⟨⟨t116, t117⟩, A260, H⟩ := H
              replace H : ((shape_Sum_1.f l1 x12_2).bind fun bt118 => ((shape_cross.f t116 t117 bt118.1 bt118.2).bind fun t120 => (shape_Sum.j3 kj19 l0 l1 x10_2 x11_2 x12_2 t120))) = some (r1, r2) := H
              have A26 := Aside0.mk A260
              clear A260
              replace H := Option.bind_eq_some_iff.mp H
              obtain ⟨⟨t118, t119⟩, A270, H⟩ := H
              replace H : ((shape_cross.f t116 t117 t118 t119).bind fun t120 => (shape_Sum.j3 kj19 l0 l1 x10_2 x11_2 x12_2 t120)) = some (r1, r2) := H
              have A27 := Aside0.mk A270
              clear A270
              replace H := Option.bind_eq_some_iff.mp H
              obtain ⟨t120, A280, H⟩ := H
              replace H : (shape_Sum.j3 kj19 l0 l1 x10_2 x11_2 x12_2 t120) = some (r1, r2) := H
              have A28 := Aside0.mk A280
              clear A280
              have H' := Aside0.mk H
              clear H
              go_wp2_with (first | ((first | ((with_reducible refine gc 77 rfl ?_); refine goesL_ (some 50) rfl rfl Try.func77 (by kernel_rfl) rfl #[.slice (some ad106) l0.length c0, .int .i64 x11_2] rfl sg ?_) | ((with_reducible refine gate_value 77 rfl rfl ?_); refine goesLV_ (some 50) rfl rfl Try.func77 (by kernel_rfl) rfl #[.slice (some ad106) l0.length c0, .int .i64 x11_2] rfl sg rfl ?_)); (with_reducible refine (shape_Sum_1.calls _ _ l0 x11_2 t116 t117 _ ?side1 ?side2 A26.out).mono ?_); (case side1 => exact cs (Kd.V_reads' HO_0.out).2.2); (case side2 => exact (Kd.V_reads' HO_0.out).2.1); rintro e w29 ⟨rfl, hb⟩; refine ⟨_, rfl, ?_⟩; replace HO_0 := Aside0.mk (Kd.V_below (vo HO_0) hb); replace HO_1 := Aside0.mk (Kd.V_below (vo HO_1) hb); replace HO_10 := Aside0.mk (Kd.R_below (ro HO_10) hb); replace HB := Aside0.mk (below_step bh hb); (try clear hb); (try clear hb2); (try clear hk); (try clear hi)) | ((first | ((with_reducible refine gc 77 rfl ?_); refine goesL_ (some 54) rfl rfl Try.func77 (by kernel_rfl) rfl #[.slice (some ad107) l1.length c1, .int .i64 x12_2] rfl sg ?_) | ((with_reducible refine gate_value 77 rfl rfl ?_); refine goesLV_ (some 54) rfl rfl Try.func77 (by kernel_rfl) rfl #[.slice (some ad107) l1.length c1, .int .i64 x12_2] rfl sg rfl ?_)); (with_reducible refine (shape_Sum_1.calls _ _ l1 x12_2 t118 t119 _ ?side1 ?side2 A27.out).mono ?_); (case side1 => exact cs (Kd.V_reads' HO_1.out).2.2); (case side2 => exact (Kd.V_reads' HO_1.out).2.1); rintro e w30 ⟨rfl, hb⟩; refine ⟨_, rfl, ?_⟩; replace HO_0 := Aside0.mk (Kd.V_below (vo HO_0) hb); replace HO_1 := Aside0.mk (Kd.V_below (vo HO_1) hb); replace HO_10 := Aside0.mk (Kd.R_below (ro HO_10) hb); replace HB := Aside0.mk (below_step bh hb); (try clear hb); (try clear hb2); (try clear hk); (try clear hi)) | ((first | ((with_reducible refine gc 79 rfl ?_); refine goesL_ (some 55) rfl rfl Try.func79 (by kernel_rfl) rfl #[.agg #[.int .i64 t116, .int .i64 t117], .agg #[.int .i64 t118, .int .i64 t119]] rfl sg ?_) | ((with_reducible refine gate_value 79 rfl rfl ?_); refine goesLV_ (some 55) rfl rfl Try.func79 (by kernel_rfl) rfl #[.agg #[.int .i64 t116, .int .i64 t117], .agg #[.int .i64 t118, .int .i64 t119]] rfl sg rfl ?_)); (with_reducible refine (shape_cross.calls t116 t117 t118 t119 t120 _ A28.out).mono ?_); rintro e w31 ⟨rfl, hb⟩; refine ⟨_, rfl, ?_⟩; replace HO_0 := Aside0.mk (Kd.V_below (vo HO_0) hb); replace HO_1 := Aside0.mk (Kd.V_below (vo HO_1) hb); replace HO_10 := Aside0.mk (Kd.R_below (ro HO_10) hb); replace HB := Aside0.mk (below_step bh hb); (try clear hb); (try clear hb2); (try clear hk); (try clear hi)))
              go_meet
              case rel => exact ⟨_, (t120), sd, H', ⟨by have := HK1.out; have := HK2.out; have := HJ19.out; first | omega | exact Nat.le_refl _⟩, ⟨by (with_reducible repeat (first | apply Kd.V_alloc | apply Kd.V_drewN | apply Kd.V_drew)); exact HO_0.out⟩, ⟨by (with_reducible repeat (first | apply Kd.V_alloc | apply Kd.V_drewN | apply Kd.V_drew)); exact HO_1.out⟩, ⟨by (with_reducible repeat (first | apply Kd.R_alloc | apply Kd.R_drewN | apply Kd.R_drew)); exact HO_10.out⟩, ⟨bh⟩⟩
           case rest =>
            clear HC23
            (try clear c1); (try clear p1); (try clear q1); (try clear hx1); (try clear qi1); (try clear c2); (try clear p2); (try clear c4); (try clear c6); (try clear c6b0); (try clear p6); (try clear c7); (try clear c7b0); (try clear c8); (try clear c8b0); (try clear c10); (try clear c10b0); (try clear c10b1); (try clear p10); (try clear q10); (try clear hx10); (try clear qi10); (try clear c13); (try clear c13b0); (try clear c13b1); (try clear c14); (try clear c14b0); (try clear c14b1); (try clear c20); (try clear c21); (try clear c21b0); (try clear c22); (try clear c24); (try clear c24b0); (try clear c24b1); (try clear c25); (try clear c25b0); (try clear c25b1); (try clear hx104_0); (try clear hx106_0); (try clear hx106_1); (try clear hx107_0); (try clear hx107_1); (try clear p1); (try clear p10); (try clear p104); (try clear p106); (try clear p107); (try clear p2); (try clear p6); (try clear q1); (try clear q10); (try clear q104); (try clear q106); (try clear q107)
            obtain ⟨kq, x13_22, rfl, HA, HJ22, HO_0, HO_1, HO_10, HB⟩ := hcut
            cases kq with
            | zero => exact absurd HA.out (by simp [shape_Sum.j3])
            | succ kj22 =>
             have H := HA.out
             clear HA
             simp only [shape_Sum.j3] at H
             have HC32 := Aside0.mk H
             clear H
             go_upto_if 67 with (first | ((with_reducible refine gate_dst (N := 14) rfl ?_); (try (refine gate_guard (by rfl) ?_; dsimp only)); refine bxe 14 #[.int .i64 0, .int .i64 0] 29 ?_; intro gb121 hg w33 hbox hb; have BK121 := Aside0.mk (hbox); have GW121 := Aside0.mk (gs hg : w.heap.size ≤ gb121); have GE121 := Aside0.mk (gs hg : w.heap.size ≤ gb121); replace HO_0 := Aside0.mk (Kd.V_below (Kd.V_elderB (vo HO_0) gb121 (Nat.le_of_eq hg.symm)) hb); replace HO_1 := Aside0.mk (Kd.V_below (Kd.V_elderB (vo HO_1) gb121 (Nat.le_of_eq hg.symm)) hb); replace HO_10 := Aside0.mk (Kd.R_below (Kd.R_elderB (ro HO_10) gb121 (Nat.le_of_eq hg.symm)) hb); replace HB := Aside0.mk (below_step bh hb); clear hb hbox hg))
             (try simp only [Act.put, List.setIfInBounds_toArray, List.set_cons_zero, List.set_cons_succ])
             go_cut [11] (fun v11 wc => ∃ (kq : Nat) (x11_31 : Int) (x122000_31 : Int) (x122001_31 : Int), v11 = .int .i64 x11_31 ∧ Aside0 (shape_Sum.j4 kq l0 l1 x10_2 x11_31 x12_2 x13_22 x122000_31 x122001_31 = some (r1, r2)) ∧ Aside0 (kq ≤ kj22) ∧ Aside0 (Kd.V k29 29 wc w.heap.size (fun k_ => ((P0_ k_ ∨ P1_ k_) ∨ w.heap.size ≤ k_) ∧ some k_ ≠ (u10 : Value).ownBlock ∧ k_ ≠ gb121) (.slice (some ad106) l0.length c0) l0) ∧ Aside0 (Kd.V k29 29 wc w.heap.size (fun k_ => ((P0_ k_ ∨ P1_ k_) ∨ w.heap.size ≤ k_) ∧ some k_ ≠ (u10 : Value).ownBlock ∧ k_ ≠ gb121) (.slice (some ad107) l1.length c1) l1) ∧ Aside0 (Kd.R k29 29 wc w.heap.size (fun k_ => (w.heap.size ≤ k_) ∧ k_ ≠ gb121) u10 x10_2) ∧ Aside0 (wc.heap[gb121]? = some (.cells #[.int .i64 x122000_31, .int .i64 x122001_31] 29 (0, 0))) ∧ Aside0 (Below w.heap.size w wc))
             case first =>
              have H := HC32.out
              clear HC32
              by_cases c34 : x13_22 ≥ 0
              ·rw [if_pos c34] at H
               have c34b0 := decide_eq_true c34
               clear c34
               (first | rw [c34b0] | (simp only [i64_w, i32_w]; rw [c34b0]) | skip)
               replace H := Option.bind_eq_some_iff.mp H
               obtain ⟨⟨t122, t123⟩, A350, H⟩ := H
               replace H : (shape_Sum.j4 kj22 l0 l1 x10_2 (wrap64 (x11_2 + 1)) x12_2 x13_22 t122 t123) = some (r1, r2) := H
               have A35 := Aside0.mk A350
               clear A350
               have H' := Aside0.mk H
               clear H
               go_wp2_with (first | ((first | ((with_reducible refine gc 77 rfl ?_); refine goesL_ (some 71) rfl rfl Try.func77 (by kernel_rfl) rfl #[.slice (some ad106) l0.length c0, .int .i64 x11_2] rfl sg ?_) | ((with_reducible refine gate_value 77 rfl rfl ?_); refine goesLV_ (some 71) rfl rfl Try.func77 (by kernel_rfl) rfl #[.slice (some ad106) l0.length c0, .int .i64 x11_2] rfl sg rfl ?_)); (with_reducible refine (shape_Sum_1.calls _ _ l0 x11_2 t122 t123 _ ?side1 ?side2 A35.out).mono ?_); (case side1 => exact cs (Kd.V_reads' HO_0.out).2.2); (case side2 => exact (Kd.V_reads' HO_0.out).2.1); rintro e w36 ⟨rfl, hb⟩; refine ⟨_, rfl, ?_⟩; replace HO_0 := Aside0.mk (Kd.V_below (vo HO_0) hb); replace HO_1 := Aside0.mk (Kd.V_below (vo HO_1) hb); replace HO_10 := Aside0.mk (Kd.R_below (ro HO_10) hb); replace BK121 := kb BK121 hb; replace HB := Aside0.mk (below_step bh hb); (try clear hb); (try clear hb2); (try clear hk); (try clear hi); have hcz37_0 : w36.cell? ⟨gb121, 0, none⟩ = some (.int .i64 0) := bc BK121 0; have hcz37_1 : w36.cell? ⟨gb121, 1, none⟩ = some (.int .i64 0) := bc BK121 1; have hfz37_0 := blk_frozen BK121.out 0; have hfz37_1 := blk_frozen BK121.out 1))
               go_meet
               case rel => exact ⟨_, (wrap64 (x11_2 + 1)), (t122), (t123), sd, H', ⟨by have := HK1.out; have := HK2.out; have := HJ19.out; have := HJ22.out; first | omega | exact Nat.le_refl _⟩, ⟨by (with_reducible repeat (first | apply Kd.V_alloc | apply Kd.V_drewN | apply Kd.V_drew)); exact Kd.V_mono (Kd.V_far (p := ⟨gb121, 1, none⟩) (Kd.V_far (p := ⟨gb121, 0, none⟩) (Kd.V_mono HO_0.out (fun k_ hk => (⟨hk, hk.2⟩ : _ ∧ k_ ≠ gb121))) (fun _ hk => hk.2) (.int .i64 t122)) (fun _ hk => hk.2) (.int .i64 t123)) (fun _ hk => ⟨hk.1.1.1, ⟨hk.1.1.2, hk.1.2⟩⟩)⟩, ⟨by (with_reducible repeat (first | apply Kd.V_alloc | apply Kd.V_drewN | apply Kd.V_drew)); exact Kd.V_mono (Kd.V_far (p := ⟨gb121, 1, none⟩) (Kd.V_far (p := ⟨gb121, 0, none⟩) (Kd.V_mono HO_1.out (fun k_ hk => (⟨hk, hk.2⟩ : _ ∧ k_ ≠ gb121))) (fun _ hk => hk.2) (.int .i64 t122)) (fun _ hk => hk.2) (.int .i64 t123)) (fun _ hk => ⟨hk.1.1.1, ⟨hk.1.1.2, hk.1.2⟩⟩)⟩, ⟨by (with_reducible repeat (first | apply Kd.R_alloc | apply Kd.R_drewN | apply Kd.R_drew)); exact Kd.R_mono (Kd.R_far (p := ⟨gb121, 1, none⟩) (Kd.R_far (p := ⟨gb121, 0, none⟩) (Kd.R_mono HO_10.out (fun k_ hk => (⟨hk, hk.2⟩ : _ ∧ k_ ≠ gb121))) (fun _ hk => hk.2) (.int .i64 t122)) (fun _ hk => hk.2) (.int .i64 t123)) (fun _ hk => ⟨hk.1.1, hk.1.2⟩)⟩, ⟨by (with_reducible repeat (first | refine blk_drewN ?_ _ | refine blk_drew ?_ | refine blk_alloc ?_ _)); refine blk_put (cs := #[.int .i64 t122, .int .i64 0]) ?_ 1 _ rfl; (with_reducible repeat (first | refine blk_drewN ?_ _ | refine blk_drew ?_ | refine blk_alloc ?_ _)); refine blk_put (cs := #[.int .i64 0, .int .i64 0]) ?_ 0 _ rfl; (with_reducible repeat (first | refine blk_drewN ?_ _ | refine blk_drew ?_ | refine blk_alloc ?_ _)); exact BK121.out⟩, ⟨bh⟩⟩
              ·rw [if_neg c34] at H
               have c34b0 := decide_eq_false c34
               clear c34
               (first | rw [c34b0] | (simp only [i64_w, i32_w]; rw [c34b0]) | skip)
               have H' := Aside0.mk H
               clear H
               go_wp2
               go_meet
               case rel => exact ⟨_, (x11_2), (0), (0), sd, H', ⟨by have := HK1.out; have := HK2.out; have := HJ19.out; have := HJ22.out; first | omega | exact Nat.le_refl _⟩, ⟨by (with_reducible repeat (first | apply Kd.V_alloc | apply Kd.V_drewN | apply Kd.V_drew)); exact Kd.V_mono HO_0.out (fun _ hk => ⟨hk.1.1, ⟨hk.1.2, hk.2⟩⟩)⟩, ⟨by (with_reducible repeat (first | apply Kd.V_alloc | apply Kd.V_drewN | apply Kd.V_drew)); exact Kd.V_mono HO_1.out (fun _ hk => ⟨hk.1.1, ⟨hk.1.2, hk.2⟩⟩)⟩, ⟨by (with_reducible repeat (first | apply Kd.R_alloc | apply Kd.R_drewN | apply Kd.R_drew)); exact HO_10.out⟩, ⟨bk BK121⟩, ⟨bh⟩⟩
             case rest =>
              clear HC32
              (try clear c1); (try clear p1); (try clear q1); (try clear hx1); (try clear qi1); (try clear c2); (try clear p2); (try clear c3); (try clear c4); (try clear c6); (try clear c6b0); (try clear p6); (try clear c7); (try clear c7b0); (try clear c8); (try clear c8b0); (try clear c10); (try clear c10b0); (try clear c10b1); (try clear p10); (try clear q10); (try clear hx10); (try clear qi10); (try clear c13); (try clear c13b0); (try clear c13b1); (try clear c14); (try clear c14b0); (try clear c14b1); (try clear c20); (try clear c21); (try clear c21b0); (try clear c22); (try clear c24); (try clear c24b0); (try clear c24b1); (try clear c25); (try clear c25b0); (try clear c25b1); (try clear c34); (try clear c34b0); (try clear hcz37_0); (try clear hcz37_1); (try clear hfz37_0); (try clear hfz37_1); (try clear hx104_0); (try clear hx106_0); (try clear hx106_1); (try clear hx107_0); (try clear hx107_1); (try clear p1); (try clear p10); (try clear p104); (try clear p106); (try clear p107); (try clear p2); (try clear p6); (try clear q1); (try clear q10); (try clear q104); (try clear q106); (try clear q107)
              obtain ⟨kq, x11_31, x122000_31, x122001_31, rfl, HA, HJ31, HO_0, HO_1, HO_10, BK121, HB⟩ := hcut
              cases kq with
              | zero => exact absurd HA.out (by simp [shape_Sum.j4])
              | succ kj31 =>
               have H := HA.out
               clear HA
               simp only [shape_Sum.j4] at H
               by_cases c38 : x13_22 ≤ 0
               ·rw [if_pos c38] at H
                have c38b0 := decide_eq_true c38
                clear c38
                replace H := Option.bind_eq_some_iff.mp H
                obtain ⟨⟨t124, t125⟩, A390, H⟩ := H
                replace H : ((shape_add.f x122000_31 x122001_31 t124 t125).bind fun bt126 => (if 0 ≤ (wrap64 ((x10_2.length : Int) - 1)) then (if (wrap64 ((x10_2.length : Int) - 1)) < (x10_2.length : Int) then ((shape_add.f ((rd_T29 x10_2 (wrap64 ((x10_2.length : Int) - 1))).f0) ((rd_T29 x10_2 (wrap64 ((x10_2.length : Int) - 1))).f1) bt126.1 bt126.2).bind fun bt129 => (if x10_2.length < 8796093022208 then (shape_Sum.l1 kj31 l0 l1 (x10_2 ++ [(⟨bt129.1, bt129.2⟩ : S29)]) x11_31 (wrap64 (x12_2 + 1))) else (none))) else (none)) else (none))) = some (r1, r2) := H
                have A39 := Aside0.mk A390
                clear A390
                replace H := Option.bind_eq_some_iff.mp H
                obtain ⟨⟨t126, t127⟩, A400, H⟩ := H
                replace H : (if 0 ≤ (wrap64 ((x10_2.length : Int) - 1)) then (if (wrap64 ((x10_2.length : Int) - 1)) < (x10_2.length : Int) then ((shape_add.f ((rd_T29 x10_2 (wrap64 ((x10_2.length : Int) - 1))).f0) ((rd_T29 x10_2 (wrap64 ((x10_2.length : Int) - 1))).f1) t126 t127).bind fun bt129 => (if x10_2.length < 8796093022208 then (shape_Sum.l1 kj31 l0 l1 (x10_2 ++ [(⟨bt129.1, bt129.2⟩ : S29)]) x11_31 (wrap64 (x12_2 + 1))) else (none))) else (none)) else (none)) = some (r1, r2) := H
                have A40 := Aside0.mk A400
                clear A400
                obtain ⟨ji41, hji41⟩ : ∃ j_ : Int, (wrap64 ((x10_2.length : Int) - 1)) = j_ := ⟨_, rfl⟩
                replace H : (if 0 ≤ (ji41) then (if (ji41) < (x10_2.length : Int) then ((shape_add.f ((rd_T29 x10_2 (ji41)).f0) ((rd_T29 x10_2 (ji41)).f1) t126 t127).bind fun bt129 => (if x10_2.length < 8796093022208 then (shape_Sum.l1 kj31 l0 l1 (x10_2 ++ [(⟨bt129.1, bt129.2⟩ : S29)]) x11_31 (wrap64 (x12_2 + 1))) else (none))) else (none)) else (none)) = some (r1, r2) := by first | (rw [hji41] at H; exact H) | (simp only [hji41] at H ⊢; exact H)
                (try rw [hji41] at A39)
                (try rw [hji41] at A40)
                have hji41w : (IntKind.i64.wrap ((x10_2.length : Int) - 1)) = ji41 := (i64_w _).trans hji41
                by_cases c42 : 0 ≤ (ji41)
                ·rw [if_pos c42] at H
                 have c42b0 := decide_eq_true c42
                 clear c42
                 by_cases c43 : (ji41) < (x10_2.length : Int)
                 ·rw [if_pos c43] at H
                  have c43b0 := decide_eq_true c43
                  clear c43
                  replace H := Option.bind_eq_some_iff.mp H
                  obtain ⟨⟨t129, t130⟩, A440, H⟩ := H
                  replace H : (if x10_2.length < 8796093022208 then (shape_Sum.l1 kj31 l0 l1 (x10_2 ++ [(⟨t129, t130⟩ : S29)]) x11_31 (wrap64 (x12_2 + 1))) else (none)) = some (r1, r2) := H
                  have A44 := Aside0.mk A440
                  clear A440
                  by_cases c45 : x10_2.length < 8796093022208
                  ·rw [if_pos c45] at H
                   have LMc45 := Aside0.mk c45
                   clear c45
                   obtain ⟨y131, hy131⟩ : ∃ y_ : List (S29), y_ = (x10_2 ++ [(⟨t129, t130⟩ : S29)]) := ⟨_, rfl⟩
                   replace H : (shape_Sum.l1 kj31 l0 l1 y131 x11_31 (wrap64 (x12_2 + 1))) = some (r1, r2) := by first | (rw [hy131]; with_reducible exact H) | (have H2_ := (Option.bind_some _ _).symm.trans H; rw [hy131]; with_reducible exact H2_) | (have H2_ := (Option.bind_some _ _).symm.trans H; with_reducible exact H2_) | with_reducible exact H | (rw [hy131]; exact H) | exact H
                   have Ny131 := Aside0.mk hy131
                   clear hy131
                   have H' := Aside0.mk H
                   clear H
                   try go_wp2
                   replace HO_0 := Aside0.mk (Kd.V_drew HO_0.out)
                   replace HO_1 := Aside0.mk (Kd.V_drew HO_1.out)
                   replace HO_10 := Aside0.mk (Kd.R_drew HO_10.out)
                   replace BK121 := Aside0.mk (blk_drew BK121.out)
                   replace HB := Aside0.mk (below_drew1 HB.out)
                   refine start_ (n := 7) (S := fun w' => w'.cell? ⟨gb121, 0, none⟩ = some (.int .i64 x122000_31) ∧ w'.cell? ⟨gb121, 1, none⟩ = some (.int .i64 x122001_31)) (ds := [6]) #[false, false, false, false, false, false, false] (by kernel_rfl) rfl rfl ⟨bc BK121 0, bc BK121 1⟩ (fun hHeld => ?_)
                   generalize wc.drew = w46 at HO_0 HO_1 HO_10 BK121 HB hHeld ⊢
                   refine pure_ (i := 1) (N := some 77) (v := ?_) (a' := ?_) #[false, true, false, false, false, false, false] rfl rfl (by kernel_rfl) (fun _ _ _ h => h) (Or.inl ⟨by rfl, ?_⟩) ?_ ?_
                   rotate_left
                   ·intro w'
                    go_simp
                    with_reducible rfl
                   rotate_left
                   ·simp only [Act.put, List.setIfInBounds_toArray, List.set_cons_zero, List.set_cons_succ, i64_w, i32_w]
                    rfl
                   refine pure_ (i := 2) (N := some 78) (v := ?_) (a' := ?_) #[false, true, true, false, false, false, false] rfl rfl (by kernel_rfl) (fun _ _ _ h => h) (Or.inl ⟨by rfl, ?_⟩) ?_ ?_
                   rotate_left
                   ·intro w'
                    go_simp
                    with_reducible rfl
                   rotate_left
                   ·simp only [Act.put, List.setIfInBounds_toArray, List.set_cons_zero, List.set_cons_succ, i64_w, i32_w]
                    rfl
                   refine pure_ (i := 3) (N := some 79) (v := ?_) (a' := ?_) #[false, true, true, true, false, false, false] rfl rfl (by kernel_rfl) (fun _ _ _ h => h) (Or.inl ⟨by rfl, ?_⟩) ?_ ?_
                   rotate_left
                   ·intro w'
                    go_simp
                    with_reducible rfl
                   rotate_left
                   ·simp only [Act.put, List.setIfInBounds_toArray, List.set_cons_zero, List.set_cons_succ, i64_w, i32_w]
                    rfl
                   refine take_ (i := 0) (N := some 76) (v := ?_) (a' := ?_) #[true, true, true, true, false, false, false] rfl rfl (by kernel_rfl) (fun _ _ _ h => h) (Or.inl ⟨by rfl, ?_⟩) hHeld ?_ ?_
                   rotate_left
                   ·rintro w' ⟨s0, s1⟩
                    go_simp
                    with_reducible rfl
                   rotate_left
                   ·simp only [Act.put, List.setIfInBounds_toArray, List.set_cons_zero, List.set_cons_succ, i64_w, i32_w]
                    rfl
                   refine one_ (i := 4) (N := some 80) #[true, true, true, true, true, false, false] rfl rfl (by kernel_rfl) (by decide) (fun K hK => ?_)
                   first | (refine goes_ Try.func77 (by kernel_rfl) rfl #[.slice (some ad107) l1.length c1, .int .i64 x12_2] (by rfl) rfl rfl sg ?_) | (refine goesV_ Try.func77 (by kernel_rfl) rfl #[.slice (some ad107) l1.length c1, .int .i64 x12_2] (by rfl) rfl rfl sg (by rfl) ?_)
                   with_reducible refine (shape_Sum_1.calls _ _ l1 x12_2 t124 t125 _ ?side1 ?side2 A39.out).mono ?_
                   (case side1 => exact cs (Kd.V_reads' HO_1.out).2.2)
                   (case side2 => exact (Kd.V_reads' HO_1.out).2.1)
                   rintro e w47 ⟨rfl, hb⟩
                   refine ⟨_, rfl, ?_⟩
                   replace HO_0 := Aside0.mk (Kd.V_below (vo HO_0) hb)
                   replace HO_1 := Aside0.mk (Kd.V_below (vo HO_1) hb)
                   replace HO_10 := Aside0.mk (Kd.R_below (ro HO_10) hb)
                   replace BK121 := kb BK121 hb
                   replace HB := Aside0.mk (below_step bh hb)
                   (try clear hb); (try clear hb2); (try clear hk); (try clear hi)
                   refine hK.out _ _ ⟨bc BK121 0, bc BK121 1⟩ (fun hHeld => ?_)
                   clear hK K
                   refine nm 80 ?_
                   refine one_ (i := 5) (N := some 81) #[true, true, true, true, true, true, false] rfl rfl (by kernel_rfl) (by decide) (fun K hK => ?_)
                   first | (refine goes_ Try.func78 (by kernel_rfl) rfl #[.agg #[.int .i64 x122000_31, .int .i64 x122001_31], .agg #[.int .i64 t124, .int .i64 t125]] (by rfl) rfl rfl sg ?_) | (refine goesV_ Try.func78 (by kernel_rfl) rfl #[.agg #[.int .i64 x122000_31, .int .i64 x122001_31], .agg #[.int .i64 t124, .int .i64 t125]] (by rfl) rfl rfl sg (by rfl) ?_)
                   with_reducible refine (shape_add.calls x122000_31 x122001_31 t124 t125 t126 t127 _ A40.out).mono ?_
                   rintro e w48 ⟨rfl, hb⟩
                   refine ⟨_, rfl, ?_⟩
                   replace HO_0 := Aside0.mk (Kd.V_below (vo HO_0) hb)
                   replace HO_1 := Aside0.mk (Kd.V_below (vo HO_1) hb)
                   replace HO_10 := Aside0.mk (Kd.R_below (ro HO_10) hb)
                   replace BK121 := kb BK121 hb
                   replace HB := Aside0.mk (below_step bh hb)
                   (try clear hb); (try clear hb2); (try clear hk); (try clear hi)
                   refine hK.out _ _ ⟨bc BK121 0, bc BK121 1⟩ (fun hHeld => ?_)
                   clear hK K
                   refine nm 81 ?_
                   refine last_ (i := 6) (N := none) #[true, true, true, true, true, true, true] rfl rfl (by kernel_rfl) (by decide) (fun K hK => ?_)
                   have hs49 : w48.cell? ⟨gb121, 0, none⟩ = some (.int .i64 x122000_31) := bc BK121 0
                   have hfs49 := blk_frozen BK121.out 0
                   have hs50 : w48.cell? ⟨gb121, 1, none⟩ = some (.int .i64 x122001_31) := bc BK121 1
                   have hfs50 := blk_frozen BK121.out 1
                   refine skip_ (w1 := ?_) (by rfl) rfl ?_ ?_
                   rotate_left
                   ·go_simp
                    rfl
                   refine hK.out _ _ ?_
                   clear hK K
                   refine done_ (by kernel_rfl) ?_
                   try go_wp2
                   have n0_ : Aside0 (Kd.V k29 29 ((w48.setCell ⟨gb121, 0, none⟩ (.int .i64 t126)).setCell ⟨gb121, 1, none⟩ (.int .i64 t127)) w.heap.size (fun k_ => ((P0_ k_ ∨ P1_ k_) ∨ w.heap.size ≤ k_) ∧ some k_ ≠ (u10 : Value).ownBlock ∧ k_ ≠ gb121) (.slice (some ad106) l0.length c0) l0) := ⟨by (with_reducible repeat (first | apply Kd.V_alloc | apply Kd.V_drewN | apply Kd.V_drew)); exact Kd.V_mono (Kd.V_far (p := ⟨gb121, 1, none⟩) (Kd.V_far (p := ⟨gb121, 0, none⟩) (Kd.V_mono HO_0.out (fun k_ hk => (⟨hk, hk.2.2⟩ : _ ∧ k_ ≠ gb121))) (fun _ hk => hk.2) (.int .i64 t126)) (fun _ hk => hk.2) (.int .i64 t127)) (fun _ hk => ⟨hk.1.1, ⟨hk.1.2.1, hk.1.2.2⟩⟩)⟩
                   have n1_ : Aside0 (Kd.V k29 29 ((w48.setCell ⟨gb121, 0, none⟩ (.int .i64 t126)).setCell ⟨gb121, 1, none⟩ (.int .i64 t127)) w.heap.size (fun k_ => ((P0_ k_ ∨ P1_ k_) ∨ w.heap.size ≤ k_) ∧ some k_ ≠ (u10 : Value).ownBlock ∧ k_ ≠ gb121) (.slice (some ad107) l1.length c1) l1) := ⟨by (with_reducible repeat (first | apply Kd.V_alloc | apply Kd.V_drewN | apply Kd.V_drew)); exact Kd.V_mono (Kd.V_far (p := ⟨gb121, 1, none⟩) (Kd.V_far (p := ⟨gb121, 0, none⟩) (Kd.V_mono HO_1.out (fun k_ hk => (⟨hk, hk.2.2⟩ : _ ∧ k_ ≠ gb121))) (fun _ hk => hk.2) (.int .i64 t126)) (fun _ hk => hk.2) (.int .i64 t127)) (fun _ hk => ⟨hk.1.1, ⟨hk.1.2.1, hk.1.2.2⟩⟩)⟩
                   have n2_ : Aside0 (Kd.R k29 29 ((w48.setCell ⟨gb121, 0, none⟩ (.int .i64 t126)).setCell ⟨gb121, 1, none⟩ (.int .i64 t127)) w.heap.size (fun k_ => (w.heap.size ≤ k_) ∧ k_ ≠ gb121) u10 x10_2) := ⟨by (with_reducible repeat (first | apply Kd.R_alloc | apply Kd.R_drewN | apply Kd.R_drew)); exact Kd.R_mono (Kd.R_far (p := ⟨gb121, 1, none⟩) (Kd.R_far (p := ⟨gb121, 0, none⟩) (Kd.R_mono HO_10.out (fun k_ hk => (⟨hk, hk.2⟩ : _ ∧ k_ ≠ gb121))) (fun _ hk => hk.2) (.int .i64 t126)) (fun _ hk => hk.2) (.int .i64 t127)) (fun _ hk => ⟨hk.1.1, hk.1.2⟩)⟩
                   have n3_ : Aside0 (((w48.setCell ⟨gb121, 0, none⟩ (.int .i64 t126)).setCell ⟨gb121, 1, none⟩ (.int .i64 t127)).heap[gb121]? = some (.cells #[.int .i64 t126, .int .i64 t127] 29 (0, 0))) := ⟨by (with_reducible repeat (first | refine blk_drewN ?_ _ | refine blk_drew ?_ | refine blk_alloc ?_ _)); refine blk_put (cs := #[.int .i64 t126, .int .i64 x122001_31]) ?_ 1 _ rfl; (with_reducible repeat (first | refine blk_drewN ?_ _ | refine blk_drew ?_ | refine blk_alloc ?_ _)); refine blk_put (cs := #[.int .i64 x122000_31, .int .i64 x122001_31]) ?_ 0 _ rfl; (with_reducible repeat (first | refine blk_drewN ?_ _ | refine blk_drew ?_ | refine blk_alloc ?_ _)); exact BK121.out⟩
                   have n4_ : Aside0 (Below w.heap.size w ((w48.setCell ⟨gb121, 0, none⟩ (.int .i64 t126)).setCell ⟨gb121, 1, none⟩ (.int .i64 t127))) := ⟨bh⟩
                   (try clear HO_0); (try clear HO_1); (try clear HO_10); (try clear BK121); (try clear HB)
                   generalize ((w48.setCell ⟨gb121, 0, none⟩ (.int .i64 t126)).setCell ⟨gb121, 1, none⟩ (.int .i64 t127)) = w51 at n0_ n1_ n2_ n3_ n4_ ⊢
                   have HO_0 := n0_
                   have HO_1 := n1_
                   have HO_10 := n2_
                   have BK121 := n3_
                   have HB := n4_
                   clear n0_ n1_ n2_ n3_ n4_
                   replace HO_0 := Aside0.mk (Kd.V_drew HO_0.out)
                   replace HO_1 := Aside0.mk (Kd.V_drew HO_1.out)
                   replace HO_10 := Aside0.mk (Kd.R_drew HO_10.out)
                   replace BK121 := Aside0.mk (blk_drew BK121.out)
                   replace HB := Aside0.mk (below_drew1 HB.out)
                   obtain ⟨Ao53, co53, eo53⟩ := Kd.R_slice HO_10.out
                   (first | subst eo53 | (injection eo53 with f1_ f2_ f3_; have f4_ := f1_.symm; have f5_ := f3_.symm; clear f1_ f2_ f3_; subst f4_; subst f5_))
                   have p128 : 0 ≤ ((ji41) : Int) := dt
                   have q128 : (ji41) < (x10_2.length : Int) := dt
                   obtain ⟨ad128, e128, hx128_0, hx128_1⟩ := at_T29 (Kd.R_reads' HO_10.out).2.2 (ji41) p128 q128
                   cases e128
                   replace p128 := eq_true p128
                   replace q128 := eq_true q128
                   refine start_ (n := 12) (S := fun w' => w'.cell? ⟨gb121, 0, none⟩ = some (.int .i64 t126) ∧ w'.cell? ⟨gb121, 1, none⟩ = some (.int .i64 t127) ∧ w'.cell? (ad128.add (((ji41)).toNat * 2)) = some (.int .i64 ((rd_T29 x10_2 (ji41)).f0)) ∧ w'.cell? ⟨(ad128.add (((ji41)).toNat * 2)).block, (ad128.add (((ji41)).toNat * 2)).off + 1, none⟩ = some (.int .i64 ((rd_T29 x10_2 (ji41)).f1))) (ds := [9, 10]) #[false, false, false, false, false, false, false, false, false, false, false, false] (by kernel_rfl) rfl rfl ⟨bc BK121 0, bc BK121 1, hx128_0, hx128_1⟩ (fun hHeld => ?_); refine with_tabW shape_Sum.tab24 shape_Sum.bits24 (fun HT_ HW_ => ?_)
                   generalize w51.drew = w52 at HO_0 HO_1 HO_10 BK121 HB hx128_0 hx128_1 hHeld ⊢
                   refine pu 0 84 HT_ ?_
                   refine pu 1 85 HT_ ?_
                   refine pu 2 86 HT_ ?_
                   refine pu 3 87 HT_ ?_
                   refine pu 4 88 HT_ ?_
                   refine pu 5 89 HT_ ?_
                   refine tk4 6 90 hHeld HT_ HW_ ?_
                   refine tk4 7 91 hHeld HT_ HW_ ?_
                   refine one_ (i := 8) (N := some 92) #[true, true, true, true, true, true, true, true, true, false, false, false] rfl rfl (on1 HT_) (by decide) (fun K hK => ?_)
                   first | (refine goes_ Try.func78 (by kernel_rfl) rfl #[.agg #[.int .i64 ((rd_T29 x10_2 (ji41)).f0), .int .i64 ((rd_T29 x10_2 (ji41)).f1)], .agg #[.int .i64 t126, .int .i64 t127]] (by rfl) rfl rfl (by (try simp only [List.map_toArray, List.map_cons, List.map_nil]); first | done | (simp only [hji41]; rfl) | rfl | (simp only [List.length_drop, List.length_take]; rfl)) ?_) | (refine goesV_ Try.func78 (by kernel_rfl) rfl #[.agg #[.int .i64 ((rd_T29 x10_2 (ji41)).f0), .int .i64 ((rd_T29 x10_2 (ji41)).f1)], .agg #[.int .i64 t126, .int .i64 t127]] (by rfl) rfl rfl (by (try simp only [List.map_toArray, List.map_cons, List.map_nil]); first | done | (simp only [hji41]; rfl) | rfl | (simp only [List.length_drop, List.length_take]; rfl)) (by rfl) ?_)
                   with_reducible refine (shape_add.calls ((rd_T29 x10_2 (ji41)).f0) ((rd_T29 x10_2 (ji41)).f1) t126 t127 t129 t130 _ A44.out).mono ?_
                   rintro e w54 ⟨rfl, hb⟩
                   have HS2_ := (hb.cell (World.block_lt_of_cell? _ _ (hHeld.2.2.1))).trans (hHeld.2.2.1)
                   have HS3_ := (hb.cell (World.block_lt_of_cell? _ _ (hHeld.2.2.2))).trans (hHeld.2.2.2)
                   refine ⟨_, rfl, ?_⟩
                   replace HO_0 := Aside0.mk (Kd.V_below (vo HO_0) hb)
                   replace HO_1 := Aside0.mk (Kd.V_below (vo HO_1) hb)
                   replace HO_10 := Aside0.mk (Kd.R_below (ro HO_10) hb)
                   replace BK121 := kb BK121 hb
                   replace HB := Aside0.mk (below_step bh hb)
                   (try clear hb); (try clear hb2); (try clear hk); (try clear hi)
                   refine hK.out _ _ ⟨bc BK121 0, bc BK121 1, HS2_, HS3_⟩ (fun hHeld => ?_)
                   clear hK K
                   refine nm 92 ?_
                   refine last_ (i := 9) (N := some 93) #[true, true, true, true, true, true, true, true, true, true, false, false] rfl rfl (on1 HT_) (by decide) (fun K hK => ?_)
                   refine value_ (w1 := ?_) (v := ?_) (by rfl) rfl ?_ ?_
                   rotate_left 2
                   ·go_simp
                    constructor
                    ·rfl
                    ·rfl
                   refine hK.out _ _ ?_
                   clear hK K
                   refine nm 93 ?_
                   refine last_ (i := 10) (N := some 94) #[true, true, true, true, true, true, true, true, true, true, true, false] rfl rfl (on1 HT_) (by decide) (fun K hK => ?_)
                   refine Kd.R_append_step k29 (w0 := w) w.heap.size (by rfl) (.tmp 84) (.tmp 93) 22 29 (.agg #[(.int .i64 0), (.int .i64 0)]) 16 rfl Try.underlying22 info29 rfl (by decide) (by omega) (.slice (some ad128) x10_2.length co53) x10_2 (⟨t129, t130⟩ : S29) [.int .i64 t129, .int .i64 t130] (fun k_ => (w.heap.size ≤ k_) ∧ k_ ≠ gb121) (fun _ => False) rfl rfl ?aP (fun _ hk => hk.elim) ?aF ?aO ?aB ?aS ?aL ?_
                   (case aP => exact k29_mkM _ _ _ (⟨t129, t130⟩ : S29))
                   (case aB => exact bh)
                   (case aF => exact (fun k_ hk => ⟨(Nat.le_trans (below_size bh) hk), Kd.freshB (g := gb121) (o := .cells #[.int .i64 t126, .int .i64 t127] 29 (0, 0)) (bk BK121) k_ hk⟩))
                   (case aO => exact (ro HO_10))
                   (case aS => exact (below_size bh))
                   (case aL => have := LMc45.out; omega)
                   intro v132 w55 ho hb hg hat
                   rw [← Ny131.out] at ho
                   have HO133 := Aside0.mk (ho)
                   replace HO_0 := Aside0.mk (Kd.V_afterv (ok := (fun k_ => ((P0_ k_ ∨ P1_ k_) ∨ w.heap.size ≤ k_) ∧ k_ ≠ gb121)) (by (with_reducible repeat (first | apply Kd.V_alloc | apply Kd.V_drewN | apply Kd.V_drew)); exact Kd.V_mono HO_0.out (fun _ hk => ⟨⟨hk.1, hk.2.2⟩, hk.2.1⟩)) hg hat)
                   replace HO_1 := Aside0.mk (Kd.V_afterv (ok := (fun k_ => ((P0_ k_ ∨ P1_ k_) ∨ w.heap.size ≤ k_) ∧ k_ ≠ gb121)) (by (with_reducible repeat (first | apply Kd.V_alloc | apply Kd.V_drewN | apply Kd.V_drew)); exact Kd.V_mono HO_1.out (fun _ hk => ⟨⟨hk.1, hk.2.2⟩, hk.2.1⟩)) hg hat)
                   replace BK121 := Aside0.mk (blk_grown (g := gb121) (o := .cells #[.int .i64 t126, .int .i64 t127] 29 (0, 0)) (bk BK121) hg (Kd.R_away HO_10.out (fun _ hk => hk.2)))
                   replace HB := Aside0.mk (hb)
                   clear HO_10
                   clear ho hb hg hat
                   refine hK.out _ _ ?_
                   clear hK K
                   refine nm 94 ?_
                   refine pu 11 10 HT_ ?_
                   refine done_ (done_of HT_.out (by kernel_rfl)) ?_
                   try go_wp2
                   go_roundg kj31
                   case measure => have := HK1.out; have := HK2.out; have := HJ19.out; have := HJ22.out; have := HJ31.out; omega
                   case rel => exact ⟨(y131), (x11_31), (wrap64 (x12_2 + 1)), sd, sd, H', ⟨by have := HK1.out; have := HK2.out; have := HJ19.out; have := HJ22.out; have := HJ31.out; omega⟩, ⟨by (with_reducible repeat (first | apply Kd.V_alloc | apply Kd.V_drewN | apply Kd.V_drew)); exact Kd.V_mono HO_0.out (fun _ hk => ⟨hk.1.1, hk.2⟩)⟩, ⟨by (with_reducible repeat (first | apply Kd.V_alloc | apply Kd.V_drewN | apply Kd.V_drew)); exact Kd.V_mono HO_1.out (fun _ hk => ⟨hk.1.1, hk.2⟩)⟩, ⟨by (with_reducible repeat (first | apply Kd.R_alloc | apply Kd.R_drewN | apply Kd.R_drew)); exact Kd.R_mono HO133.out (fun _ hk => hk.1)⟩, ⟨bh⟩⟩
                  ·rw [if_neg c45] at H
                   exact absurd H (by simp)
                 ·rw [if_neg c43] at H
                  exact absurd H (by simp)
                ·rw [if_neg c42] at H
                 exact absurd H (by simp)
               ·rw [if_neg c38] at H
                have c38b0 := decide_eq_false c38
                clear c38
                obtain ⟨ji56, hji56⟩ : ∃ j_ : Int, (wrap64 ((x10_2.length : Int) - 1)) = j_ := ⟨_, rfl⟩
                replace H : (if 0 ≤ (ji56) then (if (ji56) < (x10_2.length : Int) then ((shape_add.f ((rd_T29 x10_2 (ji56)).f0) ((rd_T29 x10_2 (ji56)).f1) x122000_31 x122001_31).bind fun bt135 => (if x10_2.length < 8796093022208 then (shape_Sum.l1 kj31 l0 l1 (x10_2 ++ [(⟨bt135.1, bt135.2⟩ : S29)]) x11_31 x12_2) else (none))) else (none)) else (none)) = some (r1, r2) := by first | (rw [hji56] at H; exact H) | (simp only [hji56] at H ⊢; exact H)
                have hji56w : (IntKind.i64.wrap ((x10_2.length : Int) - 1)) = ji56 := (i64_w _).trans hji56
                by_cases c57 : 0 ≤ (ji56)
                ·rw [if_pos c57] at H
                 have c57b0 := decide_eq_true c57
                 clear c57
                 by_cases c58 : (ji56) < (x10_2.length : Int)
                 ·rw [if_pos c58] at H
                  have c58b0 := decide_eq_true c58
                  clear c58
                  replace H := Option.bind_eq_some_iff.mp H
                  obtain ⟨⟨t135, t136⟩, A590, H⟩ := H
                  replace H : (if x10_2.length < 8796093022208 then (shape_Sum.l1 kj31 l0 l1 (x10_2 ++ [(⟨t135, t136⟩ : S29)]) x11_31 x12_2) else (none)) = some (r1, r2) := H
                  have A59 := Aside0.mk A590
                  clear A590
                  by_cases c60 : x10_2.length < 8796093022208
                  ·rw [if_pos c60] at H
                   have LMc60 := Aside0.mk c60
                   clear c60
                   obtain ⟨y137, hy137⟩ : ∃ y_ : List (S29), y_ = (x10_2 ++ [(⟨t135, t136⟩ : S29)]) := ⟨_, rfl⟩
                   replace H : (shape_Sum.l1 kj31 l0 l1 y137 x11_31 x12_2) = some (r1, r2) := by first | (rw [hy137]; with_reducible exact H) | (have H2_ := (Option.bind_some _ _).symm.trans H; rw [hy137]; with_reducible exact H2_) | (have H2_ := (Option.bind_some _ _).symm.trans H; with_reducible exact H2_) | with_reducible exact H | (rw [hy137]; exact H) | exact H
                   have Ny137 := Aside0.mk hy137
                   clear hy137
                   have H' := Aside0.mk H
                   clear H
                   try go_wp2
                   replace HO_0 := Aside0.mk (Kd.V_drew HO_0.out)
                   replace HO_1 := Aside0.mk (Kd.V_drew HO_1.out)
                   replace HO_10 := Aside0.mk (Kd.R_drew HO_10.out)
                   replace BK121 := Aside0.mk (blk_drew BK121.out)
                   replace HB := Aside0.mk (below_drew1 HB.out)
                   obtain ⟨Ao62, co62, eo62⟩ := Kd.R_slice HO_10.out
                   (first | subst eo62 | (injection eo62 with f1_ f2_ f3_; have f4_ := f1_.symm; have f5_ := f3_.symm; clear f1_ f2_ f3_; subst f4_; subst f5_))
                   have p134 : 0 ≤ ((ji56) : Int) := dt
                   have q134 : (ji56) < (x10_2.length : Int) := dt
                   obtain ⟨ad134, e134, hx134_0, hx134_1⟩ := at_T29 (Kd.R_reads' HO_10.out).2.2 (ji56) p134 q134
                   cases e134
                   replace p134 := eq_true p134
                   replace q134 := eq_true q134
                   refine start_ (n := 12) (S := fun w' => w'.cell? ⟨gb121, 0, none⟩ = some (.int .i64 x122000_31) ∧ w'.cell? ⟨gb121, 1, none⟩ = some (.int .i64 x122001_31) ∧ w'.cell? (ad134.add (((ji56)).toNat * 2)) = some (.int .i64 ((rd_T29 x10_2 (ji56)).f0)) ∧ w'.cell? ⟨(ad134.add (((ji56)).toNat * 2)).block, (ad134.add (((ji56)).toNat * 2)).off + 1, none⟩ = some (.int .i64 ((rd_T29 x10_2 (ji56)).f1))) (ds := [9, 10]) #[false, false, false, false, false, false, false, false, false, false, false, false] (by kernel_rfl) rfl rfl ⟨bc BK121 0, bc BK121 1, hx134_0, hx134_1⟩ (fun hHeld => ?_); refine with_tabW shape_Sum.tab24 shape_Sum.bits24 (fun HT_ HW_ => ?_)
                   generalize wc.drew = w61 at HO_0 HO_1 HO_10 BK121 HB hx134_0 hx134_1 hHeld ⊢
                   refine pu 0 84 HT_ ?_
                   refine pu 1 85 HT_ ?_
                   refine pu 2 86 HT_ ?_
                   refine pu 3 87 HT_ ?_
                   refine pu 4 88 HT_ ?_
                   refine pu 5 89 HT_ ?_
                   refine tk4 6 90 hHeld HT_ HW_ ?_
                   refine tk4 7 91 hHeld HT_ HW_ ?_
                   refine one_ (i := 8) (N := some 92) #[true, true, true, true, true, true, true, true, true, false, false, false] rfl rfl (on1 HT_) (by decide) (fun K hK => ?_)
                   first | (refine goes_ Try.func78 (by kernel_rfl) rfl #[.agg #[.int .i64 ((rd_T29 x10_2 (ji56)).f0), .int .i64 ((rd_T29 x10_2 (ji56)).f1)], .agg #[.int .i64 x122000_31, .int .i64 x122001_31]] (by rfl) rfl rfl (by (try simp only [List.map_toArray, List.map_cons, List.map_nil]); first | done | (simp only [hji56]; rfl) | rfl | (simp only [List.length_drop, List.length_take]; rfl)) ?_) | (refine goesV_ Try.func78 (by kernel_rfl) rfl #[.agg #[.int .i64 ((rd_T29 x10_2 (ji56)).f0), .int .i64 ((rd_T29 x10_2 (ji56)).f1)], .agg #[.int .i64 x122000_31, .int .i64 x122001_31]] (by rfl) rfl rfl (by (try simp only [List.map_toArray, List.map_cons, List.map_nil]); first | done | (simp only [hji56]; rfl) | rfl | (simp only [List.length_drop, List.length_take]; rfl)) (by rfl) ?_)
                   with_reducible refine (shape_add.calls ((rd_T29 x10_2 (ji56)).f0) ((rd_T29 x10_2 (ji56)).f1) x122000_31 x122001_31 t135 t136 _ A59.out).mono ?_
                   rintro e w63 ⟨rfl, hb⟩
                   have HS2_ := (hb.cell (World.block_lt_of_cell? _ _ (hHeld.2.2.1))).trans (hHeld.2.2.1)
                   have HS3_ := (hb.cell (World.block_lt_of_cell? _ _ (hHeld.2.2.2))).trans (hHeld.2.2.2)
                   refine ⟨_, rfl, ?_⟩
                   replace HO_0 := Aside0.mk (Kd.V_below (vo HO_0) hb)
                   replace HO_1 := Aside0.mk (Kd.V_below (vo HO_1) hb)
                   replace HO_10 := Aside0.mk (Kd.R_below (ro HO_10) hb)
                   replace BK121 := kb BK121 hb
                   replace HB := Aside0.mk (below_step bh hb)
                   (try clear hb); (try clear hb2); (try clear hk); (try clear hi)
                   refine hK.out _ _ ⟨bc BK121 0, bc BK121 1, HS2_, HS3_⟩ (fun hHeld => ?_)
                   clear hK K
                   refine nm 92 ?_
                   refine last_ (i := 9) (N := some 93) #[true, true, true, true, true, true, true, true, true, true, false, false] rfl rfl (on1 HT_) (by decide) (fun K hK => ?_)
                   refine value_ (w1 := ?_) (v := ?_) (by rfl) rfl ?_ ?_
                   rotate_left 2
                   ·go_simp
                    constructor
                    ·rfl
                    ·rfl
                   refine hK.out _ _ ?_
                   clear hK K
                   refine nm 93 ?_
                   refine last_ (i := 10) (N := some 94) #[true, true, true, true, true, true, true, true, true, true, true, false] rfl rfl (on1 HT_) (by decide) (fun K hK => ?_)
                   refine Kd.R_append_step k29 (w0 := w) w.heap.size (by rfl) (.tmp 84) (.tmp 93) 22 29 (.agg #[(.int .i64 0), (.int .i64 0)]) 16 rfl Try.underlying22 info29 rfl (by decide) (by omega) (.slice (some ad134) x10_2.length co62) x10_2 (⟨t135, t136⟩ : S29) [.int .i64 t135, .int .i64 t136] (fun k_ => (w.heap.size ≤ k_) ∧ k_ ≠ gb121) (fun _ => False) rfl rfl ?aP (fun _ hk => hk.elim) ?aF ?aO ?aB ?aS ?aL ?_
                   (case aP => exact k29_mkM _ _ _ (⟨t135, t136⟩ : S29))
                   (case aB => exact bh)
                   (case aF => exact (fun k_ hk => ⟨(Nat.le_trans (below_size bh) hk), Kd.freshB (g := gb121) (o := .cells #[.int .i64 x122000_31, .int .i64 x122001_31] 29 (0, 0)) (bk BK121) k_ hk⟩))
                   (case aO => exact (ro HO_10))
                   (case aS => exact (below_size bh))
                   (case aL => have := LMc60.out; omega)
                   intro v138 w64 ho hb hg hat
                   rw [← Ny137.out] at ho
                   have HO139 := Aside0.mk (ho)
                   replace HO_0 := Aside0.mk (Kd.V_afterv (ok := (fun k_ => ((P0_ k_ ∨ P1_ k_) ∨ w.heap.size ≤ k_) ∧ k_ ≠ gb121)) (by (with_reducible repeat (first | apply Kd.V_alloc | apply Kd.V_drewN | apply Kd.V_drew)); exact Kd.V_mono HO_0.out (fun _ hk => ⟨⟨hk.1, hk.2.2⟩, hk.2.1⟩)) hg hat)
                   replace HO_1 := Aside0.mk (Kd.V_afterv (ok := (fun k_ => ((P0_ k_ ∨ P1_ k_) ∨ w.heap.size ≤ k_) ∧ k_ ≠ gb121)) (by (with_reducible repeat (first | apply Kd.V_alloc | apply Kd.V_drewN | apply Kd.V_drew)); exact Kd.V_mono HO_1.out (fun _ hk => ⟨⟨hk.1, hk.2.2⟩, hk.2.1⟩)) hg hat)
                   replace BK121 := Aside0.mk (blk_grown (g := gb121) (o := .cells #[.int .i64 x122000_31, .int .i64 x122001_31] 29 (0, 0)) (bk BK121) hg (Kd.R_away HO_10.out (fun _ hk => hk.2)))
                   replace HB := Aside0.mk (hb)
                   clear HO_10
                   clear ho hb hg hat
                   refine hK.out _ _ ?_
                   clear hK K
                   refine nm 94 ?_
                   refine pu 11 10 HT_ ?_
                   refine done_ (done_of HT_.out (by kernel_rfl)) ?_
                   try go_wp2
                   go_roundg kj31
                   case measure => have := HK1.out; have := HK2.out; have := HJ19.out; have := HJ22.out; have := HJ31.out; omega
                   case rel => exact ⟨(y137), (x11_31), (x12_2), sd, sd, H', ⟨by have := HK1.out; have := HK2.out; have := HJ19.out; have := HJ22.out; have := HJ31.out; omega⟩, ⟨by (with_reducible repeat (first | apply Kd.V_alloc | apply Kd.V_drewN | apply Kd.V_drew)); exact Kd.V_mono HO_0.out (fun _ hk => ⟨hk.1.1, hk.2⟩)⟩, ⟨by (with_reducible repeat (first | apply Kd.V_alloc | apply Kd.V_drewN | apply Kd.V_drew)); exact Kd.V_mono HO_1.out (fun _ hk => ⟨hk.1.1, hk.2⟩)⟩, ⟨by (with_reducible repeat (first | apply Kd.R_alloc | apply Kd.R_drewN | apply Kd.R_drew)); exact Kd.R_mono HO139.out (fun _ hk => hk.1)⟩, ⟨bh⟩⟩
                  ·rw [if_neg c60] at H
                   exact absurd H (by simp)
                 ·rw [if_neg c58] at H
                  exact absurd H (by simp)
                ·rw [if_neg c57] at H
                 exact absurd H (by simp)
          ·replace c22 := Bool.eq_false_iff.mpr c22
           subst c22
           rw [if_neg (show ¬ (false = true) by decide)] at H
           obtain ⟨ji65, hji65⟩ : ∃ j_ : Int, (wrap64 ((x10_2.length : Int) - 1)) = j_ := ⟨_, rfl⟩
           replace H : (if 0 ≤ (ji65) then (if (ji65) ≤ (x10_2.length : Int) then (some ((x10_2.take ((ji65) : Int).toNat), 0)) else (none)) else (none)) = some (r1, r2) := by first | (rw [hji65] at H; exact H) | (simp only [hji65] at H ⊢; exact H)
           have hji65w : (IntKind.i64.wrap ((x10_2.length : Int) - 1)) = ji65 := (i64_w _).trans hji65
           by_cases c66 : 0 ≤ (ji65)
           ·rw [if_pos c66] at H
            have c66b0 := eq_true c66
            have c66b1 := decide_eq_true c66
            clear c66
            by_cases c67 : (ji65) ≤ (x10_2.length : Int)
            ·rw [if_pos c67] at H
             have c67b0 := eq_true c67
             have c67b1 := decide_eq_true c67
             clear c67
             obtain ⟨y113, hy113⟩ : ∃ y_ : List (S29), y_ = (x10_2.take ((ji65) : Int).toNat) := ⟨_, rfl⟩
             replace H : (some (y113, 0)) = some (r1, r2) := by first | (rw [hy113]; with_reducible exact H) | (have H2_ := (Option.bind_some _ _).symm.trans H; rw [hy113]; with_reducible exact H2_) | (have H2_ := (Option.bind_some _ _).symm.trans H; with_reducible exact H2_) | with_reducible exact H | (rw [hy113]; exact H) | exact H
             have Ny113 := Aside0.mk hy113
             clear hy113
             simp only [Option.some.injEq, Prod.mk.injEq] at H
             obtain ⟨rfl, rfl⟩ := H
             obtain ⟨Ao68, co68, eo68⟩ := Kd.R_slice HO_10.out
             subst eo68
             have q69 : ((ji65) : Int) ≤ ((x10_2.length : Int) : Int) := dt
             obtain ⟨i069, hi069, _, hsz69, _⟩ := info_parts info29
             have hcut69 := cut_to (P := Try.prog) 22 29 .i64 Try.underlying22 hi069 Ao68 x10_2.length co68 (ji65) (dt) q69 (Kd.R_reads' HO_10.out).2.1
             have hr69 := Kd.R_take (m := ((ji65) : Int).toNat) HO_10.out (by omega)
             have hy69 : y113.length = ((ji65) : Int).toNat := (by rw [Ny113.out, List.length_take]; omega)
             rw [← Ny113.out] at hr69
             rw [← hy69] at hr69 hcut69
             clear hy69 hi069 hsz69 HO_10
             have HO115 := Aside0.mk hr69
             clear hr69
             replace q69 := eq_true q69
             go_wp2
             go_ret2
             exact ⟨_, by first | rfl | (simp [errW_none, errW_some] <;> rfl) | (simp only [← hji65]; first | rfl | (simp [errW_none, errW_some] <;> rfl)) | (simp [*, errW_none, errW_some] <;> rfl), by (with_reducible repeat (first | apply Kd.R_alloc | apply Kd.R_drewN | apply Kd.R_drew)); exact HO115.out, bh⟩
            ·rw [if_neg c67] at H
             exact absurd H (by simp)
           ·rw [if_neg c66] at H
            exact absurd H (by simp)
     ·rw [if_neg c14] at H
      exact absurd H (by simp)
    ·rw [if_neg c13] at H
     exact absurd H (by simp)
end Go.Proofs.Ytoffmpkgickfhaa.PG
end
