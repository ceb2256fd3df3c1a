/- Parts of the proof of YtoffmpkgickfhaaLawShapeHulled: printed walks, their words, and plain laws. -/
import Derived.Test.YtoffmpkgickfhaaQU1
import Derived.Test.YtoffmpkgickfhaaQU2
import Derived.Test.YtoffmpkgickfhaaQU3
section
namespace Go.Proofs.Ytoffmpkgickfhaa.PG
open Go.RowKit Go.Proofs.YtoffmpkgickfhaaW.PrintWords Go.Proofs.YtoffmpkgickfhaaW.PrintLast Go.Proofs.YtoffmpkgickfhaaW.PrintMore
attribute [local go_sem] max2_int min2_int max_two min_two max_three min_three max_four min_four
set_option linter.unusedVariables false
set_option linter.unusedSimpArgs false
/-! ### shape_where: function 73 -/
mutual
def shape_where.l0 : Nat → List (S29) → Int → Int → Int → Int → Int → Option (Int)
 | 0, _, _, _, _, _, _ => none
 | k + 1, x0, x5, x10, x11, x102000, x102001 => if x11 < x10 then (if 0 ≤ x11 then (if x11 < (x0.length : Int) then (if (x0.length : Int) = 0 then (none) else (if 0 ≤ (Int.tmod (wrap64 (x11 + 1)) (x0.length : Int)) then (if (Int.tmod (wrap64 (x11 + 1)) (x0.length : Int)) < (x0.length : Int) then ((shape_on.f ((rd_T29 x0 x11).f0) ((rd_T29 x0 x11).f1) ((rd_T29 x0 (Int.tmod (wrap64 (x11 + 1)) (x0.length : Int))).f0) ((rd_T29 x0 (Int.tmod (wrap64 (x11 + 1)) (x0.length : Int))).f1) x102000 x102001).bind fun t106 => (if t106 = true then (some 0) else (if ((rd_T29 x0 x11).f1) > ((rd_T29 x0 (Int.tmod (wrap64 (x11 + 1)) (x0.length : Int))).f1) then (shape_where.j1 k x0 x5 x10 x11 x102000 x102001 ((rd_T29 x0 (Int.tmod (wrap64 (x11 + 1)) (x0.length : Int))).f0) ((rd_T29 x0 (Int.tmod (wrap64 (x11 + 1)) (x0.length : Int))).f1) ((rd_T29 x0 x11).f0) ((rd_T29 x0 x11).f1)) else (shape_where.j1 k x0 x5 x10 x11 x102000 x102001 ((rd_T29 x0 x11).f0) ((rd_T29 x0 x11).f1) ((rd_T29 x0 (Int.tmod (wrap64 (x11 + 1)) (x0.length : Int))).f0) ((rd_T29 x0 (Int.tmod (wrap64 (x11 + 1)) (x0.length : Int))).f1))))) else (none)) else (none))) else (none)) else (none)) else (some x5)
def shape_where.j1 : Nat → List (S29) → Int → Int → Int → Int → Int → Int → Int → Int → Int → Option (Int)
 | 0, _, _, _, _, _, _, _, _, _, _ => none
 | k + 1, x0, x5, x10, x11, x102000, x102001, x105000, x105001, x106000, x106001 => if x105001 ≤ x102001 then (if x102001 < x106001 then ((shape_side.f x105000 x105001 x106000 x106001 x102000 x102001).bind fun t107 => (shape_where.j2 k x0 x5 x10 x11 (decide (t107 > 0)) x102000 x102001)) else (shape_where.j2 k x0 x5 x10 x11 false x102000 x102001)) else (shape_where.j2 k x0 x5 x10 x11 false x102000 x102001)
def shape_where.j2 : Nat → List (S29) → Int → Int → Int → Bool → Int → Int → Option (Int)
 | 0, _, _, _, _, _, _, _ => none
 | k + 1, x0, x5, x10, x11, x55, x102000, x102001 => if x55 = true then (shape_where.l0 k x0 (wrap64 (-x5)) x10 (wrap64 (x11 + 1)) x102000 x102001) else (shape_where.l0 k x0 x5 x10 (wrap64 (x11 + 1)) x102000 x102001)
end
def shape_where.f (k : Nat) (l0 : List (S29)) (a1_0 : Int) (a1_1 : Int) : Option (Int) := shape_where.l0 k l0 (-1) (l0.length : Int) 0 a1_0 a1_1
def shape_where.T5 : Bool × List (List Nat × List Nat) := (true, [([], []), ([], []), ([0, 1], [0, 1]), ([2], [2]), ([], []), ([], []), ([5], [5]), ([], []), ([7], [7]), ([6, 8], [6, 8]), ([4, 9], [4, 9]), ([10], [10]), ([], []), ([], []), ([12, 3, 0, 1, 2, 3, 12, 13], [3, 12]), ([13, 11, 14, 0, 1, 2, 3, 4, 5, 6, 7, 8, 9, 10, 11, 12, 13, 14], [11, 13])])
def shape_where.B5 : List Nat := [0, 0, 3, 7, 0, 0, 32, 0, 128, 480, 1008, 2032, 0, 0, 12303, 32767]
theorem shape_where.tab5 : rtab .any (opsOf Try.f73 5) = shape_where.T5 := by kernel_rfl
theorem shape_where.bits5 : waitsOk shape_where.T5.2 shape_where.B5 = true := by kernel_rfl
set_option maxHeartbeats 8000000 in
set_option maxRecDepth 100000 in
theorem shape_where.calls (k : Nat) (A0 : Option Addr) (c0 : Nat) (l0 : List (S29)) (a1_0 : Int) (a1_1 : Int) (r : Int) (w : World) (hr0 : Kd.C k29 w A0 l0.length l0) (hc0 : l0.length ≤ c0) (h : shape_where.f k l0 a1_0 a1_1 = some r) :
  Calls Try.prog 73 #[.slice A0 l0.length c0, .agg #[.int .i64 a1_0, .int .i64 a1_1]] w fun e w' => e = .returned (.int .i64 r) ∧ Below w.heap.size w w' := by
 have hu29 := Try.underlying29
 have HR0 := Aside0.mk hr0
 have HC0 := Aside0.mk hc0
 clear hr0 hc0
 have HB := Aside0.mk (Below.refl w.heap.size w)
 have H : (shape_where.l0 k l0 (-1) (l0.length : Int) 0 a1_0 a1_1) = some r := h
 clear h
 have H' := Aside0.mk H
 clear H
 go_enter Try.func73, Try.ntmps73
 go_wp2_with (first | ((with_reducible refine gate_dst (N := 3) rfl ?_); refine bxe 3 #[.int .i64 a1_0, .int .i64 a1_1] 29 ?_; intro gb101 hg w3 hbox hb; have BK101 := Aside0.mk (hbox); have GW101 := Aside0.mk (gs hg : w.heap.size ≤ gb101); have GE101 := Aside0.mk (gs hg : w.heap.size ≤ gb101); replace HB := Aside0.mk (below_step bh hb); clear hb hbox hg))
 go_loopg [5, 11] k (fun kq v5 v11 w' => ∃ (x5_1 : Int) (x11_1 : Int), v5 = .int .i64 x5_1 ∧ v11 = .int .i64 x11_1 ∧ Aside0 (shape_where.l0 kq l0 x5_1 (l0.length : Int) x11_1 a1_0 a1_1 = some r) ∧ Aside0 (kq ≤ k) ∧ Aside0 (w'.heap[gb101]? = some (.cells #[.int .i64 a1_0, .int .i64 a1_1] 29 (0, 0))) ∧ Aside0 (Below w.heap.size w w'))
 case atStart => exact ⟨((-1)), (0), sd, sd, H', ⟨Nat.le_refl _⟩, ⟨bk BK101⟩, ⟨bh⟩⟩
 case round =>
  clear H'
  (try clear p2)
  obtain ⟨x5_1, x11_1, rfl, rfl, HA, HK1, BK101, HB⟩ := hrel
  cases gk with
  | zero => exact absurd HA.out (by simp [shape_where.l0])
  | succ k1 =>
   have H := HA.out
   clear HA
   simp only [shape_where.l0] at H
   by_cases c4 : x11_1 < (l0.length : Int)
   ·rw [if_pos c4] at H
    have c4b0 := decide_eq_true c4
    clear c4
    by_cases c5 : 0 ≤ x11_1
    ·rw [if_pos c5] at H
     have c5b0 := decide_eq_true c5
     clear c5
     by_cases c6 : x11_1 < (l0.length : Int)
     ·rw [if_pos c6] at H
      have c6b0 := decide_eq_true c6
      clear c6
      by_cases c7 : (l0.length : Int) = 0
      ·rw [if_pos c7] at H
       exact absurd H (by simp)
      ·rw [if_neg c7] at H
       have c7b0 : ((l0.length : Int) == 0) = false := beq_eq_false_iff_ne.mpr c7
       have c7b1 : ((l0.length : Int) != 0) = true := bne_iff_ne.mpr c7
       have c7b2 : ¬ (l0 = []) := fun h_ => c7 (by rw [h_]; rfl)
       obtain ⟨ji8, hji8⟩ : ∃ j_ : Int, (Int.tmod (wrap64 (x11_1 + 1)) (l0.length : Int)) = j_ := ⟨_, rfl⟩
       first | rw [hji8] at H | simp only [hji8] at H
       by_cases c9 : 0 ≤ (ji8)
       ·rw [if_pos c9] at H
        have c9b0 := decide_eq_true c9
        clear c9
        by_cases c10 : (ji8) < (l0.length : Int)
        ·rw [if_pos c10] at H
         have c10b0 := decide_eq_true c10
         clear c10
         replace H := Option.bind_eq_some_iff.mp H
         obtain ⟨t106, A110, H⟩ := H
         try dsimp only at H
         have A11 := Aside0.mk A110
         clear A110
         by_cases c12 : t106 = true
         ·subst c12
          rw [if_pos rfl] at H
          obtain rfl := Option.some.inj H
          try go_wp2
          replace BK101 := Aside0.mk (blk_drew BK101.out)
          replace HB := Aside0.mk (below_drew1 HB.out)
          have p102 : 0 ≤ (x11_1 : Int) := dt
          have q102 : x11_1 < (l0.length : Int) := dt
          obtain ⟨ad102, e102, hx102_0, hx102_1⟩ := at_T29 HR0.out x11_1 p102 q102
          have hw102_1 := hx102_1
          have hw102_0 := hx102_0
          cases e102
          replace hx102_0 := hc HB hx102_0
          replace hx102_1 := hc HB hx102_1
          replace p102 := eq_true p102
          replace q102 := eq_true q102
          have p103 : 0 ≤ ((ji8) : Int) := dt
          have q103 : (ji8) < (l0.length : Int) := dt
          obtain ⟨ad103, e103, hx103_0, hx103_1⟩ := at_T29 HR0.out (ji8) p103 q103
          have hw103_1 := hx103_1
          have hw103_0 := hx103_0
          obtain rfl : ad102 = ad103 := (by injection e103)
          replace hx103_0 := hc HB hx103_0
          replace hx103_1 := hc HB hx103_1
          replace p103 := eq_true p103
          replace q103 := eq_true q103
          refine start_ (n := 16) (S := fun w' => w'.cell? (ad102.add ((x11_1).toNat * 2)) = some (.int .i64 ((rd_T29 l0 x11_1).f0)) ∧ w'.cell? ⟨(ad102.add ((x11_1).toNat * 2)).block, (ad102.add ((x11_1).toNat * 2)).off + 1, none⟩ = some (.int .i64 ((rd_T29 l0 x11_1).f1)) ∧ w'.cell? (ad102.add (((ji8)).toNat * 2)) = some (.int .i64 ((rd_T29 l0 (ji8)).f0)) ∧ w'.cell? ⟨(ad102.add (((ji8)).toNat * 2)).block, (ad102.add (((ji8)).toNat * 2)).off + 1, none⟩ = some (.int .i64 ((rd_T29 l0 (ji8)).f1))) (ds := []) #[false, false, false, false, false, false, false, false, false, false, false, false, false, false, false, false] (by kernel_rfl) rfl rfl ⟨(hc HB hw102_0), (hc HB hw102_1), (hc HB hw103_0), (hc HB hw103_1)⟩ (fun hHeld => ?_); refine with_tabW shape_where.tab5 shape_where.bits5 (fun HT_ HW_ => ?_)
          generalize wr.drew = w13 at BK101 HB hx102_0 hx102_1 hx103_0 hx103_1 hHeld ⊢
          refine pu 0 14 HT_ ?_
          refine pu 1 15 HT_ ?_
          refine pu 2 16 HT_ ?_
          refine pu 4 18 HT_ ?_
          refine pu 5 19 HT_ ?_
          refine pu 6 20 HT_ ?_
          refine pu 7 21 HT_ ?_
          refine pu 8 22 HT_ ?_
          refine pu 9 23 HT_ ?_
          refine pu 10 24 HT_ ?_
          refine tk4 3 17 hHeld HT_ HW_ ?_
          refine tk4 11 25 hHeld HT_ HW_ ?_
          refine join_ (σ := Nat × Nat) 2 #[true, true, true, true, true, true, true, true, true, true, true, true, true, true, false, false] (fun s_ => [(7, .pointer (some ⟨s_.1, 0, none⟩)), (8, .pointer (some ⟨s_.2, 0, none⟩))]) (fun s_ w' => (w'.cell? (ad102.add ((x11_1).toNat * 2)) = some (.int .i64 ((rd_T29 l0 x11_1).f0)) ∧ w'.cell? ⟨(ad102.add ((x11_1).toNat * 2)).block, (ad102.add ((x11_1).toNat * 2)).off + 1, none⟩ = some (.int .i64 ((rd_T29 l0 x11_1).f1)) ∧ w'.cell? (ad102.add (((ji8)).toNat * 2)) = some (.int .i64 ((rd_T29 l0 (ji8)).f0)) ∧ w'.cell? ⟨(ad102.add (((ji8)).toNat * 2)).block, (ad102.add (((ji8)).toNat * 2)).off + 1, none⟩ = some (.int .i64 ((rd_T29 l0 (ji8)).f1))) ∧ (w'.heap[gb101]? = some (.cells #[.int .i64 a1_0, .int .i64 a1_1] 29 (0, 0))) ∧ (w'.heap[s_.1]? = some (.cells #[.int .i64 0, .int .i64 0] 29 (0, 0))) ∧ (w'.heap[s_.2]? = some (.cells #[.int .i64 0, .int .i64 0] 29 (0, 0))) ∧ (w.heap.size ≤ s_.1) ∧ (w.heap.size ≤ s_.1) ∧ (gb101 ≠ s_.1) ∧ (s_.1 ≠ gb101) ∧ (s_.2 ≠ s_.1) ∧ (s_.1 ≠ s_.2) ∧ (w.heap.size ≤ s_.2) ∧ (w.heap.size ≤ s_.2) ∧ (gb101 ≠ s_.2) ∧ (s_.2 ≠ gb101) ∧ (Below w.heap.size w w')) ?_ ?_
          rotate_left
          ·intro hCont
           refine two_ (i := 12) (j := 13) (Ni := some 7) (Nj := some 8) #[true, true, true, true, true, true, true, true, true, true, true, true, true, false, false, false] #[true, true, true, true, true, true, true, true, true, true, true, true, false, true, false, false] rfl rfl rfl rfl (on2 HT_) (by decide) (by decide) (fun K hK => ?_) (fun K hK => ?_)
           ·skip
            refine bxs 7 #[.int .i64 0, .int .i64 0] 29 ?_
            intro gb104 hg w14 hbox hb
            have BK104 := Aside0.mk (hbox)
            have GW104 := Aside0.mk (gs hg : w.heap.size ≤ gb104)
            have GE104 := Aside0.mk (gs hg : w.heap.size ≤ gb104)
            have NB101_104 := Aside0.mk ((by rw [hg]; exact Nat.ne_of_lt (kl BK101) : gb101 ≠ gb104))
            have NB104_101 := Aside0.mk ((by rw [hg]; exact Nat.ne_of_gt (kl BK101) : gb104 ≠ gb101))
            replace BK101 := kb BK101 hb
            replace HB := Aside0.mk (below_step bh hb)
            clear hb hbox hg
            refine hK.out _ _ ⟨(hc HB hw102_0), (hc HB hw102_1), (hc HB hw103_0), (hc HB hw103_1)⟩ (fun hHeld => ?_)
            clear hK K
            refine nm 7 ?_
            refine one_ (i := 13) (N := some 8) #[true, true, true, true, true, true, true, true, true, true, true, true, true, true, false, false] rfl rfl (on1 HT_) (by decide) (fun K hK => ?_)
            refine bxs 8 #[.int .i64 0, .int .i64 0] 29 ?_
            intro gb105 hg w15 hbox hb
            have BK105 := Aside0.mk (hbox)
            have GW105 := Aside0.mk (gs hg : w.heap.size ≤ gb105)
            have GE105 := Aside0.mk (gs hg : w.heap.size ≤ gb105)
            have NB101_105 := Aside0.mk ((by rw [hg]; exact Nat.ne_of_lt (kl BK101) : gb101 ≠ gb105))
            have NB105_101 := Aside0.mk ((by rw [hg]; exact Nat.ne_of_gt (kl BK101) : gb105 ≠ gb101))
            have NB104_105 := Aside0.mk ((by rw [hg]; exact Nat.ne_of_lt (kl BK104) : gb104 ≠ gb105))
            have NB105_104 := Aside0.mk ((by rw [hg]; exact Nat.ne_of_gt (kl BK104) : gb105 ≠ gb104))
            replace BK101 := kb BK101 hb
            replace BK104 := kb BK104 hb
            replace HB := Aside0.mk (below_step bh hb)
            clear hb hbox hg
            refine hK.out _ _ ⟨(hc HB hw102_0), (hc HB hw102_1), (hc HB hw103_0), (hc HB hw103_1)⟩ (fun hHeld => ?_)
            clear hK K
            refine nm 8 ?_
            exact norm_ pa (hCont (gb104, gb105) _ ⟨hHeld, bk BK101, bk BK104, bk BK105, GW104.out, GE104.out, NB101_104.out, NB104_101.out, NB105_104.out, NB104_105.out, GW105.out, GE105.out, NB101_105.out, NB105_101.out, bh⟩)
           ·skip
            refine bxs 8 #[.int .i64 0, .int .i64 0] 29 ?_
            intro gb105 hg w14 hbox hb
            have BK105 := Aside0.mk (hbox)
            have GW105 := Aside0.mk (gs hg : w.heap.size ≤ gb105)
            have GE105 := Aside0.mk (gs hg : w.heap.size ≤ gb105)
            have NB101_105 := Aside0.mk ((by rw [hg]; exact Nat.ne_of_lt (kl BK101) : gb101 ≠ gb105))
            have NB105_101 := Aside0.mk ((by rw [hg]; exact Nat.ne_of_gt (kl BK101) : gb105 ≠ gb101))
            replace BK101 := kb BK101 hb
            replace HB := Aside0.mk (below_step bh hb)
            clear hb hbox hg
            refine hK.out _ _ ⟨(hc HB hw102_0), (hc HB hw102_1), (hc HB hw103_0), (hc HB hw103_1)⟩ (fun hHeld => ?_)
            clear hK K
            refine nm 8 ?_
            refine one_ (i := 12) (N := some 7) #[true, true, true, true, true, true, true, true, true, true, true, true, true, true, false, false] rfl rfl (on1 HT_) (by decide) (fun K hK => ?_)
            refine bxs 7 #[.int .i64 0, .int .i64 0] 29 ?_
            intro gb104 hg w15 hbox hb
            have BK104 := Aside0.mk (hbox)
            have GW104 := Aside0.mk (gs hg : w.heap.size ≤ gb104)
            have GE104 := Aside0.mk (gs hg : w.heap.size ≤ gb104)
            have NB101_104 := Aside0.mk ((by rw [hg]; exact Nat.ne_of_lt (kl BK101) : gb101 ≠ gb104))
            have NB104_101 := Aside0.mk ((by rw [hg]; exact Nat.ne_of_gt (kl BK101) : gb104 ≠ gb101))
            have NB105_104 := Aside0.mk ((by rw [hg]; exact Nat.ne_of_lt (kl BK105) : gb105 ≠ gb104))
            have NB104_105 := Aside0.mk ((by rw [hg]; exact Nat.ne_of_gt (kl BK105) : gb104 ≠ gb105))
            replace BK101 := kb BK101 hb
            replace BK105 := kb BK105 hb
            replace HB := Aside0.mk (below_step bh hb)
            clear hb hbox hg
            refine hK.out _ _ ⟨(hc HB hw102_0), (hc HB hw102_1), (hc HB hw103_0), (hc HB hw103_1)⟩ (fun hHeld => ?_)
            clear hK K
            refine nm 7 ?_
            exact norm_ pa (hCont (gb104, gb105) _ ⟨hHeld, bk BK101, bk BK104, bk BK105, GW104.out, GE104.out, NB101_104.out, NB104_101.out, NB105_104.out, NB104_105.out, GW105.out, GE105.out, NB101_105.out, NB105_101.out, bh⟩)
          rintro ⟨gb104, gb105⟩ w16 ⟨hS_, h0_, h1_, h2_, h3_, h4_, h5_, h6_, h7_, h8_, h9_, h10_, h11_, h12_, h13_⟩
          have BK104 := Aside0.mk h1_
          have BK105 := Aside0.mk h2_
          have GW104 := Aside0.mk h3_
          have GE104 := Aside0.mk h4_
          have NB101_104 := Aside0.mk h5_
          have NB104_101 := Aside0.mk h6_
          have NB105_104 := Aside0.mk h7_
          have NB104_105 := Aside0.mk h8_
          have GW105 := Aside0.mk h9_
          have GE105 := Aside0.mk h10_
          have NB101_105 := Aside0.mk h11_
          have NB105_101 := Aside0.mk h12_
          replace BK101 := Aside0.mk h0_
          replace HB := Aside0.mk h13_
          clear h0_ h1_ h2_ h3_ h4_ h5_ h6_ h7_ h8_ h9_ h10_ h11_ h12_ h13_
          have hHeld := hS_
          refine nn ?_
          refine one_ (i := 14) (N := none) #[true, true, true, true, true, true, true, true, true, true, true, true, true, true, true, false] rfl rfl (on1 HT_) (by decide) (fun K hK => ?_)
          have hs17 : w16.cell? ⟨gb104, 0, none⟩ = some (.int .i64 0) := bc BK104 0
          have hfs17 := blk_frozen BK104.out 0
          have hns17_0 := NB101_104.out
          have hns17_2 := NB105_104.out
          have hms17_0 := NB104_101.out
          have hms17_2 := NB104_105.out
          have hs18 : w16.cell? ⟨gb104, 1, none⟩ = some (.int .i64 0) := bc BK104 1
          have hfs18 := blk_frozen BK104.out 1
          have hns18_0 := NB101_104.out
          have hns18_2 := NB105_104.out
          have hms18_0 := NB104_101.out
          have hms18_2 := NB104_105.out
          refine skip_ (w1 := ?_) (by rfl) rfl ?_ ?_
          rotate_left
          ·go_simp
           rfl
          refine hK.out _ _ ⟨((cell_far (p := ⟨gb104, _, none⟩) (fr hw102_0 GW104) _).trans (((cell_far (p := ⟨gb104, _, none⟩) (fr hw102_0 GW104) _).trans (hHeld.1)))), ((cell_far (p := ⟨gb104, _, none⟩) (fr hw102_1 GW104) _).trans (((cell_far (p := ⟨gb104, _, none⟩) (fr hw102_1 GW104) _).trans (hHeld.2.1)))), ((cell_far (p := ⟨gb104, _, none⟩) (fr hw103_0 GW104) _).trans (((cell_far (p := ⟨gb104, _, none⟩) (fr hw103_0 GW104) _).trans (hHeld.2.2.1)))), ((cell_far (p := ⟨gb104, _, none⟩) (fr hw103_1 GW104) _).trans (((cell_far (p := ⟨gb104, _, none⟩) (fr hw103_1 GW104) _).trans (hHeld.2.2.2))))⟩ (fun hHeld => ?_)
          clear hK K
          refine one_ (i := 15) (N := none) #[true, true, true, true, true, true, true, true, true, true, true, true, true, true, true, true] rfl rfl (on1 HT_) (by decide) (fun K hK => ?_)
          have hs19 : w16.cell? ⟨gb105, 0, none⟩ = some (.int .i64 0) := bc BK105 0
          have hfs19 := blk_frozen BK105.out 0
          have hns19_0 := NB101_105.out
          have hns19_1 := NB104_105.out
          have hms19_0 := NB105_101.out
          have hms19_1 := NB105_104.out
          have hs20 : w16.cell? ⟨gb105, 1, none⟩ = some (.int .i64 0) := bc BK105 1
          have hfs20 := blk_frozen BK105.out 1
          have hns20_0 := NB101_105.out
          have hns20_1 := NB104_105.out
          have hms20_0 := NB105_101.out
          have hms20_1 := NB105_104.out
          refine skip_ (w1 := ?_) (by rfl) rfl ?_ ?_
          rotate_left
          ·go_simp
           rfl
          refine hK.out _ _ ⟨((cell_far (p := ⟨gb105, _, none⟩) (fr hw102_0 GW105) _).trans (((cell_far (p := ⟨gb105, _, none⟩) (fr hw102_0 GW105) _).trans (hHeld.1)))), ((cell_far (p := ⟨gb105, _, none⟩) (fr hw102_1 GW105) _).trans (((cell_far (p := ⟨gb105, _, none⟩) (fr hw102_1 GW105) _).trans (hHeld.2.1)))), ((cell_far (p := ⟨gb105, _, none⟩) (fr hw103_0 GW105) _).trans (((cell_far (p := ⟨gb105, _, none⟩) (fr hw103_0 GW105) _).trans (hHeld.2.2.1)))), ((cell_far (p := ⟨gb105, _, none⟩) (fr hw103_1 GW105) _).trans (((cell_far (p := ⟨gb105, _, none⟩) (fr hw103_1 GW105) _).trans (hHeld.2.2.2))))⟩ (fun hHeld => ?_)
          clear hK K
          refine done_ (done_of HT_.out (by kernel_rfl)) ?_
          have hnb21 := NB104_101.out
          have hnc21 := NB101_104.out
          have hnb22 := NB104_105.out
          have hnc22 := NB105_104.out
          obtain ⟨hcz23_0, hcz23_1, hfz23_0, hfz23_1⟩ := b2 BK104
          have hnb24 := NB105_101.out
          have hnc24 := NB101_105.out
          obtain ⟨hcz25_0, hcz25_1, hfz25_0, hfz25_1⟩ := b2 BK105
          obtain ⟨hcz26_0, hcz26_1, hfz26_0, hfz26_1⟩ := b2 BK101
          try go_wp2_with (first | ((with_reducible refine gc 100 rfl ?_); refine goesL_ (some 29) rfl rfl Try.func100 (by kernel_rfl) rfl #[.agg #[.int .i64 ((rd_T29 l0 x11_1).f0), .int .i64 ((rd_T29 l0 x11_1).f1)], .agg #[.int .i64 ((rd_T29 l0 (ji8)).f0), .int .i64 ((rd_T29 l0 (ji8)).f1)], .agg #[.int .i64 a1_0, .int .i64 a1_1]] rfl (by (try simp only [List.map_toArray, List.map_cons, List.map_nil]); first | done | (simp only [hji8]; rfl) | rfl | (simp only [List.length_drop, List.length_take]; rfl)) ?_; (with_reducible refine (shape_on.calls ((rd_T29 l0 x11_1).f0) ((rd_T29 l0 x11_1).f1) ((rd_T29 l0 (ji8)).f0) ((rd_T29 l0 (ji8)).f1) a1_0 a1_1 true _ A11.out).mono ?_); rintro e w27 ⟨rfl, hb⟩; refine ⟨_, rfl, ?_⟩; replace BK101 := Aside0.mk (blk_below (g := gb101) (o := .cells #[.int .i64 a1_0, .int .i64 a1_1] 29 (0, 0)) (by (with_reducible repeat (first | refine blk_drewN ?_ _ | refine blk_drew ?_ | refine blk_alloc ?_ _)); refine blk_far ?_ NB101_105.out _; (with_reducible repeat (first | refine blk_drewN ?_ _ | refine blk_drew ?_ | refine blk_alloc ?_ _)); refine blk_far ?_ NB101_105.out _; (with_reducible repeat (first | refine blk_drewN ?_ _ | refine blk_drew ?_ | refine blk_alloc ?_ _)); refine blk_far ?_ NB101_104.out _; (with_reducible repeat (first | refine blk_drewN ?_ _ | refine blk_drew ?_ | refine blk_alloc ?_ _)); refine blk_far ?_ NB101_104.out _; (with_reducible repeat (first | refine blk_drewN ?_ _ | refine blk_drew ?_ | refine blk_alloc ?_ _)); exact BK101.out) hb); replace BK104 := Aside0.mk (blk_below (g := gb104) (o := .cells #[.int .i64 ((rd_T29 l0 x11_1).f0), .int .i64 ((rd_T29 l0 x11_1).f1)] 29 (0, 0)) (by (with_reducible repeat (first | refine blk_drewN ?_ _ | refine blk_drew ?_ | refine blk_alloc ?_ _)); refine blk_far ?_ NB104_105.out _; (with_reducible repeat (first | refine blk_drewN ?_ _ | refine blk_drew ?_ | refine blk_alloc ?_ _)); refine blk_far ?_ NB104_105.out _; (with_reducible repeat (first | refine blk_drewN ?_ _ | refine blk_drew ?_ | refine blk_alloc ?_ _)); refine blk_put (cs := #[.int .i64 ((rd_T29 l0 x11_1).f0), .int .i64 0]) ?_ 1 _ rfl; (with_reducible repeat (first | refine blk_drewN ?_ _ | refine blk_drew ?_ | refine blk_alloc ?_ _)); refine blk_put (cs := #[.int .i64 0, .int .i64 0]) ?_ 0 _ rfl; (with_reducible repeat (first | refine blk_drewN ?_ _ | refine blk_drew ?_ | refine blk_alloc ?_ _)); exact BK104.out) hb); replace BK105 := Aside0.mk (blk_below (g := gb105) (o := .cells #[.int .i64 ((rd_T29 l0 (ji8)).f0), .int .i64 ((rd_T29 l0 (ji8)).f1)] 29 (0, 0)) (by (with_reducible repeat (first | refine blk_drewN ?_ _ | refine blk_drew ?_ | refine blk_alloc ?_ _)); refine blk_put (cs := #[.int .i64 ((rd_T29 l0 (ji8)).f0), .int .i64 0]) ?_ 1 _ rfl; (with_reducible repeat (first | refine blk_drewN ?_ _ | refine blk_drew ?_ | refine blk_alloc ?_ _)); refine blk_put (cs := #[.int .i64 0, .int .i64 0]) ?_ 0 _ rfl; (with_reducible repeat (first | refine blk_drewN ?_ _ | refine blk_drew ?_ | refine blk_alloc ?_ _)); refine blk_far ?_ NB105_104.out _; (with_reducible repeat (first | refine blk_drewN ?_ _ | refine blk_drew ?_ | refine blk_alloc ?_ _)); refine blk_far ?_ NB105_104.out _; (with_reducible repeat (first | refine blk_drewN ?_ _ | refine blk_drew ?_ | refine blk_alloc ?_ _)); exact BK105.out) hb); replace HB := Aside0.mk (below_step bh hb); (try clear hb); (try clear hb2); (try clear hk); (try clear hi)))
          go_ret
          exact ⟨by first | rfl | (simp [errW_none, errW_some] <;> rfl) | (simp only [← hji8]; first | rfl | (simp [errW_none, errW_some] <;> rfl)) | (simp [*, errW_none, errW_some] <;> rfl), bh⟩
         ·replace c12 := Bool.eq_false_iff.mpr c12
          subst c12
          rw [if_neg (show ¬ (false = true) by decide)] at H
          have HC28 := Aside0.mk H
          clear H
          try go_wp2
          replace BK101 := Aside0.mk (blk_drew BK101.out)
          replace HB := Aside0.mk (below_drew1 HB.out)
          have p102 : 0 ≤ (x11_1 : Int) := dt
          have q102 : x11_1 < (l0.length : Int) := dt
          obtain ⟨ad102, e102, hx102_0, hx102_1⟩ := at_T29 HR0.out x11_1 p102 q102
          have hw102_1 := hx102_1
          have hw102_0 := hx102_0
          cases e102
          replace hx102_0 := hc HB hx102_0
          replace hx102_1 := hc HB hx102_1
          replace p102 := eq_true p102
          replace q102 := eq_true q102
          have p103 : 0 ≤ ((ji8) : Int) := dt
          have q103 : (ji8) < (l0.length : Int) := dt
          obtain ⟨ad103, e103, hx103_0, hx103_1⟩ := at_T29 HR0.out (ji8) p103 q103
          have hw103_1 := hx103_1
          have hw103_0 := hx103_0
          obtain rfl : ad102 = ad103 := (by injection e103)
          replace hx103_0 := hc HB hx103_0
          replace hx103_1 := hc HB hx103_1
          replace p103 := eq_true p103
          replace q103 := eq_true q103
          refine start_ (n := 16) (S := fun w' => w'.cell? (ad102.add ((x11_1).toNat * 2)) = some (.int .i64 ((rd_T29 l0 x11_1).f0)) ∧ w'.cell? ⟨(ad102.add ((x11_1).toNat * 2)).block, (ad102.add ((x11_1).toNat * 2)).off + 1, none⟩ = some (.int .i64 ((rd_T29 l0 x11_1).f1)) ∧ w'.cell? (ad102.add (((ji8)).toNat * 2)) = some (.int .i64 ((rd_T29 l0 (ji8)).f0)) ∧ w'.cell? ⟨(ad102.add (((ji8)).toNat * 2)).block, (ad102.add (((ji8)).toNat * 2)).off + 1, none⟩ = some (.int .i64 ((rd_T29 l0 (ji8)).f1))) (ds := []) #[false, false, false, false, false, false, false, false, false, false, false, false, false, false, false, false] (by kernel_rfl) rfl rfl ⟨(hc HB hw102_0), (hc HB hw102_1), (hc HB hw103_0), (hc HB hw103_1)⟩ (fun hHeld => ?_); refine with_tabW shape_where.tab5 shape_where.bits5 (fun HT_ HW_ => ?_)
          generalize wr.drew = w29 at BK101 HB hx102_0 hx102_1 hx103_0 hx103_1 hHeld ⊢
          refine pu 0 14 HT_ ?_
          refine pu 1 15 HT_ ?_
          refine pu 2 16 HT_ ?_
          refine pu 4 18 HT_ ?_
          refine pu 5 19 HT_ ?_
          refine pu 6 20 HT_ ?_
          refine pu 7 21 HT_ ?_
          refine pu 8 22 HT_ ?_
          refine pu 9 23 HT_ ?_
          refine pu 10 24 HT_ ?_
          refine tk4 3 17 hHeld HT_ HW_ ?_
          refine tk4 11 25 hHeld HT_ HW_ ?_
          refine join_ (σ := Nat × Nat) 2 #[true, true, true, true, true, true, true, true, true, true, true, true, true, true, false, false] (fun s_ => [(7, .pointer (some ⟨s_.1, 0, none⟩)), (8, .pointer (some ⟨s_.2, 0, none⟩))]) (fun s_ w' => (w'.cell? (ad102.add ((x11_1).toNat * 2)) = some (.int .i64 ((rd_T29 l0 x11_1).f0)) ∧ w'.cell? ⟨(ad102.add ((x11_1).toNat * 2)).block, (ad102.add ((x11_1).toNat * 2)).off + 1, none⟩ = some (.int .i64 ((rd_T29 l0 x11_1).f1)) ∧ w'.cell? (ad102.add (((ji8)).toNat * 2)) = some (.int .i64 ((rd_T29 l0 (ji8)).f0)) ∧ w'.cell? ⟨(ad102.add (((ji8)).toNat * 2)).block, (ad102.add (((ji8)).toNat * 2)).off + 1, none⟩ = some (.int .i64 ((rd_T29 l0 (ji8)).f1))) ∧ (w'.heap[gb101]? = some (.cells #[.int .i64 a1_0, .int .i64 a1_1] 29 (0, 0))) ∧ (w'.heap[s_.1]? = some (.cells #[.int .i64 0, .int .i64 0] 29 (0, 0))) ∧ (w'.heap[s_.2]? = some (.cells #[.int .i64 0, .int .i64 0] 29 (0, 0))) ∧ (w.heap.size ≤ s_.1) ∧ (w.heap.size ≤ s_.1) ∧ (gb101 ≠ s_.1) ∧ (s_.1 ≠ gb101) ∧ (s_.2 ≠ s_.1) ∧ (s_.1 ≠ s_.2) ∧ (w.heap.size ≤ s_.2) ∧ (w.heap.size ≤ s_.2) ∧ (gb101 ≠ s_.2) ∧ (s_.2 ≠ gb101) ∧ (Below w.heap.size w w')) ?_ ?_
          rotate_left
          ·intro hCont
           refine two_ (i := 12) (j := 13) (Ni := some 7) (Nj := some 8) #[true, true, true, true, true, true, true, true, true, true, true, true, true, false, false, false] #[true, true, true, true, true, true, true, true, true, true, true, true, false, true, false, false] rfl rfl rfl rfl (on2 HT_) (by decide) (by decide) (fun K hK => ?_) (fun K hK => ?_)
           ·skip
            refine bxs 7 #[.int .i64 0, .int .i64 0] 29 ?_
            intro gb104 hg w30 hbox hb
            have BK104 := Aside0.mk (hbox)
            have GW104 := Aside0.mk (gs hg : w.heap.size ≤ gb104)
            have GE104 := Aside0.mk (gs hg : w.heap.size ≤ gb104)
            have NB101_104 := Aside0.mk ((by rw [hg]; exact Nat.ne_of_lt (kl BK101) : gb101 ≠ gb104))
            have NB104_101 := Aside0.mk ((by rw [hg]; exact Nat.ne_of_gt (kl BK101) : gb104 ≠ gb101))
            replace BK101 := kb BK101 hb
            replace HB := Aside0.mk (below_step bh hb)
            clear hb hbox hg
            refine hK.out _ _ ⟨(hc HB hw102_0), (hc HB hw102_1), (hc HB hw103_0), (hc HB hw103_1)⟩ (fun hHeld => ?_)
            clear hK K
            refine nm 7 ?_
            refine one_ (i := 13) (N := some 8) #[true, true, true, true, true, true, true, true, true, true, true, true, true, true, false, false] rfl rfl (on1 HT_) (by decide) (fun K hK => ?_)
            refine bxs 8 #[.int .i64 0, .int .i64 0] 29 ?_
            intro gb105 hg w31 hbox hb
            have BK105 := Aside0.mk (hbox)
            have GW105 := Aside0.mk (gs hg : w.heap.size ≤ gb105)
            have GE105 := Aside0.mk (gs hg : w.heap.size ≤ gb105)
            have NB101_105 := Aside0.mk ((by rw [hg]; exact Nat.ne_of_lt (kl BK101) : gb101 ≠ gb105))
            have NB105_101 := Aside0.mk ((by rw [hg]; exact Nat.ne_of_gt (kl BK101) : gb105 ≠ gb101))
            have NB104_105 := Aside0.mk ((by rw [hg]; exact Nat.ne_of_lt (kl BK104) : gb104 ≠ gb105))
            have NB105_104 := Aside0.mk ((by rw [hg]; exact Nat.ne_of_gt (kl BK104) : gb105 ≠ gb104))
            replace BK101 := kb BK101 hb
            replace BK104 := kb BK104 hb
            replace HB := Aside0.mk (below_step bh hb)
            clear hb hbox hg
            refine hK.out _ _ ⟨(hc HB hw102_0), (hc HB hw102_1), (hc HB hw103_0), (hc HB hw103_1)⟩ (fun hHeld => ?_)
            clear hK K
            refine nm 8 ?_
            exact norm_ pa (hCont (gb104, gb105) _ ⟨hHeld, bk BK101, bk BK104, bk BK105, GW104.out, GE104.out, NB101_104.out, NB104_101.out, NB105_104.out, NB104_105.out, GW105.out, GE105.out, NB101_105.out, NB105_101.out, bh⟩)
           ·skip
            refine bxs 8 #[.int .i64 0, .int .i64 0] 29 ?_
            intro gb105 hg w30 hbox hb
            have BK105 := Aside0.mk (hbox)
            have GW105 := Aside0.mk (gs hg : w.heap.size ≤ gb105)
            have GE105 := Aside0.mk (gs hg : w.heap.size ≤ gb105)
            have NB101_105 := Aside0.mk ((by rw [hg]; exact Nat.ne_of_lt (kl BK101) : gb101 ≠ gb105))
            have NB105_101 := Aside0.mk ((by rw [hg]; exact Nat.ne_of_gt (kl BK101) : gb105 ≠ gb101))
            replace BK101 := kb BK101 hb
            replace HB := Aside0.mk (below_step bh hb)
            clear hb hbox hg
            refine hK.out _ _ ⟨(hc HB hw102_0), (hc HB hw102_1), (hc HB hw103_0), (hc HB hw103_1)⟩ (fun hHeld => ?_)
            clear hK K
            refine nm 8 ?_
            refine one_ (i := 12) (N := some 7) #[true, true, true, true, true, true, true, true, true, true, true, true, true, true, false, false] rfl rfl (on1 HT_) (by decide) (fun K hK => ?_)
            refine bxs 7 #[.int .i64 0, .int .i64 0] 29 ?_
            intro gb104 hg w31 hbox hb
            have BK104 := Aside0.mk (hbox)
            have GW104 := Aside0.mk (gs hg : w.heap.size ≤ gb104)
            have GE104 := Aside0.mk (gs hg : w.heap.size ≤ gb104)
            have NB101_104 := Aside0.mk ((by rw [hg]; exact Nat.ne_of_lt (kl BK101) : gb101 ≠ gb104))
            have NB104_101 := Aside0.mk ((by rw [hg]; exact Nat.ne_of_gt (kl BK101) : gb104 ≠ gb101))
            have NB105_104 := Aside0.mk ((by rw [hg]; exact Nat.ne_of_lt (kl BK105) : gb105 ≠ gb104))
            have NB104_105 := Aside0.mk ((by rw [hg]; exact Nat.ne_of_gt (kl BK105) : gb104 ≠ gb105))
            replace BK101 := kb BK101 hb
            replace BK105 := kb BK105 hb
            replace HB := Aside0.mk (below_step bh hb)
            clear hb hbox hg
            refine hK.out _ _ ⟨(hc HB hw102_0), (hc HB hw102_1), (hc HB hw103_0), (hc HB hw103_1)⟩ (fun hHeld => ?_)
            clear hK K
            refine nm 7 ?_
            exact norm_ pa (hCont (gb104, gb105) _ ⟨hHeld, bk BK101, bk BK104, bk BK105, GW104.out, GE104.out, NB101_104.out, NB104_101.out, NB105_104.out, NB104_105.out, GW105.out, GE105.out, NB101_105.out, NB105_101.out, bh⟩)
          rintro ⟨gb104, gb105⟩ w32 ⟨hS_, h0_, h1_, h2_, h3_, h4_, h5_, h6_, h7_, h8_, h9_, h10_, h11_, h12_, h13_⟩
          have BK104 := Aside0.mk h1_
          have BK105 := Aside0.mk h2_
          have GW104 := Aside0.mk h3_
          have GE104 := Aside0.mk h4_
          have NB101_104 := Aside0.mk h5_
          have NB104_101 := Aside0.mk h6_
          have NB105_104 := Aside0.mk h7_
          have NB104_105 := Aside0.mk h8_
          have GW105 := Aside0.mk h9_
          have GE105 := Aside0.mk h10_
          have NB101_105 := Aside0.mk h11_
          have NB105_101 := Aside0.mk h12_
          replace BK101 := Aside0.mk h0_
          replace HB := Aside0.mk h13_
          clear h0_ h1_ h2_ h3_ h4_ h5_ h6_ h7_ h8_ h9_ h10_ h11_ h12_ h13_
          have hHeld := hS_
          refine nn ?_
          refine one_ (i := 14) (N := none) #[true, true, true, true, true, true, true, true, true, true, true, true, true, true, true, false] rfl rfl (on1 HT_) (by decide) (fun K hK => ?_)
          have hs33 : w32.cell? ⟨gb104, 0, none⟩ = some (.int .i64 0) := bc BK104 0
          have hfs33 := blk_frozen BK104.out 0
          have hns33_0 := NB101_104.out
          have hns33_2 := NB105_104.out
          have hms33_0 := NB104_101.out
          have hms33_2 := NB104_105.out
          have hs34 : w32.cell? ⟨gb104, 1, none⟩ = some (.int .i64 0) := bc BK104 1
          have hfs34 := blk_frozen BK104.out 1
          have hns34_0 := NB101_104.out
          have hns34_2 := NB105_104.out
          have hms34_0 := NB104_101.out
          have hms34_2 := NB104_105.out
          refine skip_ (w1 := ?_) (by rfl) rfl ?_ ?_
          rotate_left
          ·go_simp
           rfl
          refine hK.out _ _ ⟨((cell_far (p := ⟨gb104, _, none⟩) (fr hw102_0 GW104) _).trans (((cell_far (p := ⟨gb104, _, none⟩) (fr hw102_0 GW104) _).trans (hHeld.1)))), ((cell_far (p := ⟨gb104, _, none⟩) (fr hw102_1 GW104) _).trans (((cell_far (p := ⟨gb104, _, none⟩) (fr hw102_1 GW104) _).trans (hHeld.2.1)))), ((cell_far (p := ⟨gb104, _, none⟩) (fr hw103_0 GW104) _).trans (((cell_far (p := ⟨gb104, _, none⟩) (fr hw103_0 GW104) _).trans (hHeld.2.2.1)))), ((cell_far (p := ⟨gb104, _, none⟩) (fr hw103_1 GW104) _).trans (((cell_far (p := ⟨gb104, _, none⟩) (fr hw103_1 GW104) _).trans (hHeld.2.2.2))))⟩ (fun hHeld => ?_)
          clear hK K
          refine one_ (i := 15) (N := none) #[true, true, true, true, true, true, true, true, true, true, true, true, true, true, true, true] rfl rfl (on1 HT_) (by decide) (fun K hK => ?_)
          have hs35 : w32.cell? ⟨gb105, 0, none⟩ = some (.int .i64 0) := bc BK105 0
          have hfs35 := blk_frozen BK105.out 0
          have hns35_0 := NB101_105.out
          have hns35_1 := NB104_105.out
          have hms35_0 := NB105_101.out
          have hms35_1 := NB105_104.out
          have hs36 : w32.cell? ⟨gb105, 1, none⟩ = some (.int .i64 0) := bc BK105 1
          have hfs36 := blk_frozen BK105.out 1
          have hns36_0 := NB101_105.out
          have hns36_1 := NB104_105.out
          have hms36_0 := NB105_101.out
          have hms36_1 := NB105_104.out
          refine skip_ (w1 := ?_) (by rfl) rfl ?_ ?_
          rotate_left
          ·go_simp
           rfl
          refine hK.out _ _ ⟨((cell_far (p := ⟨gb105, _, none⟩) (fr hw102_0 GW105) _).trans (((cell_far (p := ⟨gb105, _, none⟩) (fr hw102_0 GW105) _).trans (hHeld.1)))), ((cell_far (p := ⟨gb105, _, none⟩) (fr hw102_1 GW105) _).trans (((cell_far (p := ⟨gb105, _, none⟩) (fr hw102_1 GW105) _).trans (hHeld.2.1)))), ((cell_far (p := ⟨gb105, _, none⟩) (fr hw103_0 GW105) _).trans (((cell_far (p := ⟨gb105, _, none⟩) (fr hw103_0 GW105) _).trans (hHeld.2.2.1)))), ((cell_far (p := ⟨gb105, _, none⟩) (fr hw103_1 GW105) _).trans (((cell_far (p := ⟨gb105, _, none⟩) (fr hw103_1 GW105) _).trans (hHeld.2.2.2))))⟩ (fun hHeld => ?_)
          clear hK K
          refine done_ (done_of HT_.out (by kernel_rfl)) ?_
          have hnb37 := NB104_101.out
          have hnc37 := NB101_104.out
          have hnb38 := NB104_105.out
          have hnc38 := NB105_104.out
          obtain ⟨hcz39_0, hcz39_1, hfz39_0, hfz39_1⟩ := b2 BK104
          have hnb40 := NB105_101.out
          have hnc40 := NB101_105.out
          obtain ⟨hcz41_0, hcz41_1, hfz41_0, hfz41_1⟩ := b2 BK105
          obtain ⟨hcz42_0, hcz42_1, hfz42_0, hfz42_1⟩ := b2 BK101
          go_upto_if 34 with (first | ((with_reducible refine gc 100 rfl ?_); refine goesL_ (some 29) rfl rfl Try.func100 (by kernel_rfl) rfl #[.agg #[.int .i64 ((rd_T29 l0 x11_1).f0), .int .i64 ((rd_T29 l0 x11_1).f1)], .agg #[.int .i64 ((rd_T29 l0 (ji8)).f0), .int .i64 ((rd_T29 l0 (ji8)).f1)], .agg #[.int .i64 a1_0, .int .i64 a1_1]] rfl (by (try simp only [List.map_toArray, List.map_cons, List.map_nil]); first | done | (simp only [hji8]; rfl) | rfl | (simp only [List.length_drop, List.length_take]; rfl)) ?_; (with_reducible refine (shape_on.calls ((rd_T29 l0 x11_1).f0) ((rd_T29 l0 x11_1).f1) ((rd_T29 l0 (ji8)).f0) ((rd_T29 l0 (ji8)).f1) a1_0 a1_1 false _ A11.out).mono ?_); rintro e w43 ⟨rfl, hb⟩; refine ⟨_, rfl, ?_⟩; replace BK101 := Aside0.mk (blk_below (g := gb101) (o := .cells #[.int .i64 a1_0, .int .i64 a1_1] 29 (0, 0)) (by (with_reducible repeat (first | refine blk_drewN ?_ _ | refine blk_drew ?_ | refine blk_alloc ?_ _)); refine blk_far ?_ NB101_105.out _; (with_reducible repeat (first | refine blk_drewN ?_ _ | refine blk_drew ?_ | refine blk_alloc ?_ _)); refine blk_far ?_ NB101_105.out _; (with_reducible repeat (first | refine blk_drewN ?_ _ | refine blk_drew ?_ | refine blk_alloc ?_ _)); refine blk_far ?_ NB101_104.out _; (with_reducible repeat (first | refine blk_drewN ?_ _ | refine blk_drew ?_ | refine blk_alloc ?_ _)); refine blk_far ?_ NB101_104.out _; (with_reducible repeat (first | refine blk_drewN ?_ _ | refine blk_drew ?_ | refine blk_alloc ?_ _)); exact BK101.out) hb); replace BK104 := Aside0.mk (blk_below (g := gb104) (o := .cells #[.int .i64 ((rd_T29 l0 x11_1).f0), .int .i64 ((rd_T29 l0 x11_1).f1)] 29 (0, 0)) (by (with_reducible repeat (first | refine blk_drewN ?_ _ | refine blk_drew ?_ | refine blk_alloc ?_ _)); refine blk_far ?_ NB104_105.out _; (with_reducible repeat (first | refine blk_drewN ?_ _ | refine blk_drew ?_ | refine blk_alloc ?_ _)); refine blk_far ?_ NB104_105.out _; (with_reducible repeat (first | refine blk_drewN ?_ _ | refine blk_drew ?_ | refine blk_alloc ?_ _)); refine blk_put (cs := #[.int .i64 ((rd_T29 l0 x11_1).f0), .int .i64 0]) ?_ 1 _ rfl; (with_reducible repeat (first | refine blk_drewN ?_ _ | refine blk_drew ?_ | refine blk_alloc ?_ _)); refine blk_put (cs := #[.int .i64 0, .int .i64 0]) ?_ 0 _ rfl; (with_reducible repeat (first | refine blk_drewN ?_ _ | refine blk_drew ?_ | refine blk_alloc ?_ _)); exact BK104.out) hb); replace BK105 := Aside0.mk (blk_below (g := gb105) (o := .cells #[.int .i64 ((rd_T29 l0 (ji8)).f0), .int .i64 ((rd_T29 l0 (ji8)).f1)] 29 (0, 0)) (by (with_reducible repeat (first | refine blk_drewN ?_ _ | refine blk_drew ?_ | refine blk_alloc ?_ _)); refine blk_put (cs := #[.int .i64 ((rd_T29 l0 (ji8)).f0), .int .i64 0]) ?_ 1 _ rfl; (with_reducible repeat (first | refine blk_drewN ?_ _ | refine blk_drew ?_ | refine blk_alloc ?_ _)); refine blk_put (cs := #[.int .i64 0, .int .i64 0]) ?_ 0 _ rfl; (with_reducible repeat (first | refine blk_drewN ?_ _ | refine blk_drew ?_ | refine blk_alloc ?_ _)); refine blk_far ?_ NB105_104.out _; (with_reducible repeat (first | refine blk_drewN ?_ _ | refine blk_drew ?_ | refine blk_alloc ?_ _)); refine blk_far ?_ NB105_104.out _; (with_reducible repeat (first | refine blk_drewN ?_ _ | refine blk_drew ?_ | refine blk_alloc ?_ _)); exact BK105.out) hb); replace HB := Aside0.mk (below_step bh hb); (try clear hb); (try clear hb2); (try clear hk); (try clear hi); have hcz44_0 : w43.cell? ⟨gb104, 0, none⟩ = some (.int .i64 ((rd_T29 l0 x11_1).f0)) := bc BK104 0; have hcz44_1 : w43.cell? ⟨gb104, 1, none⟩ = some (.int .i64 ((rd_T29 l0 x11_1).f1)) := bc BK104 1; have hfz44_0 := blk_frozen BK104.out 0; have hfz44_1 := blk_frozen BK104.out 1; have hcz45_0 : w43.cell? ⟨gb105, 0, none⟩ = some (.int .i64 ((rd_T29 l0 (ji8)).f0)) := bc BK105 0; have hcz45_1 : w43.cell? ⟨gb105, 1, none⟩ = some (.int .i64 ((rd_T29 l0 (ji8)).f1)) := bc BK105 1; have hfz45_0 := blk_frozen BK105.out 0; have hfz45_1 := blk_frozen BK105.out 1))
          (try simp only [Act.put, List.setIfInBounds_toArray, List.set_cons_zero, List.set_cons_succ])
          go_cut [] (fun wc => ∃ (kq : Nat) (x105000_27 : Int) (x105001_27 : Int) (x106000_27 : Int) (x106001_27 : Int), Aside0 (shape_where.j1 kq l0 x5_1 (l0.length : Int) x11_1 a1_0 a1_1 x105000_27 x105001_27 x106000_27 x106001_27 = some r) ∧ Aside0 (kq ≤ k1) ∧ Aside0 (wc.heap[gb101]? = some (.cells #[.int .i64 a1_0, .int .i64 a1_1] 29 (0, 0))) ∧ Aside0 (wc.heap[gb104]? = some (.cells #[.int .i64 x105000_27, .int .i64 x105001_27] 29 (0, 0))) ∧ Aside0 (wc.heap[gb105]? = some (.cells #[.int .i64 x106000_27, .int .i64 x106001_27] 29 (0, 0))) ∧ Aside0 (Below w.heap.size w wc))
          case first =>
           have H := HC28.out
           clear HC28
           by_cases c46 : ((rd_T29 l0 x11_1).f1) > ((rd_T29 l0 (ji8)).f1)
           ·rw [if_pos c46] at H
            have c46b0 := decide_eq_true c46
            clear c46
            (first | rw [c46b0] | (simp only [i64_w, i32_w]; rw [c46b0]) | skip)
            have H' := Aside0.mk H
            clear H
            have hnb47 := NB105_101.out
            have hnc47 := NB101_105.out
            have hnb48 := NB105_104.out
            have hnc48 := NB104_105.out
            obtain ⟨hcz49_0, hcz49_1, hfz49_0, hfz49_1⟩ := b2 BK105
            have hnb50 := NB104_101.out
            have hnc50 := NB101_104.out
            obtain ⟨hcz51_0, hcz51_1, hfz51_0, hfz51_1⟩ := b2 BK104
            go_wp2
            go_meet
            case rel => exact ⟨_, ((rd_T29 l0 (ji8)).f0), ((rd_T29 l0 (ji8)).f1), ((rd_T29 l0 x11_1).f0), ((rd_T29 l0 x11_1).f1), H', ⟨by have := HK1.out; first | omega | exact Nat.le_refl _⟩, ⟨by (with_reducible repeat (first | refine blk_drewN ?_ _ | refine blk_drew ?_ | refine blk_alloc ?_ _)); refine blk_far ?_ NB101_105.out _; (with_reducible repeat (first | refine blk_drewN ?_ _ | refine blk_drew ?_ | refine blk_alloc ?_ _)); refine blk_far ?_ NB101_105.out _; (with_reducible repeat (first | refine blk_drewN ?_ _ | refine blk_drew ?_ | refine blk_alloc ?_ _)); refine blk_far ?_ NB101_104.out _; (with_reducible repeat (first | refine blk_drewN ?_ _ | refine blk_drew ?_ | refine blk_alloc ?_ _)); refine blk_far ?_ NB101_104.out _; (with_reducible repeat (first | refine blk_drewN ?_ _ | refine blk_drew ?_ | refine blk_alloc ?_ _)); exact BK101.out⟩, ⟨by (with_reducible repeat (first | refine blk_drewN ?_ _ | refine blk_drew ?_ | refine blk_alloc ?_ _)); refine blk_far ?_ NB104_105.out _; (with_reducible repeat (first | refine blk_drewN ?_ _ | refine blk_drew ?_ | refine blk_alloc ?_ _)); refine blk_far ?_ NB104_105.out _; (with_reducible repeat (first | refine blk_drewN ?_ _ | refine blk_drew ?_ | refine blk_alloc ?_ _)); refine blk_put (cs := #[.int .i64 ((rd_T29 l0 (ji8)).f0), .int .i64 ((rd_T29 l0 x11_1).f1)]) ?_ 1 _ rfl; (with_reducible repeat (first | refine blk_drewN ?_ _ | refine blk_drew ?_ | refine blk_alloc ?_ _)); refine blk_put (cs := #[.int .i64 ((rd_T29 l0 x11_1).f0), .int .i64 ((rd_T29 l0 x11_1).f1)]) ?_ 0 _ rfl; (with_reducible repeat (first | refine blk_drewN ?_ _ | refine blk_drew ?_ | refine blk_alloc ?_ _)); exact BK104.out⟩, ⟨by (with_reducible repeat (first | refine blk_drewN ?_ _ | refine blk_drew ?_ | refine blk_alloc ?_ _)); refine blk_put (cs := #[.int .i64 ((rd_T29 l0 x11_1).f0), .int .i64 ((rd_T29 l0 (ji8)).f1)]) ?_ 1 _ rfl; (with_reducible repeat (first | refine blk_drewN ?_ _ | refine blk_drew ?_ | refine blk_alloc ?_ _)); refine blk_put (cs := #[.int .i64 ((rd_T29 l0 (ji8)).f0), .int .i64 ((rd_T29 l0 (ji8)).f1)]) ?_ 0 _ rfl; (with_reducible repeat (first | refine blk_drewN ?_ _ | refine blk_drew ?_ | refine blk_alloc ?_ _)); refine blk_far ?_ NB105_104.out _; (with_reducible repeat (first | refine blk_drewN ?_ _ | refine blk_drew ?_ | refine blk_alloc ?_ _)); refine blk_far ?_ NB105_104.out _; (with_reducible repeat (first | refine blk_drewN ?_ _ | refine blk_drew ?_ | refine blk_alloc ?_ _)); exact BK105.out⟩, ⟨bh⟩⟩
           ·rw [if_neg c46] at H
            have c46b0 := decide_eq_false c46
            clear c46
            (first | rw [c46b0] | (simp only [i64_w, i32_w]; rw [c46b0]) | skip)
            have H' := Aside0.mk H
            clear H
            go_wp2
            go_meet
            case rel => exact ⟨_, ((rd_T29 l0 x11_1).f0), ((rd_T29 l0 x11_1).f1), ((rd_T29 l0 (ji8)).f0), ((rd_T29 l0 (ji8)).f1), H', ⟨by have := HK1.out; first | omega | exact Nat.le_refl _⟩, ⟨bk BK101⟩, ⟨bk BK104⟩, ⟨bk BK105⟩, ⟨bh⟩⟩
          case rest =>
           clear HC28
           (try clear c1); (try clear p1); (try clear q1); (try clear hx1); (try clear c2); (try clear p2); (try clear c3); (try clear c4); (try clear c5); (try clear c10); (try clear p10); (try clear q10); (try clear hx10); (try clear c12); (try clear c21); (try clear c22); (try clear c24); (try clear c37); (try clear c38); (try clear c40); (try clear c46); (try clear c46b0); (try clear c47); (try clear c48); (try clear c50); (try clear hcz23_0); (try clear hcz23_1); (try clear hcz25_0); (try clear hcz25_1); (try clear hcz26_0); (try clear hcz26_1); (try clear hcz39_0); (try clear hcz39_1); (try clear hcz41_0); (try clear hcz41_1); (try clear hcz42_0); (try clear hcz42_1); (try clear hcz44_0); (try clear hcz44_1); (try clear hcz45_0); (try clear hcz45_1); (try clear hcz49_0); (try clear hcz49_1); (try clear hcz51_0); (try clear hcz51_1); (try clear hfz23_0); (try clear hfz23_1); (try clear hfz25_0); (try clear hfz25_1); (try clear hfz26_0); (try clear hfz26_1); (try clear hfz39_0); (try clear hfz39_1); (try clear hfz41_0); (try clear hfz41_1); (try clear hfz42_0); (try clear hfz42_1); (try clear hfz44_0); (try clear hfz44_1); (try clear hfz45_0); (try clear hfz45_1); (try clear hfz49_0); (try clear hfz49_1); (try clear hfz51_0); (try clear hfz51_1); (try clear hx102_0); (try clear hx102_1); (try clear hx103_0); (try clear hx103_1); (try clear p102); (try clear p103); (try clear q102); (try clear q103)
           obtain ⟨kq, x105000_27, x105001_27, x106000_27, x106001_27, HA, HJ27, BK101, BK104, BK105, HB⟩ := hcut
           cases kq with
           | zero => exact absurd HA.out (by simp [shape_where.j1])
           | succ kj27 =>
            have H := HA.out
            clear HA
            simp only [shape_where.j1] at H
            have HC52 := Aside0.mk H
            clear H
            go_upto_region 10 with (fail)
            go_cut [55] (fun v55 wc => ∃ (kq : Nat) (x55_51 : Bool), v55 = .bool x55_51 ∧ Aside0 (shape_where.j2 kq l0 x5_1 (l0.length : Int) x11_1 x55_51 a1_0 a1_1 = some r) ∧ Aside0 (kq ≤ kj27) ∧ Aside0 (wc.heap[gb101]? = some (.cells #[.int .i64 a1_0, .int .i64 a1_1] 29 (0, 0))) ∧ Aside0 (wc.heap[gb104]? = some (.cells #[.int .i64 x105000_27, .int .i64 x105001_27] 29 (0, 0))) ∧ Aside0 (wc.heap[gb105]? = some (.cells #[.int .i64 x106000_27, .int .i64 x106001_27] 29 (0, 0))) ∧ Aside0 (Below w.heap.size w wc))
            case first =>
             have H := HC52.out
             clear HC52
             by_cases c53 : x105001_27 ≤ a1_1
             ·rw [if_pos c53] at H
              have c53b0 := decide_eq_true c53
              clear c53
              (first | rw [c53b0] | (simp only [i64_w, i32_w]; rw [c53b0]) | skip)
              by_cases c54 : a1_1 < x106001_27
              ·rw [if_pos c54] at H
               have c54b0 := decide_eq_true c54
               clear c54
               replace H := Option.bind_eq_some_iff.mp H
               obtain ⟨t107, A550, H⟩ := H
               try dsimp only at H
               have A55 := Aside0.mk A550
               clear A550
               have H' := Aside0.mk H
               clear H
               have hnb56 := NB104_101.out
               have hnc56 := NB101_104.out
               have hnb57 := NB104_105.out
               have hnc57 := NB105_104.out
               obtain ⟨hcz58_0, hcz58_1, hfz58_0, hfz58_1⟩ := b2 BK104
               have hnb59 := NB101_105.out
               have hnc59 := NB105_101.out
               obtain ⟨hcz60_0, hcz60_1, hfz60_0, hfz60_1⟩ := b2 BK101
               obtain ⟨hcz61_0, hcz61_1, hfz61_0, hfz61_1⟩ := b2 BK105
               go_wp2_with (first | (go_at_call 91; (with_reducible refine (shape_side.calls x105000_27 x105001_27 x106000_27 x106001_27 a1_0 a1_1 t107 _ A55.out).mono ?_); rintro e w62 ⟨rfl, hb⟩; replace BK101 := kb BK101 hb; replace BK104 := kb BK104 hb; replace BK105 := kb BK105 hb; replace HB := Aside0.mk (below_step bh hb); (try clear hb); (try clear hb2); (try clear hk); (try clear hi)))
               go_meet
               case rel => exact ⟨_, (decide (t107 > 0)), sd, H', ⟨by have := HK1.out; have := HJ27.out; first | omega | exact Nat.le_refl _⟩, ⟨bk BK101⟩, ⟨bk BK104⟩, ⟨bk BK105⟩, ⟨bh⟩⟩
              ·rw [if_neg c54] at H
               have c54b0 := decide_eq_false c54
               clear c54
               have H' := Aside0.mk H
               clear H
               have hnb63 := NB104_101.out
               have hnc63 := NB101_104.out
               have hnb64 := NB104_105.out
               have hnc64 := NB105_104.out
               obtain ⟨hcz65_0, hcz65_1, hfz65_0, hfz65_1⟩ := b2 BK104
               have hnb66 := NB101_105.out
               have hnc66 := NB105_101.out
               obtain ⟨hcz67_0, hcz67_1, hfz67_0, hfz67_1⟩ := b2 BK101
               obtain ⟨hcz68_0, hcz68_1, hfz68_0, hfz68_1⟩ := b2 BK105
               go_wp2
               go_meet
               case rel => exact ⟨_, (false), sd, H', ⟨by have := HK1.out; have := HJ27.out; first | omega | exact Nat.le_refl _⟩, ⟨bk BK101⟩, ⟨bk BK104⟩, ⟨bk BK105⟩, ⟨bh⟩⟩
             ·rw [if_neg c53] at H
              have c53b0 := decide_eq_false c53
              clear c53
              (first | rw [c53b0] | (simp only [i64_w, i32_w]; rw [c53b0]) | skip)
              have H' := Aside0.mk H
              clear H
              have hnb69 := NB104_101.out
              have hnc69 := NB101_104.out
              have hnb70 := NB104_105.out
              have hnc70 := NB105_104.out
              obtain ⟨hcz71_0, hcz71_1, hfz71_0, hfz71_1⟩ := b2 BK104
              have hnb72 := NB101_105.out
              have hnc72 := NB105_101.out
              obtain ⟨hcz73_0, hcz73_1, hfz73_0, hfz73_1⟩ := b2 BK101
              go_wp2
              go_meet
              case rel => exact ⟨_, (false), sd, H', ⟨by have := HK1.out; have := HJ27.out; first | omega | exact Nat.le_refl _⟩, ⟨bk BK101⟩, ⟨bk BK104⟩, ⟨bk BK105⟩, ⟨bh⟩⟩
            case rest =>
             clear HC52
             (try clear c1); (try clear p1); (try clear q1); (try clear hx1); (try clear c2); (try clear p2); (try clear c3); (try clear c4); (try clear c5); (try clear c6); (try clear c7); (try clear c10); (try clear p10); (try clear q10); (try clear hx10); (try clear c12); (try clear c21); (try clear c22); (try clear c24); (try clear c37); (try clear c38); (try clear c40); (try clear c46); (try clear c46b0); (try clear c47); (try clear c48); (try clear c50); (try clear c53); (try clear c53b0); (try clear c54); (try clear c54b0); (try clear c56); (try clear c57); (try clear c59); (try clear c63); (try clear c64); (try clear c66); (try clear c69); (try clear c70); (try clear c72); (try clear hcz23_0); (try clear hcz23_1); (try clear hcz25_0); (try clear hcz25_1); (try clear hcz26_0); (try clear hcz26_1); (try clear hcz39_0); (try clear hcz39_1); (try clear hcz41_0); (try clear hcz41_1); (try clear hcz42_0); (try clear hcz42_1); (try clear hcz44_0); (try clear hcz44_1); (try clear hcz45_0); (try clear hcz45_1); (try clear hcz49_0); (try clear hcz49_1); (try clear hcz51_0); (try clear hcz51_1); (try clear hcz58_0); (try clear hcz58_1); (try clear hcz60_0); (try clear hcz60_1); (try clear hcz61_0); (try clear hcz61_1); (try clear hcz65_0); (try clear hcz65_1); (try clear hcz67_0); (try clear hcz67_1); (try clear hcz68_0); (try clear hcz68_1); (try clear hcz71_0); (try clear hcz71_1); (try clear hcz73_0); (try clear hcz73_1); (try clear hfz23_0); (try clear hfz23_1); (try clear hfz25_0); (try clear hfz25_1); (try clear hfz26_0); (try clear hfz26_1); (try clear hfz39_0); (try clear hfz39_1); (try clear hfz41_0); (try clear hfz41_1); (try clear hfz42_0); (try clear hfz42_1); (try clear hfz44_0); (try clear hfz44_1); (try clear hfz45_0); (try clear hfz45_1); (try clear hfz49_0); (try clear hfz49_1); (try clear hfz51_0); (try clear hfz51_1); (try clear hfz58_0); (try clear hfz58_1); (try clear hfz60_0); (try clear hfz60_1); (try clear hfz61_0); (try clear hfz61_1); (try clear hfz65_0); (try clear hfz65_1); (try clear hfz67_0); (try clear hfz67_1); (try clear hfz68_0); (try clear hfz68_1); (try clear hfz71_0); (try clear hfz71_1); (try clear hfz73_0); (try clear hfz73_1); (try clear hx102_0); (try clear hx102_1); (try clear hx103_0); (try clear hx103_1); (try clear p1); (try clear p10); (try clear p102); (try clear p103); (try clear p2); (try clear q1); (try clear q10); (try clear q102); (try clear q103)
             obtain ⟨kq, x55_51, rfl, HA, HJ51, BK101, BK104, BK105, HB⟩ := hcut
             cases kq with
             | zero => exact absurd HA.out (by simp [shape_where.j2])
             | succ kj51 =>
              have H := HA.out
              clear HA
              simp only [shape_where.j2] at H
              by_cases c74 : x55_51 = true
              ·subst c74
               rw [if_pos rfl] at H
               have H' := Aside0.mk H
               clear H
               go_wp2
               go_roundg kj51
               case measure => have := HK1.out; have := HJ27.out; have := HJ51.out; omega
               case rel => exact ⟨(wrap64 (-x5_1)), (wrap64 (x11_1 + 1)), sd, sd, H', ⟨by have := HK1.out; have := HJ27.out; have := HJ51.out; omega⟩, ⟨bk BK101⟩, ⟨bh⟩⟩
              ·replace c74 := Bool.eq_false_iff.mpr c74
               subst c74
               rw [if_neg (show ¬ (false = true) by decide)] at H
               have H' := Aside0.mk H
               clear H
               go_wp2
               go_roundg kj51
               case measure => have := HK1.out; have := HJ27.out; have := HJ51.out; omega
               case rel => exact ⟨(x5_1), (wrap64 (x11_1 + 1)), sd, sd, H', ⟨by have := HK1.out; have := HJ27.out; have := HJ51.out; omega⟩, ⟨bk BK101⟩, ⟨bh⟩⟩
        ·rw [if_neg c10] at H
         exact absurd H (by simp)
       ·rw [if_neg c9] at H
        exact absurd H (by simp)
     ·rw [if_neg c6] at H
      exact absurd H (by simp)
    ·rw [if_neg c5] at H
     exact absurd H (by simp)
   ·rw [if_neg c4] at H
    have c4b0 := decide_eq_false c4
    clear c4
    obtain rfl := Option.some.inj H
    go_wp2
    go_ret
    exact ⟨by exact er, bh⟩
/-! ### shape_Where: function 32 -/
def shape_Where.f (k : Nat) (l0 : List (S29)) (a1_0 : Int) (a1_1 : Int) : Option (Int × Int) := (shape_refused_simple.f k l0).bind fun t102 => (if t102 = 0 then ((shape_within.f (([(⟨a1_0, a1_1⟩ : S29)] : List (S29))) 10000).bind fun t106 => (if t106 = true then ((shape_where.f k l0 a1_0 a1_1).bind fun t107 => (some (t107, 0))) else (some (0, 1)))) else (some (0, t102)))
set_option maxHeartbeats 8000000 in
set_option maxRecDepth 100000 in
theorem shape_Where.calls (k : Nat) (A0 : Option Addr) (c0 : Nat) (l0 : List (S29)) (a1_0 : Int) (a1_1 : Int) (r1 : Int) (r2 : Int) (w : World) (hr0 : Kd.C k29 w A0 l0.length l0) (hc0 : l0.length ≤ c0) (h : shape_Where.f k l0 a1_0 a1_1 = some (r1, r2)) :
  Calls Try.prog 32 #[.slice A0 l0.length c0, .agg #[.int .i64 a1_0, .int .i64 a1_1]] w fun e w' => e = .returned (.tuple #[.int .i64 r1, .int .i64 r2]) ∧ Below w.heap.size w w' := by
 have hu29 := Try.underlying29
 have HR0 := Aside0.mk hr0
 have HC0 := Aside0.mk hc0
 clear hr0 hc0
 have HB := Aside0.mk (Below.refl w.heap.size w)
 have H : ((shape_refused_simple.f k l0).bind fun t102 => (if t102 = 0 then ((shape_within.f (([(⟨a1_0, a1_1⟩ : S29)] : List (S29))) 10000).bind fun t106 => (if t106 = true then ((shape_where.f k l0 a1_0 a1_1).bind fun t107 => (some (t107, 0))) else (some (0, 1)))) else (some (0, t102)))) = some (r1, r2) := h
 clear h
 replace H := Option.bind_eq_some_iff.mp H
 obtain ⟨t102, A30, H⟩ := H
 replace H : (if t102 = 0 then ((shape_within.f (([(⟨a1_0, a1_1⟩ : S29)] : List (S29))) 10000).bind fun t106 => (if t106 = true then ((shape_where.f k l0 a1_0 a1_1).bind fun t107 => (some (t107, 0))) else (some (0, 1)))) else (some (0, t102))) = some (r1, r2) := H
 have A3 := Aside0.mk A30
 clear A30
 by_cases c4 : t102 = 0
 ·rw [if_pos c4] at H
  have c4b0 : (t102 == 0) = true := beq_iff_eq.mpr c4
  have c4b1 : (t102 != 0) = false := bne_eq_false_iff_eq.mpr c4
  clear c4
  obtain ⟨y103, hy103⟩ : ∃ y_ : List (S29), y_ = (([(⟨a1_0, a1_1⟩ : S29)] : List (S29))) := ⟨_, rfl⟩
  replace H : ((shape_within.f y103 10000).bind fun t106 => (if t106 = true then ((shape_where.f k l0 a1_0 a1_1).bind fun t107 => (some (t107, 0))) else (some (0, 1)))) = some (r1, r2) := by first | (rw [hy103]; with_reducible exact H) | (have H2_ := (Option.bind_some _ _).symm.trans H; rw [hy103]; with_reducible exact H2_) | (have H2_ := (Option.bind_some _ _).symm.trans H; with_reducible exact H2_) | with_reducible exact H | (rw [hy103]; exact H) | exact H
  have Ny103 := Aside0.mk hy103
  clear hy103
  replace H := Option.bind_eq_some_iff.mp H
  obtain ⟨t106, A50, H⟩ := H
  replace H : (if t106 = true then ((shape_where.f k l0 a1_0 a1_1).bind fun t107 => (some (t107, 0))) else (some (0, 1))) = some (r1, r2) := H
  have A5 := Aside0.mk A50
  clear A50
  by_cases c6 : t106 = true
  ·subst c6
   rw [if_pos rfl] at H
   replace H := Option.bind_eq_some_iff.mp H
   obtain ⟨t107, A70, H⟩ := H
   replace H : (some (t107, 0)) = some (r1, r2) := H
   have A7 := Aside0.mk A70
   clear A70
   simp only [Option.some.injEq, Prod.mk.injEq] at H
   obtain ⟨rfl, rfl⟩ := H
   go_enter Try.func32, Try.ntmps32
   go_wp2_with (first | ((with_reducible refine gate_dst (N := 3) rfl ?_); refine bxe 3 #[.int .i64 a1_0, .int .i64 a1_1] 29 ?_; intro gb101 hg w8 hbox hb; have BK101 := Aside0.mk (hbox); have GW101 := Aside0.mk (gs hg : w.heap.size ≤ gb101); have GE101 := Aside0.mk (gs hg : w.heap.size ≤ gb101); replace HB := Aside0.mk (below_step bh hb); clear hb hbox hg) | ((with_reducible refine gc 68 rfl ?_); refine goesL_ (some 8) rfl rfl Try.func68 (by kernel_rfl) rfl #[.slice A0 l0.length c0, .func (.func 69) #[] #[]] rfl sg ?_; (with_reducible refine (shape_refused_simple.calls k _ _ l0  t102 _ ?side1 ?side2 A3.out).mono ?_); (case side1 => exact cs (Kd.C_below HR0.out HB.out)); (case side2 => exact HC0.out); rintro e w9 ⟨rfl, hb⟩; refine ⟨_, rfl, ?_⟩; replace BK101 := kb BK101 hb; replace HB := Aside0.mk (below_step bh hb); (try clear hb); (try clear hb2); (try clear hk); (try clear hi); have hcz10_0 : w9.cell? ⟨gb101, 0, none⟩ = some (.int .i64 a1_0) := bc BK101 0; have hcz10_1 : w9.cell? ⟨gb101, 1, none⟩ = some (.int .i64 a1_1) := bc BK101 1; have hfz10_0 := blk_frozen BK101.out 0; have hfz10_1 := blk_frozen BK101.out 1) | ((with_reducible refine gate_dst (N := 13) rfl ?_); refine Kd.R_lit k29 _ 29 ?hg (N := 13) ?hd (xs := ([(⟨a1_0, a1_1⟩ : S29)] : List (S29))) (inner := [.int .i64 a1_0, .int .i64 a1_1]) (ok := fun _ => True) (okp := fun _ => True) ?hr ?hp (fun _ hk => hk) trivial (Below.refl _ _) (Nat.le_refl _) (by simp) ?_; (case hd => rfl); (case hg => rfl); (case hr => first | (go_simp; done) | (go_simp; rfl)); (case hp => exact (Reps.c2 (show Kd.M k29 _ _ _ (⟨a1_0, a1_1⟩ : S29) [.int .i64 a1_0, .int .i64 a1_1] from (k29_mkM _ _ _ (⟨a1_0, a1_1⟩ : S29) )) (Reps.none _ _))); intro v104 w11 ho12 hb hg_ hnew_; clear hg_ hnew_; (first | rw [← Ny103.out] at ho12 | (simp only [Int.reduceToNat] at ho12; rw [← Ny103.out] at ho12)); have HO105 := Aside0.mk (Kd.R_lower (Kd.R_newB ho12 (g := gb101) (o := .cells #[.int .i64 a1_0, .int .i64 a1_1] 29 (0, 0)) (bk BK101)) (below_size bh)); replace BK101 := kb BK101 hb; replace HB := Aside0.mk (below_step bh hb); clear hb ho12; obtain ⟨Ao13, co13, eo13⟩ := Kd.R_slice HO105.out; subst eo13) | ((with_reducible refine gc 48 rfl ?_); refine goesL_ (some 14) rfl rfl Try.func48 (by kernel_rfl) rfl #[.slice Ao13 y103.length co13, .int .i64 10000] rfl sg ?_; (with_reducible refine (shape_within.calls _ _ y103 10000 true _ ?side1 ?side2 A5.out).mono ?_); (case side1 => exact cs (Kd.R_reads' HO105.out).2.2); (case side2 => exact (Kd.R_reads' HO105.out).2.1); rintro e w14 ⟨rfl, hb⟩; refine ⟨_, rfl, ?_⟩; replace HO105 := Aside0.mk (Kd.R_below (ro HO105) hb); replace BK101 := kb BK101 hb; replace HB := Aside0.mk (below_step bh hb); (try clear hb); (try clear hb2); (try clear hk); (try clear hi); have hcz15_0 : w14.cell? ⟨gb101, 0, none⟩ = some (.int .i64 a1_0) := bc BK101 0; have hcz15_1 : w14.cell? ⟨gb101, 1, none⟩ = some (.int .i64 a1_1) := bc BK101 1; have hfz15_0 := blk_frozen BK101.out 0; have hfz15_1 := blk_frozen BK101.out 1) | ((with_reducible refine gc 73 rfl ?_); refine goesL_ (some 18) rfl rfl Try.func73 (by kernel_rfl) rfl #[.slice A0 l0.length c0, .agg #[.int .i64 a1_0, .int .i64 a1_1]] rfl sg ?_; (with_reducible refine (shape_where.calls k _ _ l0 a1_0 a1_1 t107 _ ?side1 ?side2 A7.out).mono ?_); (case side1 => exact cs (Kd.C_below HR0.out HB.out)); (case side2 => exact HC0.out); rintro e w16 ⟨rfl, hb⟩; refine ⟨_, rfl, ?_⟩; replace HO105 := Aside0.mk (Kd.R_below (ro HO105) hb); replace BK101 := kb BK101 hb; replace HB := Aside0.mk (below_step bh hb); (try clear hb); (try clear hb2); (try clear hk); (try clear hi)))
   go_ret2
   exact ⟨by exact er, bh⟩
  ·replace c6 := Bool.eq_false_iff.mpr c6
   subst c6
   rw [if_neg (show ¬ (false = true) by decide)] at H
   simp only [Option.some.injEq, Prod.mk.injEq] at H
   obtain ⟨rfl, rfl⟩ := H
   go_enter Try.func32, Try.ntmps32
   go_wp2_with (first | ((with_reducible refine gate_dst (N := 3) rfl ?_); refine bxe 3 #[.int .i64 a1_0, .int .i64 a1_1] 29 ?_; intro gb101 hg w17 hbox hb; have BK101 := Aside0.mk (hbox); have GW101 := Aside0.mk (gs hg : w.heap.size ≤ gb101); have GE101 := Aside0.mk (gs hg : w.heap.size ≤ gb101); replace HB := Aside0.mk (below_step bh hb); clear hb hbox hg) | ((with_reducible refine gc 68 rfl ?_); refine goesL_ (some 8) rfl rfl Try.func68 (by kernel_rfl) rfl #[.slice A0 l0.length c0, .func (.func 69) #[] #[]] rfl sg ?_; (with_reducible refine (shape_refused_simple.calls k _ _ l0  t102 _ ?side1 ?side2 A3.out).mono ?_); (case side1 => exact cs (Kd.C_below HR0.out HB.out)); (case side2 => exact HC0.out); rintro e w18 ⟨rfl, hb⟩; refine ⟨_, rfl, ?_⟩; replace BK101 := kb BK101 hb; replace HB := Aside0.mk (below_step bh hb); (try clear hb); (try clear hb2); (try clear hk); (try clear hi); have hcz19_0 : w18.cell? ⟨gb101, 0, none⟩ = some (.int .i64 a1_0) := bc BK101 0; have hcz19_1 : w18.cell? ⟨gb101, 1, none⟩ = some (.int .i64 a1_1) := bc BK101 1; have hfz19_0 := blk_frozen BK101.out 0; have hfz19_1 := blk_frozen BK101.out 1) | ((with_reducible refine gate_dst (N := 13) rfl ?_); refine Kd.R_lit k29 _ 29 ?hg (N := 13) ?hd (xs := ([(⟨a1_0, a1_1⟩ : S29)] : List (S29))) (inner := [.int .i64 a1_0, .int .i64 a1_1]) (ok := fun _ => True) (okp := fun _ => True) ?hr ?hp (fun _ hk => hk) trivial (Below.refl _ _) (Nat.le_refl _) (by simp) ?_; (case hd => rfl); (case hg => rfl); (case hr => first | (go_simp; done) | (go_simp; rfl)); (case hp => exact (Reps.c2 (show Kd.M k29 _ _ _ (⟨a1_0, a1_1⟩ : S29) [.int .i64 a1_0, .int .i64 a1_1] from (k29_mkM _ _ _ (⟨a1_0, a1_1⟩ : S29) )) (Reps.none _ _))); intro v104 w20 ho21 hb hg_ hnew_; clear hg_ hnew_; (first | rw [← Ny103.out] at ho21 | (simp only [Int.reduceToNat] at ho21; rw [← Ny103.out] at ho21)); have HO105 := Aside0.mk (Kd.R_lower (Kd.R_newB ho21 (g := gb101) (o := .cells #[.int .i64 a1_0, .int .i64 a1_1] 29 (0, 0)) (bk BK101)) (below_size bh)); replace BK101 := kb BK101 hb; replace HB := Aside0.mk (below_step bh hb); clear hb ho21; obtain ⟨Ao22, co22, eo22⟩ := Kd.R_slice HO105.out; subst eo22) | ((with_reducible refine gc 48 rfl ?_); refine goesL_ (some 14) rfl rfl Try.func48 (by kernel_rfl) rfl #[.slice Ao22 y103.length co22, .int .i64 10000] rfl sg ?_; (with_reducible refine (shape_within.calls _ _ y103 10000 false _ ?side1 ?side2 A5.out).mono ?_); (case side1 => exact cs (Kd.R_reads' HO105.out).2.2); (case side2 => exact (Kd.R_reads' HO105.out).2.1); rintro e w23 ⟨rfl, hb⟩; refine ⟨_, rfl, ?_⟩; replace HO105 := Aside0.mk (Kd.R_below (ro HO105) hb); replace BK101 := kb BK101 hb; replace HB := Aside0.mk (below_step bh hb); (try clear hb); (try clear hb2); (try clear hk); (try clear hi)))
   go_ret2
   exact ⟨by exact er, bh⟩
 ·rw [if_neg c4] at H
  have c4b0 : (t102 == 0) = false := beq_eq_false_iff_ne.mpr c4
  have c4b1 : (t102 != 0) = true := bne_iff_ne.mpr c4
  simp only [Option.some.injEq, Prod.mk.injEq] at H
  obtain ⟨rfl, rfl⟩ := H
  go_enter Try.func32, Try.ntmps32
  go_wp2_with (first | ((with_reducible refine gate_dst (N := 3) rfl ?_); refine bxe 3 #[.int .i64 a1_0, .int .i64 a1_1] 29 ?_; intro gb101 hg w24 hbox hb; have BK101 := Aside0.mk (hbox); have GW101 := Aside0.mk (gs hg : w.heap.size ≤ gb101); have GE101 := Aside0.mk (gs hg : w.heap.size ≤ gb101); replace HB := Aside0.mk (below_step bh hb); clear hb hbox hg) | ((with_reducible refine gc 68 rfl ?_); refine goesL_ (some 8) rfl rfl Try.func68 (by kernel_rfl) rfl #[.slice A0 l0.length c0, .func (.func 69) #[] #[]] rfl sg ?_; (with_reducible refine (shape_refused_simple.calls k _ _ l0  t102 _ ?side1 ?side2 A3.out).mono ?_); (case side1 => exact cs (Kd.C_below HR0.out HB.out)); (case side2 => exact HC0.out); rintro e w25 ⟨rfl, hb⟩; refine ⟨_, rfl, ?_⟩; replace BK101 := kb BK101 hb; replace HB := Aside0.mk (below_step bh hb); (try clear hb); (try clear hb2); (try clear hk); (try clear hi)))
  go_ret2
  exact ⟨by exact er, bh⟩
attribute [local go_sem high] eqA29
/-! ### cracknellaw04_ShapeHulled: function 8 -/
mutual
def cracknellaw04_ShapeHulled.j0 : Nat → List (S29) → List (S29) → Bool → Option (Bool)
 | 0, _, _, _ => none
 | k + 1, x5, x6, x77 => if x77 = true then (some false) else ((shape_Convex.f k x6).bind fun bt138 => ((shape_Hull.f k x6).bind fun bt140 => (if bt138.1 = true then (if bt138.2 = 0 then (if bt140.2 = 0 then ((cracknelref04_Same.f k bt140.1 x6).bind fun t144 => (cracknellaw04_ShapeHulled.j1 k x5 x6 (!t144))) else (cracknellaw04_ShapeHulled.j1 k x5 x6 true)) else (cracknellaw04_ShapeHulled.j1 k x5 x6 true)) else (cracknellaw04_ShapeHulled.j1 k x5 x6 true))))
def cracknellaw04_ShapeHulled.j1 : Nat → List (S29) → List (S29) → Bool → Option (Bool)
 | 0, _, _, _ => none
 | k + 1, x5, x6, x103 => if x103 = true then (some false) else (cracknellaw04_ShapeHulled.l0 k x5 x6 0)
def cracknellaw04_ShapeHulled.l0 : Nat → List (S29) → List (S29) → Int → Option (Bool)
 | 0, _, _, _ => none
 | k + 1, x5, x6, x15 => if x15 < (x5.length : Int) then (if 0 ≤ x15 then ((shape_Where.f k x6 ((rd_T29 x5 x15).f0) ((rd_T29 x5 x15).f1)).bind fun bt146 => (if bt146.1 < 0 then (some false) else (if bt146.2 = 0 then (cracknellaw04_ShapeHulled.l0 k x5 x6 (wrap64 (x15 + 1))) else (some false)))) else (none)) else (cracknellaw04_ShapeHulled.l1 k x5 x6 0)
def cracknellaw04_ShapeHulled.l1 : Nat → List (S29) → List (S29) → Int → Option (Bool)
 | 0, _, _, _ => none
 | k + 1, x5, x6, x18 => if x18 < (x6.length : Int) then (cracknellaw04_ShapeHulled.l2 k x5 x6 x18 false 0) else (some true)
def cracknellaw04_ShapeHulled.l2 : Nat → List (S29) → List (S29) → Int → Bool → Int → Option (Bool)
 | 0, _, _, _, _, _ => none
 | k + 1, x5, x6, x18, x19, x20 => if x20 < (x5.length : Int) then (if x19 = true then (cracknellaw04_ShapeHulled.l2 k x5 x6 x18 true (wrap64 (x20 + 1))) else (if 0 ≤ x20 then (if 0 ≤ x18 then (if x18 < (x6.length : Int) then (cracknellaw04_ShapeHulled.l2 k x5 x6 x18 (((rd_T29 x5 x20).f0) == ((rd_T29 x6 x18).f0) && (((rd_T29 x5 x20).f1) == ((rd_T29 x6 x18).f1))) (wrap64 (x20 + 1))) else (none)) else (none)) else (none))) else (if x19 = true then (cracknellaw04_ShapeHulled.l1 k x5 x6 (wrap64 (x18 + 1))) else (some false))
end
def cracknellaw04_ShapeHulled.f (k : Nat) (l0 : List (S29)) (a1 : Int) : Option (Bool) := (cracknellaw04_points.f k l0 10000 20).bind fun t101 => ((some (([(⟨0, 0⟩ : S29), (⟨1, 0⟩ : S29), (⟨0, 1⟩ : S29)] : List (S29)) : List (S29))).bind fun y104 => (if t101.length + y104.length < 8796093022208 then ((some (t101 ++ y104 : List (S29))).bind fun y107 => ((shape_Hull.f k y107).bind fun bt110 => ((cracknellaw04_fold.f a1 (y107.length : Int)).bind fun t114 => ((some (([] : List (S29)) : List (S29))).bind fun y115 => (if 0 ≤ t114 then (if t114 ≤ (y107.length : Int) then ((some (y107.drop (t114 : Int).toNat : List (S29))).bind fun y118 => (if y115.length + y118.length < 8796093022208 then ((some (y115 ++ y118 : List (S29))).bind fun y122 => ((some (y107.take (t114 : Int).toNat : List (S29))).bind fun y125 => (if y122.length + y125.length < 8796093022208 then ((shape_Hull.f k (y122 ++ y125)).bind fun bt132 => (if bt110.2 = 0 then (if bt132.2 = 0 then ((cracknelref04_Same.f k bt110.1 bt132.1).bind fun t136 => (if t136 = true then (if (bt110.1.length : Int) < 3 then (cracknellaw04_ShapeHulled.j0 k y107 bt110.1 true) else (if (bt110.1.length : Int) > (y107.length : Int) then (cracknellaw04_ShapeHulled.j0 k y107 bt110.1 true) else ((cracknellaw04_lives.f k).bind fun t137 => (cracknellaw04_ShapeHulled.j0 k y107 bt110.1 (!t137))))) else (cracknellaw04_ShapeHulled.j0 k y107 bt110.1 true))) else (cracknellaw04_ShapeHulled.j0 k y107 bt110.1 true)) else (cracknellaw04_ShapeHulled.j0 k y107 bt110.1 true))) else (none)))) else (none))) else (none)) else (none)))))) else (none)))
attribute [local go_sem high] eqA29
def cracknellaw04_ShapeHulled.T4 : Bool × List (List Nat × List Nat) := (true, [([], []), ([], []), ([], []), ([1, 2], [1, 2]), ([0, 3], [0, 3]), ([], []), ([], []), ([5, 6], [5, 6]), ([4, 7, 4], [4, 7]), ([8, 8], [8]), ([9], [9]), ([10], [10]), ([10], [10]), ([11, 9, 0, 1, 2, 3, 4, 5, 6, 7, 8, 9, 10, 11], [11]), ([12, 13, 0, 1, 2, 3, 4, 5, 6, 7, 8, 9, 10, 11, 12, 13], [12])])
def cracknellaw04_ShapeHulled.B4 : List Nat := [0, 0, 0, 6, 15, 0, 0, 96, 255, 511, 1023, 2047, 2047, 4095, 16383]
theorem cracknellaw04_ShapeHulled.tab4 : rtab .any (opsOf Try.f8 4) = cracknellaw04_ShapeHulled.T4 := by kernel_rfl
theorem cracknellaw04_ShapeHulled.bits4 : waitsOk cracknellaw04_ShapeHulled.T4.2 cracknellaw04_ShapeHulled.B4 = true := by kernel_rfl
def cracknellaw04_ShapeHulled.T24 : Bool × List (List Nat × List Nat) := (true, [([], []), ([0], [0]), ([1], [1]), ([1], [1]), ([2, 3, 1], [1, 2, 3]), ([4, 1], [1, 4]), ([1], [1]), ([1], [1]), ([6, 7, 1], [1, 6, 7]), ([8, 1], [1, 8]), ([5, 9, 1], [1, 5, 9]), ([1, 10], [1, 10]), ([11, 1, 0, 1, 2, 3, 4, 5, 6, 7, 8, 9, 10, 11], [0, 11])])
def cracknellaw04_ShapeHulled.B24 : List Nat := [0, 1, 3, 3, 15, 31, 3, 3, 195, 451, 1023, 2047, 4095]
theorem cracknellaw04_ShapeHulled.tab24 : rtab .any (opsOf Try.f8 24) = cracknellaw04_ShapeHulled.T24 := by kernel_rfl
theorem cracknellaw04_ShapeHulled.bits24 : waitsOk cracknellaw04_ShapeHulled.T24.2 cracknellaw04_ShapeHulled.B24 = true := by kernel_rfl
theorem cracknellaw04_ShapeHulled.j0_no (k : Nat) (a0 : List (S29)) (a1 : List (S29)) : ¬ (cracknellaw04_ShapeHulled.j0 k a0 a1 true = some true) := by cases k <;> simp [cracknellaw04_ShapeHulled.j0]
theorem cracknellaw04_ShapeHulled.j1_no (k : Nat) (a0 : List (S29)) (a1 : List (S29)) : ¬ (cracknellaw04_ShapeHulled.j1 k a0 a1 true = some true) := by cases k <;> simp [cracknellaw04_ShapeHulled.j1]
set_option maxHeartbeats 8000000 in
set_option maxRecDepth 100000 in
theorem cracknellaw04_ShapeHulled.calls (k : Nat) (A0 : Option Addr) (c0 : Nat) (l0 : List (S29)) (a1 : Int) (r : Bool) (w : World) (hr0 : Kd.C k29 w A0 l0.length l0) (hc0 : l0.length ≤ c0) (h : cracknellaw04_ShapeHulled.f k l0 a1 = some r) (hr : r = true) :
  Calls Try.prog 8 #[.slice A0 l0.length c0, .int .i64 a1] w fun e w' => e = .returned (.bool r) ∧ Below w.heap.size w w' := by
 have hu29 := Try.underlying29
 have HR0 := Aside0.mk hr0
 have HC0 := Aside0.mk hc0
 clear hr0 hc0
 have HB := Aside0.mk (Below.refl w.heap.size w)
 have H : ((cracknellaw04_points.f k l0 10000 20).bind fun t101 => ((some (([(⟨0, 0⟩ : S29), (⟨1, 0⟩ : S29), (⟨0, 1⟩ : S29)] : List (S29)) : List (S29))).bind fun y104 => (if t101.length + y104.length < 8796093022208 then ((some (t101 ++ y104 : List (S29))).bind fun y107 => ((shape_Hull.f k y107).bind fun bt110 => ((cracknellaw04_fold.f a1 (y107.length : Int)).bind fun t114 => ((some (([] : List (S29)) : List (S29))).bind fun y115 => (if 0 ≤ t114 then (if t114 ≤ (y107.length : Int) then ((some (y107.drop (t114 : Int).toNat : List (S29))).bind fun y118 => (if y115.length + y118.length < 8796093022208 then ((some (y115 ++ y118 : List (S29))).bind fun y122 => ((some (y107.take (t114 : Int).toNat : List (S29))).bind fun y125 => (if y122.length + y125.length < 8796093022208 then ((shape_Hull.f k (y122 ++ y125)).bind fun bt132 => (if bt110.2 = 0 then (if bt132.2 = 0 then ((cracknelref04_Same.f k bt110.1 bt132.1).bind fun t136 => (if t136 = true then (if (bt110.1.length : Int) < 3 then (cracknellaw04_ShapeHulled.j0 k y107 bt110.1 true) else (if (bt110.1.length : Int) > (y107.length : Int) then (cracknellaw04_ShapeHulled.j0 k y107 bt110.1 true) else ((cracknellaw04_lives.f k).bind fun t137 => (cracknellaw04_ShapeHulled.j0 k y107 bt110.1 (!t137))))) else (cracknellaw04_ShapeHulled.j0 k y107 bt110.1 true))) else (cracknellaw04_ShapeHulled.j0 k y107 bt110.1 true)) else (cracknellaw04_ShapeHulled.j0 k y107 bt110.1 true))) else (none)))) else (none))) else (none)) else (none)))))) else (none)))) = some r := h
 clear h
 replace H := Option.bind_eq_some_iff.mp H
 obtain ⟨t101, A30, H⟩ := H
 try dsimp only at H
 have A3 := Aside0.mk A30
 clear A30
 obtain ⟨y104, hy104⟩ : ∃ y_ : List (S29), y_ = (([(⟨0, 0⟩ : S29), (⟨1, 0⟩ : S29), (⟨0, 1⟩ : S29)] : List (S29))) := ⟨_, rfl⟩
 replace H : (if t101.length + y104.length < 8796093022208 then ((some (t101 ++ y104 : List (S29))).bind fun y107 => ((shape_Hull.f k y107).bind fun bt110 => ((cracknellaw04_fold.f a1 (y107.length : Int)).bind fun t114 => ((some (([] : List (S29)) : List (S29))).bind fun y115 => (if 0 ≤ t114 then (if t114 ≤ (y107.length : Int) then ((some (y107.drop (t114 : Int).toNat : List (S29))).bind fun y118 => (if y115.length + y118.length < 8796093022208 then ((some (y115 ++ y118 : List (S29))).bind fun y122 => ((some (y107.take (t114 : Int).toNat : List (S29))).bind fun y125 => (if y122.length + y125.length < 8796093022208 then ((shape_Hull.f k (y122 ++ y125)).bind fun bt132 => (if bt110.2 = 0 then (if bt132.2 = 0 then ((cracknelref04_Same.f k bt110.1 bt132.1).bind fun t136 => (if t136 = true then (if (bt110.1.length : Int) < 3 then (cracknellaw04_ShapeHulled.j0 k y107 bt110.1 true) else (if (bt110.1.length : Int) > (y107.length : Int) then (cracknellaw04_ShapeHulled.j0 k y107 bt110.1 true) else ((cracknellaw04_lives.f k).bind fun t137 => (cracknellaw04_ShapeHulled.j0 k y107 bt110.1 (!t137))))) else (cracknellaw04_ShapeHulled.j0 k y107 bt110.1 true))) else (cracknellaw04_ShapeHulled.j0 k y107 bt110.1 true)) else (cracknellaw04_ShapeHulled.j0 k y107 bt110.1 true))) else (none)))) else (none))) else (none)) else (none)))))) else (none)) = some r := by first | (rw [hy104]; with_reducible exact H) | (have H2_ := (Option.bind_some _ _).symm.trans H; rw [hy104]; with_reducible exact H2_) | (have H2_ := (Option.bind_some _ _).symm.trans H; with_reducible exact H2_) | with_reducible exact H | (rw [hy104]; exact H) | exact H
 have Ny104 := Aside0.mk hy104
 clear hy104
 by_cases c4 : t101.length + y104.length < 8796093022208
 ·rw [if_pos c4] at H
  have LMc4 := Aside0.mk c4
  clear c4
  obtain ⟨y107, hy107⟩ : ∃ y_ : List (S29), y_ = (t101 ++ y104) := ⟨_, rfl⟩
  replace H : ((shape_Hull.f k y107).bind fun bt110 => ((cracknellaw04_fold.f a1 (y107.length : Int)).bind fun t114 => ((some (([] : List (S29)) : List (S29))).bind fun y115 => (if 0 ≤ t114 then (if t114 ≤ (y107.length : Int) then ((some (y107.drop (t114 : Int).toNat : List (S29))).bind fun y118 => (if y115.length + y118.length < 8796093022208 then ((some (y115 ++ y118 : List (S29))).bind fun y122 => ((some (y107.take (t114 : Int).toNat : List (S29))).bind fun y125 => (if y122.length + y125.length < 8796093022208 then ((shape_Hull.f k (y122 ++ y125)).bind fun bt132 => (if bt110.2 = 0 then (if bt132.2 = 0 then ((cracknelref04_Same.f k bt110.1 bt132.1).bind fun t136 => (if t136 = true then (if (bt110.1.length : Int) < 3 then (cracknellaw04_ShapeHulled.j0 k y107 bt110.1 true) else (if (bt110.1.length : Int) > (y107.length : Int) then (cracknellaw04_ShapeHulled.j0 k y107 bt110.1 true) else ((cracknellaw04_lives.f k).bind fun t137 => (cracknellaw04_ShapeHulled.j0 k y107 bt110.1 (!t137))))) else (cracknellaw04_ShapeHulled.j0 k y107 bt110.1 true))) else (cracknellaw04_ShapeHulled.j0 k y107 bt110.1 true)) else (cracknellaw04_ShapeHulled.j0 k y107 bt110.1 true))) else (none)))) else (none))) else (none)) else (none))))) = some r := by first | (rw [hy107]; with_reducible exact H) | (have H2_ := (Option.bind_some _ _).symm.trans H; rw [hy107]; with_reducible exact H2_) | (have H2_ := (Option.bind_some _ _).symm.trans H; with_reducible exact H2_) | with_reducible exact H | (rw [hy107]; exact H) | exact H
  have Ny107 := Aside0.mk hy107
  clear hy107
  replace H := Option.bind_eq_some_iff.mp H
  obtain ⟨⟨t110, t111⟩, A50, H⟩ := H
  try dsimp only at H
  have A5 := Aside0.mk A50
  clear A50
  replace H := Option.bind_eq_some_iff.mp H
  obtain ⟨t114, A60, H⟩ := H
  try dsimp only at H
  have A6 := Aside0.mk A60
  clear A60
  obtain ⟨y115, hy115⟩ : ∃ y_ : List (S29), y_ = (([] : List (S29))) := ⟨_, rfl⟩
  replace H : (if 0 ≤ t114 then (if t114 ≤ (y107.length : Int) then ((some (y107.drop (t114 : Int).toNat : List (S29))).bind fun y118 => (if y115.length + y118.length < 8796093022208 then ((some (y115 ++ y118 : List (S29))).bind fun y122 => ((some (y107.take (t114 : Int).toNat : List (S29))).bind fun y125 => (if y122.length + y125.length < 8796093022208 then ((shape_Hull.f k (y122 ++ y125)).bind fun bt132 => (if t111 = 0 then (if bt132.2 = 0 then ((cracknelref04_Same.f k t110 bt132.1).bind fun t136 => (if t136 = true then (if (t110.length : Int) < 3 then (cracknellaw04_ShapeHulled.j0 k y107 t110 true) else (if (t110.length : Int) > (y107.length : Int) then (cracknellaw04_ShapeHulled.j0 k y107 t110 true) else ((cracknellaw04_lives.f k).bind fun t137 => (cracknellaw04_ShapeHulled.j0 k y107 t110 (!t137))))) else (cracknellaw04_ShapeHulled.j0 k y107 t110 true))) else (cracknellaw04_ShapeHulled.j0 k y107 t110 true)) else (cracknellaw04_ShapeHulled.j0 k y107 t110 true))) else (none)))) else (none))) else (none)) else (none)) = some r := by first | (rw [hy115]; with_reducible exact H) | (have H2_ := (Option.bind_some _ _).symm.trans H; rw [hy115]; with_reducible exact H2_) | (have H2_ := (Option.bind_some _ _).symm.trans H; with_reducible exact H2_) | with_reducible exact H | (rw [hy115]; exact H) | exact H
  have Ny115 := Aside0.mk hy115
  clear hy115
  by_cases c7 : 0 ≤ t114
  ·rw [if_pos c7] at H
   have c7b0 := eq_true c7
   have c7b1 := decide_eq_true c7
   clear c7
   by_cases c8 : t114 ≤ (y107.length : Int)
   ·rw [if_pos c8] at H
    have c8b0 := eq_true c8
    have c8b1 := decide_eq_true c8
    clear c8
    obtain ⟨y118, hy118⟩ : ∃ y_ : List (S29), y_ = (y107.drop (t114 : Int).toNat) := ⟨_, rfl⟩
    replace H : (if y115.length + y118.length < 8796093022208 then ((some (y115 ++ y118 : List (S29))).bind fun y122 => ((some (y107.take (t114 : Int).toNat : List (S29))).bind fun y125 => (if y122.length + y125.length < 8796093022208 then ((shape_Hull.f k (y122 ++ y125)).bind fun bt132 => (if t111 = 0 then (if bt132.2 = 0 then ((cracknelref04_Same.f k t110 bt132.1).bind fun t136 => (if t136 = true then (if (t110.length : Int) < 3 then (cracknellaw04_ShapeHulled.j0 k y107 t110 true) else (if (t110.length : Int) > (y107.length : Int) then (cracknellaw04_ShapeHulled.j0 k y107 t110 true) else ((cracknellaw04_lives.f k).bind fun t137 => (cracknellaw04_ShapeHulled.j0 k y107 t110 (!t137))))) else (cracknellaw04_ShapeHulled.j0 k y107 t110 true))) else (cracknellaw04_ShapeHulled.j0 k y107 t110 true)) else (cracknellaw04_ShapeHulled.j0 k y107 t110 true))) else (none)))) else (none)) = some r := by first | (rw [hy118]; with_reducible exact H) | (have H2_ := (Option.bind_some _ _).symm.trans H; rw [hy118]; with_reducible exact H2_) | (have H2_ := (Option.bind_some _ _).symm.trans H; with_reducible exact H2_) | with_reducible exact H | (rw [hy118]; exact H) | exact H
    have Ny118 := Aside0.mk hy118
    clear hy118
    by_cases c9 : y115.length + y118.length < 8796093022208
    ·rw [if_pos c9] at H
     have LMc9 := Aside0.mk c9
     clear c9
     obtain ⟨y122, hy122⟩ : ∃ y_ : List (S29), y_ = (y115 ++ y118) := ⟨_, rfl⟩
     replace H : ((some (y107.take (t114 : Int).toNat : List (S29))).bind fun y125 => (if y122.length + y125.length < 8796093022208 then ((shape_Hull.f k (y122 ++ y125)).bind fun bt132 => (if t111 = 0 then (if bt132.2 = 0 then ((cracknelref04_Same.f k t110 bt132.1).bind fun t136 => (if t136 = true then (if (t110.length : Int) < 3 then (cracknellaw04_ShapeHulled.j0 k y107 t110 true) else (if (t110.length : Int) > (y107.length : Int) then (cracknellaw04_ShapeHulled.j0 k y107 t110 true) else ((cracknellaw04_lives.f k).bind fun t137 => (cracknellaw04_ShapeHulled.j0 k y107 t110 (!t137))))) else (cracknellaw04_ShapeHulled.j0 k y107 t110 true))) else (cracknellaw04_ShapeHulled.j0 k y107 t110 true)) else (cracknellaw04_ShapeHulled.j0 k y107 t110 true))) else (none))) = some r := by first | (rw [hy122]; with_reducible exact H) | (have H2_ := (Option.bind_some _ _).symm.trans H; rw [hy122]; with_reducible exact H2_) | (have H2_ := (Option.bind_some _ _).symm.trans H; with_reducible exact H2_) | with_reducible exact H | (rw [hy122]; exact H) | exact H
     have Ny122 := Aside0.mk hy122
     clear hy122
     have c10b0 := eq_true (dt : 0 ≤ t114)
     have c11b0 := eq_true (dt : t114 ≤ (y107.length : Int))
     obtain ⟨y125, hy125⟩ : ∃ y_ : List (S29), y_ = (y107.take (t114 : Int).toNat) := ⟨_, rfl⟩
     replace H : (if y122.length + y125.length < 8796093022208 then ((shape_Hull.f k (y122 ++ y125)).bind fun bt132 => (if t111 = 0 then (if bt132.2 = 0 then ((cracknelref04_Same.f k t110 bt132.1).bind fun t136 => (if t136 = true then (if (t110.length : Int) < 3 then (cracknellaw04_ShapeHulled.j0 k y107 t110 true) else (if (t110.length : Int) > (y107.length : Int) then (cracknellaw04_ShapeHulled.j0 k y107 t110 true) else ((cracknellaw04_lives.f k).bind fun t137 => (cracknellaw04_ShapeHulled.j0 k y107 t110 (!t137))))) else (cracknellaw04_ShapeHulled.j0 k y107 t110 true))) else (cracknellaw04_ShapeHulled.j0 k y107 t110 true)) else (cracknellaw04_ShapeHulled.j0 k y107 t110 true))) else (none)) = some r := by first | (rw [hy125]; with_reducible exact H) | (have H2_ := (Option.bind_some _ _).symm.trans H; rw [hy125]; with_reducible exact H2_) | (have H2_ := (Option.bind_some _ _).symm.trans H; with_reducible exact H2_) | with_reducible exact H | (rw [hy125]; exact H) | exact H
     have Ny125 := Aside0.mk hy125
     clear hy125
     by_cases c12 : y122.length + y125.length < 8796093022208
     ·rw [if_pos c12] at H
      have LMc12 := Aside0.mk c12
      clear c12
      obtain ⟨y129, hy129⟩ : ∃ y_ : List (S29), y_ = (y122 ++ y125) := ⟨_, rfl⟩
      replace H : ((shape_Hull.f k y129).bind fun bt132 => (if t111 = 0 then (if bt132.2 = 0 then ((cracknelref04_Same.f k t110 bt132.1).bind fun t136 => (if t136 = true then (if (t110.length : Int) < 3 then (cracknellaw04_ShapeHulled.j0 k y107 t110 true) else (if (t110.length : Int) > (y107.length : Int) then (cracknellaw04_ShapeHulled.j0 k y107 t110 true) else ((cracknellaw04_lives.f k).bind fun t137 => (cracknellaw04_ShapeHulled.j0 k y107 t110 (!t137))))) else (cracknellaw04_ShapeHulled.j0 k y107 t110 true))) else (cracknellaw04_ShapeHulled.j0 k y107 t110 true)) else (cracknellaw04_ShapeHulled.j0 k y107 t110 true))) = some r := by first | (rw [hy129]; with_reducible exact H) | (have H2_ := (Option.bind_some _ _).symm.trans H; rw [hy129]; with_reducible exact H2_) | (have H2_ := (Option.bind_some _ _).symm.trans H; with_reducible exact H2_) | with_reducible exact H | (rw [hy129]; exact H) | exact H
      have Ny129 := Aside0.mk hy129
      clear hy129
      replace H := Option.bind_eq_some_iff.mp H
      obtain ⟨⟨t132, t133⟩, A130, H⟩ := H
      try dsimp only at H
      have A13 := Aside0.mk A130
      clear A130
      have HC14 := Aside0.mk H
      clear H
      go_enter Try.func8, Try.ntmps8
      try go_wp2_with (first | ((with_reducible refine gc 38 rfl ?_); refine goesL_ (some 22) rfl rfl Try.func38 (by kernel_rfl) rfl #[.slice A0 l0.length c0, .int .i64 10000, .int .i64 20] rfl sg ?_; (with_reducible refine (cracknellaw04_points.calls k _ _ l0 10000 20 t101 _ ?side1 ?side2 A3.out).mono ?_); (case side1 => repeat (first | exact HR0.out | (with_reducible refine Kd.C_alloc ?_ _) | (with_reducible refine Kd.C_drewN ?_ _) | (with_reducible refine Kd.C_drew ?_))); (case side2 => exact HC0.out); rintro e w15 ⟨v102, rfl, ho0, hb⟩; refine ⟨_, rfl, ?_⟩; have HO103 := Aside0.mk (Kd.R_lower ho0 (below_size bh)); replace HB := Aside0.mk (below_step bh hb); (try clear hb); (try clear hb2); (try clear hk); (try clear hi); (try clear ho0)) | ((with_reducible refine gate_dst (N := 26) rfl ?_); (try (refine gate_guard (by rfl) ?_; dsimp only)); refine Kd.R_lit k29 _ 29 ?hg (N := 26) ?hd (xs := ([(⟨0, 0⟩ : S29), (⟨1, 0⟩ : S29), (⟨0, 1⟩ : S29)] : List (S29))) (inner := [.int .i64 0, .int .i64 0, .int .i64 1, .int .i64 0, .int .i64 0, .int .i64 1]) (ok := fun _ => True) (okp := fun _ => True) ?hr ?hp (fun _ hk => hk) trivial (Below.refl _ _) (Nat.le_refl _) (by simp) ?_; (case hd => rfl); (case hg => rfl); (case hr => first | (go_simp; done) | (go_simp; rfl)); (case hp => exact (Reps.c2 (k29_mkM _ _ _ (⟨0, 0⟩ : S29)) (Reps.c2 (k29_mkM _ _ _ (⟨1, 0⟩ : S29)) (Reps.c2 (k29_mkM _ _ _ (⟨0, 1⟩ : S29)) (Reps.none _ _))))); intro v105 w16 ho17 hb hg_ hnew_; clear hg_ hnew_; (first | rw [← Ny104.out] at ho17 | (simp only [Int.reduceToNat] at ho17; rw [← Ny104.out] at ho17)); have HO106 := Aside0.mk (Kd.R_lower (Kd.R_new' ho17 (Kd.R_lt (ro HO103))) (below_size bh)); replace HO103 := Aside0.mk (Kd.R_elder' (ro HO103) (Kd.R_base ho17) hb); replace HB := Aside0.mk (below_step bh hb); clear hb ho17; obtain ⟨Ao19, co19, eo19⟩ := Kd.R_slice HO106.out; subst eo19) | ((with_reducible refine gate_builtin (b := .append) (xs := #[.tmp 22, .tmp 26]) rfl ?_); (try (refine gate_guard (by rfl) ?_; dsimp only)); at_builtin; refine Kd.R_append_rows k29 (w0 := w) w.heap.size rfl (.tmp 22) (.tmp 26) 22 29 (.agg #[(.int .i64 0), (.int .i64 0)]) 16 rfl Try.underlying22 info29 rfl (by decide) (by omega) v102 t101 y104 _ _ _ (fun k_ => some k_ ≠ (.slice Ao19 y104.length co19 : Value).ownBlock) (fun _ => False) rfl rfl ?aO ?aR (fun _ _ h => h) (fun _ h => h.elim) ?aF ?aB ?aS ?aL ?_; (case aR => repeat (first | exact (Kd.R_reads' HO106.out).2.2 | (with_reducible refine Kd.C_alloc ?_ _) | (with_reducible refine Kd.C_drewN ?_ _) | (with_reducible refine Kd.C_drew ?_))); (case aB => exact bh); (case aF => exact (fun k_ hk => Kd.fresh' (Kd.R_lt (ro HO106)) k_ hk)); (case aO => exact (by (with_reducible repeat (first | apply Kd.R_alloc | apply Kd.R_drewN | apply Kd.R_drew)); exact Kd.R_mono HO103.out (fun _ hk => hk.2))); (case aS => exact (below_size bh)); (case aL => have := LMc4.out; omega); intro v108 w18 ho hb hg hat; rw [← Ny107.out] at ho; have HO109 := Aside0.mk (ho); replace HO106 := Aside0.mk (Kd.R_after (ok := (fun _ => True)) (ro HO106) hg hat); replace HB := Aside0.mk (hb); clear HO103; clear ho hb hg hat; obtain ⟨Ao20, co20, eo20⟩ := Kd.R_slice HO109.out; subst eo20) | ((with_reducible refine gc 16 rfl ?_); refine goesL_ (some 30) rfl rfl Try.func16 (by kernel_rfl) rfl #[.slice Ao20 y107.length co20] rfl sg ?_; (with_reducible refine (shape_Hull.calls k _ _ y107 t110 t111 _ ?side1 ?side2 A5.out).mono ?_); (case side1 => exact cs (Kd.R_reads' HO109.out).2.2); (case side2 => exact (Kd.R_reads' HO109.out).2.1); rintro e w21 ⟨v112, rfl, ho0, hb⟩; refine ⟨_, rfl, ?_⟩; have HO113 := Aside0.mk (Kd.R_lower (Kd.R_new' (Kd.R_new' ho0 (Kd.R_lt (ro HO106))) (Kd.R_lt (ro HO109))) (below_size bh)); replace HO106 := Aside0.mk (Kd.R_elder' (ro HO106) (Kd.R_base ho0) hb); replace HO109 := Aside0.mk (Kd.R_elder' (ro HO109) (Kd.R_base ho0) hb); replace HB := Aside0.mk (below_step bh hb); (try clear hb); (try clear hb2); (try clear hk); (try clear hi); (try clear ho0)) | ((with_reducible refine gc 39 rfl ?_); refine goesL_ (some 36) rfl rfl Try.func39 (by kernel_rfl) rfl #[.int .i64 a1, .int .i64 (y107.length : Int)] rfl sg ?_; (with_reducible refine (cracknellaw04_fold.calls a1 (y107.length : Int) t114 _ A6.out).mono ?_); rintro e w' ⟨rfl, ⟨nd, rfl⟩⟩; refine ⟨_, rfl, ?_⟩))
      (try (rw [drewN_self w21]; generalize hq_ : World.drewN w21 _ = w21; have n0_ : Aside0 (Kd.R k29 29 w21 w.heap.size (fun k_ => some k_ ≠ (.slice Ao20 y107.length co20 : Value).ownBlock ∧ some k_ ≠ (v112 : Value).ownBlock) (.slice Ao19 y104.length co19) y104) := ⟨by rw [← hq_]; exact (by (with_reducible repeat (first | apply Kd.R_alloc | apply Kd.R_drewN | apply Kd.R_drew)); exact Kd.R_mono HO106.out (fun _ hk => ⟨hk.1.2, hk.2⟩))⟩; have n1_ : Aside0 (Kd.R k29 29 w21 w.heap.size (fun k_ => some k_ ≠ (.slice Ao19 y104.length co19 : Value).ownBlock ∧ some k_ ≠ (v112 : Value).ownBlock) (.slice Ao20 y107.length co20) y107) := ⟨by rw [← hq_]; exact (ro HO109)⟩; have n2_ : Aside0 (Kd.R k29 29 w21 w.heap.size (fun k_ => some k_ ≠ (.slice Ao19 y104.length co19 : Value).ownBlock ∧ some k_ ≠ (.slice Ao20 y107.length co20 : Value).ownBlock) v112 t110) := ⟨by rw [← hq_]; exact (by (with_reducible repeat (first | apply Kd.R_alloc | apply Kd.R_drewN | apply Kd.R_drew)); exact Kd.R_mono HO113.out (fun _ hk => ⟨hk.1.2, hk.2⟩))⟩; have n3_ : Aside0 (Below w.heap.size w w21) := ⟨by rw [← hq_]; exact bh⟩; clear HO106 HO109 HO113 HB hq_; have HO106 := n0_; have HO109 := n1_; have HO113 := n2_; have HB := n3_; clear n0_ n1_ n2_ n3_))
      replace HO106 := Aside0.mk (Kd.R_drew HO106.out)
      replace HO109 := Aside0.mk (Kd.R_drew HO109.out)
      replace HO113 := Aside0.mk (Kd.R_drew HO113.out)
      replace HB := Aside0.mk (below_drew1 HB.out)
      have q23 : (t114 : Int) ≤ ((y107.length : Int) : Int) := dt
      obtain ⟨i023, hi023, _, hsz23, _⟩ := info_parts info29
      have hroom23 : y107.length ≤ co20 := (Kd.R_reads' HO109.out).2.1
      have hC23 : Kd.C k29 _ Ao20 y107.length y107 := (Kd.R_reads' HO109.out).2.2
      have q023 : (0 : Int) ≤ (t114 : Int) := dt
      have hcut23 := cut_from (P := Try.prog) 22 29 .i64 Try.underlying22 hi023 2 hsz23 Ao20 y107.length co20 t114 q023 q23
      have hr23 := Kd.C_drop (m := (t114 : Int).toNat) (c := co20) hC23 (by omega) hroom23
      obtain ⟨A23, hA23⟩ : ∃ A1, A1 = (if co20 = (t114 : Int).toNat then Ao20 else (Ao20 : Option Addr).map (·.add ((t114 : Int).toNat * 2))) := ⟨_, rfl⟩
      obtain ⟨c23, hc23⟩ : ∃ c1, c1 = co20 - (t114 : Int).toNat := ⟨_, rfl⟩
      have hy23 : y118.length = y107.length - (t114 : Int).toNat := (by rw [Ny118.out, List.length_drop] <;> omega)
      rw [show (y107).drop (t114 : Int).toNat = y118 from Ny118.out.symm] at hr23
      replace hr23 : Kd.C k29 _ A23 y118.length y118 := (by rw [hA23]; exact hr23)
      rw [← hy23, ← hA23, ← hc23] at hcut23
      have HR121 := Aside0.mk hr23
      have HC121 := Aside0.mk (show y118.length ≤ c23 from by rw [hy23, hc23]; exact Nat.sub_le_sub_right hroom23 _)
      clear hr23 hC23 hroom23 hi023 hsz23 hc23
      have KY23 := Aside0.mk hy23
      have KA23 := Aside0.mk hA23
      clear hy23 hA23
      have KL23 := Aside0.mk (show (t114 : Int).toNat ≤ y107.length from by omega)
      replace q23 := eq_true q23
      have q24 : (t114 : Int) ≤ ((y107.length : Int) : Int) := dt
      obtain ⟨i024, hi024, _, hsz24, _⟩ := info_parts info29
      have hroom24 : y107.length ≤ co20 := (Kd.R_reads' HO109.out).2.1
      have hC24 : Kd.C k29 _ Ao20 y107.length y107 := (Kd.R_reads' HO109.out).2.2
      have hcut24 := cut_to (P := Try.prog) 22 29 .i64 Try.underlying22 hi024 Ao20 y107.length co20 t114 (dt) q24 hroom24
      have hr24 := Kd.C_take (m := (t114 : Int).toNat) hC24 (by omega)
      have hy24 : y125.length = (t114 : Int).toNat := (by rw [Ny125.out, List.length_take]; omega)
      rw [← Ny125.out] at hr24
      rw [← hy24] at hcut24
      have HR128 := Aside0.mk hr24
      have HC128 := Aside0.mk (show y125.length ≤ co20 from by omega)
      clear hr24 hC24 hroom24 hi024 hsz24
      have KY24 := Aside0.mk hy24
      clear hy24
      have KL24 := Aside0.mk (show (t114 : Int).toNat ≤ y107.length from by omega)
      replace q24 := eq_true q24
      refine start_ (n := 15) (S := fun w' => True) (ds := []) #[false, false, false, false, false, false, false, false, false, false, false, false, false, false, false] (by kernel_rfl) rfl rfl trivial (fun hHeld => ?_); refine with_tabW cracknellaw04_ShapeHulled.tab4 cracknellaw04_ShapeHulled.bits4 (fun HT_ HW_ => ?_)
      generalize w21.drew = w22 at HO106 HO109 HO113 HB HR121 HR128 hHeld ⊢
      refine pu 1 39 HT_ ?_
      refine pu 2 40 HT_ ?_
      refine pu 3 41 HT_ ?_
      refine pu 5 43 HT_ ?_
      refine pu 6 44 HT_ ?_
      refine pu 7 45 HT_ ?_
      refine one_ (i := 0) (N := some 38) #[true, true, true, true, false, true, true, true, false, false, false, false, false, false, false] rfl rfl (on1 HT_) (by decide) (fun K hK => ?_)
      refine Kd.R_lit_step k29 _ 29 ?hg (N := 38) ?hd (xs := ([] : List (S29))) (inner := []) (ok := fun _ => True) (okp := fun _ => True) ?hr ?hp (fun _ hk => hk) trivial (Below.refl _ _) (Nat.le_refl _) (by simp) ?_; (case hd => rfl); (case hg => rfl); (case hr => first | (go_simp; done) | (go_simp; rfl)); (case hp => exact (Reps.none _ _))
      intro v116 w25 ho26 hb hg_ hnew_
      clear hg_ hnew_
      (first | rw [← Ny115.out] at ho26 | (simp only [Int.reduceToNat] at ho26; rw [← Ny115.out] at ho26))
      have HO117 := Aside0.mk (Kd.R_lower (Kd.R_new' (Kd.R_new' (Kd.R_new' ho26 (Kd.R_lt (ro HO106))) (Kd.R_lt (ro HO109))) (Kd.R_lt (ro HO113))) (below_size bh))
      replace HO106 := Aside0.mk (Kd.R_elder' (ro HO106) (Kd.R_base ho26) hb)
      replace HO109 := Aside0.mk (Kd.R_elder' (ro HO109) (Kd.R_base ho26) hb)
      replace HO113 := Aside0.mk (Kd.R_elder' (ro HO113) (Kd.R_base ho26) hb)
      replace HR121 := Aside0.mk (Kd.C_below (by repeat (first | (with_reducible exact HR121.out) | (with_reducible refine Kd.C_alloc ?_ _) | (with_reducible refine Kd.C_drewN ?_ _) | (with_reducible refine Kd.C_drew ?_) | exact HR121.out)) hb)
      replace HR128 := Aside0.mk (Kd.C_below (by repeat (first | (with_reducible exact HR128.out) | (with_reducible refine Kd.C_alloc ?_ _) | (with_reducible refine Kd.C_drewN ?_ _) | (with_reducible refine Kd.C_drew ?_) | exact HR128.out)) hb)
      replace HB := Aside0.mk (below_step bh hb)
      clear hb ho26
      refine hK.out _ _ trivial (fun hHeld => ?_)
      clear hK K
      refine nm 38 ?_
      refine one_ (i := 4) (N := some 42) #[true, true, true, true, true, true, true, true, false, false, false, false, false, false, false] rfl rfl (on1 HT_) (by decide) (fun K hK => ?_)
      refine Kd.R_append_rows_step k29 (w0 := w) w.heap.size (by rfl) (.tmp 38) (.tmp 41) 22 29 (.agg #[(.int .i64 0), (.int .i64 0)]) 16 rfl Try.underlying22 info29 rfl (by decide) (by omega) v116 y115 y118 _ _ _ (fun k_ => some k_ ≠ (.slice Ao19 y104.length co19 : Value).ownBlock ∧ some k_ ≠ (.slice Ao20 y107.length co20 : Value).ownBlock ∧ some k_ ≠ (v112 : Value).ownBlock) (fun _ => False) rfl rfl ?aO ?aR (fun _ _ h => h) (fun _ h => h.elim) ?aF ?aB ?aS ?aL ?_
      (case aR => repeat (first | exact (by repeat (first | (with_reducible exact HR121.out) | (with_reducible refine Kd.C_alloc ?_ _) | (with_reducible refine Kd.C_drewN ?_ _) | (with_reducible refine Kd.C_drew ?_) | exact HR121.out)) | (with_reducible refine Kd.C_alloc ?_ _) | (with_reducible refine Kd.C_drewN ?_ _) | (with_reducible refine Kd.C_drew ?_)))
      (case aB => exact bh)
      (case aF => exact (fun k_ hk => ⟨Kd.fresh' (Kd.R_lt (ro HO106)) k_ hk, Kd.fresh' (Kd.R_lt (ro HO109)) k_ hk, Kd.fresh' (Kd.R_lt (ro HO113)) k_ hk⟩))
      (case aO => exact (by (with_reducible repeat (first | apply Kd.R_alloc | apply Kd.R_drewN | apply Kd.R_drew)); exact Kd.R_mono HO117.out (fun _ hk => ⟨hk.1.1.2, ⟨hk.1.2, hk.2⟩⟩)))
      (case aS => exact (below_size bh))
      (case aL => have := LMc9.out; omega)
      intro v123 w27 ho hb hg hat
      rw [← Ny122.out] at ho
      have HO124 := Aside0.mk (ho)
      replace HO106 := Aside0.mk (Kd.R_after (ok := (fun k_ => some k_ ≠ (.slice Ao20 y107.length co20 : Value).ownBlock ∧ some k_ ≠ (v112 : Value).ownBlock)) (ro HO106) hg hat)
      replace HO113 := Aside0.mk (Kd.R_after (ok := (fun k_ => some k_ ≠ (.slice Ao19 y104.length co19 : Value).ownBlock ∧ some k_ ≠ (.slice Ao20 y107.length co20 : Value).ownBlock)) (ro HO113) hg hat)
      replace HB := Aside0.mk (hb)
      replace HR121 := Aside0.mk ((show Kd.C k29 w27 A23 y118.length y118 from by rw [Ny118.out, KA23.out]; exact Kd.C_drop (m := (t114 : Int).toNat) (c := co20) ((Kd.R_reads' (Kd.R_after (ok := (fun k_ => some k_ ≠ (.slice Ao19 y104.length co19 : Value).ownBlock ∧ some k_ ≠ (v112 : Value).ownBlock)) (ro HO109) hg hat)).2.2) KL23.out ((Kd.R_reads' (Kd.R_after (ok := (fun k_ => some k_ ≠ (.slice Ao19 y104.length co19 : Value).ownBlock ∧ some k_ ≠ (v112 : Value).ownBlock)) (ro HO109) hg hat)).2.1)))
      replace HR128 := Aside0.mk ((show Kd.C k29 w27 Ao20 y125.length y125 from by rw [Ny125.out]; exact Kd.C_take (m := (t114 : Int).toNat) ((Kd.R_reads' (Kd.R_after (ok := (fun k_ => some k_ ≠ (.slice Ao19 y104.length co19 : Value).ownBlock ∧ some k_ ≠ (v112 : Value).ownBlock)) (ro HO109) hg hat)).2.2) KL24.out))
      replace HO109 := Aside0.mk (Kd.R_after (ok := (fun k_ => some k_ ≠ (.slice Ao19 y104.length co19 : Value).ownBlock ∧ some k_ ≠ (v112 : Value).ownBlock)) (ro HO109) hg hat)
      clear HO117
      clear ho hb hg hat
      refine hK.out _ _ trivial (fun hHeld => ?_)
      clear hK K
      refine nm 42 ?_
      refine one_ (i := 8) (N := some 46) #[true, true, true, true, true, true, true, true, true, false, false, false, false, false, false] rfl rfl (on1 HT_) (by decide) (fun K hK => ?_)
      refine Kd.R_append_rows_step k29 (w0 := w) w.heap.size (by rfl) (.tmp 42) (.tmp 45) 22 29 (.agg #[(.int .i64 0), (.int .i64 0)]) 16 rfl Try.underlying22 info29 rfl (by decide) (by omega) v123 y122 y125 _ _ _ (fun k_ => some k_ ≠ (.slice Ao19 y104.length co19 : Value).ownBlock ∧ some k_ ≠ (.slice Ao20 y107.length co20 : Value).ownBlock ∧ some k_ ≠ (v112 : Value).ownBlock) (fun _ => False) rfl rfl ?aO ?aR (fun _ _ h => h) (fun _ h => h.elim) ?aF ?aB ?aS ?aL ?_
      (case aR => repeat (first | exact (by repeat (first | (with_reducible exact HR128.out) | (with_reducible refine Kd.C_alloc ?_ _) | (with_reducible refine Kd.C_drewN ?_ _) | (with_reducible refine Kd.C_drew ?_) | exact HR128.out)) | (with_reducible refine Kd.C_alloc ?_ _) | (with_reducible refine Kd.C_drewN ?_ _) | (with_reducible refine Kd.C_drew ?_)))
      (case aB => exact bh)
      (case aF => exact (fun k_ hk => ⟨Kd.fresh' (Kd.R_lt (ro HO106)) k_ hk, Kd.fresh' (Kd.R_lt (ro HO109)) k_ hk, Kd.fresh' (Kd.R_lt (ro HO113)) k_ hk⟩))
      (case aO => exact (ro HO124))
      (case aS => exact (below_size bh))
      (case aL => have := LMc12.out; omega)
      intro v130 w28 ho hb hg hat
      rw [← Ny129.out] at ho
      have HO131 := Aside0.mk (ho)
      replace HO106 := Aside0.mk (Kd.R_after (ok := (fun k_ => some k_ ≠ (.slice Ao20 y107.length co20 : Value).ownBlock ∧ some k_ ≠ (v112 : Value).ownBlock)) (ro HO106) hg hat)
      replace HO113 := Aside0.mk (Kd.R_after (ok := (fun k_ => some k_ ≠ (.slice Ao19 y104.length co19 : Value).ownBlock ∧ some k_ ≠ (.slice Ao20 y107.length co20 : Value).ownBlock)) (ro HO113) hg hat)
      replace HB := Aside0.mk (hb)
      replace HR121 := Aside0.mk ((show Kd.C k29 w28 A23 y118.length y118 from by rw [Ny118.out, KA23.out]; exact Kd.C_drop (m := (t114 : Int).toNat) (c := co20) ((Kd.R_reads' (Kd.R_after (ok := (fun k_ => some k_ ≠ (.slice Ao19 y104.length co19 : Value).ownBlock ∧ some k_ ≠ (v112 : Value).ownBlock)) (ro HO109) hg hat)).2.2) KL23.out ((Kd.R_reads' (Kd.R_after (ok := (fun k_ => some k_ ≠ (.slice Ao19 y104.length co19 : Value).ownBlock ∧ some k_ ≠ (v112 : Value).ownBlock)) (ro HO109) hg hat)).2.1)))
      replace HR128 := Aside0.mk ((show Kd.C k29 w28 Ao20 y125.length y125 from by rw [Ny125.out]; exact Kd.C_take (m := (t114 : Int).toNat) ((Kd.R_reads' (Kd.R_after (ok := (fun k_ => some k_ ≠ (.slice Ao19 y104.length co19 : Value).ownBlock ∧ some k_ ≠ (v112 : Value).ownBlock)) (ro HO109) hg hat)).2.2) KL24.out))
      replace HO109 := Aside0.mk (Kd.R_after (ok := (fun k_ => some k_ ≠ (.slice Ao19 y104.length co19 : Value).ownBlock ∧ some k_ ≠ (v112 : Value).ownBlock)) (ro HO109) hg hat)
      clear HO124
      clear ho hb hg hat
      obtain ⟨Ao29, co29, eo29⟩ := Kd.R_slice HO131.out
      (first | subst eo29 | (injection eo29 with f1_ f2_ f3_; have f4_ := f1_.symm; have f5_ := f3_.symm; clear f1_ f2_ f3_; subst f4_; subst f5_))
      refine hK.out _ _ trivial (fun hHeld => ?_)
      clear hK K
      refine nm 46 ?_
      refine one_ (i := 9) (N := some 47) #[true, true, true, true, true, true, true, true, true, true, false, false, false, false, false] rfl rfl (on1 HT_) (by decide) (fun K hK => ?_)
      refine goes_ Try.func16 (by kernel_rfl) rfl #[.slice Ao29 y129.length co29] (by rfl) rfl rfl sg ?_
      with_reducible refine (shape_Hull.calls k _ _ y129 t132 t133 _ ?side1 ?side2 A13.out).mono ?_
      (case side1 => exact cs (Kd.R_reads' HO131.out).2.2)
      (case side2 => exact (Kd.R_reads' HO131.out).2.1)
      rintro e w30 ⟨v134, rfl, ho0, hb⟩
      refine ⟨_, rfl, ?_⟩
      have HO135 := Aside0.mk (Kd.R_lower (Kd.R_new' (Kd.R_new' (Kd.R_new' (Kd.R_new' ho0 (Kd.R_lt (ro HO106))) (Kd.R_lt (ro HO109))) (Kd.R_lt (ro HO113))) (Kd.R_lt (ro HO131))) (below_size bh))
      replace HO106 := Aside0.mk (Kd.R_elder' (ro HO106) (Kd.R_base ho0) hb)
      replace HO109 := Aside0.mk (Kd.R_elder' (ro HO109) (Kd.R_base ho0) hb)
      replace HO113 := Aside0.mk (Kd.R_elder' (ro HO113) (Kd.R_base ho0) hb)
      replace HO131 := Aside0.mk (Kd.R_elder' (ro HO131) (Kd.R_base ho0) hb)
      replace HR121 := Aside0.mk (Kd.C_below (by repeat (first | (with_reducible exact HR121.out) | (with_reducible refine Kd.C_alloc ?_ _) | (with_reducible refine Kd.C_drewN ?_ _) | (with_reducible refine Kd.C_drew ?_) | exact HR121.out)) hb)
      replace HR128 := Aside0.mk (Kd.C_below (by repeat (first | (with_reducible exact HR128.out) | (with_reducible refine Kd.C_alloc ?_ _) | (with_reducible refine Kd.C_drewN ?_ _) | (with_reducible refine Kd.C_drew ?_) | exact HR128.out)) hb)
      replace HB := Aside0.mk (below_step bh hb)
      (try clear hb); (try clear hb2); (try clear hk); (try clear hi); (try clear ho0)
      refine hK.out _ _ trivial (fun hHeld => ?_)
      clear hK K
      refine nm 47 ?_
      refine pu 10 37 HT_ ?_
      refine pu 11 48 HT_ ?_
      refine pu 12 49 HT_ ?_
      refine pu 13 9 HT_ ?_
      refine pu 14 10 HT_ ?_
      refine done_ (done_of HT_.out (by kernel_rfl)) ?_
      go_upto_region 5 with (fail)
      go_cut [77] (fun v77 wc => ∃ (kq : Nat) (x77_13 : Bool), v77 = .bool x77_13 ∧ Aside0 (cracknellaw04_ShapeHulled.j0 kq y107 t110 x77_13 = some r) ∧ Aside0 (kq ≤ k) ∧ Aside0 (Kd.R k29 29 wc w.heap.size (fun k_ => some k_ ≠ (v112 : Value).ownBlock) (.slice Ao20 y107.length co20) y107) ∧ Aside0 (Kd.R k29 29 wc w.heap.size (fun k_ => some k_ ≠ ((.slice Ao20 y107.length co20) : Value).ownBlock) v112 t110) ∧ Aside0 (Kd.C k29 wc A23 y118.length y118) ∧ Aside0 (Kd.C k29 wc Ao20 y125.length y125) ∧ Aside0 (Below w.heap.size w wc))
      case first =>
       have H := HC14.out
       clear HC14
       by_cases c31 : t111 = 0
       ·rw [if_pos c31] at H
        have c31b0 : (t111 == 0) = true := beq_iff_eq.mpr c31
        have c31b1 : (t111 != 0) = false := bne_eq_false_iff_eq.mpr c31
        clear c31
        (first | rw [c31b0] | (simp only [i64_w, i32_w]; rw [c31b0]) | skip)
        by_cases c32 : t133 = 0
        ·rw [if_pos c32] at H
         have c32b0 : (t133 == 0) = true := beq_iff_eq.mpr c32
         have c32b1 : (t133 != 0) = false := bne_eq_false_iff_eq.mpr c32
         clear c32
         replace H := Option.bind_eq_some_iff.mp H
         obtain ⟨t136, A330, H⟩ := H
         try dsimp only at H
         have A33 := Aside0.mk A330
         clear A330
         by_cases c34 : t136 = true
         ·subst c34
          rw [if_pos rfl] at H
          by_cases c35 : (t110.length : Int) < 3
          ·rw [if_pos c35] at H
           have c35b0 := decide_eq_true c35
           have c35b1 : decide (t110.length < 3) = true := decide_eq_true (by omega)
           clear c35
           exact absurd (hr ▸ H) (cracknellaw04_ShapeHulled.j0_no _ _ _)
          ·rw [if_neg c35] at H
           have c35b0 := decide_eq_false c35
           have c35b1 : decide (t110.length < 3) = false := decide_eq_false (by omega)
           clear c35
           by_cases c38 : (t110.length : Int) > (y107.length : Int)
           ·rw [if_pos c38] at H
            have c38b0 := decide_eq_true c38
            have c38b1 : decide (y107.length < t110.length) = true := decide_eq_true (Int.ofNat_lt.mp c38)
            clear c38
            exact absurd (hr ▸ H) (cracknellaw04_ShapeHulled.j0_no _ _ _)
           ·rw [if_neg c38] at H
            have c38b0 := decide_eq_false c38
            have c38b1 : decide (y107.length < t110.length) = false := decide_eq_false (fun h => c38 (Int.ofNat_lt.mpr h))
            clear c38
            replace H := Option.bind_eq_some_iff.mp H
            obtain ⟨t137, A410, H⟩ := H
            try dsimp only at H
            have hl_ : t137 = true := by
             cases t137 with
             | true => rfl
             | false => exact absurd (hr ▸ H) (cracknellaw04_ShapeHulled.j0_no _ _ _)
            have A41 := Aside0.mk A410
            clear A410
            have H' := Aside0.mk H
            clear H
            obtain ⟨Ao42, co42, eo42⟩ := Kd.R_slice HO113.out
            subst eo42
            obtain ⟨Ao43, co43, eo43⟩ := Kd.R_slice HO135.out
            subst eo43
            go_wp2_with (first | (go_at_call 20; (with_reducible refine (cracknelref04_Same.calls k _ _ t110 _ _ t132 true _ ?side1 ?side2 ?side3 ?side4 A33.out).mono ?_); (case side1 => exact cs (Kd.R_reads' HO113.out).2.2); (case side2 => exact (Kd.R_reads' HO113.out).2.1); (case side3 => exact cs (Kd.R_reads' HO135.out).2.2); (case side4 => exact (Kd.R_reads' HO135.out).2.1); rintro e w' ⟨rfl, ⟨nd, rfl⟩⟩) | (go_at_call 18; (with_reducible refine (cracknellaw04_lives.calls k  t137 _ A41.out hl_).mono ?_); rintro e w44 ⟨rfl, hb⟩; replace HO106 := Aside0.mk (Kd.R_below (ro HO106) hb); replace HO109 := Aside0.mk (Kd.R_below (ro HO109) hb); replace HO113 := Aside0.mk (Kd.R_below (ro HO113) hb); replace HO131 := Aside0.mk (Kd.R_below (ro HO131) hb); replace HO135 := Aside0.mk (Kd.R_below (ro HO135) hb); replace HR121 := Aside0.mk (Kd.C_below (by repeat (first | (with_reducible exact HR121.out) | (with_reducible refine Kd.C_alloc ?_ _) | (with_reducible refine Kd.C_drewN ?_ _) | (with_reducible refine Kd.C_drew ?_) | exact HR121.out)) hb); replace HR128 := Aside0.mk (Kd.C_below (by repeat (first | (with_reducible exact HR128.out) | (with_reducible refine Kd.C_alloc ?_ _) | (with_reducible refine Kd.C_drewN ?_ _) | (with_reducible refine Kd.C_drew ?_) | exact HR128.out)) hb); replace HB := Aside0.mk (below_step bh hb); (try clear hb); (try clear hb2); (try clear hk); (try clear hi)))
            go_meet
            case rel => exact ⟨_, (!t137), sd, H', ⟨om⟩, ⟨by (with_reducible repeat (first | apply Kd.R_alloc | apply Kd.R_drewN | apply Kd.R_drew)); exact Kd.R_mono HO109.out (fun _ hk => hk.1.1.2)⟩, ⟨by (with_reducible repeat (first | apply Kd.R_alloc | apply Kd.R_drewN | apply Kd.R_drew)); exact Kd.R_mono HO113.out (fun _ hk => hk.1.1.2)⟩, ⟨by repeat (first | (with_reducible exact HR121.out) | (with_reducible refine Kd.C_alloc ?_ _) | (with_reducible refine Kd.C_drewN ?_ _) | (with_reducible refine Kd.C_drew ?_) | exact HR121.out)⟩, ⟨by repeat (first | (with_reducible exact HR128.out) | (with_reducible refine Kd.C_alloc ?_ _) | (with_reducible refine Kd.C_drewN ?_ _) | (with_reducible refine Kd.C_drew ?_) | exact HR128.out)⟩, ⟨bh⟩⟩
         ·replace c34 := Bool.eq_false_iff.mpr c34
          subst c34
          rw [if_neg (show ¬ (false = true) by decide)] at H
          exact absurd (hr ▸ H) (cracknellaw04_ShapeHulled.j0_no _ _ _)
        ·rw [if_neg c32] at H
         have c32b0 : (t133 == 0) = false := beq_eq_false_iff_ne.mpr c32
         have c32b1 : (t133 != 0) = true := bne_iff_ne.mpr c32
         exact absurd (hr ▸ H) (cracknellaw04_ShapeHulled.j0_no _ _ _)
       ·rw [if_neg c31] at H
        have c31b0 : (t111 == 0) = false := beq_eq_false_iff_ne.mpr c31
        have c31b1 : (t111 != 0) = true := bne_iff_ne.mpr c31
        (first | rw [c31b0] | (simp only [i64_w, i32_w]; rw [c31b0]) | skip)
        exact absurd (hr ▸ H) (cracknellaw04_ShapeHulled.j0_no _ _ _)
      case rest =>
       clear HC14
       (try clear c1); (try clear c2); (try clear p2); (try clear q2); (try clear c3); (try clear c4); (try clear c7); (try clear c7b0); (try clear c7b1); (try clear c8); (try clear c8b0); (try clear c8b1); (try clear c9); (try clear c10); (try clear c10b0); (try clear c11); (try clear c11b0); (try clear c12); (try clear c16); (try clear c23); (try clear q23); (try clear q24); (try clear c31); (try clear c31b0); (try clear c31b1); (try clear c32); (try clear c32b0); (try clear c32b1); (try clear c34); (try clear c35); (try clear c35b0); (try clear c35b1); (try clear c38); (try clear c38b0); (try clear c38b1); (try clear c39); (try clear q023); (try clear q23); (try clear q24)
       obtain ⟨kq, x77_13, rfl, HA, HJ13, HO_5, HO_6, HR121, HR128, HB⟩ := hcut
       cases kq with
       | zero => exact absurd HA.out (by simp [cracknellaw04_ShapeHulled.j0])
       | succ kj13 =>
        have H := HA.out
        clear HA
        simp only [cracknellaw04_ShapeHulled.j0] at H
        by_cases c47 : x77_13 = true
        ·subst c47
         rw [if_pos rfl] at H
         obtain rfl := Option.some.inj H
         cases hr
        ·replace c47 := Bool.eq_false_iff.mpr c47
         subst c47
         rw [if_neg (show ¬ (false = true) by decide)] at H
         replace H := Option.bind_eq_some_iff.mp H
         obtain ⟨⟨t138, t139⟩, A480, H⟩ := H
         try dsimp only at H
         have A48 := Aside0.mk A480
         clear A480
         replace H := Option.bind_eq_some_iff.mp H
         obtain ⟨⟨t140, t141⟩, A490, H⟩ := H
         try dsimp only at H
         have A49 := Aside0.mk A490
         clear A490
         have HC50 := Aside0.mk H
         clear H
         obtain ⟨Ao51, co51, eo51⟩ := Kd.R_slice HO_6.out
         subst eo51
         go_upto_region 9 with (first | ((with_reducible refine gc 28 rfl ?_); refine goesL_ (some 80) rfl rfl Try.func28 (by kernel_rfl) rfl #[.slice Ao51 t110.length co51] rfl sg ?_; (with_reducible refine (shape_Convex.calls kj13 _ _ t110 t138 t139 _ ?side1 ?side2 A48.out).mono ?_); (case side1 => exact cs (Kd.R_reads' HO_6.out).2.2); (case side2 => exact (Kd.R_reads' HO_6.out).2.1); rintro e w52 ⟨rfl, hb⟩; refine ⟨_, rfl, ?_⟩; replace HO_5 := Aside0.mk (Kd.R_below (ro HO_5) hb); replace HO_6 := Aside0.mk (Kd.R_below (ro HO_6) hb); replace HR121 := Aside0.mk (Kd.C_below (by repeat (first | (with_reducible exact HR121.out) | (with_reducible refine Kd.C_alloc ?_ _) | (with_reducible refine Kd.C_drewN ?_ _) | (with_reducible refine Kd.C_drew ?_) | exact HR121.out)) hb); replace HR128 := Aside0.mk (Kd.C_below (by repeat (first | (with_reducible exact HR128.out) | (with_reducible refine Kd.C_alloc ?_ _) | (with_reducible refine Kd.C_drewN ?_ _) | (with_reducible refine Kd.C_drew ?_) | exact HR128.out)) hb); replace HB := Aside0.mk (below_step bh hb); (try clear hb); (try clear hb2); (try clear hk); (try clear hi)) | ((with_reducible refine gc 16 rfl ?_); refine goesL_ (some 85) rfl rfl Try.func16 (by kernel_rfl) rfl #[.slice Ao51 t110.length co51] rfl sg ?_; (with_reducible refine (shape_Hull.calls kj13 _ _ t110 t140 t141 _ ?side1 ?side2 A49.out).mono ?_); (case side1 => exact cs (Kd.R_reads' HO_6.out).2.2); (case side2 => exact (Kd.R_reads' HO_6.out).2.1); rintro e w53 ⟨v142, rfl, ho0, hb⟩; refine ⟨_, rfl, ?_⟩; have HO143 := Aside0.mk (Kd.R_lower (Kd.R_new' (Kd.R_new' ho0 (Kd.R_lt (ro HO_5))) (Kd.R_lt (ro HO_6))) (below_size bh)); replace HO_5 := Aside0.mk (Kd.R_elder' (ro HO_5) (Kd.R_base ho0) hb); replace HO_6 := Aside0.mk (Kd.R_elder' (ro HO_6) (Kd.R_base ho0) hb); replace HR121 := Aside0.mk (Kd.C_below (by repeat (first | (with_reducible exact HR121.out) | (with_reducible refine Kd.C_alloc ?_ _) | (with_reducible refine Kd.C_drewN ?_ _) | (with_reducible refine Kd.C_drew ?_) | exact HR121.out)) hb); replace HR128 := Aside0.mk (Kd.C_below (by repeat (first | (with_reducible exact HR128.out) | (with_reducible refine Kd.C_alloc ?_ _) | (with_reducible refine Kd.C_drewN ?_ _) | (with_reducible refine Kd.C_drew ?_) | exact HR128.out)) hb); replace HB := Aside0.mk (below_step bh hb); (try clear hb); (try clear hb2); (try clear hk); (try clear hi); (try clear ho0)))
         (try simp only [Act.put, List.setIfInBounds_toArray, List.set_cons_zero, List.set_cons_succ])
         go_cut [103] (fun v103 wc => ∃ (kq : Nat) (x103_49 : Bool), v103 = .bool x103_49 ∧ Aside0 (cracknellaw04_ShapeHulled.j1 kq y107 t110 x103_49 = some r) ∧ Aside0 (kq ≤ kj13) ∧ Aside0 (Kd.R k29 29 wc w.heap.size (fun k_ => some k_ ≠ ((.slice Ao51 t110.length co51) : Value).ownBlock) (.slice Ao20 y107.length co20) y107) ∧ Aside0 (Kd.R k29 29 wc w.heap.size (fun k_ => some k_ ≠ ((.slice Ao20 y107.length co20) : Value).ownBlock) (.slice Ao51 t110.length co51) t110) ∧ Aside0 (Kd.C k29 wc A23 y118.length y118) ∧ Aside0 (Kd.C k29 wc Ao20 y125.length y125) ∧ Aside0 (Below w.heap.size w wc))
         case first =>
          have H := HC50.out
          clear HC50
          by_cases c54 : t138 = true
          ·subst c54
           rw [if_pos rfl] at H
           by_cases c55 : t139 = 0
           ·rw [if_pos c55] at H
            have c55b0 : (t139 == 0) = true := beq_iff_eq.mpr c55
            have c55b1 : (t139 != 0) = false := bne_eq_false_iff_eq.mpr c55
            clear c55
            (first | rw [c55b0] | (simp only [i64_w, i32_w]; rw [c55b0]) | skip)
            by_cases c56 : t141 = 0
            ·rw [if_pos c56] at H
             have c56b0 : (t141 == 0) = true := beq_iff_eq.mpr c56
             have c56b1 : (t141 != 0) = false := bne_eq_false_iff_eq.mpr c56
             clear c56
             replace H := Option.bind_eq_some_iff.mp H
             obtain ⟨t144, A570, H⟩ := H
             try dsimp only at H
             have A57 := Aside0.mk A570
             clear A570
             have H' := Aside0.mk H
             clear H
             obtain ⟨Ao58, co58, eo58⟩ := Kd.R_slice HO143.out
             subst eo58
             go_wp2_with (first | (go_at_call 20; (with_reducible refine (cracknelref04_Same.calls kj13 _ _ t140 _ _ t110 t144 _ ?side1 ?side2 ?side3 ?side4 A57.out).mono ?_); (case side1 => exact cs (Kd.R_reads' HO143.out).2.2); (case side2 => exact (Kd.R_reads' HO143.out).2.1); (case side3 => exact cs (Kd.R_reads' HO_6.out).2.2); (case side4 => exact (Kd.R_reads' HO_6.out).2.1); rintro e w' ⟨rfl, ⟨nd, rfl⟩⟩))
             go_meet
             case rel => exact ⟨_, (!t144), sd, H', ⟨by have := HJ13.out; first | omega | exact Nat.le_refl _⟩, ⟨by (with_reducible repeat (first | apply Kd.R_alloc | apply Kd.R_drewN | apply Kd.R_drew)); exact Kd.R_mono HO_5.out (fun _ hk => hk.1)⟩, ⟨by (with_reducible repeat (first | apply Kd.R_alloc | apply Kd.R_drewN | apply Kd.R_drew)); exact Kd.R_mono HO_6.out (fun _ hk => hk.1)⟩, ⟨by repeat (first | (with_reducible exact HR121.out) | (with_reducible refine Kd.C_alloc ?_ _) | (with_reducible refine Kd.C_drewN ?_ _) | (with_reducible refine Kd.C_drew ?_) | exact HR121.out)⟩, ⟨by repeat (first | (with_reducible exact HR128.out) | (with_reducible refine Kd.C_alloc ?_ _) | (with_reducible refine Kd.C_drewN ?_ _) | (with_reducible refine Kd.C_drew ?_) | exact HR128.out)⟩, ⟨bh⟩⟩
            ·rw [if_neg c56] at H
             have c56b0 : (t141 == 0) = false := beq_eq_false_iff_ne.mpr c56
             have c56b1 : (t141 != 0) = true := bne_iff_ne.mpr c56
             exact absurd (hr ▸ H) (cracknellaw04_ShapeHulled.j1_no _ _ _)
           ·rw [if_neg c55] at H
            have c55b0 : (t139 == 0) = false := beq_eq_false_iff_ne.mpr c55
            have c55b1 : (t139 != 0) = true := bne_iff_ne.mpr c55
            (first | rw [c55b0] | (simp only [i64_w, i32_w]; rw [c55b0]) | skip)
            exact absurd (hr ▸ H) (cracknellaw04_ShapeHulled.j1_no _ _ _)
          ·replace c54 := Bool.eq_false_iff.mpr c54
           subst c54
           rw [if_neg (show ¬ (false = true) by decide)] at H
           exact absurd (hr ▸ H) (cracknellaw04_ShapeHulled.j1_no _ _ _)
         case rest =>
          clear HC50
          (try clear c1); (try clear c2); (try clear p2); (try clear q2); (try clear c3); (try clear c4); (try clear c5); (try clear c7); (try clear c7b0); (try clear c7b1); (try clear c8); (try clear c8b0); (try clear c8b1); (try clear c9); (try clear c10); (try clear c10b0); (try clear c11); (try clear c11b0); (try clear c12); (try clear c16); (try clear c23); (try clear q23); (try clear q24); (try clear c28); (try clear c31); (try clear c31b0); (try clear c31b1); (try clear c32); (try clear c32b0); (try clear c32b1); (try clear c34); (try clear c35); (try clear c35b0); (try clear c35b1); (try clear c38); (try clear c38b0); (try clear c38b1); (try clear c39); (try clear c47); (try clear c54); (try clear c55); (try clear c55b0); (try clear c55b1); (try clear c56); (try clear c56b0); (try clear c56b1); (try clear p2); (try clear q023); (try clear q2); (try clear q23); (try clear q24)
          obtain ⟨kq, x103_49, rfl, HA, HJ49, HO_5, HO_6, HR121, HR128, HB⟩ := hcut
          cases kq with
          | zero => exact absurd HA.out (by simp [cracknellaw04_ShapeHulled.j1])
          | succ kj49 =>
           have H := HA.out
           clear HA
           simp only [cracknellaw04_ShapeHulled.j1] at H
           by_cases c59 : x103_49 = true
           ·subst c59
            rw [if_pos rfl] at H
            obtain rfl := Option.some.inj H
            cases hr
           ·replace c59 := Bool.eq_false_iff.mpr c59
            subst c59
            rw [if_neg (show ¬ (false = true) by decide)] at H
            have H' := Aside0.mk H
            clear H
            go_wp2
            go_loopg [15] kj49 (fun kq v15 w' => ∃ (x15_3 : Int), v15 = .int .i64 x15_3 ∧ Aside0 (cracknellaw04_ShapeHulled.l0 kq y107 t110 x15_3 = some r) ∧ Aside0 (kq ≤ kj49) ∧ Aside0 (Kd.R k29 29 w' w.heap.size (fun k_ => some k_ ≠ ((.slice Ao51 t110.length co51) : Value).ownBlock) (.slice Ao20 y107.length co20) y107) ∧ Aside0 (Kd.R k29 29 w' w.heap.size (fun k_ => some k_ ≠ ((.slice Ao20 y107.length co20) : Value).ownBlock) (.slice Ao51 t110.length co51) t110) ∧ Aside0 (Kd.C k29 w' A23 y118.length y118) ∧ Aside0 (Kd.C k29 w' Ao20 y125.length y125) ∧ Aside0 (Below w.heap.size w w'))
            case atStart => exact ⟨(0), sd, H', ⟨Nat.le_refl _⟩, ⟨by (with_reducible repeat (first | apply Kd.R_alloc | apply Kd.R_drewN | apply Kd.R_drew)); exact HO_5.out⟩, ⟨by (with_reducible repeat (first | apply Kd.R_alloc | apply Kd.R_drewN | apply Kd.R_drew)); exact HO_6.out⟩, ⟨by repeat (first | (with_reducible exact HR121.out) | (with_reducible refine Kd.C_alloc ?_ _) | (with_reducible refine Kd.C_drewN ?_ _) | (with_reducible refine Kd.C_drew ?_) | exact HR121.out)⟩, ⟨by repeat (first | (with_reducible exact HR128.out) | (with_reducible refine Kd.C_alloc ?_ _) | (with_reducible refine Kd.C_drewN ?_ _) | (with_reducible refine Kd.C_drew ?_) | exact HR128.out)⟩, ⟨bh⟩⟩
            case round =>
             clear H'
             (try clear c1); (try clear c2); (try clear p2); (try clear q2); (try clear c3); (try clear c4); (try clear c5); (try clear c7); (try clear c7b0); (try clear c7b1); (try clear c8); (try clear c8b0); (try clear c8b1); (try clear c9); (try clear c10); (try clear c10b0); (try clear c11); (try clear c11b0); (try clear c12); (try clear c16); (try clear c23); (try clear q23); (try clear q24); (try clear c28); (try clear c31); (try clear c31b0); (try clear c31b1); (try clear c32); (try clear c32b0); (try clear c32b1); (try clear c34); (try clear c35); (try clear c35b0); (try clear c35b1); (try clear c38); (try clear c38b0); (try clear c38b1); (try clear c39); (try clear c47); (try clear c54); (try clear c55); (try clear c55b0); (try clear c55b1); (try clear c56); (try clear c56b0); (try clear c56b1); (try clear c59); (try clear p2); (try clear q023); (try clear q2); (try clear q23); (try clear q24)
             obtain ⟨x15_3, rfl, HA, HK3, HO_5, HO_6, HR121, HR128, HB⟩ := hrel
             cases gk with
             | zero => exact absurd HA.out (by simp [cracknellaw04_ShapeHulled.l0])
             | succ k3 =>
              have H := HA.out
              clear HA
              simp only [cracknellaw04_ShapeHulled.l0] at H
              by_cases c60 : x15_3 < (y107.length : Int)
              ·rw [if_pos c60] at H
               have c60b0 := decide_eq_true c60
               clear c60
               by_cases c61 : 0 ≤ x15_3
               ·rw [if_pos c61] at H
                have c61b0 := decide_eq_true c61
                clear c61
                replace H := Option.bind_eq_some_iff.mp H
                obtain ⟨⟨t146, t147⟩, A620, H⟩ := H
                try dsimp only at H
                have A62 := Aside0.mk A620
                clear A620
                by_cases c63 : t146 < 0
                ·rw [if_pos c63] at H
                 have c63b0 := decide_eq_true c63
                 clear c63
                 obtain rfl := Option.some.inj H
                 cases hr
                ·rw [if_neg c63] at H
                 have c63b0 := decide_eq_false c63
                 clear c63
                 by_cases c65 : t147 = 0
                 ·rw [if_pos c65] at H
                  have c65b0 : (t147 == 0) = true := beq_iff_eq.mpr c65
                  have c65b1 : (t147 != 0) = false := bne_eq_false_iff_eq.mpr c65
                  clear c65
                  have H' := Aside0.mk H
                  clear H
                  have p145 : 0 ≤ (x15_3 : Int) := dt
                  have q145 : x15_3 < (y107.length : Int) := dt
                  obtain ⟨ad145, e145, hx145_0, hx145_1⟩ := at_T29 (Kd.R_reads' HO_5.out).2.2 x15_3 p145 q145
                  cases e145
                  replace p145 := eq_true p145
                  replace q145 := eq_true q145
                  go_wp2_with (first | ((with_reducible refine gc 32 rfl ?_); refine goesL_ (some 116) rfl rfl Try.func32 (by kernel_rfl) rfl #[.slice Ao51 t110.length co51, .agg #[.int .i64 ((rd_T29 y107 x15_3).f0), .int .i64 ((rd_T29 y107 x15_3).f1)]] rfl sg ?_; (with_reducible refine (shape_Where.calls k3 _ _ t110 ((rd_T29 y107 x15_3).f0) ((rd_T29 y107 x15_3).f1) t146 t147 _ ?side1 ?side2 A62.out).mono ?_); (case side1 => exact cs (Kd.R_reads' HO_6.out).2.2); (case side2 => exact (Kd.R_reads' HO_6.out).2.1); rintro e w66 ⟨rfl, hb⟩; refine ⟨_, rfl, ?_⟩; replace HO_5 := Aside0.mk (Kd.R_below (ro HO_5) hb); replace HO_6 := Aside0.mk (Kd.R_below (ro HO_6) hb); replace HR121 := Aside0.mk (Kd.C_below (by repeat (first | (with_reducible exact HR121.out) | (with_reducible refine Kd.C_alloc ?_ _) | (with_reducible refine Kd.C_drewN ?_ _) | (with_reducible refine Kd.C_drew ?_) | exact HR121.out)) hb); replace HR128 := Aside0.mk (Kd.C_below (by repeat (first | (with_reducible exact HR128.out) | (with_reducible refine Kd.C_alloc ?_ _) | (with_reducible refine Kd.C_drewN ?_ _) | (with_reducible refine Kd.C_drew ?_) | exact HR128.out)) hb); replace HB := Aside0.mk (below_step bh hb); (try clear hb); (try clear hb2); (try clear hk); (try clear hi)))
                  go_roundg k3
                  case measure => have := HJ13.out; have := HJ49.out; have := HK3.out; omega
                  case rel => exact ⟨(wrap64 (x15_3 + 1)), sd, H', ⟨by have := HJ13.out; have := HJ49.out; have := HK3.out; omega⟩, ⟨by (with_reducible repeat (first | apply Kd.R_alloc | apply Kd.R_drewN | apply Kd.R_drew)); exact HO_5.out⟩, ⟨by (with_reducible repeat (first | apply Kd.R_alloc | apply Kd.R_drewN | apply Kd.R_drew)); exact HO_6.out⟩, ⟨by repeat (first | (with_reducible exact HR121.out) | (with_reducible refine Kd.C_alloc ?_ _) | (with_reducible refine Kd.C_drewN ?_ _) | (with_reducible refine Kd.C_drew ?_) | exact HR121.out)⟩, ⟨by repeat (first | (with_reducible exact HR128.out) | (with_reducible refine Kd.C_alloc ?_ _) | (with_reducible refine Kd.C_drewN ?_ _) | (with_reducible refine Kd.C_drew ?_) | exact HR128.out)⟩, ⟨bh⟩⟩
                 ·rw [if_neg c65] at H
                  have c65b0 : (t147 == 0) = false := beq_eq_false_iff_ne.mpr c65
                  have c65b1 : (t147 != 0) = true := bne_iff_ne.mpr c65
                  obtain rfl := Option.some.inj H
                  cases hr
               ·rw [if_neg c61] at H
                exact absurd H (by simp)
              ·rw [if_neg c60] at H
               have c60b0 := decide_eq_false c60
               clear c60
               have H' := Aside0.mk H
               clear H
               go_wp2
               go_loopg [18] k3 (fun kq v18 w' => ∃ (x18_4 : Int), v18 = .int .i64 x18_4 ∧ Aside0 (cracknellaw04_ShapeHulled.l1 kq y107 t110 x18_4 = some r) ∧ Aside0 (kq ≤ k3) ∧ Aside0 (Kd.R k29 29 w' w.heap.size (fun k_ => some k_ ≠ ((.slice Ao51 t110.length co51) : Value).ownBlock) (.slice Ao20 y107.length co20) y107) ∧ Aside0 (Kd.R k29 29 w' w.heap.size (fun k_ => some k_ ≠ ((.slice Ao20 y107.length co20) : Value).ownBlock) (.slice Ao51 t110.length co51) t110) ∧ Aside0 (Kd.C k29 w' A23 y118.length y118) ∧ Aside0 (Kd.C k29 w' Ao20 y125.length y125) ∧ Aside0 (Below w.heap.size w w'))
               case atStart => exact ⟨(0), sd, H', ⟨Nat.le_refl _⟩, ⟨by (with_reducible repeat (first | apply Kd.R_alloc | apply Kd.R_drewN | apply Kd.R_drew)); exact HO_5.out⟩, ⟨by (with_reducible repeat (first | apply Kd.R_alloc | apply Kd.R_drewN | apply Kd.R_drew)); exact HO_6.out⟩, ⟨by repeat (first | (with_reducible exact HR121.out) | (with_reducible refine Kd.C_alloc ?_ _) | (with_reducible refine Kd.C_drewN ?_ _) | (with_reducible refine Kd.C_drew ?_) | exact HR121.out)⟩, ⟨by repeat (first | (with_reducible exact HR128.out) | (with_reducible refine Kd.C_alloc ?_ _) | (with_reducible refine Kd.C_drewN ?_ _) | (with_reducible refine Kd.C_drew ?_) | exact HR128.out)⟩, ⟨bh⟩⟩
               case round =>
                clear H'
                (try clear c1); (try clear p1); (try clear q1); (try clear hx1); (try clear c2); (try clear p2); (try clear q2); (try clear c3); (try clear c4); (try clear c5); (try clear c6); (try clear p6); (try clear c7); (try clear c7b0); (try clear c7b1); (try clear c8); (try clear c8b0); (try clear c8b1); (try clear c9); (try clear c10); (try clear c10b0); (try clear c11); (try clear c11b0); (try clear c12); (try clear p14); (try clear q14); (try clear hx14); (try clear c16); (try clear c23); (try clear q23); (try clear q24); (try clear c28); (try clear c31); (try clear c31b0); (try clear c31b1); (try clear c32); (try clear c32b0); (try clear c32b1); (try clear c34); (try clear c35); (try clear c35b0); (try clear c35b1); (try clear c38); (try clear c38b0); (try clear c38b1); (try clear c39); (try clear c47); (try clear c54); (try clear c55); (try clear c55b0); (try clear c55b1); (try clear c56); (try clear c56b0); (try clear c56b1); (try clear c59); (try clear c60); (try clear c60b0); (try clear c61); (try clear c61b0); (try clear c63); (try clear c63b0); (try clear p64); (try clear c65); (try clear c65b0); (try clear c65b1); (try clear hx145_0); (try clear hx145_1); (try clear p145); (try clear p2); (try clear q023); (try clear q145); (try clear q2); (try clear q23); (try clear q24)
                obtain ⟨x18_4, rfl, HA, HK4, HO_5, HO_6, HR121, HR128, HB⟩ := hrel
                cases gk with
                | zero => exact absurd HA.out (by simp [cracknellaw04_ShapeHulled.l1])
                | succ k4 =>
                 have H := HA.out
                 clear HA
                 simp only [cracknellaw04_ShapeHulled.l1] at H
                 by_cases c68 : x18_4 < (t110.length : Int)
                 ·rw [if_pos c68] at H
                  have c68b0 := decide_eq_true c68
                  clear c68
                  have H' := Aside0.mk H
                  clear H
                  go_wp2
                  go_loopg [19, 20] k4 (fun kq v19 v20 w' => ∃ (x19_5 : Bool) (x20_5 : Int), v19 = .bool x19_5 ∧ v20 = .int .i64 x20_5 ∧ Aside0 (cracknellaw04_ShapeHulled.l2 kq y107 t110 x18_4 x19_5 x20_5 = some r) ∧ Aside0 (kq ≤ k4) ∧ Aside0 (Kd.R k29 29 w' w.heap.size (fun k_ => some k_ ≠ ((.slice Ao51 t110.length co51) : Value).ownBlock) (.slice Ao20 y107.length co20) y107) ∧ Aside0 (Kd.R k29 29 w' w.heap.size (fun k_ => some k_ ≠ ((.slice Ao20 y107.length co20) : Value).ownBlock) (.slice Ao51 t110.length co51) t110) ∧ Aside0 (Kd.C k29 w' A23 y118.length y118) ∧ Aside0 (Kd.C k29 w' Ao20 y125.length y125) ∧ Aside0 (Below w.heap.size w w'))
                  case atStart => exact ⟨(false), (0), sd, sd, H', ⟨Nat.le_refl _⟩, ⟨by (with_reducible repeat (first | apply Kd.R_alloc | apply Kd.R_drewN | apply Kd.R_drew)); exact HO_5.out⟩, ⟨by (with_reducible repeat (first | apply Kd.R_alloc | apply Kd.R_drewN | apply Kd.R_drew)); exact HO_6.out⟩, ⟨by repeat (first | (with_reducible exact HR121.out) | (with_reducible refine Kd.C_alloc ?_ _) | (with_reducible refine Kd.C_drewN ?_ _) | (with_reducible refine Kd.C_drew ?_) | exact HR121.out)⟩, ⟨by repeat (first | (with_reducible exact HR128.out) | (with_reducible refine Kd.C_alloc ?_ _) | (with_reducible refine Kd.C_drewN ?_ _) | (with_reducible refine Kd.C_drew ?_) | exact HR128.out)⟩, ⟨bh⟩⟩
                  case round =>
                   clear H'
                   (try clear c1); (try clear p1); (try clear q1); (try clear hx1); (try clear c2); (try clear p2); (try clear q2); (try clear c3); (try clear c4); (try clear c5); (try clear c6); (try clear p6); (try clear c7); (try clear c7b0); (try clear c7b1); (try clear c8); (try clear c8b0); (try clear c8b1); (try clear c9); (try clear c10); (try clear c10b0); (try clear c11); (try clear c11b0); (try clear c12); (try clear p14); (try clear q14); (try clear hx14); (try clear c16); (try clear c23); (try clear q23); (try clear q24); (try clear c28); (try clear c31); (try clear c31b0); (try clear c31b1); (try clear c32); (try clear c32b0); (try clear c32b1); (try clear c34); (try clear c35); (try clear c35b0); (try clear c35b1); (try clear c38); (try clear c38b0); (try clear c38b1); (try clear c39); (try clear c47); (try clear c54); (try clear c55); (try clear c55b0); (try clear c55b1); (try clear c56); (try clear c56b0); (try clear c56b1); (try clear c59); (try clear c60); (try clear c60b0); (try clear c61); (try clear c61b0); (try clear c63); (try clear c63b0); (try clear p64); (try clear c65); (try clear c65b0); (try clear c65b1); (try clear c68); (try clear c68b0); (try clear hx145_0); (try clear hx145_1); (try clear p1); (try clear p14); (try clear p145); (try clear p2); (try clear p6); (try clear p64); (try clear q023); (try clear q1); (try clear q14); (try clear q145); (try clear q2); (try clear q23); (try clear q24)
                   obtain ⟨x19_5, x20_5, rfl, rfl, HA, HK5, HO_5, HO_6, HR121, HR128, HB⟩ := hrel
                   cases gk with
                   | zero => exact absurd HA.out (by simp [cracknellaw04_ShapeHulled.l2])
                   | succ k5 =>
                    have H := HA.out
                    clear HA
                    simp only [cracknellaw04_ShapeHulled.l2] at H
                    by_cases c69 : x20_5 < (y107.length : Int)
                    ·rw [if_pos c69] at H
                     have c69b0 := decide_eq_true c69
                     clear c69
                     by_cases c70 : x19_5 = true
                     ·subst c70
                      rw [if_pos rfl] at H
                      have H' := Aside0.mk H
                      clear H
                      try go_wp2
                      replace HO_5 := Aside0.mk (Kd.R_drew HO_5.out)
                      replace HO_6 := Aside0.mk (Kd.R_drew HO_6.out)
                      replace HR121 := Aside0.mk (Kd.C_drew HR121.out)
                      replace HR128 := Aside0.mk (Kd.C_drew HR128.out)
                      replace HB := Aside0.mk (below_drew1 HB.out)
                      refine start_ (n := 13) (S := fun w' => True) (ds := []) #[false, false, false, false, false, false, false, false, false, false, false, false, false] (by kernel_rfl) rfl rfl trivial (fun hHeld => ?_); refine with_tabW cracknellaw04_ShapeHulled.tab24 cracknellaw04_ShapeHulled.bits24 (fun HT_ HW_ => ?_)
                      generalize wr.drew = w71 at HO_5 HO_6 HR121 HR128 HB hHeld ⊢
                      refine pu 0 137 HT_ ?_
                      refine pu 1 138 HT_ ?_
                      refine pz 2 139 HT_ ?_
                      refine pz 3 140 HT_ ?_
                      refine pz 4 141 HT_ ?_
                      refine pz 5 142 HT_ ?_
                      refine pz 6 143 HT_ ?_
                      refine pz 7 144 HT_ ?_
                      refine pz 8 145 HT_ ?_
                      refine pz 9 146 HT_ ?_
                      refine pz 10 147 HT_ ?_
                      refine pu 11 148 HT_ ?_
                      refine pu 12 19 HT_ ?_
                      refine done_ (done_of HT_.out (by kernel_rfl)) ?_
                      try go_wp2
                      go_roundg k5
                      case measure => have := HJ13.out; have := HJ49.out; have := HK3.out; have := HK4.out; have := HK5.out; omega
                      case rel => exact ⟨(true), (wrap64 (x20_5 + 1)), sd, sd, H', ⟨by have := HJ13.out; have := HJ49.out; have := HK3.out; have := HK4.out; have := HK5.out; omega⟩, ⟨by (with_reducible repeat (first | apply Kd.R_alloc | apply Kd.R_drewN | apply Kd.R_drew)); exact HO_5.out⟩, ⟨by (with_reducible repeat (first | apply Kd.R_alloc | apply Kd.R_drewN | apply Kd.R_drew)); exact HO_6.out⟩, ⟨by repeat (first | (with_reducible exact HR121.out) | (with_reducible refine Kd.C_alloc ?_ _) | (with_reducible refine Kd.C_drewN ?_ _) | (with_reducible refine Kd.C_drew ?_) | exact HR121.out)⟩, ⟨by repeat (first | (with_reducible exact HR128.out) | (with_reducible refine Kd.C_alloc ?_ _) | (with_reducible refine Kd.C_drewN ?_ _) | (with_reducible refine Kd.C_drew ?_) | exact HR128.out)⟩, ⟨bh⟩⟩
                     ·replace c70 := Bool.eq_false_iff.mpr c70
                      subst c70
                      rw [if_neg (show ¬ (false = true) by decide)] at H
                      by_cases c72 : 0 ≤ x20_5
                      ·rw [if_pos c72] at H
                       have c72b0 := decide_eq_true c72
                       clear c72
                       by_cases c73 : 0 ≤ x18_4
                       ·rw [if_pos c73] at H
                        have c73b0 := decide_eq_true c73
                        clear c73
                        by_cases c74 : x18_4 < (t110.length : Int)
                        ·rw [if_pos c74] at H
                         have c74b0 := decide_eq_true c74
                         clear c74
                         have H' := Aside0.mk H
                         clear H
                         try go_wp2
                         replace HO_5 := Aside0.mk (Kd.R_drew HO_5.out)
                         replace HO_6 := Aside0.mk (Kd.R_drew HO_6.out)
                         replace HR121 := Aside0.mk (Kd.C_drew HR121.out)
                         replace HR128 := Aside0.mk (Kd.C_drew HR128.out)
                         replace HB := Aside0.mk (below_drew1 HB.out)
                         have p148 : 0 ≤ (x20_5 : Int) := dt
                         have q148 : x20_5 < (y107.length : Int) := dt
                         obtain ⟨ad148, e148, hx148_0, hx148_1⟩ := at_T29 (Kd.R_reads' HO_5.out).2.2 x20_5 p148 q148
                         cases e148
                         replace p148 := eq_true p148
                         replace q148 := eq_true q148
                         have p149 : 0 ≤ (x18_4 : Int) := dt
                         have q149 : x18_4 < (t110.length : Int) := dt
                         obtain ⟨ad149, e149, hx149_0, hx149_1⟩ := at_T29 (Kd.R_reads' HO_6.out).2.2 x18_4 p149 q149
                         cases e149
                         replace p149 := eq_true p149
                         replace q149 := eq_true q149
                         refine start_ (n := 13) (S := fun w' => w'.cell? (ad148.add ((x20_5).toNat * 2)) = some (.int .i64 ((rd_T29 y107 x20_5).f0)) ∧ w'.cell? ⟨(ad148.add ((x20_5).toNat * 2)).block, (ad148.add ((x20_5).toNat * 2)).off + 1, none⟩ = some (.int .i64 ((rd_T29 y107 x20_5).f1)) ∧ w'.cell? (ad149.add ((x18_4).toNat * 2)) = some (.int .i64 ((rd_T29 t110 x18_4).f0)) ∧ w'.cell? ⟨(ad149.add ((x18_4).toNat * 2)).block, (ad149.add ((x18_4).toNat * 2)).off + 1, none⟩ = some (.int .i64 ((rd_T29 t110 x18_4).f1))) (ds := []) #[false, false, false, false, false, false, false, false, false, false, false, false, false] (by kernel_rfl) rfl rfl ⟨hx148_0, hx148_1, hx149_0, hx149_1⟩ (fun hHeld => ?_); refine with_tabW cracknellaw04_ShapeHulled.tab24 cracknellaw04_ShapeHulled.bits24 (fun HT_ HW_ => ?_)
                         generalize wr.drew = w75 at HO_5 HO_6 HR121 HR128 HB hx148_0 hx148_1 hx149_0 hx149_1 hHeld ⊢
                         refine pu 0 137 HT_ ?_
                         refine pu 1 138 HT_ ?_
                         refine pu 2 139 HT_ ?_
                         refine pu 3 140 HT_ ?_
                         refine pu 4 141 HT_ ?_
                         refine pu 6 143 HT_ ?_
                         refine pu 7 144 HT_ ?_
                         refine pu 8 145 HT_ ?_
                         refine tk4 5 142 hHeld HT_ HW_ ?_
                         refine tk4 9 146 hHeld HT_ HW_ ?_
                         refine pu 10 147 HT_ ?_
                         refine pu 11 148 HT_ ?_
                         refine pu 12 19 HT_ ?_
                         refine done_ (done_of HT_.out (by kernel_rfl)) ?_
                         try go_wp2
                         go_roundg k5
                         case measure => have := HJ13.out; have := HJ49.out; have := HK3.out; have := HK4.out; have := HK5.out; omega
                         case rel => exact ⟨((((rd_T29 y107 x20_5).f0) == ((rd_T29 t110 x18_4).f0) && (((rd_T29 y107 x20_5).f1) == ((rd_T29 t110 x18_4).f1)))), (wrap64 (x20_5 + 1)), sd, sd, H', ⟨by have := HJ13.out; have := HJ49.out; have := HK3.out; have := HK4.out; have := HK5.out; omega⟩, ⟨by (with_reducible repeat (first | apply Kd.R_alloc | apply Kd.R_drewN | apply Kd.R_drew)); exact HO_5.out⟩, ⟨by (with_reducible repeat (first | apply Kd.R_alloc | apply Kd.R_drewN | apply Kd.R_drew)); exact HO_6.out⟩, ⟨by repeat (first | (with_reducible exact HR121.out) | (with_reducible refine Kd.C_alloc ?_ _) | (with_reducible refine Kd.C_drewN ?_ _) | (with_reducible refine Kd.C_drew ?_) | exact HR121.out)⟩, ⟨by repeat (first | (with_reducible exact HR128.out) | (with_reducible refine Kd.C_alloc ?_ _) | (with_reducible refine Kd.C_drewN ?_ _) | (with_reducible refine Kd.C_drew ?_) | exact HR128.out)⟩, ⟨bh⟩⟩
                        ·rw [if_neg c74] at H
                         exact absurd H (by simp)
                       ·rw [if_neg c73] at H
                        exact absurd H (by simp)
                      ·rw [if_neg c72] at H
                       exact absurd H (by simp)
                    ·rw [if_neg c69] at H
                     have c69b0 := decide_eq_false c69
                     clear c69
                     by_cases c76 : x19_5 = true
                     ·subst c76
                      rw [if_pos rfl] at H
                      have H' := Aside0.mk H
                      clear H
                      go_wp2
                      go_roundg k5
                      case measure => have := HJ13.out; have := HJ49.out; have := HK3.out; have := HK4.out; have := HK5.out; omega
                      case rel => exact ⟨(wrap64 (x18_4 + 1)), sd, H', ⟨by have := HJ13.out; have := HJ49.out; have := HK3.out; have := HK4.out; have := HK5.out; omega⟩, ⟨by (with_reducible repeat (first | apply Kd.R_alloc | apply Kd.R_drewN | apply Kd.R_drew)); exact HO_5.out⟩, ⟨by (with_reducible repeat (first | apply Kd.R_alloc | apply Kd.R_drewN | apply Kd.R_drew)); exact HO_6.out⟩, ⟨by repeat (first | (with_reducible exact HR121.out) | (with_reducible refine Kd.C_alloc ?_ _) | (with_reducible refine Kd.C_drewN ?_ _) | (with_reducible refine Kd.C_drew ?_) | exact HR121.out)⟩, ⟨by repeat (first | (with_reducible exact HR128.out) | (with_reducible refine Kd.C_alloc ?_ _) | (with_reducible refine Kd.C_drewN ?_ _) | (with_reducible refine Kd.C_drew ?_) | exact HR128.out)⟩, ⟨bh⟩⟩
                     ·replace c76 := Bool.eq_false_iff.mpr c76
                      subst c76
                      rw [if_neg (show ¬ (false = true) by decide)] at H
                      obtain rfl := Option.some.inj H
                      cases hr
                 ·rw [if_neg c68] at H
                  have c68b0 := decide_eq_false c68
                  clear c68
                  obtain rfl := Option.some.inj H
                  go_wp2
                  go_ret
                  exact ⟨by exact er, bh⟩
     ·rw [if_neg c12] at H
      exact absurd H (by simp)
    ·rw [if_neg c9] at H
     exact absurd H (by simp)
   ·rw [if_neg c8] at H
    exact absurd H (by simp)
  ·rw [if_neg c7] at H
   exact absurd H (by simp)
 ·rw [if_neg c4] at H
  exact absurd H (by simp)
end Go.Proofs.Ytoffmpkgickfhaa.PG
end
section
namespace Go.Proofs.Ytoffmpkgickfhaa.M
open Go.Proofs.Ytoffmpkgickfhaa.PG
abbrev Pt := S29
instance decS29 : DecidableEq S29 := fun a b => if h : a.f0 = b.f0 ∧ a.f1 = b.f1 then isTrue (by cases a; cases b; simp_all) else isFalse (by intro e; exact h (by rw [e]; exact ⟨rfl, rfl⟩))
def cr (a b c : Pt) : Int := (b.f0-a.f0)*(c.f1-a.f1) - (c.f0-a.f0)*(b.f1-a.f1)
def btw (a b p : Pt) : Prop := min a.f0 b.f0 ≤ p.f0 ∧ p.f0 ≤ max a.f0 b.f0 ∧ min a.f1 b.f1 ≤ p.f1 ∧ p.f1 ≤ max a.f1 b.f1
theorem pt_ext {a b : Pt} (h0 : a.f0 = b.f0) (h1 : a.f1 = b.f1) : a = b := by
 cases a; cases b; simp_all
theorem cr_swap (a b c : Pt) : cr a c b = -(cr a b c) := by unfold cr; grind
theorem cr_rot (a b c : Pt) : cr b c a = cr a b c := by unfold cr; grind
theorem cr_self1 (a b : Pt) : cr a b a = 0 := by unfold cr; grind
theorem cr_self2 (a b : Pt) : cr a b b = 0 := by unfold cr; grind
def HE (S : List Pt) (a b : Pt) : Prop := a ≠ b ∧ a ∈ S ∧ b ∈ S ∧ ∀ p ∈ S, 0 ≤ cr a b p ∧ (cr a b p = 0 → btw a b p)
theorem btw_eq {a b c : Pt} (h1 : btw a b c) (h2 : btw a c b) : b = c := by
 unfold btw at h1 h2
 apply pt_ext <;> omega
theorem btw_eq' {a b c : Pt} (h1 : btw a c b) (h2 : btw b c a) : a = b := by
 unfold btw at h1 h2
 apply pt_ext <;> omega
theorem he_succ {S : List Pt} {a b c : Pt} (h1 : HE S a b) (h2 : HE S a c) : b = c := by
 obtain ⟨_, _, hb, hB⟩ := h1
 obtain ⟨_, _, hc, hC⟩ := h2
 have h3 := hB c hc
 have h4 := hC b hb
 have h5 := cr_swap a b c
 exact btw_eq (h3.2 (by omega)) (h4.2 (by omega))
theorem he_pred {S : List Pt} {a b c : Pt} (h1 : HE S a c) (h2 : HE S b c) : a = b := by
 obtain ⟨_, ha, _, hA⟩ := h1
 obtain ⟨_, hb, _, hB⟩ := h2
 have h3 := hA b hb
 have h4 := hB a ha
 have h5 : cr b c a = -(cr a c b) := by unfold cr; grind
 exact btw_eq' (h3.2 (by omega)) (h4.2 (by omega))
def fn (p q : Int) (a b : Pt) : Int := p * (b.f0 - a.f0) + q * (b.f1 - a.f1)
theorem pos_of_mul {a b : Int} (ha : 0 < a) (h : 0 < a * b) : 0 < b := by
 rcases Int.lt_trichotomy b 0 with h1 | h1 | h1
 ·have := Int.mul_neg_of_pos_of_neg ha h1; omega
 ·subst h1; simp at h
 ·exact h1
theorem nonneg_of_mul {a b : Int} (ha : 0 < a) (h : 0 ≤ a * b) : 0 ≤ b := by
 rcases Int.lt_trichotomy b 0 with h1 | h1 | h1
 ·have := Int.mul_neg_of_pos_of_neg ha h1; omega
 ·omega
 ·omega
theorem tr {p q : Int} {o u v w : Pt} (hu : 0 < fn p q o u) (hv : 0 < fn p q o v) (hw : 0 < fn p q o w)
  (h1 : 0 ≤ cr o u v) (h2 : 0 ≤ cr o v w) : 0 ≤ cr o u w ∧ (0 < cr o u v ∨ 0 < cr o v w → 0 < cr o u w) := by
 have e : fn p q o v * cr o u w = fn p q o u * cr o v w + fn p q o w * cr o u v := by unfold fn cr; grind
 have a1 := Int.mul_nonneg (Int.le_of_lt hu) h2
 have a2 := Int.mul_nonneg (Int.le_of_lt hw) h1
 constructor
 ·exact nonneg_of_mul hv (by omega)
 ·intro h
  apply pos_of_mul hv
  rcases h with h | h
  ·have := Int.mul_pos hw h; omega
  ·have := Int.mul_pos hu h; omega
theorem le_of_mul_le {a b c : Int} (ha : 0 < a) (h : a * b ≤ a * c) : b ≤ c := Int.le_of_mul_le_mul_left h ha
theorem btw_of_fn {p q : Int} {a b c : Pt} (hb : 0 < fn p q a b) (h0 : 0 ≤ fn p q a c) (h1 : fn p q a c ≤ fn p q a b) (h : cr a b c = 0) : btw a b c := by
 have e0 : fn p q a b * (c.f0 - a.f0) = fn p q a c * (b.f0 - a.f0) := by unfold fn; unfold cr at h; grind
 have e1 : fn p q a b * (c.f1 - a.f1) = fn p q a c * (b.f1 - a.f1) := by unfold fn; unfold cr at h; grind
 have key : ∀ x y : Int, fn p q a b * x = fn p q a c * y → (0 ≤ y → 0 ≤ x ∧ x ≤ y) ∧ (y ≤ 0 → y ≤ x ∧ x ≤ 0) := by
  intro x y e
  constructor
  ·intro hy
   have m1 := Int.mul_nonneg h0 hy
   have m2 := Int.mul_le_mul_of_nonneg_right h1 hy
   exact ⟨nonneg_of_mul hb (by omega), le_of_mul_le hb (by omega)⟩
  ·intro hy
   have m1 := Int.mul_nonneg h0 (show 0 ≤ -y by omega)
   have m2 := Int.mul_le_mul_of_nonneg_right h1 (show 0 ≤ -y by omega)
   rw [Int.mul_neg] at m1 m2
   rw [Int.mul_neg] at m2
   exact ⟨le_of_mul_le hb (by omega), le_of_mul_le hb (by omega)⟩
 have k0 := key _ _ e0
 have k1 := key _ _ e1
 unfold btw
 omega
theorem fn_add (p q : Int) (a b c : Pt) : fn p q a c = fn p q a b + fn p q b c := by unfold fn; grind
theorem fn_neg (p q : Int) (a b : Pt) : fn p q b a = - fn p q a b := by unfold fn; grind
theorem fn_btw_le {p q : Int} {a b c : Pt} (h : btw a b c) (hc : cr a b c = 0) (hb : 0 < fn p q a b) : 0 ≤ fn p q a c ∧ fn p q a c ≤ fn p q a b := by
 unfold btw at h
 have e0 : fn p q a b * (c.f0 - a.f0) = fn p q a c * (b.f0 - a.f0) := by unfold fn; unfold cr at hc; grind
 have e1 : fn p q a b * (c.f1 - a.f1) = fn p q a c * (b.f1 - a.f1) := by unfold fn; unfold cr at hc; grind
 have hne : b.f0 - a.f0 ≠ 0 ∨ b.f1 - a.f1 ≠ 0 := by
  rcases Int.decEq (b.f0 - a.f0) 0 with h | h
  ·exact .inl h
  ·rcases Int.decEq (b.f1 - a.f1) 0 with h' | h'
   ·exact .inr h'
   ·unfold fn at hb; rw [h, h'] at hb; simp at hb
 have key : ∀ x y : Int, fn p q a b * x = fn p q a c * y → y ≠ 0 → (0 ≤ y → 0 ≤ x ∧ x ≤ y) → (y ≤ 0 → y ≤ x ∧ x ≤ 0) → 0 ≤ fn p q a c ∧ fn p q a c ≤ fn p q a b := by
  intro x y e hy h1 h2
  rcases Int.lt_trichotomy y 0 with h3 | h3 | h3
  ·have h4 := h2 (by omega)
   have m1 := Int.mul_nonneg (Int.le_of_lt hb) (show 0 ≤ -x by omega)
   have m2 := Int.mul_nonneg (Int.le_of_lt hb) (show 0 ≤ x - y by omega)
   rw [Int.mul_neg] at m1
   rw [Int.mul_sub] at m2
   constructor
   ·apply nonneg_of_mul (show 0 < -y by omega)
    rw [Int.neg_mul, Int.mul_comm]; omega
   ·apply le_of_mul_le (show 0 < -y by omega)
    rw [Int.neg_mul, Int.neg_mul, Int.mul_comm y, Int.mul_comm y]; omega
  ·exact absurd h3 hy
  ·have h4 := h1 (by omega)
   have m1 := Int.mul_nonneg (Int.le_of_lt hb) (show 0 ≤ x by omega)
   have m2 := Int.mul_nonneg (Int.le_of_lt hb) (show 0 ≤ y - x by omega)
   rw [Int.mul_sub] at m2
   constructor
   ·apply nonneg_of_mul h3
    rw [Int.mul_comm]; omega
   ·apply le_of_mul_le h3
    rw [Int.mul_comm y, Int.mul_comm y]; omega
 rcases hne with h' | h'
 ·exact key _ _ e0 h' (by omega) (by omega)
 ·exact key _ _ e1 h' (by omega) (by omega)
def Pairs (R : Pt → Pt → Prop) : List Pt → Prop
 | [] => True
 | [_] => True
 | a :: b :: l => R a b ∧ Pairs R (b :: l)
theorem Pairs.mono {R R' : Pt → Pt → Prop} (h : ∀ a b, R a b → R' a b) : ∀ l, Pairs R l → Pairs R' l
 | [], _ => trivial
 | [_], _ => trivial
 | _ :: b :: l, ⟨h1, h2⟩ => ⟨h _ _ h1, Pairs.mono h (b :: l) h2⟩
theorem Pairs.append {R : Pt → Pt → Prop} {m : Pt} : ∀ (l l' : List Pt), Pairs R (l ++ [m]) → Pairs R (m :: l') → Pairs R (l ++ m :: l')
 | [], _, _, h => h
 | [_], _, ⟨h1, _⟩, h => ⟨h1, h⟩
 | _ :: b :: l, l', ⟨h1, h2⟩, h => ⟨h1, Pairs.append (b :: l) l' h2 h⟩
theorem Pairs.tail {R : Pt → Pt → Prop} {a : Pt} {l : List Pt} (h : Pairs R (a :: l)) : Pairs R l := by
 cases l with
 | nil => trivial
 | cons b l => exact h.2
theorem Pairs.left {R : Pt → Pt → Prop} : ∀ (l l' : List Pt), Pairs R (l ++ l') → Pairs R l
 | [], _, _ => trivial
 | [_], _, _ => trivial
 | _ :: b :: l, l', ⟨h1, h2⟩ => ⟨h1, Pairs.left (b :: l) l' h2⟩
theorem Pairs.right {R : Pt → Pt → Prop} : ∀ (l l' : List Pt), Pairs R (l ++ l') → Pairs R l'
 | [], _, h => h
 | _ :: l, l', h => Pairs.right l l' h.tail
theorem Pairs.at_ {R : Pt → Pt → Prop} {a b : Pt} {l l' : List Pt} (h : Pairs R (l ++ a :: b :: l')) : R a b := (Pairs.right l _ h).1
theorem ways_eq {R : Pt → Pt → Prop} (hf : ∀ a b c, R a b → R a c → b = c) (a : Pt) : ∀ (x : Pt) (t t' : List Pt), Pairs R (x :: (t ++ [a])) → Pairs R (x :: (t' ++ [a])) → a ∉ t → a ∉ t' → t = t'
 | _, [], [], _, _, _, _ => rfl
 | _, [], y :: _, h, h', _, n' => absurd (hf _ _ _ h.1 h'.1) (fun e => n' (by simp [e]))
 | _, z :: _, [], h, h', n, _ => absurd (hf _ _ _ h.1 h'.1) (fun e => n (by simp [e]))
 | _, z :: t, y :: t', h, h', n, n' => by
  obtain rfl := hf _ _ _ h.1 h'.1
  rw [ways_eq hf a z t t' h.2 h'.2 (fun e => n (by simp [e])) (fun e => n' (by simp [e]))]
def Ring (S : List Pt) (h : List Pt) : Prop := ∃ a t, h = a :: t ∧ a ∉ t ∧ Pairs (HE S) (a :: (t ++ [a]))
theorem ring_eq {S h h' : List Pt} (r : Ring S h) (r' : Ring S h') (e : h.head? = h'.head?) : h = h' := by
 obtain ⟨a, t, rfl, n, p⟩ := r
 obtain ⟨a', t', rfl, n', p'⟩ := r'
 obtain rfl : a = a' := by simpa using e
 rw [ways_eq (R := HE S) (fun _ _ _ => he_succ) a a t t' p p' n n']
theorem he_congr {S S' : List Pt} (h : ∀ a, a ∈ S ↔ a ∈ S') {a b : Pt} (he : HE S a b) : HE S' a b :=
 ⟨he.1, (h _).1 he.2.1, (h _).1 he.2.2.1, fun c hc => he.2.2.2 c ((h _).2 hc)⟩
instance (a b c : Pt) : Decidable (btw a b c) := by unfold btw; infer_instance
def wrapStep (o tq p : Pt) : Pt := if p = o then tq else if tq = o ∨ cr o tq p < 0 ∨ (cr o tq p = 0 ∧ cr o p tq = 0 ∧ btw o p tq) then p else tq
def wrap (S : List Pt) (o : Pt) : Pt := S.foldl (wrapStep o) o
def Found (T : List Pt) (o tq : Pt) : Prop := (tq = o ∧ ∀ t ∈ T, t = o) ∨ (tq ≠ o ∧ tq ∈ T ∧ ∀ t ∈ T, 0 ≤ cr o tq t ∧ (cr o tq t = 0 → btw o tq t))
theorem btw_end (o a : Pt) : btw o a a := by unfold btw; omega
theorem btw_start (o a : Pt) : btw o a o := by unfold btw; omega
theorem step_ok {p q : Int} {T : List Pt} {o tq x : Pt} (hT : ∀ t ∈ T ++ [x], t = o ∨ 0 < fn p q o t) (h : Found T o tq) : Found (T ++ [x]) o (wrapStep o tq x) := by
 unfold wrapStep
 split
 ·rename_i hx
  subst hx
  rcases h with ⟨rfl, h⟩ | ⟨h1, h2, h3⟩
  ·exact .inl ⟨rfl, by intro t ht; rcases List.mem_append.mp ht with ht | ht; exact h t ht; simpa using ht⟩
  ·refine .inr ⟨h1, by simp [h2], ?_⟩
   intro t ht
   rcases List.mem_append.mp ht with ht | ht
   ·exact h3 t ht
   ·simp at ht; subst ht; rw [cr_self1]; exact ⟨by omega, fun _ => btw_start _ _⟩
 ·rename_i hx
  have fx : 0 < fn p q o x := (hT x (by simp)).resolve_left hx
  rcases h with ⟨rfl, h⟩ | ⟨h1, h2, h3⟩
  ·rw [if_pos (.inl rfl)]
   refine .inr ⟨hx, by simp, ?_⟩
   intro t ht
   rcases List.mem_append.mp ht with ht | ht
   ·rw [h t ht, cr_self1]; exact ⟨by omega, fun _ => btw_start _ _⟩
   ·simp at ht; subst ht; rw [cr_self2]; exact ⟨by omega, fun _ => btw_end _ _⟩
  ·have ft : 0 < fn p q o tq := (hT tq (by simp [h2])).resolve_left h1
   split
   ·rename_i hc
    refine .inr ⟨hx, by simp, ?_⟩
    have h0 : 0 ≤ cr o x tq ∧ (cr o x tq = 0 → btw o x tq) := by
     rcases hc with hc | hc | hc
     ·exact absurd hc h1
     ·have := cr_swap o tq x; exact ⟨by omega, fun h => by omega⟩
     ·exact ⟨by omega, fun _ => hc.2.2⟩
    intro t ht
    rcases List.mem_append.mp ht with ht | ht
    ·rcases hT t (by simp [ht]) with rfl | hf
     ·rw [cr_self1]; exact ⟨by omega, fun _ => btw_start _ _⟩
     ·have := tr fx ft hf h0.1 (h3 t ht).1
      refine ⟨this.1, fun hz => ?_⟩
      have z1 : cr o x tq = 0 := by
       rcases Int.lt_trichotomy 0 (cr o x tq) with h5 | h5 | h5
       ·have := this.2 (.inl h5); omega
       ·exact h5.symm
       ·omega
      have z2 : cr o tq t = 0 := by
       rcases Int.lt_trichotomy 0 (cr o tq t) with h5 | h5 | h5
       ·have := this.2 (.inr h5); omega
       ·exact h5.symm
       ·have := (h3 t ht).1; omega
      have b1 := fn_btw_le (h0.2 z1) z1 fx
      have b2 := fn_btw_le ((h3 t ht).2 z2) z2 ft
      exact btw_of_fn fx b2.1 (by omega) hz
    ·simp at ht; subst ht; rw [cr_self2]; exact ⟨by omega, fun _ => btw_end _ _⟩
   ·rename_i hc
    refine .inr ⟨h1, by simp [h2], ?_⟩
    intro t ht
    rcases List.mem_append.mp ht with ht | ht
    ·exact h3 t ht
    ·simp at ht; subst ht
     have n1 : ¬ cr o tq t < 0 := fun h => hc (.inr (.inl h))
     refine ⟨by omega, fun hz => ?_⟩
     have n2 : ¬ btw o t tq := fun h => hc (.inr (.inr ⟨hz, by rw [cr_swap]; omega, h⟩))
     have hz' : cr o t tq = 0 := by rw [cr_swap]; omega
     by_cases hle : fn p q o t ≤ fn p q o tq
     ·exact btw_of_fn ft (Int.le_of_lt fx) hle hz
     ·exact absurd (btw_of_fn fx (Int.le_of_lt ft) (by omega) hz') n2
theorem wrap_ok {p q : Int} {S : List Pt} {o : Pt} (ho : o ∈ S) (hS : ∀ t ∈ S, t = o ∨ 0 < fn p q o t) (h2 : ∃ t ∈ S, t ≠ o) : HE S o (wrap S o) := by
 have H : ∀ (R T : List Pt) (tq : Pt), T ++ R = S → Found T o tq → Found S o (R.foldl (wrapStep o) tq) := by
  intro R
  induction R with
  | nil => intro T tq e h; rw [← e, List.append_nil]; exact h
  | cons x R ih =>
   intro T tq e h
   rw [List.foldl_cons]
   apply ih (T ++ [x]) _ (by rw [← e]; simp)
   apply step_ok (p := p) (q := q) _ h
   intro t ht
   apply hS
   rw [← e]
   rcases List.mem_append.mp ht with ht | ht
   ·simp [ht]
   ·simp at ht; simp [ht]
 have := H S [] o rfl (.inl ⟨rfl, by simp⟩)
 unfold wrap
 rcases this with ⟨_, h3⟩ | ⟨h3, h4, h5⟩
 ·obtain ⟨t, ht, hn⟩ := h2
  exact absurd (h3 t ht) hn
 ·exact ⟨fun e => h3 e.symm, ho, h4, h5⟩
def Corner (S : List Pt) (o : Pt) : Prop := ∃ p q, ∀ t ∈ S, t = o ∨ 0 < fn p q o t
theorem bounded (f : Pt → Int) : ∀ S : List Pt, ∃ B, ∀ t ∈ S, f t < B
 | [] => ⟨0, by simp⟩
 | a :: S => by
  obtain ⟨B, hB⟩ := bounded f S
  refine ⟨max B (f a + 1), ?_⟩
  intro t ht
  rcases List.mem_cons.mp ht with rfl | ht
  ·omega
  ·have := hB t ht; omega
theorem corner_of_he {S : List Pt} {a b : Pt} (h : HE S a b) : Corner S b := by
 obtain ⟨hab, ha, hb, hS⟩ := h
 let g : Pt → Int := fun t => (b.f0 - a.f0) * (t.f0 - b.f0) + (b.f1 - a.f1) * (t.f1 - b.f1)
 obtain ⟨B, hB⟩ := bounded g S
 have hB0 : 0 < B := by have := hB b hb; simp [g] at this; exact this
 refine ⟨B * -(b.f1 - a.f1) - (b.f0 - a.f0), B * (b.f0 - a.f0) - (b.f1 - a.f1), ?_⟩
 intro t ht
 by_cases e : t = b
 ·exact .inl e
 ·right
  have e1 : fn (B * -(b.f1 - a.f1) - (b.f0 - a.f0)) (B * (b.f0 - a.f0) - (b.f1 - a.f1)) b t = B * cr a b t - g t := by simp only [g, fn, cr]; grind
  rw [e1]
  have h1 := hS t ht
  have h2 := hB t ht
  rcases Int.lt_trichotomy 0 (cr a b t) with h3 | h3 | h3
  ·have := Int.mul_le_mul_of_nonneg_left (show 1 ≤ cr a b t by omega) (Int.le_of_lt hB0)
   omega
  ·rw [← h3]
   have hbt := h1.2 h3.symm
   have hc : cr a b t = 0 := h3.symm
   have : g t < 0 := by
    have k0 : (b.f0 - a.f0) * (t.f0 - b.f0) ≤ 0 := by
     unfold btw at hbt
     rcases Int.le_total a.f0 b.f0 with h5 | h5
     ·have := Int.mul_nonneg (show 0 ≤ b.f0 - a.f0 by omega) (show 0 ≤ b.f0 - t.f0 by omega); grind
     ·have := Int.mul_nonneg (show 0 ≤ a.f0 - b.f0 by omega) (show 0 ≤ t.f0 - b.f0 by omega); grind
    have k1 : (b.f1 - a.f1) * (t.f1 - b.f1) ≤ 0 := by
     unfold btw at hbt
     rcases Int.le_total a.f1 b.f1 with h5 | h5
     ·have := Int.mul_nonneg (show 0 ≤ b.f1 - a.f1 by omega) (show 0 ≤ b.f1 - t.f1 by omega); grind
     ·have := Int.mul_nonneg (show 0 ≤ a.f1 - b.f1 by omega) (show 0 ≤ t.f1 - b.f1 by omega); grind
    rcases Int.lt_trichotomy (g t) 0 with h5 | h5 | h5
    ·exact h5
    ·exfalso
     simp only [g] at h5
     have z0 : (b.f0 - a.f0) * (t.f0 - b.f0) = 0 := by omega
     have z1 : (b.f1 - a.f1) * (t.f1 - b.f1) = 0 := by omega
     have z2 : (b.f0 - a.f0) * (t.f1 - b.f1) = (b.f1 - a.f1) * (t.f0 - b.f0) := by unfold cr at hc; grind
     have hne : b.f0 - a.f0 ≠ 0 ∨ b.f1 - a.f1 ≠ 0 := by
      rcases Int.decEq (b.f0 - a.f0) 0 with y | y
      ·exact .inl y
      ·exact .inr fun y1 => hab (pt_ext (by omega) (by omega))
     have fin : t.f0 - b.f0 = 0 ∧ t.f1 - b.f1 = 0 := by
      rcases hne with y | y
      ·have w0 := (Int.mul_eq_zero.mp z0).resolve_left y
       rw [w0, Int.mul_zero] at z2
       exact ⟨w0, (Int.mul_eq_zero.mp z2).resolve_left y⟩
      ·have w0 := (Int.mul_eq_zero.mp z1).resolve_left y
       rw [w0, Int.mul_zero] at z2
       exact ⟨(Int.mul_eq_zero.mp z2.symm).resolve_left y, w0⟩
     exact e (pt_ext (by omega) (by omega))
    ·simp only [g] at h5; omega
   omega
  ·omega
def first (a b : Pt) : Prop := a.f1 < b.f1 ∨ (a.f1 = b.f1 ∧ a.f0 < b.f0)
instance (a b : Pt) : Decidable (first a b) := by unfold first; infer_instance
theorem corner_of_first {S : List Pt} {o : Pt} (h : ∀ t ∈ S, t = o ∨ first o t) : Corner S o := by
 obtain ⟨B, hB⟩ := bounded (fun t => o.f0 - t.f0) S
 refine ⟨1, max B 1, ?_⟩
 intro t ht
 rcases h t ht with h1 | h1
 ·exact .inl h1
 ·right
  have h2 := hB t ht
  unfold fn
  rcases h1 with h1 | h1
  ·have := Int.mul_le_mul_of_nonneg_left (show 1 ≤ t.f1 - o.f1 by omega) (show 0 ≤ max B 1 by omega)
   omega
  ·rw [show t.f1 - o.f1 = 0 by omega]; omega
def around (S : List Pt) : Nat → Pt → List Pt
 | 0, o => [o]
 | n + 1, o => o :: around S n (wrap S o)
theorem length_le_of_nodup {l S : List Pt} (hn : l.Nodup) (h : ∀ a ∈ l, a ∈ S) : l.length ≤ S.length := by
 induction l generalizing S with
 | nil => simp
 | cons a l ih =>
  have ha := h a (by simp)
  have h2 : ∀ b ∈ l, b ∈ S.erase a := by
   intro b hb
   have hne : b ≠ a := by rintro rfl; exact (List.nodup_cons.mp hn).1 hb
   exact (List.mem_erase_of_ne hne).2 (h b (by simp [hb]))
  have := ih (List.nodup_cons.mp hn).2 h2
  have hl := List.length_erase_of_mem ha
  have : 0 < S.length := List.length_pos_of_mem ha
  simp only [List.length_cons]; omega
theorem ring_around {S : List Pt} {o : Pt} (ho : o ∈ S) (hmin : ∀ t ∈ S, t = o ∨ first o t) (h2 : ∃ a b, a ∈ S ∧ b ∈ S ∧ a ≠ b) :
  ∃ n, n < S.length ∧ Ring S (around S n o) ∧ (∃ x, (around S n o).getLast? = some x ∧ wrap S x = o) ∧ (∀ m, m < n → ∃ x, (around S m o).getLast? = some x ∧ wrap S x ≠ o) := by
 have other : ∀ x ∈ S, ∃ t ∈ S, t ≠ x := by
  intro x _
  obtain ⟨a, b, ha, hb, hab⟩ := h2
  by_cases e : a = x
  ·exact ⟨b, hb, fun e' => hab (e.trans e'.symm)⟩
  ·exact ⟨a, ha, e⟩
 have step : ∀ x, x ∈ S → Corner S x → HE S x (wrap S x) := by
  intro x hx hc
  obtain ⟨p, q, h⟩ := hc
  exact wrap_ok hx h (other x hx)
 have snoc : ∀ n x, ∃ y, (around S n x).getLast? = some y ∧ around S (n + 1) x = around S n x ++ [wrap S y] := by
  intro n
  induction n with
  | zero => intro x; exact ⟨x, rfl, rfl⟩
  | succ n ih =>
   intro x
   obtain ⟨y, h1, h2⟩ := ih (wrap S x)
   refine ⟨y, ?_, ?_⟩
   ·rw [around, List.getLast?_cons, h1]; rfl
   ·rw [around, h2]; rfl
 have pairs : ∀ n x, x ∈ S → Corner S x → Pairs (HE S) (around S n x) ∧ (∀ y ∈ around S n x, y ∈ S ∧ Corner S y) := by
  intro n
  induction n with
  | zero => intro x hx hc; exact ⟨trivial, by intro y hy; simp [around] at hy; subst hy; exact ⟨hx, hc⟩⟩
  | succ n ih =>
   intro x hx hc
   have he := step x hx hc
   obtain ⟨h1, h2⟩ := ih (wrap S x) he.2.2.1 (corner_of_he he)
   refine ⟨?_, ?_⟩
   ·cases n with
    | zero => exact ⟨he, trivial⟩
    | succ n => exact ⟨he, h1⟩
   ·intro y hy
    rw [around] at hy
    rcases List.mem_cons.mp hy with rfl | hy
    ·exact ⟨hx, hc⟩
    ·exact h2 y hy
 have hco := corner_of_first hmin
 have nodup : ∀ n, (∀ m, m < n → ∃ x, (around S m o).getLast? = some x ∧ wrap S x ≠ o) → (around S n o).Nodup ∧ o ∉ (around S n o).tail := by
  intro n
  induction n with
  | zero => intro _; simp [around]
  | succ n ih =>
   intro h
   obtain ⟨h1, h2⟩ := ih (fun m hm => h m (by omega))
   obtain ⟨y, e1, e2⟩ := snoc n o
   obtain ⟨y', e1', hn⟩ := h n (by omega)
   obtain rfl : y = y' := by rw [e1] at e1'; simpa using e1'
   have hy : y ∈ around S n o := List.mem_of_getLast? e1
   have hP := (pairs n o ho hco).1
   have hS := (pairs n o ho hco).2 y hy
   have hey := step y hS.1 hS.2
   rw [e2]
   obtain ⟨t, et⟩ : ∃ t, around S n o = o :: t := by cases n <;> exact ⟨_, rfl⟩
   rw [et] at h1 h2 e1 hy hP ⊢
   have hnot : wrap S y ∉ o :: t := by
    intro hm
    rcases List.mem_cons.mp hm with hm | hm
    ·exact hn hm
    ·-- it has one before it, which is y: but y is the last
     obtain ⟨l1, l2, el⟩ := List.append_of_mem hm
     have el' : o :: t = (o :: l1) ++ wrap S y :: l2 := by rw [el]; rfl
     obtain ⟨l0, z, ez⟩ : ∃ l0 z, o :: l1 = l0 ++ [z] := ⟨(o :: l1).dropLast, (o :: l1).getLast (by simp), (List.dropLast_concat_getLast (by simp)).symm⟩
     rw [el', ez, List.append_assoc] at hP
     have hz : HE S z (wrap S y) := Pairs.at_ hP
     have hzy := he_pred hz hey
     subst hzy
     rw [el', ez] at h1 e1
     rw [List.nodup_append] at h1
     have e3 : (wrap S z :: l2).getLast? = some z := by
      rw [List.getLast?_append, List.getLast?_eq_some_getLast (by simp : wrap S z :: l2 ≠ []), Option.some_or] at e1
      rw [List.getLast?_eq_some_getLast (by simp : wrap S z :: l2 ≠ [])]
      exact e1
     exact h1.2.2 z (by simp) z (List.mem_of_getLast? e3) rfl
   refine ⟨?_, ?_⟩
   ·rw [List.nodup_append]
    refine ⟨h1, by simp, ?_⟩
    intro a ha b hb e
    simp at hb
    subst hb; subst e
    exact hnot ha
   ·simp only [List.cons_append, List.tail_cons] at h2 ⊢
    intro hm
    rcases List.mem_append.mp hm with hm | hm
    ·exact h2 hm
    ·simp at hm; exact hn hm.symm
 have len : ∀ n x, (around S n x).length = n + 1 := by
  intro n
  induction n with
  | zero => intro x; rfl
  | succ n ih => intro x; simp [around, ih]
 have ex : ∃ n, n < S.length ∧ (∃ x, (around S n o).getLast? = some x ∧ wrap S x = o) ∧ (∀ m, m < n → ∃ x, (around S m o).getLast? = some x ∧ wrap S x ≠ o) := by
  apply Classical.byContradiction
  intro hno
  have all : ∀ n, n ≤ S.length → ∀ m, m < n → ∃ x, (around S m o).getLast? = some x ∧ wrap S x ≠ o := by
   intro n
   induction n with
   | zero => intro _ m hm; omega
   | succ n ih =>
    intro hn m hm
    have hb := ih (by omega)
    by_cases e : m < n
    ·exact hb m e
    ·obtain rfl : m = n := by omega
     obtain ⟨y, e1, _⟩ := snoc m o
     by_cases hw : wrap S y = o
     ·exact absurd ⟨m, by omega, ⟨y, e1, hw⟩, hb⟩ hno
     ·exact ⟨y, e1, hw⟩
  have h1 := (nodup S.length (all _ (Nat.le_refl _))).1
  have := length_le_of_nodup h1 (fun a ha => ((pairs S.length o ho hco).2 a ha).1)
  rw [len] at this
  omega
 obtain ⟨n, hn, ⟨x, e1, hw⟩, hm⟩ := ex
 refine ⟨n, hn, ?_, ⟨x, e1, hw⟩, hm⟩
 obtain ⟨h1, h2⟩ := nodup n hm
 obtain ⟨t, et⟩ : ∃ t, around S n o = o :: t := by cases n <;> exact ⟨_, rfl⟩
 have hP := (pairs n o ho hco).1
 have hx := (pairs n o ho hco).2 x (List.mem_of_getLast? e1)
 have he := step x hx.1 hx.2
 rw [hw] at he
 rw [et] at h2 e1 hP ⊢
 refine ⟨o, t, rfl, h2, ?_⟩
 obtain ⟨l0, z, ez⟩ : ∃ l0 z, o :: t = l0 ++ [z] := ⟨(o :: t).dropLast, (o :: t).getLast (by simp), (List.dropLast_concat_getLast (by simp)).symm⟩
 have : z = x := by rw [ez, List.getLast?_concat] at e1; simpa using e1
 subst this
 rw [← List.cons_append, ez, List.append_assoc]
 rw [ez] at hP
 exact Pairs.append l0 [o] hP ⟨he, trivial⟩
def at_ (h : List Pt) (i : Nat) : Pt := h.getD i ⟨0, 0⟩
theorem at_eq {h : List Pt} {i : Nat} (hi : i < h.length) : at_ h i = h[i] := by
 unfold at_; rw [List.getD_eq_getElem?_getD, List.getElem?_eq_getElem hi]; rfl
theorem at_mem {h : List Pt} {i : Nat} (hi : i < h.length) : at_ h i ∈ h := by
 rw [at_eq hi]; exact List.getElem_mem hi
theorem pairs_at {R : Pt → Pt → Prop} : ∀ (l : List Pt), Pairs R l → ∀ i, i + 1 < l.length → R (at_ l i) (at_ l (i + 1))
 | a :: b :: l, h, 0, _ => h.1
 | a :: b :: l, h, i + 1, hi => pairs_at (b :: l) h.2 i (by simpa using hi)
 | [_], _, _, hi => by simp at hi
 | [], _, _, hi => by simp at hi
theorem ring_at {S h : List Pt} (r : Ring S h) : ∀ i, i < h.length → HE S (at_ h i) (at_ h ((i + 1) % h.length)) := by
 obtain ⟨a, t, rfl, _, hp⟩ := r
 intro i hi
 have h1 := pairs_at _ hp i (by simpa using hi)
 have e1 : at_ (a :: (t ++ [a])) i = at_ (a :: t) i := by
  unfold at_; rw [List.getD_eq_getElem?_getD, List.getD_eq_getElem?_getD, ← List.cons_append, List.getElem?_append_left hi]
 have e2 : at_ (a :: (t ++ [a])) (i + 1) = at_ (a :: t) ((i + 1) % (a :: t).length) := by
  by_cases e : i + 1 = (a :: t).length
  ·rw [e, Nat.mod_self]; unfold at_; rw [List.getD_eq_getElem?_getD, ← List.cons_append, List.getElem?_append_right (by simp)]; simp
  ·have : i + 1 < (a :: t).length := by omega
   rw [Nat.mod_eq_of_lt this]
   unfold at_; rw [List.getD_eq_getElem?_getD, List.getD_eq_getElem?_getD, ← List.cons_append, List.getElem?_append_left this]
 rw [e1, e2] at h1
 exact h1
theorem ring_inj {S h : List Pt} (r : Ring S h) : ∀ i j, i < h.length → j < h.length → at_ h i = at_ h j → i = j := by
 have hr := ring_at r
 have h0 : ∀ j, 0 < j → j < h.length → at_ h 0 ≠ at_ h j := by
  obtain ⟨a, t, rfl, ha, _⟩ := r
  intro j hj hl e
  apply ha
  have : at_ (a :: t) j ∈ t := by
   match j, hj with
   | j + 1, _ => rw [at_eq hl]; simp
  rw [← e] at this
  exact this
 have back : ∀ i j, i < j → j < h.length → at_ h i ≠ at_ h j := by
  intro i
  induction i with
  | zero => exact fun j hj hl => h0 j hj hl
  | succ i ih =>
   intro j hj hl e
   have a1 := hr i (by omega)
   have a2 := hr (j - 1) (by omega)
   rw [Nat.mod_eq_of_lt (by omega)] at a1
   rw [show j - 1 + 1 = j by omega, Nat.mod_eq_of_lt hl, ← e] at a2
   exact ih (j - 1) (by omega) (by omega) (he_pred a1 a2)
 intro i j hi hj e
 rcases Nat.lt_trichotomy i j with h1 | h1 | h1
 ·exact absurd e (back i j h1 hj)
 ·exact h1
 ·exact absurd e.symm (back j i h1 hi)
theorem ring_corner {S h : List Pt} (r : Ring S h) : ∀ i, i < h.length → Corner S (at_ h i) ∧ at_ h i ∈ S := by
 intro i hi
 have hr := ring_at r
 rcases Nat.eq_zero_or_pos i with rfl | h0
 ·have := hr (h.length - 1) (by omega)
  rw [show h.length - 1 + 1 = h.length by omega, Nat.mod_self] at this
  exact ⟨corner_of_he this, this.2.2.1⟩
 ·have := hr (i - 1) (by omega)
  rw [show i - 1 + 1 = i by omega, Nat.mod_eq_of_lt hi] at this
  exact ⟨corner_of_he this, this.2.2.1⟩
theorem corner_not_between {S : List Pt} {v a b : Pt} (hv : Corner S v) (ha : a ∈ S) (hb : b ∈ S) (hab : a ≠ b) (hc : cr a b v = 0) (hbt : btw a b v) : v = a ∨ v = b := by
 obtain ⟨p, q, hF⟩ := hv
 rcases hF a ha with h1 | h1
 ·exact .inl h1.symm
 ·rcases hF b hb with h2 | h2
  ·exact .inr h2.symm
  ·exfalso
   have e0 : (v.f0 - a.f0) * fn p q v b + (b.f0 - v.f0) * fn p q v a = 0 := by unfold fn; unfold cr at hc; grind
   have e1 : (v.f1 - a.f1) * fn p q v b + (b.f1 - v.f1) * fn p q v a = 0 := by unfold fn; unfold cr at hc; grind
   have key : ∀ x y z : Int, (v.f0 = v.f0) → (min x z ≤ y ∧ y ≤ max x z) → (y - x) * fn p q v b + (z - y) * fn p q v a = 0 → x = z := by
    intro x y z _ hb e
    rcases Int.lt_trichotomy x z with h | h | h
    ·have m1 := Int.mul_nonneg (show 0 ≤ y - x by omega) (Int.le_of_lt h2)
     have m2 := Int.mul_nonneg (show 0 ≤ z - y by omega) (Int.le_of_lt h1)
     have k1 : (y - x) * fn p q v b = 0 := by omega
     have k2 : (z - y) * fn p q v a = 0 := by omega
     rcases Int.mul_eq_zero.mp k1 with k | k <;> rcases Int.mul_eq_zero.mp k2 with k' | k' <;> omega
    ·exact h
    ·have m1 := Int.mul_nonneg (show 0 ≤ x - y by omega) (Int.le_of_lt h2)
     have m2 := Int.mul_nonneg (show 0 ≤ y - z by omega) (Int.le_of_lt h1)
     have w1 : (y - x) * fn p q v b = - ((x - y) * fn p q v b) := by rw [← Int.neg_mul]; congr 1; omega
     have w2 : (z - y) * fn p q v a = - ((y - z) * fn p q v a) := by rw [← Int.neg_mul]; congr 1; omega
     have k1 : (y - x) * fn p q v b = 0 := by omega
     have k2 : (z - y) * fn p q v a = 0 := by omega
     rcases Int.mul_eq_zero.mp k1 with k | k <;> rcases Int.mul_eq_zero.mp k2 with k' | k' <;> omega
   unfold btw at hbt
   exact hab (pt_ext (key _ _ _ rfl ⟨hbt.1, hbt.2.1⟩ e0) (key _ _ _ rfl ⟨hbt.2.2.1, hbt.2.2.2⟩ e1))
def Strong (h : List Pt) : Prop :=
 (∀ i, i < h.length → at_ h i ≠ at_ h ((i + 1) % h.length)) ∧
 (∀ i j, i < h.length → j < h.length → at_ h i = at_ h j → i = j) ∧
 ∀ i k, i < h.length → k < h.length → 0 ≤ cr (at_ h i) (at_ h ((i + 1) % h.length)) (at_ h k) ∧
  (cr (at_ h i) (at_ h ((i + 1) % h.length)) (at_ h k) = 0 → k = i ∨ k = (i + 1) % h.length)
theorem ring_strong {S h : List Pt} (r : Ring S h) : Strong h := by
 have hr := ring_at r
 have hi := ring_inj r
 refine ⟨fun i h1 => (hr i h1).1, hi, ?_⟩
 intro i k h1 h2
 have he := hr i h1
 have hk := ring_corner r k h2
 have hn : (i + 1) % h.length < h.length := Nat.mod_lt _ (by omega)
 have := he.2.2.2 _ hk.2
 refine ⟨this.1, fun h0 => ?_⟩
 rcases corner_not_between hk.1 he.2.1 he.2.2.1 he.1 h0 (this.2 h0) with e | e
 ·exact .inl (hi _ _ h2 h1 e)
 ·exact .inr (hi _ _ h2 hn e)
def On (a b p : Pt) : Prop := cr a b p = 0 ∧ btw a b p
instance (a b p : Pt) : Decidable (On a b p) := by unfold On; infer_instance
def Meet (a b c d : Pt) : Prop := On a b c ∨ On a b d ∨ On c d a ∨ On c d b ∨
 (((0 < cr a b c ∧ cr a b d < 0) ∨ (cr a b c < 0 ∧ 0 < cr a b d)) ∧ ((0 < cr c d a ∧ cr c d b < 0) ∨ (cr c d a < 0 ∧ 0 < cr c d b)))
instance (a b c d : Pt) : Decidable (Meet a b c d) := by unfold Meet; infer_instance
def Simple (l : List Pt) : Prop :=
 (∀ i, i < l.length → at_ l i ≠ at_ l ((i + 1) % l.length)) ∧
 ∀ i, i < l.length → ¬ On (at_ l i) (at_ l ((i + 1) % l.length)) (at_ l ((i + 1 + 1) % l.length)) ∧
  ¬ On (at_ l ((i + 1) % l.length)) (at_ l ((i + 1 + 1) % l.length)) (at_ l i) ∧
  ∀ k, i + 2 ≤ k → k < l.length → (k + 1) % l.length ≠ i → ¬ Meet (at_ l i) (at_ l ((i + 1) % l.length)) (at_ l k) (at_ l ((k + 1) % l.length))
def Convex (l : List Pt) : Prop :=
 Simple l ∧ ∀ i, i < l.length → 0 < cr (at_ l i) (at_ l ((i + 1) % l.length)) (at_ l ((i + 1 + 1) % l.length)) ∧ (0 < i → first (at_ l 0) (at_ l i))
theorem mod_two {n i : Nat} (hn : 3 ≤ n) (hi : i < n) : (i + 1 + 1) % n ≠ i ∧ (i + 1 + 1) % n ≠ (i + 1) % n ∧ (i + 1) % n ≠ i := by
 by_cases h1 : i + 1 + 1 < n
 ·rw [Nat.mod_eq_of_lt h1, Nat.mod_eq_of_lt (by omega : i + 1 < n)]; omega
 ·by_cases h2 : i + 1 < n
  ·rw [Nat.mod_eq_of_lt h2, show i + 1 + 1 = n by omega, Nat.mod_self]; omega
  ·rw [show i + 1 = n by omega, Nat.mod_self, show n + 1 = 1 + n by omega, Nat.add_mod_right, Nat.mod_eq_of_lt (by omega)]; omega
theorem strong_turn {l : List Pt} (hn : 3 ≤ l.length) (h : Strong l) (i : Nat) (hi : i < l.length) : 0 < cr (at_ l i) (at_ l ((i + 1) % l.length)) (at_ l ((i + 1 + 1) % l.length)) := by
 have hm := mod_two hn hi
 have hk : (i + 1 + 1) % l.length < l.length := Nat.mod_lt _ (by omega)
 have := h.2.2 i _ hi hk
 rcases Int.lt_trichotomy 0 (cr (at_ l i) (at_ l ((i + 1) % l.length)) (at_ l ((i + 1 + 1) % l.length))) with h1 | h1 | h1
 ·exact h1
 ·rcases this.2 h1.symm with e | e
  ·exact absurd e hm.1
  ·exact absurd e hm.2.1
 ·omega
theorem strong_simple {l : List Pt} (hn : 3 ≤ l.length) (h : Strong l) : Simple l := by
 refine ⟨h.1, ?_⟩
 intro i hi
 have ht := strong_turn hn h i hi
 have hr := cr_rot (at_ l i) (at_ l ((i + 1) % l.length)) (at_ l ((i + 1 + 1) % l.length))
 refine ⟨fun o => by have := o.1; omega, fun o => by have := o.1; omega, ?_⟩
 intro k hk1 hk2 hk3 hm
 have hi1 : (i + 1) % l.length < l.length := Nat.mod_lt _ (by omega)
 have hk4 : (k + 1) % l.length < l.length := Nat.mod_lt _ (by omega)
 have ei : (i + 1) % l.length = i + 1 := Nat.mod_eq_of_lt (by omega)
 have c1 := h.2.2 i k hi hk2
 have c2 := h.2.2 i _ hi hk4
 have c3 := h.2.2 k i hk2 hi
 have c4 := h.2.2 k _ hk2 hi1
 rcases hm with hm | hm | hm | hm | hm
 ·have := c1.2 hm.1; omega
 ·have := c2.2 hm.1
  rcases this with e | e
  ·exact hk3 e
  ·rw [ei] at e
   by_cases h5 : k + 1 < l.length
   ·rw [Nat.mod_eq_of_lt h5] at e; omega
   ·rw [show k + 1 = l.length by omega, Nat.mod_self] at e; omega
 ·have := c3.2 hm.1; omega
 ·rcases c4.2 hm.1 with e | e
  ·omega
  ·rw [ei] at e
   by_cases h5 : k + 1 < l.length
   ·rw [Nat.mod_eq_of_lt h5] at e; omega
   ·rw [show k + 1 = l.length by omega, Nat.mod_self] at e; omega
 ·omega
theorem strong_convex {l : List Pt} (hn : 3 ≤ l.length) (h : Strong l) (h0 : ∀ i, i < l.length → 0 < i → first (at_ l 0) (at_ l i)) : Convex l :=
 ⟨strong_simple hn h, fun i hi => ⟨strong_turn hn h i hi, h0 i hi⟩⟩
def Flat (S : List Pt) : Prop := ∀ a ∈ S, ∀ b ∈ S, ∀ c ∈ S, cr a b c = 0
theorem flat_of_edge {S : List Pt} {a b : Pt} (hab : a ≠ b) (h : ∀ c ∈ S, cr a b c = 0) : Flat S := by
 intro x hx y hy z hz
 have e1 := h x hx
 have e2 := h y hy
 have e3 := h z hz
 have k0 : (b.f0 - a.f0) * cr x y z = 0 := by unfold cr at *; grind
 have k1 : (b.f1 - a.f1) * cr x y z = 0 := by unfold cr at *; grind
 rcases Int.mul_eq_zero.mp k0 with k | k
 ·rcases Int.mul_eq_zero.mp k1 with k' | k'
  ·exact absurd (pt_ext (by omega) (by omega)) hab
  ·exact k'
 ·exact k
theorem ring_three {S h : List Pt} (r : Ring S h) (hf : ¬ Flat S) : 3 ≤ h.length := by
 have hr := ring_at r
 have h0 : 0 < h.length := by obtain ⟨a, t, rfl, _⟩ := r; simp
 rcases Nat.lt_or_ge h.length 3 with h3 | h3
 ·exfalso
  have a1 := hr 0 h0
  by_cases e : h.length = 1
  ·rw [e] at a1; exact a1.1 rfl
  ·have e2 : h.length = 2 := by omega
   have a2 := hr 1 (by omega)
   rw [e2] at a1 a2
   simp only [Nat.zero_add, Nat.mod_self, Nat.one_mod] at a1 a2
   apply hf
   apply flat_of_edge a1.1
   intro c hc
   have b1 := (a1.2.2.2 c hc).1
   have b2 := (a2.2.2.2 c hc).1
   have : cr (at_ h (1 % 2)) (at_ h 0) c = - cr (at_ h 0) (at_ h (1 % 2)) c := by unfold cr; grind
   simp only [Nat.one_mod] at *
   omega
 ·exact h3
theorem ring_first {S h : List Pt} (r : Ring S h) (hf : ¬ Flat S) (i : Nat) (hi : i < h.length) (hmin : ∀ k, k < h.length → k = i ∨ first (at_ h i) (at_ h k)) : ∀ p ∈ S, p = at_ h i ∨ first (at_ h i) p := by
 have hn := ring_three r hf
 have hs := ring_strong r
 have hr := ring_at r
 intro x hx
 obtain ⟨B, hB⟩ := bounded (fun t => max ((at_ h i).f0 - t.f0) (t.f0 - (at_ h i).f0)) (x :: h)
 obtain ⟨j, hj, ej⟩ : ∃ j, j < h.length ∧ (j + 1) % h.length = i := by
  rcases Nat.eq_zero_or_pos i with rfl | h0
  ·exact ⟨h.length - 1, by omega, by rw [show h.length - 1 + 1 = h.length by omega, Nat.mod_self]⟩
  ·exact ⟨i - 1, by omega, by rw [show i - 1 + 1 = i by omega, Nat.mod_eq_of_lt hi]⟩
 have h1 := (hr j hj).2.2.2 x hx
 have h2 := (hr i hi).2.2.2 x hx
 have ht := strong_turn hn hs j hj
 have hm := mod_two hn hj
 have hm2 := mod_two hn hi
 have ej2 : (j + 1 + 1) % h.length = (i + 1) % h.length := by rw [← ej, Nat.mod_add_mod]
 rw [ej2, ej] at ht
 rw [ej] at h1 hm
 have hk : (i + 1) % h.length < h.length := Nat.mod_lt _ (by omega)
 have f1 : first (at_ h i) (at_ h j) := (hmin j hj).resolve_left (fun e => hm.2.2 e.symm)
 have f2 : first (at_ h i) (at_ h ((i + 1) % h.length)) := (hmin _ hk).resolve_left hm2.2.2
 generalize at_ h i = o at *
 generalize hu : at_ h j = u at *
 generalize hw : at_ h ((i + 1) % h.length) = w at *
 have bx := hB x (by simp)
 have bu := hB u (by rw [← hu]; simp [at_mem hj])
 have bw := hB w (by rw [← hw]; simp [at_mem hk])
 have F : ∀ t : Pt, max (o.f0 - t.f0) (t.f0 - o.f0) < B → (first o t ↔ 0 < fn 1 B o t) := by
  intro t hb
  unfold first fn
  constructor
  ·rintro (h | ⟨h, h'⟩)
   ·have := Int.mul_le_mul_of_nonneg_left (show 1 ≤ t.f1 - o.f1 by omega) (show 0 ≤ B by omega); omega
   ·rw [show t.f1 - o.f1 = 0 by omega]; omega
  ·intro h
   rcases Int.lt_trichotomy o.f1 t.f1 with h3 | h3 | h3
   ·exact .inl h3
   ·rw [show t.f1 - o.f1 = 0 by omega] at h; exact .inr ⟨h3, by omega⟩
   ·have := Int.mul_le_mul_of_nonneg_left (show 1 ≤ o.f1 - t.f1 by omega) (show 0 ≤ B by omega)
    have e : B * (t.f1 - o.f1) = - (B * (o.f1 - t.f1)) := by grind
    omega
 have g1 := (F u bu).1 f1
 have g2 := (F w bw).1 f2
 by_cases e : x = o
 ·exact .inl e
 ·right
  rw [F x bx]
  have id : fn 1 B o x * cr u o w = fn 1 B o w * cr u o x + fn 1 B o u * cr o w x := by unfold fn cr; grind
  have m1 := Int.mul_nonneg (Int.le_of_lt g2) h1.1
  have m2 := Int.mul_nonneg (Int.le_of_lt g1) h2.1
  rcases Int.lt_trichotomy 0 (fn 1 B o x) with h3 | h3 | h3
  ·exact h3
  ·exfalso
   rw [← h3] at id
   have z1 : fn 1 B o w * cr u o x = 0 := by omega
   have z2 : fn 1 B o u * cr o w x = 0 := by omega
   have z3 := (Int.mul_eq_zero.mp z1).resolve_left (by omega)
   have z4 := (Int.mul_eq_zero.mp z2).resolve_left (by omega)
   have y0 : cr u o w * (x.f0 - o.f0) = 0 := by unfold cr at *; grind
   have y1 : cr u o w * (x.f1 - o.f1) = 0 := by unfold cr at *; grind
   have := (Int.mul_eq_zero.mp y0).resolve_left (by omega)
   have := (Int.mul_eq_zero.mp y1).resolve_left (by omega)
   exact e (pt_ext (by omega) (by omega))
  ·have := Int.mul_neg_of_neg_of_pos h3 ht; omega
theorem ring_rot {S h1 h2 : List Pt} (r : Ring S (h1 ++ h2)) (h : h2 ≠ []) : Ring S (h2 ++ h1) := by
 cases h1 with
 | nil => simpa using r
 | cons a t1 =>
  cases h2 with
  | nil => exact absurd rfl h
  | cons b t2 =>
   have hi := ring_inj r
   obtain ⟨a', t, e, ha, hp⟩ := r
   simp only [List.cons_append, List.cons.injEq] at e
   obtain ⟨rfl, rfl⟩ := e
   have e1 : a :: (t1 ++ b :: t2 ++ [a]) = (a :: t1) ++ (b :: (t2 ++ [a])) := by simp
   rw [e1] at hp
   have q1 : Pairs (HE S) ((a :: t1) ++ [b]) := by
    apply Pairs.left ((a :: t1) ++ [b]) (t2 ++ [a]); simpa using hp
   have q2 := Pairs.right _ _ hp
   refine ⟨b, t2 ++ a :: t1, by simp, ?_, ?_⟩
   ·intro hb
    obtain ⟨n, hn, en⟩ := List.mem_iff_getElem.mp hb
    simp only [List.length_append, List.length_cons] at hn
    have p0 : at_ (a :: t1 ++ b :: t2) (t1.length + 1) = b := by
     unfold at_; rw [List.getD_eq_getElem?_getD, List.getElem?_append_right (by simp)]; simp
    by_cases hlt : n < t2.length
    ·have p1 : at_ (a :: t1 ++ b :: t2) (t1.length + 1 + (n + 1)) = b := by
      unfold at_
      rw [List.getD_eq_getElem?_getD, List.getElem?_append_right (by simp)]
      rw [List.getElem_append_left hlt] at en
      simp only [List.length_cons, Nat.add_sub_cancel_left, List.getElem?_cons_succ]
      rw [List.getElem?_eq_getElem hlt]; exact en
     have := hi (t1.length + 1) (t1.length + 1 + (n + 1)) (by simp) (by simp; omega) (p0.trans p1.symm)
     omega
    ·have p1 : at_ (a :: t1 ++ b :: t2) (n - t2.length) = b := by
      unfold at_
      rw [List.getD_eq_getElem?_getD, List.getElem?_append_left (by simp; omega)]
      rw [List.getElem_append_right (by omega)] at en
      rw [List.getElem?_eq_getElem (by simp; omega)]; exact en
     have := hi (t1.length + 1) (n - t2.length) (by simp) (by simp; omega) (p0.trans p1.symm)
     omega
   ·have := Pairs.append (b :: t2) (t1 ++ [b]) (by simpa using q2) (by simpa using q1)
    simpa using this
theorem ring_congr {S S' h : List Pt} (e : ∀ a, a ∈ S ↔ a ∈ S') (r : Ring S h) : Ring S' h := by
 obtain ⟨a, t, e1, h1, h2⟩ := r
 exact ⟨a, t, e1, h1, Pairs.mono (fun _ _ h => he_congr e h) _ h2⟩
theorem first_tri (a b : Pt) : a = b ∨ first a b ∨ first b a := by
 unfold first
 rcases Int.lt_trichotomy a.f1 b.f1 with h | h | h
 ·exact .inr (.inl (.inl h))
 ·rcases Int.lt_trichotomy a.f0 b.f0 with h' | h' | h'
  ·exact .inr (.inl (.inr ⟨h, h'⟩))
  ·exact .inl (pt_ext h' h)
  ·exact .inr (.inr (.inr ⟨h.symm, h'⟩))
 ·exact .inr (.inr (.inl h))
theorem first_trans {a b c : Pt} (h : first a b) (h' : first b c) : first a c := by unfold first at *; omega
theorem first_irrefl (a : Pt) : ¬ first a a := by unfold first; omega
theorem rings_one {S h h' : List Pt} (hf : ¬ Flat S) (r : Ring S h) (r' : Ring S h') (m : ∀ k, k < h.length → k = 0 ∨ first (at_ h 0) (at_ h k)) (m' : ∀ p ∈ S, p = at_ h' 0 ∨ first (at_ h' 0) p) : h = h' := by
 have l := ring_three r hf
 have l' := ring_three r' hf
 have h1 := ring_first r hf 0 (by omega) m
 have a1 := (ring_corner r 0 (by omega)).2
 have a2 := (ring_corner r' 0 (by omega)).2
 have e : at_ h 0 = at_ h' 0 := by
  rcases h1 _ a2 with e | e
  ·exact e.symm
  ·rcases m' _ a1 with e' | e'
   ·exact e'
   ·exact absurd (first_trans e e') (first_irrefl _)
 apply ring_eq r r'
 obtain ⟨x, t, rfl, _⟩ := r
 obtain ⟨x', t', rfl, _⟩ := r'
 exact congrArg some e
theorem flat_ring {S h : List Pt} (r : Ring S h) (hf : Flat S) : h.length < 3 := by
 rcases Nat.lt_or_ge h.length 3 with h3 | h3
 ·exact h3
 ·have hs := (ring_strong r).2.2 0 2 (by omega) (by omega)
  have c0 := (ring_corner r 0 (by omega)).2
  have c1 := (ring_corner r ((0 + 1) % h.length) (Nat.mod_lt _ (by omega))).2
  have c2 := (ring_corner r 2 (by omega)).2
  have := hs.2 (hf _ c0 _ c1 _ c2)
  rw [Nat.mod_eq_of_lt (by omega)] at this
  omega
theorem flat_of_first {S : List Pt} {o : Pt} (h : ∀ a ∈ S, ∀ b ∈ S, cr o a b = 0) : Flat S := by
 by_cases e : ∃ a ∈ S, a ≠ o
 ·obtain ⟨a, ha, hne⟩ := e
  exact flat_of_edge (fun e => hne e.symm) (h a ha)
 ·have : ∀ a ∈ S, a = o := fun a ha => Classical.byContradiction fun hn => e ⟨a, ha, hn⟩
  intro a ha b hb c hc
  rw [this a ha, this b hb, this c hc, cr_self1]
theorem two_of_not_flat {S : List Pt} (hf : ¬ Flat S) : ∃ a b, a ∈ S ∧ b ∈ S ∧ a ≠ b := by
 apply Classical.byContradiction
 intro hn
 apply hf
 intro a ha b hb c hc
 have e : ∀ x ∈ S, x = a := fun x hx => Classical.byContradiction fun hne => hn ⟨x, a, hx, ha, hne⟩
 rw [e b hb, e c hc, cr_self1]
end Go.Proofs.Ytoffmpkgickfhaa.M
end
section
namespace Go.Proofs.Ytoffmpkgickfhaa.PG
open Go.RowKit Go.Proofs.YtoffmpkgickfhaaW.PrintWords Go.Proofs.YtoffmpkgickfhaaW.PrintLast Go.Proofs.YtoffmpkgickfhaaW.PrintMore
attribute [local go_sem] max2_int min2_int max_two min_two max_three min_three max_four min_four
set_option linter.unusedVariables false
set_option linter.unusedSimpArgs false
/-! ### cracknelref04_Cross: function 61 -/
def cracknelref04_Cross.f (a0_0 : Int) (a0_1 : Int) (a1_0 : Int) (a1_1 : Int) (a2_0 : Int) (a2_1 : Int) : Option (Int) := some (wrap64 ((wrap64 ((wrap64 (a1_0 - a0_0)) * (wrap64 (a2_1 - a0_1)))) - (wrap64 ((wrap64 (a2_0 - a0_0)) * (wrap64 (a1_1 - a0_1))))))
set_option maxHeartbeats 8000000 in
set_option maxRecDepth 100000 in
theorem cracknelref04_Cross.calls (a0_0 : Int) (a0_1 : Int) (a1_0 : Int) (a1_1 : Int) (a2_0 : Int) (a2_1 : Int) (r : Int) (w : World) (h : cracknelref04_Cross.f a0_0 a0_1 a1_0 a1_1 a2_0 a2_1 = some r) :
  Calls Try.prog 61 #[.agg #[.int .i64 a0_0, .int .i64 a0_1], .agg #[.int .i64 a1_0, .int .i64 a1_1], .agg #[.int .i64 a2_0, .int .i64 a2_1]] w fun e w' => e = .returned (.int .i64 r) ∧ Below w.heap.size w w' := by
 have hu29 := Try.underlying29
 have HB := Aside0.mk (Below.refl w.heap.size w)
 have H : (some (wrap64 ((wrap64 ((wrap64 (a1_0 - a0_0)) * (wrap64 (a2_1 - a0_1)))) - (wrap64 ((wrap64 (a2_0 - a0_0)) * (wrap64 (a1_1 - a0_1))))))) = some r := h
 clear h
 obtain rfl := Option.some.inj H
 go_enter Try.func61, Try.ntmps61
 go_wp2_with (first | ((with_reducible refine gate_dst (N := 3) rfl ?_); refine bxe 3 #[.int .i64 a0_0, .int .i64 a0_1] 29 ?_; intro gb101 hg w4 hbox hb; have BK101 := Aside0.mk (hbox); have GW101 := Aside0.mk (gs hg : w.heap.size ≤ gb101); have GE101 := Aside0.mk (gs hg : w.heap.size ≤ gb101); replace HB := Aside0.mk (below_step bh hb); clear hb hbox hg) | ((with_reducible refine gate_dst (N := 4) rfl ?_); refine bxe 4 #[.int .i64 a1_0, .int .i64 a1_1] 29 ?_; intro gb102 hg w5 hbox hb; have BK102 := Aside0.mk (hbox); have GW102 := Aside0.mk (gs hg : w.heap.size ≤ gb102); have GE102 := Aside0.mk (gs hg : w.heap.size ≤ gb102); have NB101_102 := Aside0.mk ((by rw [hg]; exact Nat.ne_of_lt (kl BK101) : gb101 ≠ gb102)); have NB102_101 := Aside0.mk ((by rw [hg]; exact Nat.ne_of_gt (kl BK101) : gb102 ≠ gb101)); replace BK101 := kb BK101 hb; replace HB := Aside0.mk (below_step bh hb); clear hb hbox hg) | ((with_reducible refine gate_dst (N := 5) rfl ?_); refine bxe 5 #[.int .i64 a2_0, .int .i64 a2_1] 29 ?_; intro gb103 hg w6 hbox hb; have BK103 := Aside0.mk (hbox); have GW103 := Aside0.mk (gs hg : w.heap.size ≤ gb103); have GE103 := Aside0.mk (gs hg : w.heap.size ≤ gb103); have NB101_103 := Aside0.mk ((by rw [hg]; exact Nat.ne_of_lt (kl BK101) : gb101 ≠ gb103)); have NB103_101 := Aside0.mk ((by rw [hg]; exact Nat.ne_of_gt (kl BK101) : gb103 ≠ gb101)); have NB102_103 := Aside0.mk ((by rw [hg]; exact Nat.ne_of_lt (kl BK102) : gb102 ≠ gb103)); have NB103_102 := Aside0.mk ((by rw [hg]; exact Nat.ne_of_gt (kl BK102) : gb103 ≠ gb102)); replace BK101 := kb BK101 hb; replace BK102 := kb BK102 hb; replace HB := Aside0.mk (below_step bh hb); clear hb hbox hg; have hnb7 := NB102_101.out; have hnc7 := NB101_102.out; have hnb8 := NB102_103.out; have hnc8 := NB103_102.out; have hcz9_0 : w6.cell? ⟨gb102, 0, none⟩ = some (.int .i64 a1_0) := bc BK102 0; have hcz9_1 : w6.cell? ⟨gb102, 1, none⟩ = some (.int .i64 a1_1) := bc BK102 1; have hfz9_0 := blk_frozen BK102.out 0; have hfz9_1 := blk_frozen BK102.out 1; have hnb10 := NB101_103.out; have hnc10 := NB103_101.out; have hcz11_0 : w6.cell? ⟨gb101, 0, none⟩ = some (.int .i64 a0_0) := bc BK101 0; have hcz11_1 : w6.cell? ⟨gb101, 1, none⟩ = some (.int .i64 a0_1) := bc BK101 1; have hfz11_0 := blk_frozen BK101.out 0; have hfz11_1 := blk_frozen BK101.out 1; have hcz12_0 : w6.cell? ⟨gb103, 0, none⟩ = some (.int .i64 a2_0) := bc BK103 0; have hcz12_1 : w6.cell? ⟨gb103, 1, none⟩ = some (.int .i64 a2_1) := bc BK103 1; have hfz12_0 := blk_frozen BK103.out 0; have hfz12_1 := blk_frozen BK103.out 1))
 go_ret
 exact ⟨by exact er, bh⟩
/-! ### cracknelref04_in: function 59 -/
def cracknelref04_in.f (a0 : Int) (a1 : Int) (a2 : Int) : Option (Bool) := if a0 ≥ a1 then (some (decide (a0 ≤ a2))) else (some false)
set_option maxHeartbeats 8000000 in
set_option maxRecDepth 100000 in
theorem cracknelref04_in.calls (a0 : Int) (a1 : Int) (a2 : Int) (r : Bool) (w : World) (h : cracknelref04_in.f a0 a1 a2 = some r) :
  Calls Try.prog 59 #[.int .i64 a0, .int .i64 a1, .int .i64 a2] w fun e w' => e = .returned (.bool r) ∧ Drawn0 w w' := by
 have H : (if a0 ≥ a1 then (some (decide (a0 ≤ a2))) else (some false)) = some r := h
 clear h
 by_cases c4 : a0 ≥ a1
 ·rw [if_pos c4] at H
  have c4b0 := decide_eq_true c4
  clear c4
  obtain rfl := Option.some.inj H
  go_enter Try.func59, Try.ntmps59
  go_wp2
  go_ret
  exact ⟨by first | rfl | (simp; done) | (simp [*]; done), by repeat (first | exact Drawn0.refl _ | apply Drawn0.step)⟩
 ·rw [if_neg c4] at H
  have c4b0 := decide_eq_false c4
  clear c4
  obtain rfl := Option.some.inj H
  go_enter Try.func59, Try.ntmps59
  go_wp2
  go_ret
  exact ⟨by first | rfl | (simp; done) | (simp [*]; done), by repeat (first | exact Drawn0.refl _ | apply Drawn0.step)⟩
/-! ### cracknelref04_On: function 62 -/
def cracknelref04_On.f (a0_0 : Int) (a0_1 : Int) (a1_0 : Int) (a1_1 : Int) (a2_0 : Int) (a2_1 : Int) : Option (Bool) := (cracknelref04_Cross.f a0_0 a0_1 a1_0 a1_1 a2_0 a2_1).bind fun t104 => (if t104 = 0 then ((cracknelref04_in.f a2_0 (mn a0_0 a1_0) (mx a0_0 a1_0)).bind fun t105 => (if t105 = true then ((cracknelref04_in.f a2_1 (mn a0_1 a1_1) (mx a0_1 a1_1)).bind fun t106 => (some t106)) else (some false))) else (some false))
set_option maxHeartbeats 8000000 in
set_option maxRecDepth 100000 in
theorem cracknelref04_On.calls (a0_0 : Int) (a0_1 : Int) (a1_0 : Int) (a1_1 : Int) (a2_0 : Int) (a2_1 : Int) (r : Bool) (w : World) (h : cracknelref04_On.f a0_0 a0_1 a1_0 a1_1 a2_0 a2_1 = some r) :
  Calls Try.prog 62 #[.agg #[.int .i64 a0_0, .int .i64 a0_1], .agg #[.int .i64 a1_0, .int .i64 a1_1], .agg #[.int .i64 a2_0, .int .i64 a2_1]] w fun e w' => e = .returned (.bool r) ∧ Below w.heap.size w w' := by
 have hu29 := Try.underlying29
 have HB := Aside0.mk (Below.refl w.heap.size w)
 have H : ((cracknelref04_Cross.f a0_0 a0_1 a1_0 a1_1 a2_0 a2_1).bind fun t104 => (if t104 = 0 then ((cracknelref04_in.f a2_0 (mn a0_0 a1_0) (mx a0_0 a1_0)).bind fun t105 => (if t105 = true then ((cracknelref04_in.f a2_1 (mn a0_1 a1_1) (mx a0_1 a1_1)).bind fun t106 => (some t106)) else (some false))) else (some false))) = some r := h
 clear h
 replace H := Option.bind_eq_some_iff.mp H
 obtain ⟨t104, A40, H⟩ := H
 try dsimp only at H
 have A4 := Aside0.mk A40
 clear A40
 by_cases c5 : t104 = 0
 ·rw [if_pos c5] at H
  have c5b0 : (t104 == 0) = true := beq_iff_eq.mpr c5
  have c5b1 : (t104 != 0) = false := bne_eq_false_iff_eq.mpr c5
  clear c5
  obtain ⟨ji6, hji6⟩ : ∃ j_ : Int, (mn a0_0 a1_0) = j_ := ⟨_, rfl⟩
  first | rw [hji6] at H | simp only [hji6] at H
  (try rw [hji6] at A4)
  have hji6_ : (if a1_0 < a0_0 then a1_0 else a0_0) = ji6 := hji6
  obtain ⟨ji7, hji7⟩ : ∃ j_ : Int, (mx a0_0 a1_0) = j_ := ⟨_, rfl⟩
  first | rw [hji7] at H | simp only [hji7] at H
  (try rw [hji7] at A4)
  have hji7_ : (if a0_0 < a1_0 then a1_0 else a0_0) = ji7 := hji7
  replace H := Option.bind_eq_some_iff.mp H
  obtain ⟨t105, A80, H⟩ := H
  try dsimp only at H
  have A8 := Aside0.mk A80
  clear A80
  by_cases c9 : t105 = true
  ·subst c9
   rw [if_pos rfl] at H
   obtain ⟨ji10, hji10⟩ : ∃ j_ : Int, (mn a0_1 a1_1) = j_ := ⟨_, rfl⟩
   first | rw [hji10] at H | simp only [hji10] at H
   (try rw [hji10] at A4)
   (try rw [hji10] at A8)
   have hji10_ : (if a1_1 < a0_1 then a1_1 else a0_1) = ji10 := hji10
   obtain ⟨ji11, hji11⟩ : ∃ j_ : Int, (mx a0_1 a1_1) = j_ := ⟨_, rfl⟩
   first | rw [hji11] at H | simp only [hji11] at H
   (try rw [hji11] at A4)
   (try rw [hji11] at A8)
   have hji11_ : (if a0_1 < a1_1 then a1_1 else a0_1) = ji11 := hji11
   replace H := Option.bind_eq_some_iff.mp H
   obtain ⟨t106, A120, H⟩ := H
   try dsimp only at H
   have A12 := Aside0.mk A120
   clear A120
   obtain rfl := Option.some.inj H
   go_enter Try.func62, Try.ntmps62
   go_wp2_with (first | ((with_reducible refine gate_dst (N := 3) rfl ?_); (try (refine gate_guard (by rfl) ?_; dsimp only)); refine bxe 3 #[.int .i64 a0_0, .int .i64 a0_1] 29 ?_; intro gb101 hg w13 hbox hb; have BK101 := Aside0.mk (hbox); have GW101 := Aside0.mk (gs hg : w.heap.size ≤ gb101); have GE101 := Aside0.mk (gs hg : w.heap.size ≤ gb101); replace HB := Aside0.mk (below_step bh hb); clear hb hbox hg) | ((with_reducible refine gate_dst (N := 4) rfl ?_); (try (refine gate_guard (by rfl) ?_; dsimp only)); refine bxe 4 #[.int .i64 a1_0, .int .i64 a1_1] 29 ?_; intro gb102 hg w14 hbox hb; have BK102 := Aside0.mk (hbox); have GW102 := Aside0.mk (gs hg : w.heap.size ≤ gb102); have GE102 := Aside0.mk (gs hg : w.heap.size ≤ gb102); have NB101_102 := Aside0.mk ((by rw [hg]; exact Nat.ne_of_lt (kl BK101) : gb101 ≠ gb102)); have NB102_101 := Aside0.mk ((by rw [hg]; exact Nat.ne_of_gt (kl BK101) : gb102 ≠ gb101)); replace BK101 := kb BK101 hb; replace HB := Aside0.mk (below_step bh hb); clear hb hbox hg) | ((with_reducible refine gate_dst (N := 5) rfl ?_); (try (refine gate_guard (by rfl) ?_; dsimp only)); refine bxe 5 #[.int .i64 a2_0, .int .i64 a2_1] 29 ?_; intro gb103 hg w15 hbox hb; have BK103 := Aside0.mk (hbox); have GW103 := Aside0.mk (gs hg : w.heap.size ≤ gb103); have GE103 := Aside0.mk (gs hg : w.heap.size ≤ gb103); have NB101_103 := Aside0.mk ((by rw [hg]; exact Nat.ne_of_lt (kl BK101) : gb101 ≠ gb103)); have NB103_101 := Aside0.mk ((by rw [hg]; exact Nat.ne_of_gt (kl BK101) : gb103 ≠ gb101)); have NB102_103 := Aside0.mk ((by rw [hg]; exact Nat.ne_of_lt (kl BK102) : gb102 ≠ gb103)); have NB103_102 := Aside0.mk ((by rw [hg]; exact Nat.ne_of_gt (kl BK102) : gb103 ≠ gb102)); replace BK101 := kb BK101 hb; replace BK102 := kb BK102 hb; replace HB := Aside0.mk (below_step bh hb); clear hb hbox hg; have hnb16 := NB101_102.out; have hnc16 := NB102_101.out; have hnb17 := NB101_103.out; have hnc17 := NB103_101.out; have hcz18_0 : w15.cell? ⟨gb101, 0, none⟩ = some (.int .i64 a0_0) := bc BK101 0; have hcz18_1 : w15.cell? ⟨gb101, 1, none⟩ = some (.int .i64 a0_1) := bc BK101 1; have hfz18_0 := blk_frozen BK101.out 0; have hfz18_1 := blk_frozen BK101.out 1; have hnb19 := NB102_103.out; have hnc19 := NB103_102.out; have hcz20_0 : w15.cell? ⟨gb102, 0, none⟩ = some (.int .i64 a1_0) := bc BK102 0; have hcz20_1 : w15.cell? ⟨gb102, 1, none⟩ = some (.int .i64 a1_1) := bc BK102 1; have hfz20_0 := blk_frozen BK102.out 0; have hfz20_1 := blk_frozen BK102.out 1; have hcz21_0 : w15.cell? ⟨gb103, 0, none⟩ = some (.int .i64 a2_0) := bc BK103 0; have hcz21_1 : w15.cell? ⟨gb103, 1, none⟩ = some (.int .i64 a2_1) := bc BK103 1; have hfz21_0 := blk_frozen BK103.out 0; have hfz21_1 := blk_frozen BK103.out 1) | ((with_reducible refine gc 61 rfl ?_); refine goesL_ (some 10) rfl rfl Try.func61 (by kernel_rfl) rfl #[.agg #[.int .i64 a0_0, .int .i64 a0_1], .agg #[.int .i64 a1_0, .int .i64 a1_1], .agg #[.int .i64 a2_0, .int .i64 a2_1]] rfl sg ?_; (with_reducible refine (cracknelref04_Cross.calls a0_0 a0_1 a1_0 a1_1 a2_0 a2_1 t104 _ A4.out).mono ?_); rintro e w22 ⟨rfl, hb⟩; refine ⟨_, rfl, ?_⟩; replace BK101 := kb BK101 hb; replace BK102 := kb BK102 hb; replace BK103 := kb BK103 hb; replace HB := Aside0.mk (below_step bh hb); (try clear hb); (try clear hb2); (try clear hk); (try clear hi); have hcz23_0 : w22.cell? ⟨gb103, 0, none⟩ = some (.int .i64 a2_0) := bc BK103 0; have hcz23_1 : w22.cell? ⟨gb103, 1, none⟩ = some (.int .i64 a2_1) := bc BK103 1; have hfz23_0 := blk_frozen BK103.out 0; have hfz23_1 := blk_frozen BK103.out 1; have hcz24_0 : w22.cell? ⟨gb101, 0, none⟩ = some (.int .i64 a0_0) := bc BK101 0; have hcz24_1 : w22.cell? ⟨gb101, 1, none⟩ = some (.int .i64 a0_1) := bc BK101 1; have hfz24_0 := blk_frozen BK101.out 0; have hfz24_1 := blk_frozen BK101.out 1; have hcz25_0 : w22.cell? ⟨gb102, 0, none⟩ = some (.int .i64 a1_0) := bc BK102 0; have hcz25_1 : w22.cell? ⟨gb102, 1, none⟩ = some (.int .i64 a1_1) := bc BK102 1; have hfz25_0 := blk_frozen BK102.out 0; have hfz25_1 := blk_frozen BK102.out 1) | (go_at_call 59; (with_reducible refine (cracknelref04_in.calls a2_0 ji6 ji7 true _ A8.out).mono ?_); rintro e w' ⟨rfl, ⟨nd, rfl⟩⟩) | (go_at_call 59; (with_reducible refine (cracknelref04_in.calls a2_1 ji10 ji11 t106 _ A12.out).mono ?_); rintro e w' ⟨rfl, ⟨nd, rfl⟩⟩))
   go_ret
   exact ⟨by first | rfl | (simp [errW_none, errW_some] <;> rfl) | (simp only [← hji6, ← hji7, ← hji10, ← hji11]; first | rfl | (simp [errW_none, errW_some] <;> rfl)) | (simp [*, errW_none, errW_some] <;> rfl), bh⟩
  ·replace c9 := Bool.eq_false_iff.mpr c9
   subst c9
   rw [if_neg (show ¬ (false = true) by decide)] at H
   obtain rfl := Option.some.inj H
   go_enter Try.func62, Try.ntmps62
   go_wp2_with (first | ((with_reducible refine gate_dst (N := 3) rfl ?_); (try (refine gate_guard (by rfl) ?_; dsimp only)); refine bxe 3 #[.int .i64 a0_0, .int .i64 a0_1] 29 ?_; intro gb101 hg w26 hbox hb; have BK101 := Aside0.mk (hbox); have GW101 := Aside0.mk (gs hg : w.heap.size ≤ gb101); have GE101 := Aside0.mk (gs hg : w.heap.size ≤ gb101); replace HB := Aside0.mk (below_step bh hb); clear hb hbox hg) | ((with_reducible refine gate_dst (N := 4) rfl ?_); (try (refine gate_guard (by rfl) ?_; dsimp only)); refine bxe 4 #[.int .i64 a1_0, .int .i64 a1_1] 29 ?_; intro gb102 hg w27 hbox hb; have BK102 := Aside0.mk (hbox); have GW102 := Aside0.mk (gs hg : w.heap.size ≤ gb102); have GE102 := Aside0.mk (gs hg : w.heap.size ≤ gb102); have NB101_102 := Aside0.mk ((by rw [hg]; exact Nat.ne_of_lt (kl BK101) : gb101 ≠ gb102)); have NB102_101 := Aside0.mk ((by rw [hg]; exact Nat.ne_of_gt (kl BK101) : gb102 ≠ gb101)); replace BK101 := kb BK101 hb; replace HB := Aside0.mk (below_step bh hb); clear hb hbox hg) | ((with_reducible refine gate_dst (N := 5) rfl ?_); (try (refine gate_guard (by rfl) ?_; dsimp only)); refine bxe 5 #[.int .i64 a2_0, .int .i64 a2_1] 29 ?_; intro gb103 hg w28 hbox hb; have BK103 := Aside0.mk (hbox); have GW103 := Aside0.mk (gs hg : w.heap.size ≤ gb103); have GE103 := Aside0.mk (gs hg : w.heap.size ≤ gb103); have NB101_103 := Aside0.mk ((by rw [hg]; exact Nat.ne_of_lt (kl BK101) : gb101 ≠ gb103)); have NB103_101 := Aside0.mk ((by rw [hg]; exact Nat.ne_of_gt (kl BK101) : gb103 ≠ gb101)); have NB102_103 := Aside0.mk ((by rw [hg]; exact Nat.ne_of_lt (kl BK102) : gb102 ≠ gb103)); have NB103_102 := Aside0.mk ((by rw [hg]; exact Nat.ne_of_gt (kl BK102) : gb103 ≠ gb102)); replace BK101 := kb BK101 hb; replace BK102 := kb BK102 hb; replace HB := Aside0.mk (below_step bh hb); clear hb hbox hg; have hnb29 := NB101_102.out; have hnc29 := NB102_101.out; have hnb30 := NB101_103.out; have hnc30 := NB103_101.out; have hcz31_0 : w28.cell? ⟨gb101, 0, none⟩ = some (.int .i64 a0_0) := bc BK101 0; have hcz31_1 : w28.cell? ⟨gb101, 1, none⟩ = some (.int .i64 a0_1) := bc BK101 1; have hfz31_0 := blk_frozen BK101.out 0; have hfz31_1 := blk_frozen BK101.out 1; have hnb32 := NB102_103.out; have hnc32 := NB103_102.out; have hcz33_0 : w28.cell? ⟨gb102, 0, none⟩ = some (.int .i64 a1_0) := bc BK102 0; have hcz33_1 : w28.cell? ⟨gb102, 1, none⟩ = some (.int .i64 a1_1) := bc BK102 1; have hfz33_0 := blk_frozen BK102.out 0; have hfz33_1 := blk_frozen BK102.out 1; have hcz34_0 : w28.cell? ⟨gb103, 0, none⟩ = some (.int .i64 a2_0) := bc BK103 0; have hcz34_1 : w28.cell? ⟨gb103, 1, none⟩ = some (.int .i64 a2_1) := bc BK103 1; have hfz34_0 := blk_frozen BK103.out 0; have hfz34_1 := blk_frozen BK103.out 1) | ((with_reducible refine gc 61 rfl ?_); refine goesL_ (some 10) rfl rfl Try.func61 (by kernel_rfl) rfl #[.agg #[.int .i64 a0_0, .int .i64 a0_1], .agg #[.int .i64 a1_0, .int .i64 a1_1], .agg #[.int .i64 a2_0, .int .i64 a2_1]] rfl sg ?_; (with_reducible refine (cracknelref04_Cross.calls a0_0 a0_1 a1_0 a1_1 a2_0 a2_1 t104 _ A4.out).mono ?_); rintro e w35 ⟨rfl, hb⟩; refine ⟨_, rfl, ?_⟩; replace BK101 := kb BK101 hb; replace BK102 := kb BK102 hb; replace BK103 := kb BK103 hb; replace HB := Aside0.mk (below_step bh hb); (try clear hb); (try clear hb2); (try clear hk); (try clear hi); have hcz36_0 : w35.cell? ⟨gb103, 0, none⟩ = some (.int .i64 a2_0) := bc BK103 0; have hcz36_1 : w35.cell? ⟨gb103, 1, none⟩ = some (.int .i64 a2_1) := bc BK103 1; have hfz36_0 := blk_frozen BK103.out 0; have hfz36_1 := blk_frozen BK103.out 1; have hcz37_0 : w35.cell? ⟨gb101, 0, none⟩ = some (.int .i64 a0_0) := bc BK101 0; have hcz37_1 : w35.cell? ⟨gb101, 1, none⟩ = some (.int .i64 a0_1) := bc BK101 1; have hfz37_0 := blk_frozen BK101.out 0; have hfz37_1 := blk_frozen BK101.out 1; have hcz38_0 : w35.cell? ⟨gb102, 0, none⟩ = some (.int .i64 a1_0) := bc BK102 0; have hcz38_1 : w35.cell? ⟨gb102, 1, none⟩ = some (.int .i64 a1_1) := bc BK102 1; have hfz38_0 := blk_frozen BK102.out 0; have hfz38_1 := blk_frozen BK102.out 1) | (go_at_call 59; (with_reducible refine (cracknelref04_in.calls a2_0 ji6 ji7 false _ A8.out).mono ?_); rintro e w' ⟨rfl, ⟨nd, rfl⟩⟩))
   go_ret
   exact ⟨by first | rfl | (simp [errW_none, errW_some] <;> rfl) | (simp only [← hji6, ← hji7]; first | rfl | (simp [errW_none, errW_some] <;> rfl)) | (simp [*, errW_none, errW_some] <;> rfl), bh⟩
 ·rw [if_neg c5] at H
  have c5b0 : (t104 == 0) = false := beq_eq_false_iff_ne.mpr c5
  have c5b1 : (t104 != 0) = true := bne_iff_ne.mpr c5
  obtain rfl := Option.some.inj H
  go_enter Try.func62, Try.ntmps62
  go_wp2_with (first | ((with_reducible refine gate_dst (N := 3) rfl ?_); (try (refine gate_guard (by rfl) ?_; dsimp only)); refine bxe 3 #[.int .i64 a0_0, .int .i64 a0_1] 29 ?_; intro gb101 hg w39 hbox hb; have BK101 := Aside0.mk (hbox); have GW101 := Aside0.mk (gs hg : w.heap.size ≤ gb101); have GE101 := Aside0.mk (gs hg : w.heap.size ≤ gb101); replace HB := Aside0.mk (below_step bh hb); clear hb hbox hg) | ((with_reducible refine gate_dst (N := 4) rfl ?_); (try (refine gate_guard (by rfl) ?_; dsimp only)); refine bxe 4 #[.int .i64 a1_0, .int .i64 a1_1] 29 ?_; intro gb102 hg w40 hbox hb; have BK102 := Aside0.mk (hbox); have GW102 := Aside0.mk (gs hg : w.heap.size ≤ gb102); have GE102 := Aside0.mk (gs hg : w.heap.size ≤ gb102); have NB101_102 := Aside0.mk ((by rw [hg]; exact Nat.ne_of_lt (kl BK101) : gb101 ≠ gb102)); have NB102_101 := Aside0.mk ((by rw [hg]; exact Nat.ne_of_gt (kl BK101) : gb102 ≠ gb101)); replace BK101 := kb BK101 hb; replace HB := Aside0.mk (below_step bh hb); clear hb hbox hg) | ((with_reducible refine gate_dst (N := 5) rfl ?_); (try (refine gate_guard (by rfl) ?_; dsimp only)); refine bxe 5 #[.int .i64 a2_0, .int .i64 a2_1] 29 ?_; intro gb103 hg w41 hbox hb; have BK103 := Aside0.mk (hbox); have GW103 := Aside0.mk (gs hg : w.heap.size ≤ gb103); have GE103 := Aside0.mk (gs hg : w.heap.size ≤ gb103); have NB101_103 := Aside0.mk ((by rw [hg]; exact Nat.ne_of_lt (kl BK101) : gb101 ≠ gb103)); have NB103_101 := Aside0.mk ((by rw [hg]; exact Nat.ne_of_gt (kl BK101) : gb103 ≠ gb101)); have NB102_103 := Aside0.mk ((by rw [hg]; exact Nat.ne_of_lt (kl BK102) : gb102 ≠ gb103)); have NB103_102 := Aside0.mk ((by rw [hg]; exact Nat.ne_of_gt (kl BK102) : gb103 ≠ gb102)); replace BK101 := kb BK101 hb; replace BK102 := kb BK102 hb; replace HB := Aside0.mk (below_step bh hb); clear hb hbox hg; have hnb42 := NB101_102.out; have hnc42 := NB102_101.out; have hnb43 := NB101_103.out; have hnc43 := NB103_101.out; have hcz44_0 : w41.cell? ⟨gb101, 0, none⟩ = some (.int .i64 a0_0) := bc BK101 0; have hcz44_1 : w41.cell? ⟨gb101, 1, none⟩ = some (.int .i64 a0_1) := bc BK101 1; have hfz44_0 := blk_frozen BK101.out 0; have hfz44_1 := blk_frozen BK101.out 1; have hnb45 := NB102_103.out; have hnc45 := NB103_102.out; have hcz46_0 : w41.cell? ⟨gb102, 0, none⟩ = some (.int .i64 a1_0) := bc BK102 0; have hcz46_1 : w41.cell? ⟨gb102, 1, none⟩ = some (.int .i64 a1_1) := bc BK102 1; have hfz46_0 := blk_frozen BK102.out 0; have hfz46_1 := blk_frozen BK102.out 1; have hcz47_0 : w41.cell? ⟨gb103, 0, none⟩ = some (.int .i64 a2_0) := bc BK103 0; have hcz47_1 : w41.cell? ⟨gb103, 1, none⟩ = some (.int .i64 a2_1) := bc BK103 1; have hfz47_0 := blk_frozen BK103.out 0; have hfz47_1 := blk_frozen BK103.out 1) | ((with_reducible refine gc 61 rfl ?_); refine goesL_ (some 10) rfl rfl Try.func61 (by kernel_rfl) rfl #[.agg #[.int .i64 a0_0, .int .i64 a0_1], .agg #[.int .i64 a1_0, .int .i64 a1_1], .agg #[.int .i64 a2_0, .int .i64 a2_1]] rfl sg ?_; (with_reducible refine (cracknelref04_Cross.calls a0_0 a0_1 a1_0 a1_1 a2_0 a2_1 t104 _ A4.out).mono ?_); rintro e w48 ⟨rfl, hb⟩; refine ⟨_, rfl, ?_⟩; replace BK101 := kb BK101 hb; replace BK102 := kb BK102 hb; replace BK103 := kb BK103 hb; replace HB := Aside0.mk (below_step bh hb); (try clear hb); (try clear hb2); (try clear hk); (try clear hi)))
  go_ret
  exact ⟨by exact er, bh⟩
/-! ### cracknelref04_first: function 60 -/
def cracknelref04_first.f (a0_0 : Int) (a0_1 : Int) (a1_0 : Int) (a1_1 : Int) : Option (Bool) := if a0_1 < a1_1 then (some true) else (if a0_1 = a1_1 then (some (decide (a0_0 < a1_0))) else (some false))
set_option maxHeartbeats 8000000 in
set_option maxRecDepth 100000 in
theorem cracknelref04_first.calls (a0_0 : Int) (a0_1 : Int) (a1_0 : Int) (a1_1 : Int) (r : Bool) (w : World) (h : cracknelref04_first.f a0_0 a0_1 a1_0 a1_1 = some r) :
  Calls Try.prog 60 #[.agg #[.int .i64 a0_0, .int .i64 a0_1], .agg #[.int .i64 a1_0, .int .i64 a1_1]] w fun e w' => e = .returned (.bool r) ∧ Below w.heap.size w w' := by
 have hu29 := Try.underlying29
 have HB := Aside0.mk (Below.refl w.heap.size w)
 have H : (if a0_1 < a1_1 then (some true) else (if a0_1 = a1_1 then (some (decide (a0_0 < a1_0))) else (some false))) = some r := h
 clear h
 by_cases c3 : a0_1 < a1_1
 ·rw [if_pos c3] at H
  have c3b0 := decide_eq_true c3
  clear c3
  obtain rfl := Option.some.inj H
  go_enter Try.func60, Try.ntmps60
  go_wp2_with (first | ((with_reducible refine gate_dst (N := 2) rfl ?_); refine bxe 2 #[.int .i64 a0_0, .int .i64 a0_1] 29 ?_; intro gb101 hg w4 hbox hb; have BK101 := Aside0.mk (hbox); have GW101 := Aside0.mk (gs hg : w.heap.size ≤ gb101); have GE101 := Aside0.mk (gs hg : w.heap.size ≤ gb101); replace HB := Aside0.mk (below_step bh hb); clear hb hbox hg) | ((with_reducible refine gate_dst (N := 3) rfl ?_); refine bxe 3 #[.int .i64 a1_0, .int .i64 a1_1] 29 ?_; intro gb102 hg w5 hbox hb; have BK102 := Aside0.mk (hbox); have GW102 := Aside0.mk (gs hg : w.heap.size ≤ gb102); have GE102 := Aside0.mk (gs hg : w.heap.size ≤ gb102); have NB101_102 := Aside0.mk ((by rw [hg]; exact Nat.ne_of_lt (kl BK101) : gb101 ≠ gb102)); have NB102_101 := Aside0.mk ((by rw [hg]; exact Nat.ne_of_gt (kl BK101) : gb102 ≠ gb101)); replace BK101 := kb BK101 hb; replace HB := Aside0.mk (below_step bh hb); clear hb hbox hg; have hnb6 := NB101_102.out; have hnc6 := NB102_101.out; have hcz7_0 : w5.cell? ⟨gb101, 0, none⟩ = some (.int .i64 a0_0) := bc BK101 0; have hcz7_1 : w5.cell? ⟨gb101, 1, none⟩ = some (.int .i64 a0_1) := bc BK101 1; have hfz7_0 := blk_frozen BK101.out 0; have hfz7_1 := blk_frozen BK101.out 1; have hcz8_0 : w5.cell? ⟨gb102, 0, none⟩ = some (.int .i64 a1_0) := bc BK102 0; have hcz8_1 : w5.cell? ⟨gb102, 1, none⟩ = some (.int .i64 a1_1) := bc BK102 1; have hfz8_0 := blk_frozen BK102.out 0; have hfz8_1 := blk_frozen BK102.out 1))
  go_ret
  exact ⟨by exact er, bh⟩
 ·rw [if_neg c3] at H
  have c3b0 := decide_eq_false c3
  clear c3
  by_cases c9 : a0_1 = a1_1
  ·rw [if_pos c9] at H
   have c9b0 : (a0_1 == a1_1) = true := beq_iff_eq.mpr c9
   have c9b1 : (a0_1 != a1_1) = false := bne_eq_false_iff_eq.mpr c9
   clear c9
   obtain rfl := Option.some.inj H
   go_enter Try.func60, Try.ntmps60
   go_wp2_with (first | ((with_reducible refine gate_dst (N := 2) rfl ?_); refine bxe 2 #[.int .i64 a0_0, .int .i64 a0_1] 29 ?_; intro gb101 hg w10 hbox hb; have BK101 := Aside0.mk (hbox); have GW101 := Aside0.mk (gs hg : w.heap.size ≤ gb101); have GE101 := Aside0.mk (gs hg : w.heap.size ≤ gb101); replace HB := Aside0.mk (below_step bh hb); clear hb hbox hg) | ((with_reducible refine gate_dst (N := 3) rfl ?_); refine bxe 3 #[.int .i64 a1_0, .int .i64 a1_1] 29 ?_; intro gb102 hg w11 hbox hb; have BK102 := Aside0.mk (hbox); have GW102 := Aside0.mk (gs hg : w.heap.size ≤ gb102); have GE102 := Aside0.mk (gs hg : w.heap.size ≤ gb102); have NB101_102 := Aside0.mk ((by rw [hg]; exact Nat.ne_of_lt (kl BK101) : gb101 ≠ gb102)); have NB102_101 := Aside0.mk ((by rw [hg]; exact Nat.ne_of_gt (kl BK101) : gb102 ≠ gb101)); replace BK101 := kb BK101 hb; replace HB := Aside0.mk (below_step bh hb); clear hb hbox hg; have hnb12 := NB101_102.out; have hnc12 := NB102_101.out; have hcz13_0 : w11.cell? ⟨gb101, 0, none⟩ = some (.int .i64 a0_0) := bc BK101 0; have hcz13_1 : w11.cell? ⟨gb101, 1, none⟩ = some (.int .i64 a0_1) := bc BK101 1; have hfz13_0 := blk_frozen BK101.out 0; have hfz13_1 := blk_frozen BK101.out 1; have hcz14_0 : w11.cell? ⟨gb102, 0, none⟩ = some (.int .i64 a1_0) := bc BK102 0; have hcz14_1 : w11.cell? ⟨gb102, 1, none⟩ = some (.int .i64 a1_1) := bc BK102 1; have hfz14_0 := blk_frozen BK102.out 0; have hfz14_1 := blk_frozen BK102.out 1))
   go_ret
   exact ⟨by exact er, bh⟩
  ·rw [if_neg c9] at H
   have c9b0 : (a0_1 == a1_1) = false := beq_eq_false_iff_ne.mpr c9
   have c9b1 : (a0_1 != a1_1) = true := bne_iff_ne.mpr c9
   obtain rfl := Option.some.inj H
   go_enter Try.func60, Try.ntmps60
   go_wp2_with (first | ((with_reducible refine gate_dst (N := 2) rfl ?_); refine bxe 2 #[.int .i64 a0_0, .int .i64 a0_1] 29 ?_; intro gb101 hg w15 hbox hb; have BK101 := Aside0.mk (hbox); have GW101 := Aside0.mk (gs hg : w.heap.size ≤ gb101); have GE101 := Aside0.mk (gs hg : w.heap.size ≤ gb101); replace HB := Aside0.mk (below_step bh hb); clear hb hbox hg) | ((with_reducible refine gate_dst (N := 3) rfl ?_); refine bxe 3 #[.int .i64 a1_0, .int .i64 a1_1] 29 ?_; intro gb102 hg w16 hbox hb; have BK102 := Aside0.mk (hbox); have GW102 := Aside0.mk (gs hg : w.heap.size ≤ gb102); have GE102 := Aside0.mk (gs hg : w.heap.size ≤ gb102); have NB101_102 := Aside0.mk ((by rw [hg]; exact Nat.ne_of_lt (kl BK101) : gb101 ≠ gb102)); have NB102_101 := Aside0.mk ((by rw [hg]; exact Nat.ne_of_gt (kl BK101) : gb102 ≠ gb101)); replace BK101 := kb BK101 hb; replace HB := Aside0.mk (below_step bh hb); clear hb hbox hg; have hnb17 := NB101_102.out; have hnc17 := NB102_101.out; have hcz18_0 : w16.cell? ⟨gb101, 0, none⟩ = some (.int .i64 a0_0) := bc BK101 0; have hcz18_1 : w16.cell? ⟨gb101, 1, none⟩ = some (.int .i64 a0_1) := bc BK101 1; have hfz18_0 := blk_frozen BK101.out 0; have hfz18_1 := blk_frozen BK101.out 1; have hcz19_0 : w16.cell? ⟨gb102, 0, none⟩ = some (.int .i64 a1_0) := bc BK102 0; have hcz19_1 : w16.cell? ⟨gb102, 1, none⟩ = some (.int .i64 a1_1) := bc BK102 1; have hfz19_0 := blk_frozen BK102.out 0; have hfz19_1 := blk_frozen BK102.out 1))
   go_ret
   exact ⟨by exact er, bh⟩
end Go.Proofs.Ytoffmpkgickfhaa.PG
end
section
namespace Go.Proofs.Ytoffmpkgickfhaa.M
open Go.RowKit Go.Proofs.Ytoffmpkgickfhaa.PG Go.Proofs.YtoffmpkgickfhaaW.PrintMore Go.Proofs.YtoffmpkgickfhaaW.PrintWords
def Rt {α : Type} (g : Nat → Option α) (v : α) : Prop := ∃ K, ∀ k, K ≤ k → g k = some v
theorem wz (n : Int) (h0 : -9223372036854775808 ≤ n) (h1 : n ≤ 9223372036854775807) : wrap64 n = n := by unfold wrap64; omega
def Bd (p : Pt) : Prop := -1000000 ≤ p.f0 ∧ p.f0 ≤ 1000000 ∧ -1000000 ≤ p.f1 ∧ p.f1 ≤ 1000000
theorem mulb {a b : Int} (h0 : -2000000 ≤ a) (h1 : a ≤ 2000000) (h2 : -2000000 ≤ b) (h3 : b ≤ 2000000) : -4000000000000 ≤ a * b ∧ a * b ≤ 4000000000000 := by
 have h : (a * b).natAbs = a.natAbs * b.natAbs := Int.natAbs_mul a b
 have h' : a.natAbs * b.natAbs ≤ 2000000 * 2000000 := Nat.mul_le_mul (by omega) (by omega)
 omega
theorem cr_eq (a b c : Pt) : cr a b c = (b.f0 - a.f0) * (c.f1 - a.f1) - (c.f0 - a.f0) * (b.f1 - a.f1) := rfl
theorem Cross_f {a b c : Pt} (ha : Bd a) (hb : Bd b) (hc : Bd c) : cracknelref04_Cross.f a.f0 a.f1 b.f0 b.f1 c.f0 c.f1 = some (cr a b c) := by
 obtain ⟨a0, a1, a2, a3⟩ := ha; obtain ⟨b0, b1, b2, b3⟩ := hb; obtain ⟨c0, c1, c2, c3⟩ := hc
 have h1 := @mulb (b.f0 - a.f0) (c.f1 - a.f1) (by omega) (by omega) (by omega) (by omega)
 have h2 := @mulb (c.f0 - a.f0) (b.f1 - a.f1) (by omega) (by omega) (by omega) (by omega)
 unfold cracknelref04_Cross.f
 rw [wz (b.f0 - a.f0) (by omega) (by omega), wz (c.f1 - a.f1) (by omega) (by omega), wz (c.f0 - a.f0) (by omega) (by omega), wz (b.f1 - a.f1) (by omega) (by omega), wz ((b.f0 - a.f0) * (c.f1 - a.f1)) (by omega) (by omega), wz ((c.f0 - a.f0) * (b.f1 - a.f1)) (by omega) (by omega), wz _ (by omega) (by omega), cr_eq]
theorem side_f {a b c : Pt} (ha : Bd a) (hb : Bd b) (hc : Bd c) : shape_side.f a.f0 a.f1 b.f0 b.f1 c.f0 c.f1 = some (cr a b c) := by
 obtain ⟨a0, a1, a2, a3⟩ := ha; obtain ⟨b0, b1, b2, b3⟩ := hb; obtain ⟨c0, c1, c2, c3⟩ := hc
 have h1 := @mulb (b.f0 - a.f0) (c.f1 - a.f1) (by omega) (by omega) (by omega) (by omega)
 have h2 := @mulb (b.f1 - a.f1) (c.f0 - a.f0) (by omega) (by omega) (by omega) (by omega)
 unfold shape_side.f shape_sub.f shape_cross.f
 simp only [Option.bind_some]
 rw [wz (b.f0 - a.f0) (by omega) (by omega), wz (c.f1 - a.f1) (by omega) (by omega), wz (c.f0 - a.f0) (by omega) (by omega), wz (b.f1 - a.f1) (by omega) (by omega), wz ((b.f0 - a.f0) * (c.f1 - a.f1)) (by omega) (by omega), wz ((b.f1 - a.f1) * (c.f0 - a.f0)) (by omega) (by omega), wz _ (by omega) (by omega), cr_eq]
 congr 1; grind
theorem in_f (v a b : Int) : cracknelref04_in.f v a b = some (decide (a ≤ v ∧ v ≤ b)) := by
 unfold cracknelref04_in.f
 by_cases h : v ≥ a
 ·rw [if_pos h]; simp; omega
 ·rw [if_neg h]; simp; omega
theorem mn_eq (a b : Int) : mn a b = min a b := by unfold mn; split <;> omega
theorem mx_eq (a b : Int) : mx a b = max a b := by unfold mx; split <;> omega
theorem On_f {a b c : Pt} (ha : Bd a) (hb : Bd b) (hc : Bd c) : cracknelref04_On.f a.f0 a.f1 b.f0 b.f1 c.f0 c.f1 = some (decide (On a b c)) := by
 unfold cracknelref04_On.f
 rw [Cross_f ha hb hc]
 simp only [Option.bind_some, in_f, mn_eq, mx_eq]
 by_cases h : cr a b c = 0
 ·rw [if_pos h]
  by_cases h2 : min a.f0 b.f0 ≤ c.f0 ∧ c.f0 ≤ max a.f0 b.f0
  ·simp only [h2, and_self, decide_true, if_true]; simp only [On, btw, h, h2, true_and]
  ·rw [if_neg (by simpa using h2)]; simp only [On, btw, h, true_and]; rw [decide_eq_false]; intro h3; exact h2 ⟨h3.1, h3.2.1⟩
 ·rw [if_neg h]; simp only [On, h, false_and, decide_false]
theorem sq_nn (x : Int) : 0 ≤ x * x := by
 rcases Int.le_total 0 x with h | h
 ·exact Int.mul_nonneg h h
 ·exact Int.mul_nonneg_of_nonpos_of_nonpos h h
theorem dot_on {a b p : Pt} (h : cr a b p = 0) : (a.f0 - p.f0) * (b.f0 - p.f0) + (a.f1 - p.f1) * (b.f1 - p.f1) ≤ 0 ↔ btw a b p := by
 have hx : (a.f0 - p.f0) * (b.f1 - p.f1) = (a.f1 - p.f1) * (b.f0 - p.f0) := by rw [cr_eq] at h; grind
 generalize hu : a.f0 - p.f0 = u at *
 generalize hv : b.f0 - p.f0 = v at *
 generalize hs : a.f1 - p.f1 = s at *
 generalize ht : b.f1 - p.f1 = t at *
 have key : u * v + s * t ≤ 0 ↔ (u * v ≤ 0 ∧ s * t ≤ 0) := by
  constructor
  ·intro h0
   have e : (u * v) * (s * t) = (u * t) * (u * t) := by grind
   have sq : 0 ≤ (u * v) * (s * t) := by rw [e]; exact sq_nn _
   constructor
   ·rcases Int.lt_or_le 0 (u * v) with h1 | h1
    ·have h2 : s * t < 0 := by omega
     have := Int.mul_neg_of_pos_of_neg h1 h2; omega
    ·exact h1
   ·rcases Int.lt_or_le 0 (s * t) with h1 | h1
    ·have h2 : u * v < 0 := by omega
     have := Int.mul_neg_of_neg_of_pos h2 h1; omega
    ·exact h1
  ·omega
 have sgn : ∀ x y : Int, x * y ≤ 0 ↔ ((x ≤ 0 ∧ 0 ≤ y) ∨ (0 ≤ x ∧ y ≤ 0)) := by
  intro x y
  constructor
  ·intro h
   rcases Int.lt_trichotomy x 0 with h1 | h1 | h1
   ·rcases Int.lt_or_le y 0 with h2 | h2
    ·have := Int.mul_pos_of_neg_of_neg h1 h2; omega
    ·omega
   ·omega
   ·rcases Int.lt_or_le 0 y with h2 | h2
    ·have := Int.mul_pos h1 h2; omega
    ·omega
  ·rintro (⟨h1, h2⟩ | ⟨h1, h2⟩)
   ·exact Int.mul_nonpos_of_nonpos_of_nonneg h1 h2
   ·exact Int.mul_nonpos_of_nonneg_of_nonpos h1 h2
 rw [key, sgn, sgn]; unfold btw; omega
theorem dot_f {a b p : Pt} (ha : Bd a) (hb : Bd b) (hp : Bd p) : shape_dot.f (a.f0 - p.f0) (a.f1 - p.f1) (b.f0 - p.f0) (b.f1 - p.f1) = some ((a.f0 - p.f0) * (b.f0 - p.f0) + (a.f1 - p.f1) * (b.f1 - p.f1)) := by
 obtain ⟨a0, a1, a2, a3⟩ := ha; obtain ⟨b0, b1, b2, b3⟩ := hb; obtain ⟨c0, c1, c2, c3⟩ := hp
 have h1 := @mulb (a.f0 - p.f0) (b.f0 - p.f0) (by omega) (by omega) (by omega) (by omega)
 have h2 := @mulb (a.f1 - p.f1) (b.f1 - p.f1) (by omega) (by omega) (by omega) (by omega)
 unfold shape_dot.f
 rw [wz ((a.f0 - p.f0) * (b.f0 - p.f0)) (by omega) (by omega), wz ((a.f1 - p.f1) * (b.f1 - p.f1)) (by omega) (by omega), wz _ (by omega) (by omega)]
theorem sub_f {a b : Pt} (ha : Bd a) (hb : Bd b) : shape_sub.f a.f0 a.f1 b.f0 b.f1 = some (a.f0 - b.f0, a.f1 - b.f1) := by
 obtain ⟨a0, a1, a2, a3⟩ := ha; obtain ⟨b0, b1, b2, b3⟩ := hb
 unfold shape_sub.f
 rw [wz _ (by omega) (by omega), wz _ (by omega) (by omega)]
theorem on_f {a b c : Pt} (ha : Bd a) (hb : Bd b) (hc : Bd c) : shape_on.f a.f0 a.f1 b.f0 b.f1 c.f0 c.f1 = some (decide (On a b c)) := by
 unfold shape_on.f
 rw [side_f ha hb hc, sub_f ha hc, sub_f hb hc]
 simp only [Option.bind_some]
 rw [dot_f ha hb hc]
 simp only [Option.bind_some]
 by_cases h : cr a b c = 0
 ·rw [if_pos h]; have e := dot_on h; simp only [e, On, h, true_and]
 ·rw [if_neg h]; simp only [On, h, false_and, decide_false]
def sg (n : Int) : Int := if n > 0 then 1 else if n < 0 then -1 else 0
theorem compare_f (a b : Int) : cmp_Compare_int.f a b = some (sg (a - b)) := by
 unfold cmp_Compare_int.f cmp_isNaN_int.f sg
 simp
 split <;> (try split) <;> (try split) <;> (try split) <;> first | rfl | omega | (simp; done) | skip
theorem sign_f (n : Int) : shape_sign.f n = some (sg n) := by
 unfold shape_sign.f; rw [compare_f]; simp
theorem sg_neg (x y : Int) : wrap64 (sg x * sg y) < 0 ↔ ((0 < x ∧ y < 0) ∨ (x < 0 ∧ 0 < y)) := by
 unfold sg
 split <;> (try split) <;> (try split) <;> (try split) <;> simp only [wrap64] <;> omega
theorem meet_f {a b c d : Pt} (ha : Bd a) (hb : Bd b) (hc : Bd c) (hd : Bd d) (k : Nat) : shape_meet.f (k + 1) a.f0 a.f1 b.f0 b.f1 c.f0 c.f1 d.f0 d.f1 = some (decide (Meet a b c d)) := by
 unfold shape_meet.f
 simp only [shape_meet.j0, on_f ha hb hc, on_f ha hb hd, on_f hc hd ha, on_f hc hd hb, side_f ha hb hc, side_f ha hb hd, side_f hc hd ha, side_f hc hd hb, sign_f, Option.bind_some, sg_neg, decide_eq_true_eq]
 unfold Meet
 split
 ·simp_all
 ·split
  ·simp_all
  ·split
   ·simp_all
   ·split
    ·simp_all
    ·split <;> simp_all <;> omega
theorem rd_at (l : List Pt) (i : Nat) : rd_T29 l (i : Int) = at_ l i := rfl
theorem tmod_nat (i n : Nat) (h : (i : Int) ≤ 9223372036854775806) : Int.tmod (wrap64 ((i : Int) + 1)) (n : Int) = (((i + 1) % n : Nat) : Int) := by
 rw [wz _ (by omega) (by omega)]
 rw [show ((i : Int) + 1) = ((i + 1 : Nat) : Int) by omega, ← Int.ofNat_tmod]
theorem first_f (a b : Pt) : cracknelref04_first.f a.f0 a.f1 b.f0 b.f1 = some (decide (first a b)) := by
 unfold cracknelref04_first.f first
 split
 ·simp_all
 ·split
  ·simp_all
  ·simp_all
theorem pt_beq (a b : Pt) : (a.f0 == b.f0 && a.f1 == b.f1) = decide (a = b) := by
 by_cases h : a = b
 ·subst h; simp
 ·simp only [h, decide_false, Bool.and_eq_false_imp, beq_iff_eq]
  intro h0
  simp only [beq_eq_false_iff_ne, ne_eq]
  intro h1; exact h (pt_ext h0 h1)
theorem from_split {n i : Nat} (hi : i < n) (P : Nat → Prop) : (∀ i', i ≤ i' → i' < n → P i') ↔ (P i ∧ ∀ i', i + 1 ≤ i' → i' < n → P i') := by
 constructor
 ·intro h; exact ⟨h i (Nat.le_refl _) hi, fun j' h1 h2 => h j' (by omega) h2⟩
 ·rintro ⟨h0, h⟩ j' h1 h2
  rcases Nat.eq_or_lt_of_le h1 with rfl | h3
  ·exact h0
  ·exact h j' h3 h2
theorem fuel1 {k K : Nat} (h : K + 1 ≤ k) : ∃ m, k = m + 1 := ⟨k - 1, by omega⟩
theorem fuel2 {k K : Nat} (h : K + 2 ≤ k) : ∃ m, k = m + 1 + 1 := ⟨k - 2, by omega⟩
theorem rt_step {α : Type} {g h : Nat → Option α} {v : α} (e : ∀ k, g (k + 1) = h k) (r : Rt h v) : Rt g v := by
 obtain ⟨K, hK⟩ := r
 refine ⟨K + 1, fun k hk => ?_⟩
 obtain ⟨k, rfl⟩ := fuel1 hk
 rw [e]; exact hK k (by omega)
theorem rt_ret {α : Type} {g : Nat → Option α} {v : α} (e : ∀ k, g (k + 1) = some v) : Rt g v := by
 refine ⟨0 + 1, fun k hk => ?_⟩
 obtain ⟨k, rfl⟩ := fuel1 hk
 exact e k
theorem wrap_succ (i : Nat) (h : i ≤ 1000000) : wrap64 ((i : Int) + 1) = ((i + 1 : Nat) : Int) := by rw [wz _ (by omega) (by omega)]; omega
theorem wrap_succ2 (i : Nat) (h : i ≤ 1000000) : wrap64 ((i : Int) + 2) = ((i + 2 : Nat) : Int) := by rw [wz _ (by omega) (by omega)]; omega
theorem at_bd {l : List Pt} (hb : ∀ p ∈ l, Bd p) {i : Nat} (hi : i < l.length) : Bd (at_ l i) := hb _ (at_mem hi)
theorem tmod_in (i n : Nat) (hn : 0 < n) : (0 : Int) ≤ (((i % n : Nat)) : Int) ∧ (((i % n : Nat)) : Int) < (n : Int) := by
 have := Nat.mod_lt i hn; omega
end Go.Proofs.Ytoffmpkgickfhaa.M
end
section
namespace Go.Proofs.Ytoffmpkgickfhaa.M
open Go.RowKit Go.Proofs.Ytoffmpkgickfhaa.PG Go.Proofs.YtoffmpkgickfhaaW.PrintMore Go.Proofs.YtoffmpkgickfhaaW.PrintWords
theorem on_line {a b c : Pt} (h : cr a b c = 0) : btw a c b ∨ btw a b c ∨ btw b c a := by
 have h2 : cr a c b = 0 := by rw [cr_swap]; omega
 have h3 : cr b c a = 0 := by rw [cr_rot]; exact h
 rw [← dot_on h, ← dot_on h2, ← dot_on h3]
 rcases Int.lt_or_le 0 ((a.f0 - b.f0) * (c.f0 - b.f0) + (a.f1 - b.f1) * (c.f1 - b.f1)) with q1 | q1
 ·rcases Int.lt_or_le 0 ((a.f0 - c.f0) * (b.f0 - c.f0) + (a.f1 - c.f1) * (b.f1 - c.f1)) with q2 | q2
  ·rcases Int.lt_or_le 0 ((b.f0 - a.f0) * (c.f0 - a.f0) + (b.f1 - a.f1) * (c.f1 - a.f1)) with q3 | q3
   ·exfalso
    rw [cr_eq] at h
    have e2 : (a.f0 - c.f0) * (b.f0 - c.f0) + (a.f1 - c.f1) * (b.f1 - c.f1) = ((c.f0 - b.f0) * (c.f0 - b.f0) + (c.f1 - b.f1) * (c.f1 - b.f1)) - ((a.f0 - b.f0) * (c.f0 - b.f0) + (a.f1 - b.f1) * (c.f1 - b.f1)) := by grind
    have e3 : (b.f0 - a.f0) * (c.f0 - a.f0) + (b.f1 - a.f1) * (c.f1 - a.f1) = ((a.f0 - b.f0) * (a.f0 - b.f0) + (a.f1 - b.f1) * (a.f1 - b.f1)) - ((a.f0 - b.f0) * (c.f0 - b.f0) + (a.f1 - b.f1) * (c.f1 - b.f1)) := by grind
    have e4 : ((a.f0 - b.f0) * (c.f0 - b.f0) + (a.f1 - b.f1) * (c.f1 - b.f1)) * ((a.f0 - b.f0) * (c.f0 - b.f0) + (a.f1 - b.f1) * (c.f1 - b.f1)) = ((a.f0 - b.f0) * (a.f0 - b.f0) + (a.f1 - b.f1) * (a.f1 - b.f1)) * ((c.f0 - b.f0) * (c.f0 - b.f0) + (c.f1 - b.f1) * (c.f1 - b.f1)) := by grind
    rw [e2] at q2; rw [e3] at q3
    generalize (a.f0 - b.f0) * (c.f0 - b.f0) + (a.f1 - b.f1) * (c.f1 - b.f1) = P at *
    generalize (a.f0 - b.f0) * (a.f0 - b.f0) + (a.f1 - b.f1) * (a.f1 - b.f1) = Q at *
    generalize (c.f0 - b.f0) * (c.f0 - b.f0) + (c.f1 - b.f1) * (c.f1 - b.f1) = R at *
    have : P * P < Q * R := Int.lt_of_lt_of_le (Int.mul_lt_mul_of_pos_left (show P < R by omega) q1) (Int.mul_le_mul_of_nonneg_right (by omega) (by omega))
    omega
   ·right; right; have : (b.f0 - a.f0) * (c.f0 - a.f0) + (b.f1 - a.f1) * (c.f1 - a.f1) ≤ 0 := q3; exact this
  ·right; left; exact q2
 ·left; exact q1
theorem spike {a b c : Pt} (hab : a ≠ b) (hbc : b ≠ c) : (cr b a c = 0 ∧ 0 < (a.f0 - b.f0) * (c.f0 - b.f0) + (a.f1 - b.f1) * (c.f1 - b.f1)) ↔ (On a b c ∨ On b c a) := by
 have e1 : cr b a c = - cr a b c := by rw [cr_eq, cr_eq]; grind
 have e2 : cr a c b = - cr a b c := cr_swap a b c
 have e3 : cr b c a = cr a b c := cr_rot a b c
 by_cases h : cr a b c = 0
 ·have d := dot_on (show cr a c b = 0 by omega)
  have t := on_line h
  have x1 : btw a c b → btw a b c → False := fun p q => hbc (btw_eq q p)
  have x2 : btw a c b → btw b c a → False := fun p q => hab (btw_eq' p q)
  unfold On
  rw [e1, e3, h]
  constructor
  ·rintro ⟨_, h1⟩
   have : ¬ btw a c b := by rw [← d]; omega
   rcases t with t | t | t
   ·exact absurd t this
   ·exact Or.inl ⟨rfl, t⟩
   ·exact Or.inr ⟨rfl, t⟩
  ·intro h1
   refine ⟨by omega, ?_⟩
   have : ¬ btw a c b := by
    intro hb
    rcases h1 with ⟨_, h1⟩ | ⟨_, h1⟩
    ·exact x1 hb h1
    ·exact x2 hb h1
   rw [← d] at this; omega
 ·unfold On; rw [e1, e3]
  constructor
  ·rintro ⟨h1, _⟩; omega
  ·rintro (⟨h1, _⟩ | ⟨h1, _⟩) <;> omega
theorem Meet_comm (a b c d : Pt) : Meet a b c d ↔ Meet c d a b := by
 unfold Meet
 constructor
 ·rintro (h | h | h | h | h)
  ·exact Or.inr (Or.inr (Or.inl h))
  ·exact Or.inr (Or.inr (Or.inr (Or.inl h)))
  ·exact Or.inl h
  ·exact Or.inr (Or.inl h)
  ·exact Or.inr (Or.inr (Or.inr (Or.inr h.symm)))
 ·rintro (h | h | h | h | h)
  ·exact Or.inr (Or.inr (Or.inl h))
  ·exact Or.inr (Or.inr (Or.inr (Or.inl h)))
  ·exact Or.inl h
  ·exact Or.inr (Or.inl h)
  ·exact Or.inr (Or.inr (Or.inr (Or.inr h.symm)))
def CSimple (l : List Pt) : Prop := ∀ i, i < l.length →
 at_ l i ≠ at_ l ((i + 1) % l.length) ∧
 ¬ (cr (at_ l i) (at_ l ((i + l.length - 1) % l.length)) (at_ l ((i + 1) % l.length)) = 0 ∧ 0 < ((at_ l ((i + l.length - 1) % l.length)).f0 - (at_ l i).f0) * ((at_ l ((i + 1) % l.length)).f0 - (at_ l i).f0) + ((at_ l ((i + l.length - 1) % l.length)).f1 - (at_ l i).f1) * ((at_ l ((i + 1) % l.length)).f1 - (at_ l i).f1)) ∧
 ∀ j, j < i → j + 1 ≠ i → (j ≠ 0 ∨ i + 1 ≠ l.length) → ¬ Meet (at_ l i) (at_ l ((i + 1) % l.length)) (at_ l j) (at_ l (j + 1))
theorem csimple_iff (l : List Pt) (hn : 3 ≤ l.length) : CSimple l ↔ Simple l := by
 unfold CSimple Simple
 generalize hl : l.length = n at *
 have prev : ∀ i, i < n → (((i + n - 1) % n) + 1) % n = i ∧ (i + n - 1) % n < n := by
  intro i hi
  refine ⟨?_, Nat.mod_lt _ (by omega)⟩
  by_cases h0 : i = 0
  ·subst h0; rw [show 0 + n - 1 = n - 1 by omega, Nat.mod_eq_of_lt (show n - 1 < n by omega), show n - 1 + 1 = n by omega, Nat.mod_self]
  ·rw [show i + n - 1 = (i - 1) + n by omega, Nat.add_mod_right, Nat.mod_eq_of_lt (show i - 1 < n by omega), show i - 1 + 1 = i by omega, Nat.mod_eq_of_lt hi]
 have nxt : ∀ i, i < n → ((i + 1) % n + n - 1) % n = i ∧ (i + 1) % n < n := by
  intro i hi
  refine ⟨?_, Nat.mod_lt _ (by omega)⟩
  by_cases h0 : i + 1 = n
  ·rw [h0, Nat.mod_self, show 0 + n - 1 = n - 1 by omega, Nat.mod_eq_of_lt (by omega)]; omega
  ·rw [Nat.mod_eq_of_lt (show i + 1 < n by omega), show i + 1 + n - 1 = i + n by omega, Nat.add_mod_right, Nat.mod_eq_of_lt hi]
 have two : ∀ i, ((i + 1) % n + 1) % n = (i + 1 + 1) % n := fun i => by rw [Nat.mod_add_mod]
 constructor
 ·intro h
  refine ⟨fun i hi => (h i hi).1, fun i hi => ?_⟩
  obtain ⟨p1, p2⟩ := nxt i hi
  have q := (h _ p2).2.1
  rw [p1, two i] at q
  have e1 := (h i hi).1
  have e2 := (h _ p2).1
  rw [two i] at e2
  rw [spike e1 e2] at q
  refine ⟨fun h1 => q (Or.inl h1), fun h1 => q (Or.inr h1), fun k hk hkn hki hm => ?_⟩
  have hw : i ≠ 0 ∨ k + 1 ≠ n := by
   rcases Nat.lt_or_ge (k + 1) n with h1 | h1
   ·right; omega
   ·left; intro h0; apply hki; rw [show k + 1 = n by omega, Nat.mod_self, h0]
  have := (h k hkn).2.2 i (by omega) (by omega) hw
  apply this
  rw [Meet_comm]
  rwa [Nat.mod_eq_of_lt (show i + 1 < n by omega)] at hm
 ·rintro ⟨h0, h⟩ i hi
  obtain ⟨p1, p2⟩ := prev i hi
  refine ⟨h0 i hi, ?_, fun j hj hji hw hm => ?_⟩
  ·have e1 := h0 _ p2
   rw [p1] at e1
   rw [spike e1 (h0 i hi)]
   have q := h _ p2
   rw [← two ((i + n - 1) % n), p1] at q
   rintro (h1 | h1)
   ·exact q.1 h1
   ·exact q.2.1 h1
  ·have q := (h j (by omega)).2.2 i (by omega) hi (by
    rcases Nat.lt_or_ge (i + 1) n with h1 | h1
    ·rw [Nat.mod_eq_of_lt h1]; omega
    ·rw [show i + 1 = n by omega, Nat.mod_self]; omega)
   apply q
   rw [Nat.mod_eq_of_lt (show j + 1 < n by omega), Meet_comm]
   exact hm
theorem simple_l1 {l : List Pt} (hb : ∀ p ∈ l, Bd p) (hn : 3 ≤ l.length) (hN : l.length ≤ 1000000) {i : Nat} (hi : i < l.length) {b' : Bool} (hnext : Rt (fun k => shape_simple.l0 k l (l.length : Int) (l.length : Int) ((i + 1 : Nat) : Int)) b') :
  ∀ d j, i = j + d → ∃ b, Rt (fun k => shape_simple.l1 k l (l.length : Int) (i : Int) (l.length : Int) (i : Int) (i : Int) (j : Int) (at_ l ((i + 1) % l.length)).f0 (at_ l ((i + 1) % l.length)).f1) b ∧ (b = true ↔ (∀ j', j ≤ j' → j' < i → j' + 1 ≠ i → (j' ≠ 0 ∨ i + 1 ≠ l.length) → ¬ Meet (at_ l i) (at_ l ((i + 1) % l.length)) (at_ l j') (at_ l (j' + 1))) ∧ b' = true) := by
 intro d
 induction d with
 | zero =>
  intro j hj
  obtain ⟨K, hK⟩ := hnext
  refine ⟨b', ⟨K + 1, fun k hk => ?_⟩, ⟨fun h => ⟨fun j' h1 h2 => by omega, h⟩, fun h => h.2⟩⟩
  obtain ⟨k, rfl⟩ : ∃ m, k = m + 1 := ⟨k - 1, by omega⟩
  dsimp only; rw [shape_simple.l1, if_neg (by omega), wz _ (by omega) (by omega)]
  exact hK k (by omega)
 | succ d ih =>
  intro j hj
  obtain ⟨b1, ⟨K, hK⟩, hb1⟩ := ih (j + 1) (by omega)
  have skip : ∀ k, K + 1 ≤ k → shape_simple.j3 k l (l.length : Int) (i : Int) (l.length : Int) (i : Int) (i : Int) (j : Int) false (at_ l ((i + 1) % l.length)).f0 (at_ l ((i + 1) % l.length)).f1 = some b1 := by
   intro k hk
   obtain ⟨k, rfl⟩ : ∃ m, k = m + 1 := ⟨k - 1, by omega⟩
   rw [shape_simple.j3, if_neg (by simp), wz _ (by omega) (by omega)]
   exact hK k (by omega)
  have split_ : ∀ (P : Nat → Prop), (∀ j', j ≤ j' → j' < i → P j') ↔ (P j ∧ ∀ j', j + 1 ≤ j' → j' < i → P j') := by
   intro P
   constructor
   ·intro h; exact ⟨h j (Nat.le_refl _) (by omega), fun j' h1 h2 => h j' (by omega) h2⟩
   ·rintro ⟨h0, h⟩ j' h1 h2
    rcases Nat.eq_or_lt_of_le h1 with rfl | h3
    ·exact h0
    ·exact h j' h3 h2
  rw [show (∃ b, Rt (fun k => shape_simple.l1 k l (l.length : Int) (i : Int) (l.length : Int) (i : Int) (i : Int) (j : Int) (at_ l ((i + 1) % l.length)).f0 (at_ l ((i + 1) % l.length)).f1) b ∧ (b = true ↔ (∀ j', j ≤ j' → j' < i → j' + 1 ≠ i → (j' ≠ 0 ∨ i + 1 ≠ l.length) → ¬ Meet (at_ l i) (at_ l ((i + 1) % l.length)) (at_ l j') (at_ l (j' + 1))) ∧ b' = true)) ↔ (∃ b, Rt (fun k => shape_simple.l1 k l (l.length : Int) (i : Int) (l.length : Int) (i : Int) (i : Int) (j : Int) (at_ l ((i + 1) % l.length)).f0 (at_ l ((i + 1) % l.length)).f1) b ∧ (b = true ↔ ((j + 1 ≠ i → (j ≠ 0 ∨ i + 1 ≠ l.length) → ¬ Meet (at_ l i) (at_ l ((i + 1) % l.length)) (at_ l j) (at_ l (j + 1))) ∧ b1 = true))) from by
   rw [split_]; simp only [hb1, and_assoc]]
  by_cases h1 : j + 1 = i
  ·refine ⟨b1, ⟨K + 2, fun k hk => ?_⟩, ⟨fun h => ⟨fun h2 => absurd h1 h2, h⟩, fun h => h.2⟩⟩
   obtain ⟨k, rfl⟩ : ∃ m, k = m + 1 := ⟨k - 1, by omega⟩
   dsimp only; rw [shape_simple.l1, if_pos (by omega), wz _ (by omega) (by omega), if_pos (by omega)]
   exact skip k (by omega)
  ·have hBi := at_bd hb hi
   have hBn := at_bd hb (show (i + 1) % l.length < l.length from Nat.mod_lt _ (by omega))
   have hBj := at_bd hb (show j < l.length by omega)
   have hBk := at_bd hb (show j + 1 < l.length by omega)
   have go : (j ≠ 0 ∨ i + 1 ≠ l.length) → ∀ k, K + 2 ≤ k → ((shape_meet.f k (rd_T29 l i).f0 (rd_T29 l i).f1 (at_ l ((i + 1) % l.length)).f0 (at_ l ((i + 1) % l.length)).f1 (rd_T29 l j).f0 (rd_T29 l j).f1 (rd_T29 l (((j + 1 : Nat)) : Int)).f0 (rd_T29 l ((j + 1 : Nat) : Int)).f1).bind fun t => shape_simple.j3 k l (l.length : Int) (i : Int) (l.length : Int) (i : Int) (i : Int) (j : Int) t (at_ l ((i + 1) % l.length)).f0 (at_ l ((i + 1) % l.length)).f1) = some (!decide (Meet (at_ l i) (at_ l ((i + 1) % l.length)) (at_ l j) (at_ l (j + 1))) && b1) := by
    intro hw k hk
    obtain ⟨k, rfl⟩ : ∃ m, k = m + 1 := ⟨k - 1, by omega⟩
    rw [rd_at, rd_at, rd_at, meet_f hBi hBn hBj hBk, Option.bind_some]
    by_cases hm : Meet (at_ l i) (at_ l ((i + 1) % l.length)) (at_ l j) (at_ l (j + 1))
    ·simp only [hm, decide_true, Bool.not_true, Bool.false_and]
     rw [shape_simple.j3, if_pos rfl]
    ·simp only [hm, decide_false, Bool.not_false, Bool.true_and]
     exact skip (k + 1) (by omega)
   by_cases h2 : j = 0
   ·by_cases h3 : i + 1 = l.length
    ·refine ⟨b1, ⟨K + 2, fun k hk => ?_⟩, ⟨fun h => ⟨fun _ h2 => by omega, h⟩, fun h => h.2⟩⟩
     obtain ⟨k, rfl⟩ : ∃ m, k = m + 1 := ⟨k - 1, by omega⟩
     dsimp only; rw [shape_simple.l1, if_pos (by omega), wz ((j : Int) + 1) (by omega) (by omega), if_neg (by omega), if_pos (by omega), wz _ (by omega) (by omega), if_pos (by omega)]
     exact skip k (by omega)
    ·refine ⟨(!decide (Meet (at_ l i) (at_ l ((i + 1) % l.length)) (at_ l j) (at_ l (j + 1))) && b1), ⟨K + 3, fun k hk => ?_⟩, ?_⟩
     ·obtain ⟨k, rfl⟩ : ∃ m, k = m + 1 := ⟨k - 1, by omega⟩
      dsimp only; rw [shape_simple.l1, if_pos (by omega), wz ((j : Int) + 1) (by omega) (by omega), if_neg (by omega), if_pos (by omega), wz _ (by omega) (by omega), if_neg (by omega), if_pos (by omega), if_pos (by omega), if_pos (by omega), if_pos (by omega), if_pos (by omega), if_pos (by omega)]
      exact go (by omega) k (by omega)
     ·simp only [Bool.and_eq_true, Bool.not_eq_true', decide_eq_false_iff_not]
      exact ⟨fun h => ⟨fun _ _ => h.1, h.2⟩, fun h => ⟨h.1 h1 (Or.inr h3), h.2⟩⟩
   ·refine ⟨(!decide (Meet (at_ l i) (at_ l ((i + 1) % l.length)) (at_ l j) (at_ l (j + 1))) && b1), ⟨K + 3, fun k hk => ?_⟩, ?_⟩
    ·obtain ⟨k, rfl⟩ : ∃ m, k = m + 1 := ⟨k - 1, by omega⟩
     dsimp only; rw [shape_simple.l1, if_pos (by omega), wz ((j : Int) + 1) (by omega) (by omega), if_neg (by omega), if_neg (by omega), if_pos (by omega), if_pos (by omega), if_pos (by omega), if_pos (by omega), if_pos (by omega), if_pos (by omega)]
     exact go (by omega) k (by omega)
    ·simp only [Bool.and_eq_true, Bool.not_eq_true', decide_eq_false_iff_not]
     exact ⟨fun h => ⟨fun _ _ => h.1, h.2⟩, fun h => ⟨h.1 h1 (Or.inl h2), h.2⟩⟩
theorem tmod_last (i n : Nat) (hi : i < n) (hN : n ≤ 1000000) : Int.tmod (wrap64 (wrap64 ((i : Int) + (n : Int)) - 1)) (n : Int) = (((i + n - 1) % n : Nat) : Int) := by
 rw [wz ((i : Int) + (n : Int)) (by omega) (by omega), wz _ (by omega) (by omega), show ((i : Int) + (n : Int)) - 1 = ((i + n - 1 : Nat) : Int) by omega, ← Int.ofNat_tmod]
theorem simple_l0 {l : List Pt} (hb : ∀ p ∈ l, Bd p) (hn : 3 ≤ l.length) (hN : l.length ≤ 1000000) :
  ∀ d i, l.length = i + d → ∃ b, Rt (fun k => shape_simple.l0 k l (l.length : Int) (l.length : Int) (i : Int)) b ∧ (b = true ↔ ∀ i', i ≤ i' → i' < l.length →
   at_ l i' ≠ at_ l ((i' + 1) % l.length) ∧
   ¬ (cr (at_ l i') (at_ l ((i' + l.length - 1) % l.length)) (at_ l ((i' + 1) % l.length)) = 0 ∧ 0 < ((at_ l ((i' + l.length - 1) % l.length)).f0 - (at_ l i').f0) * ((at_ l ((i' + 1) % l.length)).f0 - (at_ l i').f0) + ((at_ l ((i' + l.length - 1) % l.length)).f1 - (at_ l i').f1) * ((at_ l ((i' + 1) % l.length)).f1 - (at_ l i').f1)) ∧
   ∀ j, j < i' → j + 1 ≠ i' → (j ≠ 0 ∨ i' + 1 ≠ l.length) → ¬ Meet (at_ l i') (at_ l ((i' + 1) % l.length)) (at_ l j) (at_ l (j + 1))) := by
 intro d
 induction d with
 | zero =>
  intro i hi
  refine ⟨true, ⟨1, fun k hk => ?_⟩, ⟨fun _ i' h1 h2 => by omega, fun _ => rfl⟩⟩
  obtain ⟨k, rfl⟩ : ∃ m, k = m + 1 := ⟨k - 1, by omega⟩
  dsimp only; rw [shape_simple.l0, if_neg (by omega)]
 | succ d ih =>
  intro i hi
  obtain ⟨b1, hR1, hb1⟩ := ih (i + 1) (by omega)
  obtain ⟨b2, ⟨K, hK⟩, hb2⟩ := simple_l1 hb hn hN (show i < l.length by omega) hR1 i 0 (by omega)
  have hlt : i < l.length := by omega
  have hBi := at_bd hb hlt
  have hBn := at_bd hb (show (i + 1) % l.length < l.length from Nat.mod_lt _ (by omega))
  have hBl := at_bd hb (show (i + l.length - 1) % l.length < l.length from Nat.mod_lt _ (by omega))
  have t1 := tmod_in (i + 1) l.length (by omega)
  have t2 := tmod_in (i + l.length - 1) l.length (by omega)
  have hcross : shape_cross.f ((at_ l ((i + l.length - 1) % l.length)).f0 - (at_ l i).f0) ((at_ l ((i + l.length - 1) % l.length)).f1 - (at_ l i).f1) ((at_ l ((i + 1) % l.length)).f0 - (at_ l i).f0) ((at_ l ((i + 1) % l.length)).f1 - (at_ l i).f1) = some (cr (at_ l i) (at_ l ((i + l.length - 1) % l.length)) (at_ l ((i + 1) % l.length))) := by
   have := side_f hBi hBl hBn
   unfold shape_side.f at this
   rw [sub_f hBl hBi, sub_f hBn hBi] at this
   simpa using this
  have split_ : ∀ (P : Nat → Prop), (∀ i', i ≤ i' → i' < l.length → P i') ↔ (P i ∧ ∀ i', i + 1 ≤ i' → i' < l.length → P i') := by
   intro P
   constructor
   ·intro h; exact ⟨h i (Nat.le_refl _) hlt, fun j' h1 h2 => h j' (by omega) h2⟩
   ·rintro ⟨h0, h⟩ j' h1 h2
    rcases Nat.eq_or_lt_of_le h1 with rfl | h3
    ·exact h0
    ·exact h j' h3 h2
  by_cases e1 : at_ l i = at_ l ((i + 1) % l.length)
  ·refine ⟨false, ⟨1, fun k hk => ?_⟩, ⟨fun h => by simp at h, fun h => absurd e1 (h i (Nat.le_refl _) hlt).1⟩⟩
   obtain ⟨k, rfl⟩ : ∃ m, k = m + 1 := ⟨k - 1, by omega⟩
   dsimp only
   rw [shape_simple.l0, if_pos (by omega), if_neg (by omega), tmod_last i l.length hlt hN, tmod_nat i l.length (by omega), if_pos (by omega), if_pos (by omega), if_pos (by omega), if_pos (by omega), if_pos (by omega), if_pos (by omega), rd_at, rd_at, rd_at, pt_beq, if_pos (by simpa using e1)]
  ·by_cases e2 : (cr (at_ l i) (at_ l ((i + l.length - 1) % l.length)) (at_ l ((i + 1) % l.length)) = 0 ∧ 0 < ((at_ l ((i + l.length - 1) % l.length)).f0 - (at_ l i).f0) * ((at_ l ((i + 1) % l.length)).f0 - (at_ l i).f0) + ((at_ l ((i + l.length - 1) % l.length)).f1 - (at_ l i).f1) * ((at_ l ((i + 1) % l.length)).f1 - (at_ l i).f1))
   ·refine ⟨false, ⟨2, fun k hk => ?_⟩, ⟨fun h => by simp at h, fun h => absurd e2 (h i (Nat.le_refl _) hlt).2.1⟩⟩
    obtain ⟨k, rfl⟩ : ∃ m, k = m + 1 + 1 := ⟨k - 2, by omega⟩
    dsimp only
    rw [shape_simple.l0, if_pos (by omega), if_neg (by omega), tmod_last i l.length hlt hN, tmod_nat i l.length (by omega), if_pos (by omega), if_pos (by omega), if_pos (by omega), if_pos (by omega), if_pos (by omega), if_pos (by omega), rd_at, rd_at, rd_at, pt_beq, if_neg (by simpa using e1), sub_f hBl hBi, Option.bind_some, sub_f hBn hBi, Option.bind_some, hcross, Option.bind_some, if_pos e2.1, dot_f hBl hBn hBi, Option.bind_some, shape_simple.j1, if_pos (by simpa using e2.2)]
   ·refine ⟨b2, ⟨K + 2, fun k hk => ?_⟩, ?_⟩
    ·obtain ⟨k, rfl⟩ : ∃ m, k = m + 1 + 1 := ⟨k - 2, by omega⟩
     dsimp only
     rw [shape_simple.l0, if_pos (by omega), if_neg (by omega), tmod_last i l.length hlt hN, tmod_nat i l.length (by omega), if_pos (by omega), if_pos (by omega), if_pos (by omega), if_pos (by omega), if_pos (by omega), if_pos (by omega), rd_at, rd_at, rd_at, pt_beq, if_neg (by simpa using e1), sub_f hBl hBi, Option.bind_some, sub_f hBn hBi, Option.bind_some, hcross, Option.bind_some]
     have := hK k (by omega)
     by_cases h3 : cr (at_ l i) (at_ l ((i + l.length - 1) % l.length)) (at_ l ((i + 1) % l.length)) = 0
     ·rw [if_pos h3, dot_f hBl hBn hBi, Option.bind_some, shape_simple.j1, if_neg (by simpa using fun h4 => e2 ⟨h3, h4⟩)]
      exact this
     ·rw [if_neg h3, shape_simple.j1, if_neg (by simp)]
      exact this
    ·rw [split_, hb2, hb1]
     constructor
     ·rintro ⟨h1, h2⟩
      exact ⟨⟨e1, e2, fun j hj h3 h4 => h1 j (Nat.zero_le _) hj h3 h4⟩, h2⟩
     ·rintro ⟨⟨_, _, h1⟩, h2⟩
      exact ⟨fun j _ hj h3 h4 => h1 j hj h3 h4, h2⟩
theorem simple_run {l : List Pt} (hb : ∀ p ∈ l, Bd p) (hn : 3 ≤ l.length) (hN : l.length ≤ 1000000) : ∃ b, Rt (fun k => shape_simple.f k l) b ∧ (b = true ↔ Simple l) := by
 obtain ⟨b, hR, h⟩ := simple_l0 hb hn hN l.length 0 (by omega)
 refine ⟨b, hR, ?_⟩
 rw [← csimple_iff l hn, h]
 exact ⟨fun h i hi => h i (Nat.zero_le _) hi, fun h i _ hi => h i hi⟩
end Go.Proofs.Ytoffmpkgickfhaa.M
end
section
namespace Go.Proofs.Ytoffmpkgickfhaa.M
open Go.RowKit Go.Proofs.Ytoffmpkgickfhaa.PG Go.Proofs.YtoffmpkgickfhaaW.PrintMore Go.Proofs.YtoffmpkgickfhaaW.PrintWords
theorem or_f (a b : Int) (k : Nat) (hk : 3 ≤ k) : cmp_Or_int.f k [a, b] = some (if a = 0 then b else a) := by
 obtain ⟨k, rfl⟩ : ∃ m, k = m + 3 := ⟨k - 3, by omega⟩
 unfold cmp_Or_int.f
 rw [cmp_Or_int.l0]
 simp only [List.length_cons, List.length_nil]
 rw [if_pos (by omega), if_pos (by omega), if_pos (by omega)]
 by_cases h : a = 0
 ·rw [if_pos (show rd [a, b] 0 = 0 from h), cmp_Or_int.l0]
  rw [show wrap64 (0 + 1) = 1 from by unfold wrap64; omega]
  simp only [List.length_cons, List.length_nil]
  rw [if_pos (by omega), if_pos (by omega), if_pos (by omega), if_pos h]
  by_cases h2 : b = 0
  ·rw [if_pos (show rd [a, b] 1 = 0 from h2), cmp_Or_int.l0]
   rw [show wrap64 (1 + 1) = 2 from by unfold wrap64; omega]
   simp only [List.length_cons, List.length_nil]
   rw [if_neg (by omega), h2]
  ·rw [if_neg (show ¬ rd [a, b] 1 = 0 from h2)]; rfl
 ·rw [if_neg (show ¬ rd [a, b] 0 = 0 from h), if_neg h]; rfl
theorem lower_f (a b : Pt) (k : Nat) (hk : 3 ≤ k) : ∃ c, shape_lower.f k a.f0 a.f1 b.f0 b.f1 = some c ∧ (c < 0 ↔ first a b) := by
 refine ⟨_, by unfold shape_lower.f; rw [compare_f, Option.bind_some, compare_f, Option.bind_some, or_f _ _ _ hk, Option.bind_some], ?_⟩
 unfold sg first
 split <;> (try split) <;> (try split) <;> (try split) <;> (try split) <;> omega
theorem min_l0 {l : List Pt} (hN : l.length ≤ 1000000) : ∀ d i (m : Pt), l.length = i + d → ∃ r : Pt, Rt (fun k => slices_MinFunc_lower.l0 k l (i : Int) m.f0 m.f1) (r.f0, r.f1) ∧ (r = m ∨ ∃ j, i ≤ j ∧ j < l.length ∧ r = at_ l j) ∧ ¬ first m r ∧ ∀ j, i ≤ j → j < l.length → ¬ first (at_ l j) r := by
 intro d
 induction d with
 | zero =>
  intro i m hi
  refine ⟨m, ⟨0 + 1, fun k hk => ?_⟩, Or.inl rfl, first_irrefl m, fun j h1 h2 => by omega⟩
  obtain ⟨k, rfl⟩ := fuel1 hk
  dsimp only; rw [slices_MinFunc_lower.l0, if_neg (by omega)]
 | succ d ih =>
  intro i m hi
  have hlt : i < l.length := by omega
  by_cases h : first (at_ l i) m
  ·obtain ⟨r, ⟨K, hK⟩, h1, h2, h3⟩ := ih (i + 1) (at_ l i) (by omega)
   refine ⟨r, ⟨K + 4, fun k hk => ?_⟩, ?_, ?_, ?_⟩
   ·obtain ⟨k, rfl⟩ : ∃ m, k = m + 1 := ⟨k - 1, by omega⟩
    obtain ⟨c, hc, hc'⟩ := lower_f (at_ l i) m k (by omega)
    dsimp only; rw [slices_MinFunc_lower.l0, if_pos (by omega), if_pos (by omega), rd_at, hc, Option.bind_some, if_pos (hc'.mpr h), wrap_succ i (by omega)]
    exact hK k (by omega)
   ·right
    rcases h1 with h1 | ⟨j, h4, h5, h6⟩
    ·exact ⟨i, Nat.le_refl _, hlt, h1⟩
    ·exact ⟨j, by omega, h5, h6⟩
   ·intro h4
    exact h2 (first_trans h h4)
   ·intro j h4 h5
    rcases Nat.eq_or_lt_of_le h4 with rfl | h6
    ·exact h2
    ·exact h3 j h6 h5
  ·obtain ⟨r, ⟨K, hK⟩, h1, h2, h3⟩ := ih (i + 1) m (by omega)
   refine ⟨r, ⟨K + 4, fun k hk => ?_⟩, ?_, h2, ?_⟩
   ·obtain ⟨k, rfl⟩ : ∃ m, k = m + 1 := ⟨k - 1, by omega⟩
    obtain ⟨c, hc, hc'⟩ := lower_f (at_ l i) m k (by omega)
    dsimp only; rw [slices_MinFunc_lower.l0, if_pos (by omega), if_pos (by omega), rd_at, hc, Option.bind_some, if_neg (fun h4 => h (hc'.mp h4)), wrap_succ i (by omega)]
    exact hK k (by omega)
   ·rcases h1 with h1 | ⟨j, h4, h5, h6⟩
    ·exact Or.inl h1
    ·exact Or.inr ⟨j, by omega, h5, h6⟩
   ·intro j h4 h5
    rcases Nat.eq_or_lt_of_le h4 with rfl | h6
    ·intro h7
     rcases first_tri m r with e | e | e
     ·rw [e] at h; exact h h7
     ·exact h2 e
     ·exact h (first_trans h7 e)
    ·exact h3 j h6 h5
theorem min_run {l : List Pt} (h0 : 0 < l.length) (hN : l.length ≤ 1000000) : ∃ r : Pt, Rt (fun k => slices_MinFunc_lower.f k l) (r.f0, r.f1) ∧ r ∈ l ∧ ∀ p ∈ l, ¬ first p r := by
 obtain ⟨r, ⟨K, hK⟩, h1, h2, h3⟩ := min_l0 hN (l.length - 1) 1 (at_ l 0) (by omega)
 refine ⟨r, ⟨K, fun k hk => ?_⟩, ?_, ?_⟩
 ·unfold slices_MinFunc_lower.f
  dsimp only; rw [if_neg (by omega), if_pos (by omega)]
  exact hK k hk
 ·rcases h1 with rfl | ⟨j, _, h5, rfl⟩
  ·exact at_mem h0
  ·exact at_mem h5
 ·intro p hp
  obtain ⟨j, hj, rfl⟩ := List.mem_iff_getElem.mp hp
  rw [← at_eq hj]
  by_cases h4 : j = 0
  ·subst h4; exact h2
  ·exact h3 j (by omega) hj
theorem tmod_two (i n : Nat) (h : i ≤ 1000000) : Int.tmod (wrap64 ((i : Int) + 2)) (n : Int) = (((i + 1 + 1) % n : Nat) : Int) := by
 rw [wrap_succ2 i h, ← Int.ofNat_tmod]
theorem normal_l0 {l : List Pt} (hb : ∀ p ∈ l, Bd p) (hn : 3 ≤ l.length) (hN : l.length ≤ 1000000) {r : Pt} (hmin : Rt (fun k => slices_MinFunc_lower.f k l) (r.f0, r.f1)) {b' : Bool} (hs : Rt (fun k => shape_simple.f k l) b') :
  ∀ d i, l.length = i + d → ∃ b, Rt (fun k => shape_normal.l0 k l (l.length : Int) (i : Int)) b ∧ (b = true ↔ (∀ i', i ≤ i' → i' < l.length → 0 < cr (at_ l i') (at_ l ((i' + 1) % l.length)) (at_ l ((i' + 1 + 1) % l.length))) ∧ at_ l 0 = r ∧ b' = true) := by
 intro d
 induction d with
 | zero =>
  intro i hi
  obtain ⟨K1, hK1⟩ := hmin
  obtain ⟨K2, hK2⟩ := hs
  refine ⟨decide (at_ l 0 = r) && b', ⟨K1 + K2 + 1, fun k hk => ?_⟩, ?_⟩
  ·obtain ⟨k, rfl⟩ := fuel1 hk
   have e1 := hK1 k (by omega)
   have e2 := hK2 k (by omega)
   dsimp only at e1 e2 ⊢
   rw [shape_normal.l0, if_neg (by omega), if_pos (by omega), e1, Option.bind_some]
   dsimp only
   rw [show rd_T29 l 0 = at_ l 0 from rfl, pt_beq]
   by_cases h : at_ l 0 = r
   ·rw [if_pos (by simpa using h), e2, Option.bind_some]; simp [h]
   ·rw [if_neg (by simpa using h)]; simp [h]
  ·simp only [Bool.and_eq_true, decide_eq_true_eq]
   exact ⟨fun h => ⟨fun i' h1 h2 => by omega, h⟩, fun h => h.2⟩
 | succ d ih =>
  intro i hi
  have hlt : i < l.length := by omega
  obtain ⟨b1, ⟨K, hK⟩, hb1⟩ := ih (i + 1) (by omega)
  have hBi := at_bd hb hlt
  have hBn := at_bd hb (show (i + 1) % l.length < l.length from Nat.mod_lt _ (by omega))
  have hBm := at_bd hb (show (i + 1 + 1) % l.length < l.length from Nat.mod_lt _ (by omega))
  have t1 := tmod_in (i + 1) l.length (by omega)
  have t2 := tmod_in (i + 1 + 1) l.length (by omega)
  rw [from_split hlt]
  by_cases h1 : cr (at_ l i) (at_ l ((i + 1) % l.length)) (at_ l ((i + 1 + 1) % l.length)) ≤ 0
  ·refine ⟨false, ⟨0 + 1, fun k hk => ?_⟩, ⟨fun h => by simp at h, fun h => absurd h.1.1 (by omega)⟩⟩
   obtain ⟨k, rfl⟩ := fuel1 hk
   dsimp only
   rw [shape_normal.l0, if_pos (by omega), if_pos (by omega), if_pos (by omega), if_neg (by omega), tmod_nat i _ (by omega), tmod_two i _ (by omega), if_pos (by omega), if_pos (by omega), if_pos (by omega), if_pos (by omega), rd_at, rd_at, rd_at, side_f hBi hBn hBm, Option.bind_some, if_pos h1]
  ·refine ⟨b1, ⟨K + 1, fun k hk => ?_⟩, ?_⟩
   ·obtain ⟨k, rfl⟩ := fuel1 hk
    dsimp only
    rw [shape_normal.l0, if_pos (by omega), if_pos (by omega), if_pos (by omega), if_neg (by omega), tmod_nat i _ (by omega), tmod_two i _ (by omega), if_pos (by omega), if_pos (by omega), if_pos (by omega), if_pos (by omega), rd_at, rd_at, rd_at, side_f hBi hBn hBm, Option.bind_some, if_neg h1, wrap_succ i (by omega)]
    exact hK k (by omega)
   ·rw [hb1]; exact ⟨fun h => ⟨⟨by omega, h.1⟩, h.2⟩, fun h => ⟨h.1.2, h.2⟩⟩
theorem simple_once {l : List Pt} (hn : 3 ≤ l.length) (h : Simple l) {i : Nat} (hi : i < l.length) (h0 : 0 < i) : at_ l 0 ≠ at_ l i := by
 intro e
 by_cases h1 : i = 1
 ·subst h1
  have := h.1 0 (by omega)
  rw [Nat.mod_eq_of_lt (by omega)] at this; exact this e
 ·by_cases h2 : i + 1 = l.length
  ·have := h.1 i hi
   rw [h2, Nat.mod_self] at this; exact this e.symm
  ·have := (h.2 0 (by omega)).2.2 i (by omega) hi (by rw [Nat.mod_eq_of_lt (by omega)]; omega)
   apply this
   left
   rw [← e]
   exact ⟨cr_self1 _ _, btw_start _ _⟩
theorem normal_run {l : List Pt} (hb : ∀ p ∈ l, Bd p) (hn : 3 ≤ l.length) (hN : l.length ≤ 1000000) : ∃ b, Rt (fun k => shape_normal.f k l) b ∧ (b = true ↔ Convex l) := by
 obtain ⟨r, hR, hr1, hr2⟩ := min_run (show 0 < l.length by omega) hN
 obtain ⟨b1, hS, hb1⟩ := simple_run hb hn hN
 obtain ⟨b, hB, hb2⟩ := normal_l0 hb hn hN hR hS l.length 0 (by omega)
 refine ⟨b, hB, ?_⟩
 rw [hb2, hb1]
 constructor
 ·rintro ⟨h1, h2, h3⟩
  refine ⟨h3, fun i hi => ⟨h1 i (Nat.zero_le _) hi, fun h0 => ?_⟩⟩
  rcases first_tri (at_ l 0) (at_ l i) with e | e | e
  ·exact absurd e (simple_once hn h3 hi h0)
  ·exact e
  ·rw [h2] at e; exact absurd e (hr2 _ (at_mem hi))
 ·rintro ⟨h3, h4⟩
  refine ⟨fun i _ hi => (h4 i hi).1, ?_, h3⟩
  obtain ⟨j, hj, rfl⟩ := List.mem_iff_getElem.mp hr1
  rw [← at_eq hj] at hr2 ⊢
  by_cases h5 : j = 0
  ·rw [h5]
  ·exact absurd ((h4 j hj).2 (by omega)) (hr2 _ (at_mem (by omega)))
end Go.Proofs.Ytoffmpkgickfhaa.M
end
