/- Parts of the proof of YthehmkpcddafnaaLawShapeLattices: printed walks, their words, and plain laws. -/
import Derived.Test.YthehmkpcddafnaaQL1
import Derived.Test.YthehmkpcddafnaaQL2
section
namespace Go.Proofs.Ythehmkpcddafnaa.PG
open Go.RowKit Go.Proofs.YthehmkpcddafnaaW.PrintWords Go.Proofs.YthehmkpcddafnaaW.PrintLast Go.Proofs.YthehmkpcddafnaaW.PrintMore
attribute [local go_sem] max2_int min2_int max_two min_two max_three min_three max_four min_four
set_option linter.unusedVariables false
set_option linter.unusedSimpArgs false
/-! ### shape_meet: function 81 -/
def shape_meet.j0 : Nat → Bool → Int → Int → Int → Int → Int → Int → Int → Int → Option (Bool)
 | 0, _, _, _, _, _, _, _, _, _ => none
 | k + 1, x30, x102000, x102001, x103000, x103001, x104000, x104001, x105000, x105001 => if x30 = true then (some true) else ((shape_side.f x102000 x102001 x103000 x103001 x104000 x104001).bind fun t109 => ((shape_sign.f t109).bind fun t110 => ((shape_side.f x102000 x102001 x103000 x103001 x105000 x105001).bind fun t111 => ((shape_sign.f t111).bind fun t112 => (if (wrap64 (t110 * t112)) < 0 then ((shape_side.f x104000 x104001 x105000 x105001 x102000 x102001).bind fun t113 => ((shape_sign.f t113).bind fun t114 => ((shape_side.f x104000 x104001 x105000 x105001 x103000 x103001).bind fun t115 => ((shape_sign.f t115).bind fun t116 => (some (decide ((wrap64 (t114 * t116)) < 0))))))) else (some false))))))
def shape_meet.f (k : Nat) (a0_0 : Int) (a0_1 : Int) (a1_0 : Int) (a1_1 : Int) (a2_0 : Int) (a2_1 : Int) (a3_0 : Int) (a3_1 : Int) : Option (Bool) := (shape_on.f a0_0 a0_1 a1_0 a1_1 a2_0 a2_1).bind fun t105 => (if t105 = true then (shape_meet.j0 k true a0_0 a0_1 a1_0 a1_1 a2_0 a2_1 a3_0 a3_1) else ((shape_on.f a0_0 a0_1 a1_0 a1_1 a3_0 a3_1).bind fun t106 => (if t106 = true then (shape_meet.j0 k true a0_0 a0_1 a1_0 a1_1 a2_0 a2_1 a3_0 a3_1) else ((shape_on.f a2_0 a2_1 a3_0 a3_1 a0_0 a0_1).bind fun t107 => (if t107 = true then (shape_meet.j0 k true a0_0 a0_1 a1_0 a1_1 a2_0 a2_1 a3_0 a3_1) else ((shape_on.f a2_0 a2_1 a3_0 a3_1 a1_0 a1_1).bind fun t108 => (shape_meet.j0 k t108 a0_0 a0_1 a1_0 a1_1 a2_0 a2_1 a3_0 a3_1)))))))
def shape_meet.T3 : Bool × List (List Nat × List Nat) := (true, [([], []), ([], []), ([], []), ([0, 1, 2], [0, 1, 2]), ([3, 3], [3]), ([], []), ([], []), ([], []), ([5, 6, 7, 4], [5, 6, 7]), ([8, 8], [8]), ([4, 9], [4, 9]), ([10], [10]), ([11, 9], [11]), ([12], [12]), ([12], [12]), ([12], [12]), ([13, 14, 15, 12, 12], [12, 13, 14, 15]), ([16, 16, 12], [12, 16]), ([12], [12]), ([12], [12]), ([12], [12]), ([18, 19, 20, 17, 12], [12, 18, 19, 20]), ([21, 21, 12], [12, 21]), ([17, 22, 12], [12, 17, 22]), ([23, 12], [12, 23]), ([12, 24], [12, 24]), ([25, 22, 0, 1, 2, 3, 4, 5, 6, 7, 8, 9, 10, 11, 12, 13, 14, 15, 16, 17, 18, 19, 20, 21, 22, 23, 24, 25], [25])])
def shape_meet.B3 : List Nat := [0, 0, 0, 7, 15, 0, 0, 0, 255, 511, 1023, 2047, 4095, 8191, 8191, 8191, 65535, 131071, 8191, 8191, 8191, 2097151, 4194303, 8388607, 16777215, 33554431, 67108863]
theorem shape_meet.tab3 : rtab .any (opsOf Try.f81 3) = shape_meet.T3 := by kernel_rfl
theorem shape_meet.bits3 : waitsOk shape_meet.T3.2 shape_meet.B3 = true := by kernel_rfl
set_option maxHeartbeats 8000000 in
set_option maxRecDepth 100000 in
theorem shape_meet.calls (k : Nat) (a0_0 : Int) (a0_1 : Int) (a1_0 : Int) (a1_1 : Int) (a2_0 : Int) (a2_1 : Int) (a3_0 : Int) (a3_1 : Int) (r : Bool) (w : World) (h : shape_meet.f k a0_0 a0_1 a1_0 a1_1 a2_0 a2_1 a3_0 a3_1 = some r) :
  Calls Try.prog 81 #[.agg #[.int .i64 a0_0, .int .i64 a0_1], .agg #[.int .i64 a1_0, .int .i64 a1_1], .agg #[.int .i64 a2_0, .int .i64 a2_1], .agg #[.int .i64 a3_0, .int .i64 a3_1]] w fun e w' => e = .returned (.bool r) ∧ Below w.heap.size w w' := by
 have hu41 := Try.underlying41
 have HB := Aside0.mk (Below.refl w.heap.size w)
 have H : ((shape_on.f a0_0 a0_1 a1_0 a1_1 a2_0 a2_1).bind fun t105 => (if t105 = true then (shape_meet.j0 k true a0_0 a0_1 a1_0 a1_1 a2_0 a2_1 a3_0 a3_1) else ((shape_on.f a0_0 a0_1 a1_0 a1_1 a3_0 a3_1).bind fun t106 => (if t106 = true then (shape_meet.j0 k true a0_0 a0_1 a1_0 a1_1 a2_0 a2_1 a3_0 a3_1) else ((shape_on.f a2_0 a2_1 a3_0 a3_1 a0_0 a0_1).bind fun t107 => (if t107 = true then (shape_meet.j0 k true a0_0 a0_1 a1_0 a1_1 a2_0 a2_1 a3_0 a3_1) else ((shape_on.f a2_0 a2_1 a3_0 a3_1 a1_0 a1_1).bind fun t108 => (shape_meet.j0 k t108 a0_0 a0_1 a1_0 a1_1 a2_0 a2_1 a3_0 a3_1)))))))) = some r := h
 clear h
 have HC5 := Aside0.mk H
 clear H
 go_enter Try.func81, Try.ntmps81
 go_upto_region 1 with (first | ((with_reducible refine gate_dst (N := 4) rfl ?_); refine bxe 4 #[.int .i64 a0_0, .int .i64 a0_1] 41 ?_; intro gb101 hg w6 hbox hb; have BK101 := Aside0.mk (hbox); have GW101 := ga w hg; have GE101 := GW101; replace HB := bz hb; clear hb hbox hg) | ((with_reducible refine gate_dst (N := 5) rfl ?_); refine bxe 5 #[.int .i64 a1_0, .int .i64 a1_1] 41 ?_; intro gb102 hg w7 hbox hb; have BK102 := Aside0.mk (hbox); have GW102 := ga w hg; have GE102 := GW102; have NB101_102 := nb hg (kl BK101); have NB102_101 := bn NB101_102; replace BK101 := kb BK101 hb; replace HB := bz hb; clear hb hbox hg) | ((with_reducible refine gate_dst (N := 6) rfl ?_); refine bxe 6 #[.int .i64 a2_0, .int .i64 a2_1] 41 ?_; intro gb103 hg w8 hbox hb; have BK103 := Aside0.mk (hbox); have GW103 := ga w hg; have GE103 := GW103; have NB101_103 := nb hg (kl BK101); have NB103_101 := bn NB101_103; have NB102_103 := nb hg (kl BK102); have NB103_102 := bn NB102_103; replace BK101 := kb BK101 hb; replace BK102 := kb BK102 hb; replace HB := bz hb; clear hb hbox hg) | ((with_reducible refine gate_dst (N := 7) rfl ?_); refine bxe 7 #[.int .i64 a3_0, .int .i64 a3_1] 41 ?_; intro gb104 hg w9 hbox hb; have BK104 := Aside0.mk (hbox); have GW104 := ga w hg; have GE104 := GW104; have NB101_104 := nb hg (kl BK101); have NB104_101 := bn NB101_104; have NB102_104 := nb hg (kl BK102); have NB104_102 := bn NB102_104; have NB103_104 := nb hg (kl BK103); have NB104_103 := bn NB103_104; replace BK101 := kb BK101 hb; replace BK102 := kb BK102 hb; replace BK103 := kb BK103 hb; replace HB := bz hb; clear hb hbox hg))
 (try simp only [Act.put, List.setIfInBounds_toArray, List.set_cons_zero, List.set_cons_succ])
 go_cut [30] (fun v30 wc => ∃ (kq : Nat) (x30_4 : Bool), v30 = .bool x30_4 ∧ Aside0 (shape_meet.j0 kq x30_4 a0_0 a0_1 a1_0 a1_1 a2_0 a2_1 a3_0 a3_1 = some r) ∧ Aside0 (kq ≤ k) ∧ Aside0 (wc.heap[gb101]? = some (.cells #[.int .i64 a0_0, .int .i64 a0_1] 41 (0, 0))) ∧ Aside0 (wc.heap[gb102]? = some (.cells #[.int .i64 a1_0, .int .i64 a1_1] 41 (0, 0))) ∧ Aside0 (wc.heap[gb103]? = some (.cells #[.int .i64 a2_0, .int .i64 a2_1] 41 (0, 0))) ∧ Aside0 (wc.heap[gb104]? = some (.cells #[.int .i64 a3_0, .int .i64 a3_1] 41 (0, 0))) ∧ Aside0 (Below w.heap.size w wc))
 case first =>
  have H := HC5.out
  clear HC5
  replace H := Option.bind_eq_some_iff.mp H
  obtain ⟨t105, A100, H⟩ := H
  try dsimp only at H
  have A10 := Aside0.mk A100
  clear A100
  by_cases c11 : t105 = true
  ·subst c11
   rw [if_pos rfl] at H
   have H' := Aside0.mk H
   clear H
   have hnb12 := NB101_102.out
   have hnc12 := NB102_101.out
   have hnb13 := NB101_103.out
   have hnc13 := NB103_101.out
   have hnb14 := NB101_104.out
   have hnc14 := NB104_101.out
   obtain ⟨hcz15_0, hcz15_1, hfz15_0, hfz15_1⟩ := b2 BK101
   have hnb16 := NB102_103.out
   have hnc16 := NB103_102.out
   have hnb17 := NB102_104.out
   have hnc17 := NB104_102.out
   obtain ⟨hcz18_0, hcz18_1, hfz18_0, hfz18_1⟩ := b2 BK102
   have hnb19 := NB103_104.out
   have hnc19 := NB104_103.out
   obtain ⟨hcz20_0, hcz20_1, hfz20_0, hfz20_1⟩ := b2 BK103
   go_wp2_with (first | ((with_reducible refine gc 111 rfl ?_); refine goesL_ (some 12) rfl rfl Try.func111 (by kernel_rfl) rfl #[.agg #[.int .i64 a0_0, .int .i64 a0_1], .agg #[.int .i64 a1_0, .int .i64 a1_1], .agg #[.int .i64 a2_0, .int .i64 a2_1]] rfl sg ?_; (with_reducible refine (shape_on.calls a0_0 a0_1 a1_0 a1_1 a2_0 a2_1 true _ A10.out).mono ?_); rintro e w21 ⟨rfl, hb⟩; refine ⟨_, rfl, ?_⟩; replace BK101 := kb BK101 hb; replace BK102 := kb BK102 hb; replace BK103 := kb BK103 hb; replace BK104 := kb BK104 hb; replace HB := bz hb; (try clear hb)))
   go_meet
   case rel => exact ⟨_, (true), sd, H', ⟨om⟩, ⟨bk BK101⟩, ⟨bk BK102⟩, ⟨bk BK103⟩, ⟨bk BK104⟩, ⟨bh⟩⟩
  ·replace c11 := Bool.eq_false_iff.mpr c11
   subst c11
   rw [if_neg (show ¬ (false = true) by decide)] at H
   replace H := Option.bind_eq_some_iff.mp H
   obtain ⟨t106, A220, H⟩ := H
   try dsimp only at H
   have A22 := Aside0.mk A220
   clear A220
   by_cases c23 : t106 = true
   ·subst c23
    rw [if_pos rfl] at H
    have H' := Aside0.mk H
    clear H
    have hnb24 := NB101_102.out
    have hnc24 := NB102_101.out
    have hnb25 := NB101_103.out
    have hnc25 := NB103_101.out
    have hnb26 := NB101_104.out
    have hnc26 := NB104_101.out
    obtain ⟨hcz27_0, hcz27_1, hfz27_0, hfz27_1⟩ := b2 BK101
    have hnb28 := NB102_103.out
    have hnc28 := NB103_102.out
    have hnb29 := NB102_104.out
    have hnc29 := NB104_102.out
    obtain ⟨hcz30_0, hcz30_1, hfz30_0, hfz30_1⟩ := b2 BK102
    have hnb31 := NB103_104.out
    have hnc31 := NB104_103.out
    obtain ⟨hcz32_0, hcz32_1, hfz32_0, hfz32_1⟩ := b2 BK103
    go_wp2_with (first | ((with_reducible refine gc 111 rfl ?_); refine goesL_ (some 12) rfl rfl Try.func111 (by kernel_rfl) rfl #[.agg #[.int .i64 a0_0, .int .i64 a0_1], .agg #[.int .i64 a1_0, .int .i64 a1_1], .agg #[.int .i64 a2_0, .int .i64 a2_1]] rfl sg ?_; (with_reducible refine (shape_on.calls a0_0 a0_1 a1_0 a1_1 a2_0 a2_1 false _ A10.out).mono ?_); rintro e w33 ⟨rfl, hb⟩; refine ⟨_, rfl, ?_⟩; replace BK101 := kb BK101 hb; replace BK102 := kb BK102 hb; replace BK103 := kb BK103 hb; replace BK104 := kb BK104 hb; replace HB := bz hb; (try clear hb); obtain ⟨hcz34_0, hcz34_1, hfz34_0, hfz34_1⟩ := b2 BK101; obtain ⟨hcz35_0, hcz35_1, hfz35_0, hfz35_1⟩ := b2 BK102; obtain ⟨hcz36_0, hcz36_1, hfz36_0, hfz36_1⟩ := b2 BK104) | (go_at_call 111; (with_reducible refine (shape_on.calls a0_0 a0_1 a1_0 a1_1 a3_0 a3_1 true _ A22.out).mono ?_); rintro e w37 ⟨rfl, hb⟩; replace BK101 := kb BK101 hb; replace BK102 := kb BK102 hb; replace BK103 := kb BK103 hb; replace BK104 := kb BK104 hb; replace HB := bz hb; (try clear hb)))
    go_meet
    case rel => exact ⟨_, (true), sd, H', ⟨om⟩, ⟨bk BK101⟩, ⟨bk BK102⟩, ⟨bk BK103⟩, ⟨bk BK104⟩, ⟨bh⟩⟩
   ·replace c23 := Bool.eq_false_iff.mpr c23
    subst c23
    rw [if_neg (show ¬ (false = true) by decide)] at H
    replace H := Option.bind_eq_some_iff.mp H
    obtain ⟨t107, A380, H⟩ := H
    try dsimp only at H
    have A38 := Aside0.mk A380
    clear A380
    by_cases c39 : t107 = true
    ·subst c39
     rw [if_pos rfl] at H
     have H' := Aside0.mk H
     clear H
     have hnb40 := NB101_102.out
     have hnc40 := NB102_101.out
     have hnb41 := NB101_103.out
     have hnc41 := NB103_101.out
     have hnb42 := NB101_104.out
     have hnc42 := NB104_101.out
     obtain ⟨hcz43_0, hcz43_1, hfz43_0, hfz43_1⟩ := b2 BK101
     have hnb44 := NB102_103.out
     have hnc44 := NB103_102.out
     have hnb45 := NB102_104.out
     have hnc45 := NB104_102.out
     obtain ⟨hcz46_0, hcz46_1, hfz46_0, hfz46_1⟩ := b2 BK102
     have hnb47 := NB103_104.out
     have hnc47 := NB104_103.out
     obtain ⟨hcz48_0, hcz48_1, hfz48_0, hfz48_1⟩ := b2 BK103
     go_wp2_with (first | ((with_reducible refine gc 111 rfl ?_); refine goesL_ (some 12) rfl rfl Try.func111 (by kernel_rfl) rfl #[.agg #[.int .i64 a0_0, .int .i64 a0_1], .agg #[.int .i64 a1_0, .int .i64 a1_1], .agg #[.int .i64 a2_0, .int .i64 a2_1]] rfl sg ?_; (with_reducible refine (shape_on.calls a0_0 a0_1 a1_0 a1_1 a2_0 a2_1 false _ A10.out).mono ?_); rintro e w49 ⟨rfl, hb⟩; refine ⟨_, rfl, ?_⟩; replace BK101 := kb BK101 hb; replace BK102 := kb BK102 hb; replace BK103 := kb BK103 hb; replace BK104 := kb BK104 hb; replace HB := bz hb; (try clear hb); obtain ⟨hcz50_0, hcz50_1, hfz50_0, hfz50_1⟩ := b2 BK101; obtain ⟨hcz51_0, hcz51_1, hfz51_0, hfz51_1⟩ := b2 BK102; obtain ⟨hcz52_0, hcz52_1, hfz52_0, hfz52_1⟩ := b2 BK104) | (go_at_call 111; (with_reducible refine (shape_on.calls a0_0 a0_1 a1_0 a1_1 a3_0 a3_1 false _ A22.out).mono ?_); rintro e w53 ⟨rfl, hb⟩; replace BK101 := kb BK101 hb; replace BK102 := kb BK102 hb; replace BK103 := kb BK103 hb; replace BK104 := kb BK104 hb; replace HB := bz hb; (try clear hb); obtain ⟨hcz54_0, hcz54_1, hfz54_0, hfz54_1⟩ := b2 BK103; obtain ⟨hcz55_0, hcz55_1, hfz55_0, hfz55_1⟩ := b2 BK104; obtain ⟨hcz56_0, hcz56_1, hfz56_0, hfz56_1⟩ := b2 BK101) | (go_at_call 111; (with_reducible refine (shape_on.calls a2_0 a2_1 a3_0 a3_1 a0_0 a0_1 true _ A38.out).mono ?_); rintro e w57 ⟨rfl, hb⟩; replace BK101 := kb BK101 hb; replace BK102 := kb BK102 hb; replace BK103 := kb BK103 hb; replace BK104 := kb BK104 hb; replace HB := bz hb; (try clear hb)))
     go_meet
     case rel => exact ⟨_, (true), sd, H', ⟨om⟩, ⟨bk BK101⟩, ⟨bk BK102⟩, ⟨bk BK103⟩, ⟨bk BK104⟩, ⟨bh⟩⟩
    ·replace c39 := Bool.eq_false_iff.mpr c39
     subst c39
     rw [if_neg (show ¬ (false = true) by decide)] at H
     replace H := Option.bind_eq_some_iff.mp H
     obtain ⟨t108, A580, H⟩ := H
     try dsimp only at H
     have A58 := Aside0.mk A580
     clear A580
     have H' := Aside0.mk H
     clear H
     have hnb59 := NB101_102.out
     have hnc59 := NB102_101.out
     have hnb60 := NB101_103.out
     have hnc60 := NB103_101.out
     have hnb61 := NB101_104.out
     have hnc61 := NB104_101.out
     obtain ⟨hcz62_0, hcz62_1, hfz62_0, hfz62_1⟩ := b2 BK101
     have hnb63 := NB102_103.out
     have hnc63 := NB103_102.out
     have hnb64 := NB102_104.out
     have hnc64 := NB104_102.out
     obtain ⟨hcz65_0, hcz65_1, hfz65_0, hfz65_1⟩ := b2 BK102
     have hnb66 := NB103_104.out
     have hnc66 := NB104_103.out
     obtain ⟨hcz67_0, hcz67_1, hfz67_0, hfz67_1⟩ := b2 BK103
     go_wp2_with (first | ((with_reducible refine gc 111 rfl ?_); refine goesL_ (some 12) rfl rfl Try.func111 (by kernel_rfl) rfl #[.agg #[.int .i64 a0_0, .int .i64 a0_1], .agg #[.int .i64 a1_0, .int .i64 a1_1], .agg #[.int .i64 a2_0, .int .i64 a2_1]] rfl sg ?_; (with_reducible refine (shape_on.calls a0_0 a0_1 a1_0 a1_1 a2_0 a2_1 false _ A10.out).mono ?_); rintro e w68 ⟨rfl, hb⟩; refine ⟨_, rfl, ?_⟩; replace BK101 := kb BK101 hb; replace BK102 := kb BK102 hb; replace BK103 := kb BK103 hb; replace BK104 := kb BK104 hb; replace HB := bz hb; (try clear hb); obtain ⟨hcz69_0, hcz69_1, hfz69_0, hfz69_1⟩ := b2 BK101; obtain ⟨hcz70_0, hcz70_1, hfz70_0, hfz70_1⟩ := b2 BK102; obtain ⟨hcz71_0, hcz71_1, hfz71_0, hfz71_1⟩ := b2 BK104) | (go_at_call 111; (with_reducible refine (shape_on.calls a0_0 a0_1 a1_0 a1_1 a3_0 a3_1 false _ A22.out).mono ?_); rintro e w72 ⟨rfl, hb⟩; replace BK101 := kb BK101 hb; replace BK102 := kb BK102 hb; replace BK103 := kb BK103 hb; replace BK104 := kb BK104 hb; replace HB := bz hb; (try clear hb); obtain ⟨hcz73_0, hcz73_1, hfz73_0, hfz73_1⟩ := b2 BK103; obtain ⟨hcz74_0, hcz74_1, hfz74_0, hfz74_1⟩ := b2 BK104; obtain ⟨hcz75_0, hcz75_1, hfz75_0, hfz75_1⟩ := b2 BK101) | (go_at_call 111; (with_reducible refine (shape_on.calls a2_0 a2_1 a3_0 a3_1 a0_0 a0_1 false _ A38.out).mono ?_); rintro e w76 ⟨rfl, hb⟩; replace BK101 := kb BK101 hb; replace BK102 := kb BK102 hb; replace BK103 := kb BK103 hb; replace BK104 := kb BK104 hb; replace HB := bz hb; (try clear hb); obtain ⟨hcz77_0, hcz77_1, hfz77_0, hfz77_1⟩ := b2 BK103; obtain ⟨hcz78_0, hcz78_1, hfz78_0, hfz78_1⟩ := b2 BK104; obtain ⟨hcz79_0, hcz79_1, hfz79_0, hfz79_1⟩ := b2 BK102) | (go_at_call 111; (with_reducible refine (shape_on.calls a2_0 a2_1 a3_0 a3_1 a1_0 a1_1 t108 _ A58.out).mono ?_); rintro e w80 ⟨rfl, hb⟩; replace BK101 := kb BK101 hb; replace BK102 := kb BK102 hb; replace BK103 := kb BK103 hb; replace BK104 := kb BK104 hb; replace HB := bz hb; (try clear hb)))
     go_meet
     case rel => exact ⟨_, (t108), sd, H', ⟨om⟩, ⟨bk BK101⟩, ⟨bk BK102⟩, ⟨bk BK103⟩, ⟨bk BK104⟩, ⟨bh⟩⟩
 case rest =>
  clear HC5
  skip
  obtain ⟨kq, x30_4, rfl, HA, HJ4, BK101, BK102, BK103, BK104, HB⟩ := hcut
  cases kq with
  | zero => exact absurd HA.out (by simp [shape_meet.j0])
  | succ kj4 =>
   have H := HA.out
   clear HA
   simp only [shape_meet.j0] at H
   by_cases c81 : x30_4 = true
   ·subst c81
    rw [if_pos rfl] at H
    obtain rfl := Option.some.inj H
    go_wp2
    go_ret
    exact ⟨by exact er, bh⟩
   ·replace c81 := Bool.eq_false_iff.mpr c81
    subst c81
    rw [if_neg (show ¬ (false = true) by decide)] at H
    replace H := Option.bind_eq_some_iff.mp H
    obtain ⟨t109, A820, H⟩ := H
    try dsimp only at H
    have A82 := Aside0.mk A820
    clear A820
    replace H := Option.bind_eq_some_iff.mp H
    obtain ⟨t110, A830, H⟩ := H
    try dsimp only at H
    have A83 := Aside0.mk A830
    clear A830
    replace H := Option.bind_eq_some_iff.mp H
    obtain ⟨t111, A840, H⟩ := H
    try dsimp only at H
    have A84 := Aside0.mk A840
    clear A840
    replace H := Option.bind_eq_some_iff.mp H
    obtain ⟨t112, A850, H⟩ := H
    try dsimp only at H
    have A85 := Aside0.mk A850
    clear A850
    by_cases c86 : (wrap64 (t110 * t112)) < 0
    ·rw [if_pos c86] at H
     have c86b0 := decide_eq_true c86
     clear c86
     replace H := Option.bind_eq_some_iff.mp H
     obtain ⟨t113, A870, H⟩ := H
     try dsimp only at H
     have A87 := Aside0.mk A870
     clear A870
     replace H := Option.bind_eq_some_iff.mp H
     obtain ⟨t114, A880, H⟩ := H
     try dsimp only at H
     have A88 := Aside0.mk A880
     clear A880
     replace H := Option.bind_eq_some_iff.mp H
     obtain ⟨t115, A890, H⟩ := H
     try dsimp only at H
     have A89 := Aside0.mk A890
     clear A890
     replace H := Option.bind_eq_some_iff.mp H
     obtain ⟨t116, A900, H⟩ := H
     try dsimp only at H
     have A90 := Aside0.mk A900
     clear A900
     obtain rfl := Option.some.inj H
     try go_wp2
     replace BK101 := Aside0.mk (blk_drew BK101.out)
     replace BK102 := Aside0.mk (blk_drew BK102.out)
     replace BK103 := Aside0.mk (blk_drew BK103.out)
     replace BK104 := Aside0.mk (blk_drew BK104.out)
     replace HB := Aside0.mk (below_drew1 HB.out)
     refine start_ (n := 27) (S := fun w' => w'.cell? ⟨gb101, 0, none⟩ = some (.int .i64 a0_0) ∧ w'.cell? ⟨gb101, 1, none⟩ = some (.int .i64 a0_1) ∧ w'.cell? ⟨gb102, 0, none⟩ = some (.int .i64 a1_0) ∧ w'.cell? ⟨gb102, 1, none⟩ = some (.int .i64 a1_1) ∧ w'.cell? ⟨gb103, 0, none⟩ = some (.int .i64 a2_0) ∧ w'.cell? ⟨gb103, 1, none⟩ = some (.int .i64 a2_1) ∧ w'.cell? ⟨gb104, 0, none⟩ = some (.int .i64 a3_0) ∧ w'.cell? ⟨gb104, 1, none⟩ = some (.int .i64 a3_1)) (ds := []) #[N,N,N,N,N,N,N,N,N,N,N,N,N,N,N,N,N,N,N,N,N,N,N,N,N,N,N] (by kernel_rfl) rfl rfl ⟨bc BK101 0, bc BK101 1, bc BK102 0, bc BK102 1, bc BK103 0, bc BK103 1, bc BK104 0, bc BK104 1⟩ (fun hHeld => ?_); refine with_tabW shape_meet.tab3 shape_meet.bits3 (fun HT_ HW_ => ?_)
     generalize wc.drew = w91 at BK101 BK102 BK103 BK104 HB hHeld ⊢
     refine tk8 0 31 hHeld HT_ HW_ ?_
     refine tk8 1 32 hHeld HT_ HW_ ?_
     refine tk8 2 33 hHeld HT_ HW_ ?_
     refine tk8 5 36 hHeld HT_ HW_ ?_
     refine tk8 6 37 hHeld HT_ HW_ ?_
     refine tk8 7 38 hHeld HT_ HW_ ?_
     refine one_ (i := 3) (N := some 34) #[T,T,T,T,N,T,T,T,N,N,N,N,N,N,N,N,N,N,N,N,N,N,N,N,N,N,N] rfl rfl (on1 HT_) (by decide) (fun K hK => ?_)
     refine goes_ Try.func98 (by kernel_rfl) rfl #[.agg #[.int .i64 a0_0, .int .i64 a0_1], .agg #[.int .i64 a1_0, .int .i64 a1_1], .agg #[.int .i64 a2_0, .int .i64 a2_1]] (by rfl) rfl rfl sg ?_
     with_reducible refine (shape_side.calls a0_0 a0_1 a1_0 a1_1 a2_0 a2_1 t109 _ A82.out).mono ?_
     rintro e w92 ⟨rfl, hb⟩
     refine ⟨_, rfl, ?_⟩
     replace BK101 := kb BK101 hb
     replace BK102 := kb BK102 hb
     replace BK103 := kb BK103 hb
     replace BK104 := kb BK104 hb
     replace HB := bz hb
     (try clear hb)
     refine hK.out _ _ ⟨bc BK101 0, bc BK101 1, bc BK102 0, bc BK102 1, bc BK103 0, bc BK103 1, bc BK104 0, bc BK104 1⟩ (fun hHeld => ?_)
     clear hK K
     refine nm 34 ?_
     refine one_ (i := 4) (N := some 35) #[T,T,T,T,T,T,T,T,N,N,N,N,N,N,N,N,N,N,N,N,N,N,N,N,N,N,N] rfl rfl (on1 HT_) (by decide) (fun K hK => ?_)
     refine goes_ Try.func82 (by kernel_rfl) rfl #[.int .i64 t109] (by rfl) rfl rfl sg ?_
     with_reducible refine (shape_sign.calls t109 t110 _ A83.out).mono ?_
     rintro e w' ⟨rfl, ⟨nd, rfl⟩⟩
     refine ⟨_, rfl, ?_⟩
     refine hK.out _ _ ⟨bc BK101 0, bc BK101 1, bc BK102 0, bc BK102 1, bc BK103 0, bc BK103 1, bc BK104 0, bc BK104 1⟩ (fun hHeld => ?_)
     clear hK K
     refine nm 35 ?_
     refine one_ (i := 8) (N := some 39) #[T,T,T,T,T,T,T,T,T,N,N,N,N,N,N,N,N,N,N,N,N,N,N,N,N,N,N] rfl rfl (on1 HT_) (by decide) (fun K hK => ?_)
     refine goes_ Try.func98 (by kernel_rfl) rfl #[.agg #[.int .i64 a0_0, .int .i64 a0_1], .agg #[.int .i64 a1_0, .int .i64 a1_1], .agg #[.int .i64 a3_0, .int .i64 a3_1]] (by rfl) rfl rfl sg ?_
     with_reducible refine (shape_side.calls a0_0 a0_1 a1_0 a1_1 a3_0 a3_1 t111 _ A84.out).mono ?_
     rintro e w93 ⟨rfl, hb⟩
     refine ⟨_, rfl, ?_⟩
     replace BK101 := kb BK101 hb
     replace BK102 := kb BK102 hb
     replace BK103 := kb BK103 hb
     replace BK104 := kb BK104 hb
     replace HB := bz hb
     (try clear hb)
     refine hK.out _ _ ⟨bc BK101 0, bc BK101 1, bc BK102 0, bc BK102 1, bc BK103 0, bc BK103 1, bc BK104 0, bc BK104 1⟩ (fun hHeld => ?_)
     clear hK K
     refine nm 39 ?_
     refine one_ (i := 9) (N := some 40) #[T,T,T,T,T,T,T,T,T,T,N,N,N,N,N,N,N,N,N,N,N,N,N,N,N,N,N] rfl rfl (on1 HT_) (by decide) (fun K hK => ?_)
     refine goes_ Try.func82 (by kernel_rfl) rfl #[.int .i64 t111] (by rfl) rfl rfl sg ?_
     with_reducible refine (shape_sign.calls t111 t112 _ A85.out).mono ?_
     rintro e w' ⟨rfl, ⟨nd, rfl⟩⟩
     refine ⟨_, rfl, ?_⟩
     refine hK.out _ _ ⟨bc BK101 0, bc BK101 1, bc BK102 0, bc BK102 1, bc BK103 0, bc BK103 1, bc BK104 0, bc BK104 1⟩ (fun hHeld => ?_)
     clear hK K
     refine nm 40 ?_
     refine pu 10 41 HT_ ?_
     refine pu 11 42 HT_ ?_
     refine pu 12 43 HT_ ?_
     refine tk8 13 44 hHeld HT_ HW_ ?_
     refine tk8 14 45 hHeld HT_ HW_ ?_
     refine tk8 15 46 hHeld HT_ HW_ ?_
     refine tk8 18 49 hHeld HT_ HW_ ?_
     refine tk8 19 50 hHeld HT_ HW_ ?_
     refine tk8 20 51 hHeld HT_ HW_ ?_
     refine one_ (i := 16) (N := some 47) #[T,T,T,T,T,T,T,T,T,T,T,T,T,T,T,T,T,N,T,T,T,N,N,N,N,N,N] rfl rfl (on1 HT_) (by decide) (fun K hK => ?_)
     refine goes_ Try.func98 (by kernel_rfl) rfl #[.agg #[.int .i64 a2_0, .int .i64 a2_1], .agg #[.int .i64 a3_0, .int .i64 a3_1], .agg #[.int .i64 a0_0, .int .i64 a0_1]] (by rfl) rfl rfl sg ?_
     with_reducible refine (shape_side.calls a2_0 a2_1 a3_0 a3_1 a0_0 a0_1 t113 _ A87.out).mono ?_
     rintro e w94 ⟨rfl, hb⟩
     refine ⟨_, rfl, ?_⟩
     replace BK101 := kb BK101 hb
     replace BK102 := kb BK102 hb
     replace BK103 := kb BK103 hb
     replace BK104 := kb BK104 hb
     replace HB := bz hb
     (try clear hb)
     refine hK.out _ _ ⟨bc BK101 0, bc BK101 1, bc BK102 0, bc BK102 1, bc BK103 0, bc BK103 1, bc BK104 0, bc BK104 1⟩ (fun hHeld => ?_)
     clear hK K
     refine nm 47 ?_
     refine one_ (i := 17) (N := some 48) #[T,T,T,T,T,T,T,T,T,T,T,T,T,T,T,T,T,T,T,T,T,N,N,N,N,N,N] rfl rfl (on1 HT_) (by decide) (fun K hK => ?_)
     refine goes_ Try.func82 (by kernel_rfl) rfl #[.int .i64 t113] (by rfl) rfl rfl sg ?_
     with_reducible refine (shape_sign.calls t113 t114 _ A88.out).mono ?_
     rintro e w' ⟨rfl, ⟨nd, rfl⟩⟩
     refine ⟨_, rfl, ?_⟩
     refine hK.out _ _ ⟨bc BK101 0, bc BK101 1, bc BK102 0, bc BK102 1, bc BK103 0, bc BK103 1, bc BK104 0, bc BK104 1⟩ (fun hHeld => ?_)
     clear hK K
     refine nm 48 ?_
     refine one_ (i := 21) (N := some 52) #[T,T,T,T,T,T,T,T,T,T,T,T,T,T,T,T,T,T,T,T,T,T,N,N,N,N,N] rfl rfl (on1 HT_) (by decide) (fun K hK => ?_)
     refine goes_ Try.func98 (by kernel_rfl) rfl #[.agg #[.int .i64 a2_0, .int .i64 a2_1], .agg #[.int .i64 a3_0, .int .i64 a3_1], .agg #[.int .i64 a1_0, .int .i64 a1_1]] (by rfl) rfl rfl sg ?_
     with_reducible refine (shape_side.calls a2_0 a2_1 a3_0 a3_1 a1_0 a1_1 t115 _ A89.out).mono ?_
     rintro e w95 ⟨rfl, hb⟩
     refine ⟨_, rfl, ?_⟩
     replace BK101 := kb BK101 hb
     replace BK102 := kb BK102 hb
     replace BK103 := kb BK103 hb
     replace BK104 := kb BK104 hb
     replace HB := bz hb
     (try clear hb)
     refine hK.out _ _ ⟨bc BK101 0, bc BK101 1, bc BK102 0, bc BK102 1, bc BK103 0, bc BK103 1, bc BK104 0, bc BK104 1⟩ (fun hHeld => ?_)
     clear hK K
     refine nm 52 ?_
     refine one_ (i := 22) (N := some 53) #[T,T,T,T,T,T,T,T,T,T,T,T,T,T,T,T,T,T,T,T,T,T,T,N,N,N,N] rfl rfl (on1 HT_) (by decide) (fun K hK => ?_)
     refine goes_ Try.func82 (by kernel_rfl) rfl #[.int .i64 t115] (by rfl) rfl rfl sg ?_
     with_reducible refine (shape_sign.calls t115 t116 _ A90.out).mono ?_
     rintro e w' ⟨rfl, ⟨nd, rfl⟩⟩
     refine ⟨_, rfl, ?_⟩
     refine hK.out _ _ ⟨bc BK101 0, bc BK101 1, bc BK102 0, bc BK102 1, bc BK103 0, bc BK103 1, bc BK104 0, bc BK104 1⟩ (fun hHeld => ?_)
     clear hK K
     refine nm 53 ?_
     refine pu 23 54 HT_ ?_
     refine pu 24 55 HT_ ?_
     refine pu 25 56 HT_ ?_
     refine pu 26 8 HT_ ?_
     refine done_ (done_of HT_.out (by kernel_rfl)) ?_
     try go_wp2
     go_ret
     exact ⟨by exact er, bh⟩
    ·rw [if_neg c86] at H
     have c86b0 := decide_eq_false c86
     clear c86
     obtain rfl := Option.some.inj H
     try go_wp2
     replace BK101 := Aside0.mk (blk_drew BK101.out)
     replace BK102 := Aside0.mk (blk_drew BK102.out)
     replace BK103 := Aside0.mk (blk_drew BK103.out)
     replace BK104 := Aside0.mk (blk_drew BK104.out)
     replace HB := Aside0.mk (below_drew1 HB.out)
     refine start_ (n := 27) (S := fun w' => w'.cell? ⟨gb101, 0, none⟩ = some (.int .i64 a0_0) ∧ w'.cell? ⟨gb101, 1, none⟩ = some (.int .i64 a0_1) ∧ w'.cell? ⟨gb102, 0, none⟩ = some (.int .i64 a1_0) ∧ w'.cell? ⟨gb102, 1, none⟩ = some (.int .i64 a1_1) ∧ w'.cell? ⟨gb103, 0, none⟩ = some (.int .i64 a2_0) ∧ w'.cell? ⟨gb103, 1, none⟩ = some (.int .i64 a2_1) ∧ w'.cell? ⟨gb104, 0, none⟩ = some (.int .i64 a3_0) ∧ w'.cell? ⟨gb104, 1, none⟩ = some (.int .i64 a3_1)) (ds := []) #[N,N,N,N,N,N,N,N,N,N,N,N,N,N,N,N,N,N,N,N,N,N,N,N,N,N,N] (by kernel_rfl) rfl rfl ⟨bc BK101 0, bc BK101 1, bc BK102 0, bc BK102 1, bc BK103 0, bc BK103 1, bc BK104 0, bc BK104 1⟩ (fun hHeld => ?_); refine with_tabW shape_meet.tab3 shape_meet.bits3 (fun HT_ HW_ => ?_)
     generalize wc.drew = w96 at BK101 BK102 BK103 BK104 HB hHeld ⊢
     refine tk8 0 31 hHeld HT_ HW_ ?_
     refine tk8 1 32 hHeld HT_ HW_ ?_
     refine tk8 2 33 hHeld HT_ HW_ ?_
     refine tk8 5 36 hHeld HT_ HW_ ?_
     refine tk8 6 37 hHeld HT_ HW_ ?_
     refine tk8 7 38 hHeld HT_ HW_ ?_
     refine one_ (i := 3) (N := some 34) #[T,T,T,T,N,T,T,T,N,N,N,N,N,N,N,N,N,N,N,N,N,N,N,N,N,N,N] rfl rfl (on1 HT_) (by decide) (fun K hK => ?_)
     refine goes_ Try.func98 (by kernel_rfl) rfl #[.agg #[.int .i64 a0_0, .int .i64 a0_1], .agg #[.int .i64 a1_0, .int .i64 a1_1], .agg #[.int .i64 a2_0, .int .i64 a2_1]] (by rfl) rfl rfl sg ?_
     with_reducible refine (shape_side.calls a0_0 a0_1 a1_0 a1_1 a2_0 a2_1 t109 _ A82.out).mono ?_
     rintro e w97 ⟨rfl, hb⟩
     refine ⟨_, rfl, ?_⟩
     replace BK101 := kb BK101 hb
     replace BK102 := kb BK102 hb
     replace BK103 := kb BK103 hb
     replace BK104 := kb BK104 hb
     replace HB := bz hb
     (try clear hb)
     refine hK.out _ _ ⟨bc BK101 0, bc BK101 1, bc BK102 0, bc BK102 1, bc BK103 0, bc BK103 1, bc BK104 0, bc BK104 1⟩ (fun hHeld => ?_)
     clear hK K
     refine nm 34 ?_
     refine one_ (i := 4) (N := some 35) #[T,T,T,T,T,T,T,T,N,N,N,N,N,N,N,N,N,N,N,N,N,N,N,N,N,N,N] rfl rfl (on1 HT_) (by decide) (fun K hK => ?_)
     refine goes_ Try.func82 (by kernel_rfl) rfl #[.int .i64 t109] (by rfl) rfl rfl sg ?_
     with_reducible refine (shape_sign.calls t109 t110 _ A83.out).mono ?_
     rintro e w' ⟨rfl, ⟨nd, rfl⟩⟩
     refine ⟨_, rfl, ?_⟩
     refine hK.out _ _ ⟨bc BK101 0, bc BK101 1, bc BK102 0, bc BK102 1, bc BK103 0, bc BK103 1, bc BK104 0, bc BK104 1⟩ (fun hHeld => ?_)
     clear hK K
     refine nm 35 ?_
     refine one_ (i := 8) (N := some 39) #[T,T,T,T,T,T,T,T,T,N,N,N,N,N,N,N,N,N,N,N,N,N,N,N,N,N,N] rfl rfl (on1 HT_) (by decide) (fun K hK => ?_)
     refine goes_ Try.func98 (by kernel_rfl) rfl #[.agg #[.int .i64 a0_0, .int .i64 a0_1], .agg #[.int .i64 a1_0, .int .i64 a1_1], .agg #[.int .i64 a3_0, .int .i64 a3_1]] (by rfl) rfl rfl sg ?_
     with_reducible refine (shape_side.calls a0_0 a0_1 a1_0 a1_1 a3_0 a3_1 t111 _ A84.out).mono ?_
     rintro e w98 ⟨rfl, hb⟩
     refine ⟨_, rfl, ?_⟩
     replace BK101 := kb BK101 hb
     replace BK102 := kb BK102 hb
     replace BK103 := kb BK103 hb
     replace BK104 := kb BK104 hb
     replace HB := bz hb
     (try clear hb)
     refine hK.out _ _ ⟨bc BK101 0, bc BK101 1, bc BK102 0, bc BK102 1, bc BK103 0, bc BK103 1, bc BK104 0, bc BK104 1⟩ (fun hHeld => ?_)
     clear hK K
     refine nm 39 ?_
     refine one_ (i := 9) (N := some 40) #[T,T,T,T,T,T,T,T,T,T,N,N,N,N,N,N,N,N,N,N,N,N,N,N,N,N,N] rfl rfl (on1 HT_) (by decide) (fun K hK => ?_)
     refine goes_ Try.func82 (by kernel_rfl) rfl #[.int .i64 t111] (by rfl) rfl rfl sg ?_
     with_reducible refine (shape_sign.calls t111 t112 _ A85.out).mono ?_
     rintro e w' ⟨rfl, ⟨nd, rfl⟩⟩
     refine ⟨_, rfl, ?_⟩
     refine hK.out _ _ ⟨bc BK101 0, bc BK101 1, bc BK102 0, bc BK102 1, bc BK103 0, bc BK103 1, bc BK104 0, bc BK104 1⟩ (fun hHeld => ?_)
     clear hK K
     refine nm 40 ?_
     refine pu 10 41 HT_ ?_
     refine pu 11 42 HT_ ?_
     refine pu 12 43 HT_ ?_
     refine pz 13 44 HT_ ?_
     refine pz 14 45 HT_ ?_
     refine pz 15 46 HT_ ?_
     refine pz 16 47 HT_ ?_
     refine pz 17 48 HT_ ?_
     refine pz 18 49 HT_ ?_
     refine pz 19 50 HT_ ?_
     refine pz 20 51 HT_ ?_
     refine pz 21 52 HT_ ?_
     refine pz 22 53 HT_ ?_
     refine pz 23 54 HT_ ?_
     refine pz 24 55 HT_ ?_
     refine pu 25 56 HT_ ?_
     refine pu 26 8 HT_ ?_
     refine done_ (done_of HT_.out (by kernel_rfl)) ?_
     try go_wp2
     go_ret
     exact ⟨by exact er, bh⟩
attribute [local go_sem high] eqA41
/-! ### shape_simple: function 37 -/
mutual
def shape_simple.l0 : Nat → List (S41) → Int → Int → Int → Option (Bool)
 | 0, _, _, _, _ => none
 | k + 1, x0, x3, x12, x13 => if x13 < x12 then (if x3 = 0 then (none) else (if 0 ≤ (Int.tmod (wrap64 ((wrap64 (x13 + x3)) - 1)) x3) then (if (Int.tmod (wrap64 ((wrap64 (x13 + x3)) - 1)) x3) < (x0.length : Int) then (if 0 ≤ (Int.tmod (wrap64 (x13 + 1)) x3) then (if (Int.tmod (wrap64 (x13 + 1)) x3) < (x0.length : Int) then (if 0 ≤ x13 then (if x13 < (x0.length : Int) then (if (((rd_T41 x0 x13).f0) == ((rd_T41 x0 (Int.tmod (wrap64 (x13 + 1)) x3)).f0) && (((rd_T41 x0 x13).f1) == ((rd_T41 x0 (Int.tmod (wrap64 (x13 + 1)) x3)).f1))) = true then (some false) else ((shape_sub.f ((rd_T41 x0 (Int.tmod (wrap64 ((wrap64 (x13 + x3)) - 1)) x3)).f0) ((rd_T41 x0 (Int.tmod (wrap64 ((wrap64 (x13 + x3)) - 1)) x3)).f1) ((rd_T41 x0 x13).f0) ((rd_T41 x0 x13).f1)).bind fun bt107 => ((shape_sub.f ((rd_T41 x0 (Int.tmod (wrap64 (x13 + 1)) x3)).f0) ((rd_T41 x0 (Int.tmod (wrap64 (x13 + 1)) x3)).f1) ((rd_T41 x0 x13).f0) ((rd_T41 x0 x13).f1)).bind fun bt110 => ((shape_cross.f bt107.1 bt107.2 bt110.1 bt110.2).bind fun t114 => (if t114 = 0 then ((shape_dot.f bt107.1 bt107.2 bt110.1 bt110.2).bind fun t115 => (shape_simple.j1 k x0 x3 x13 x12 x13 (decide (t115 > 0)) ((rd_T41 x0 (Int.tmod (wrap64 (x13 + 1)) x3)).f0) ((rd_T41 x0 (Int.tmod (wrap64 (x13 + 1)) x3)).f1))) else (shape_simple.j1 k x0 x3 x13 x12 x13 false ((rd_T41 x0 (Int.tmod (wrap64 (x13 + 1)) x3)).f0) ((rd_T41 x0 (Int.tmod (wrap64 (x13 + 1)) x3)).f1))))))) else (none)) else (none)) else (none)) else (none)) else (none)) else (none))) else (some true)
def shape_simple.j1 : Nat → List (S41) → Int → Int → Int → Int → Bool → Int → Int → Option (Bool)
 | 0, _, _, _, _, _, _, _, _ => none
 | k + 1, x0, x3, x4, x12, x13, x59, x105000, x105001 => if x59 = true then (some false) else (shape_simple.l1 k x0 x3 x4 x12 x13 x4 0 x105000 x105001)
def shape_simple.l1 : Nat → List (S41) → Int → Int → Int → Int → Int → Int → Int → Int → Option (Bool)
 | 0, _, _, _, _, _, _, _, _, _ => none
 | k + 1, x0, x3, x4, x12, x13, x60, x61, x105000, x105001 => if x61 < x60 then (if (wrap64 (x61 + 1)) = x4 then (shape_simple.j3 k x0 x3 x4 x12 x13 x60 x61 false x105000 x105001) else (if x61 = 0 then (if x4 = (wrap64 (x3 - 1)) then (shape_simple.j3 k x0 x3 x4 x12 x13 x60 x61 false x105000 x105001) else (if 0 ≤ x4 then (if x4 < (x0.length : Int) then (if 0 ≤ x61 then (if x61 < (x0.length : Int) then (if 0 ≤ (wrap64 (x61 + 1)) then (if (wrap64 (x61 + 1)) < (x0.length : Int) then ((shape_meet.f k ((rd_T41 x0 x4).f0) ((rd_T41 x0 x4).f1) x105000 x105001 ((rd_T41 x0 x61).f0) ((rd_T41 x0 x61).f1) ((rd_T41 x0 (wrap64 (x61 + 1))).f0) ((rd_T41 x0 (wrap64 (x61 + 1))).f1)).bind fun t119 => (shape_simple.j3 k x0 x3 x4 x12 x13 x60 x61 t119 x105000 x105001)) else (none)) else (none)) else (none)) else (none)) else (none)) else (none))) else (if 0 ≤ x4 then (if x4 < (x0.length : Int) then (if 0 ≤ x61 then (if x61 < (x0.length : Int) then (if 0 ≤ (wrap64 (x61 + 1)) then (if (wrap64 (x61 + 1)) < (x0.length : Int) then ((shape_meet.f k ((rd_T41 x0 x4).f0) ((rd_T41 x0 x4).f1) x105000 x105001 ((rd_T41 x0 x61).f0) ((rd_T41 x0 x61).f1) ((rd_T41 x0 (wrap64 (x61 + 1))).f0) ((rd_T41 x0 (wrap64 (x61 + 1))).f1)).bind fun t123 => (shape_simple.j3 k x0 x3 x4 x12 x13 x60 x61 t123 x105000 x105001)) else (none)) else (none)) else (none)) else (none)) else (none)) else (none)))) else (shape_simple.l0 k x0 x3 x12 (wrap64 (x13 + 1)))
def shape_simple.j3 : Nat → List (S41) → Int → Int → Int → Int → Int → Int → Bool → Int → Int → Option (Bool)
 | 0, _, _, _, _, _, _, _, _, _, _ => none
 | k + 1, x0, x3, x4, x12, x13, x60, x61, x94, x105000, x105001 => if x94 = true then (some false) else (shape_simple.l1 k x0 x3 x4 x12 x13 x60 (wrap64 (x61 + 1)) x105000 x105001)
end
def shape_simple.f (k : Nat) (l0 : List (S41)) : Option (Bool) := shape_simple.l0 k l0 (l0.length : Int) (l0.length : Int) 0
def shape_simple.T5 : Bool × List (List Nat × List Nat) := (true, [([], []), ([], []), ([], []), ([1, 2], [1, 2]), ([3], [3]), ([], []), ([4, 5], [4, 5]), ([0, 6], [0, 6]), ([7], [7]), ([], []), ([], []), ([10], [10]), ([], []), ([11, 12], [11, 12]), ([9, 13], [9, 13]), ([14], [14]), ([], []), ([], []), ([16, 8, 0, 1, 2, 3, 4, 5, 6, 7, 8, 16, 17], [8, 16]), ([17, 15, 18, 0, 1, 2, 3, 4, 5, 6, 7, 8, 9, 10, 11, 12, 13, 14, 15, 16, 17, 18], [15, 17])])
def shape_simple.B5 : List Nat := [0, 0, 0, 6, 14, 0, 62, 127, 255, 0, 0, 1024, 0, 7168, 15872, 32256, 0, 0, 197119, 524287]
theorem shape_simple.tab5 : rtab .any (opsOf Try.f37 5) = shape_simple.T5 := by kernel_rfl
theorem shape_simple.bits5 : waitsOk shape_simple.T5.2 shape_simple.B5 = true := by kernel_rfl
def shape_simple.T8 : Bool × List (List Nat × List Nat) := (true, [([], []), ([], []), ([], []), ([1, 2], [1, 2]), ([3], [3]), ([0, 4], [0, 4]), ([], []), ([], []), ([], []), ([7, 8], [7, 8]), ([9], [9]), ([6, 10, 5], [6, 10]), ([], []), ([], []), ([12, 5, 11, 0, 1, 2, 3, 4, 5, 12, 13], [5, 12]), ([13, 11, 14, 0, 1, 2, 3, 4, 5, 6, 7, 8, 9, 10, 11, 12, 13, 14], [11, 13])])
def shape_simple.B8 : List Nat := [0, 0, 0, 6, 14, 31, 0, 0, 0, 384, 896, 2047, 0, 0, 16383, 32767]
theorem shape_simple.tab8 : rtab .any (opsOf Try.f37 8) = shape_simple.T8 := by kernel_rfl
theorem shape_simple.bits8 : waitsOk shape_simple.T8.2 shape_simple.B8 = true := by kernel_rfl
def shape_simple.T14 : Bool × List (List Nat × List Nat) := (true, [([], []), ([0], [0]), ([], []), ([1, 2], [1, 2]), ([3], [3]), ([4], [4]), ([5, 4], [4, 5]), ([6, 4, 4], [4, 6]), ([7], [7]), ([7], [7]), ([9, 7], [7, 9]), ([8, 10, 7], [7, 8, 10]), ([7, 11, 4], [4, 7, 11]), ([4, 12], [4, 12]), ([13, 7], [13]), ([14], [14]), ([14], [14]), ([15, 16, 14], [14, 15, 16]), ([17, 14], [14, 17]), ([14], [14]), ([14], [14]), ([14], [14]), ([20, 21, 14], [14, 20, 21]), ([22, 14], [14, 22]), ([14], [14]), ([14], [14]), ([25, 14], [14, 25]), ([24, 26, 14], [14, 24, 26]), ([27, 14], [14, 27]), ([18, 19, 23, 28, 14, 14], [14, 18, 19, 23, 28]), ([14, 29], [14, 29])])
def shape_simple.B14 : List Nat := [0, 1, 0, 7, 15, 31, 63, 127, 255, 255, 767, 2047, 4095, 8191, 16383, 32767, 32767, 131071, 262143, 32767, 32767, 32767, 3178495, 7372799, 32767, 32767, 33587199, 117473279, 251691007, 536870911, 1073741823]
theorem shape_simple.tab14 : rtab .any (opsOf Try.f37 14) = shape_simple.T14 := by kernel_rfl
theorem shape_simple.bits14 : waitsOk shape_simple.T14.2 shape_simple.B14 = true := by kernel_rfl
set_option maxHeartbeats 8000000 in
set_option maxRecDepth 100000 in
theorem shape_simple.calls (k : Nat) (A0 : Option Addr) (c0 : Nat) (l0 : List (S41)) (r : Bool) (w : World) (hr0 : Kd.C k41 w A0 l0.length l0) (hc0 : l0.length ≤ c0) (h : shape_simple.f k l0 = some r) :
  Calls Try.prog 37 #[.slice A0 l0.length c0] w fun e w' => e = .returned (.bool r) ∧ Below w.heap.size w w' := by
 have hu41 := Try.underlying41
 have HR0 := Aside0.mk hr0
 have HC0 := Aside0.mk hc0
 clear hr0 hc0
 have HB := Aside0.mk (Below.refl w.heap.size w)
 have H : (shape_simple.l0 k l0 (l0.length : Int) (l0.length : Int) 0) = some r := h
 clear h
 have H' := Aside0.mk H
 clear H
 go_enter Try.func37, Try.ntmps37
 go_wp2
 go_loopg [13] k (fun kq v13 w' => ∃ (x13_1 : Int), v13 = .int .i64 x13_1 ∧ Aside0 (shape_simple.l0 kq l0 (l0.length : Int) (l0.length : Int) x13_1 = some r) ∧ Aside0 (kq ≤ k) ∧ Aside0 (Below w.heap.size w w'))
 case atStart => exact ⟨(0), sd, H', ⟨Nat.le_refl _⟩, ⟨bh⟩⟩
 case round =>
  clear H'
  obtain ⟨x13_1, rfl, HA, HK1, HB⟩ := hrel
  cases gk with
  | zero => exact absurd HA.out (by simp [shape_simple.l0])
  | succ k1 =>
   have H := HA.out
   clear HA
   simp only [shape_simple.l0] at H
   by_cases c2 : x13_1 < (l0.length : Int)
   ·rw [if_pos c2] at H
    have c2b0 := decide_eq_true c2
    clear c2
    obtain ⟨c3, H⟩ := oj H
    have c3b0 : ((l0.length : Int) == 0) = false := beq_eq_false_iff_ne.mpr c3
    have c3b1 : ((l0.length : Int) != 0) = true := bne_iff_ne.mpr c3
    have c3b2 : ¬ (l0 = []) := fun h_ => c3 (by rw [h_]; rfl)
    obtain ⟨ji4, hji4⟩ : ∃ j_ : Int, (Int.tmod (wrap64 ((wrap64 (x13_1 + (l0.length : Int))) - 1)) (l0.length : Int)) = j_ := ⟨_, rfl⟩
    first | rw [hji4] at H | simp only [hji4] at H
    obtain ⟨c5, H⟩ := oi H
    have c5b0 := decide_eq_true c5
    clear c5
    obtain ⟨c6, H⟩ := oi H
    have c6b0 := decide_eq_true c6
    clear c6
    obtain ⟨ji7, hji7⟩ : ∃ j_ : Int, (Int.tmod (wrap64 (x13_1 + 1)) (l0.length : Int)) = j_ := ⟨_, rfl⟩
    first | rw [hji7] at H | simp only [hji7] at H
    obtain ⟨c8, H⟩ := oi H
    have c8b0 := decide_eq_true c8
    clear c8
    obtain ⟨c9, H⟩ := oi H
    have c9b0 := decide_eq_true c9
    clear c9
    obtain ⟨c10, H⟩ := oi H
    have c10b0 := decide_eq_true c10
    clear c10
    obtain ⟨c11, H⟩ := oi H
    have c11b0 := decide_eq_true c11
    clear c11
    by_cases c12 : (((rd_T41 l0 x13_1).f0) == ((rd_T41 l0 (ji7)).f0) && (((rd_T41 l0 x13_1).f1) == ((rd_T41 l0 (ji7)).f1))) = true
    ·rw [if_pos c12] at H
     have c12b0 : (((rd_T41 l0 x13_1).f0) == ((rd_T41 l0 (ji7)).f0) && (((rd_T41 l0 x13_1).f1) == ((rd_T41 l0 (ji7)).f1))) = true := c12
     (try (have c12b1 : decide (((rd_T41 l0 x13_1).f0) = ((rd_T41 l0 (ji7)).f0) && (((rd_T41 l0 x13_1).f1) == ((rd_T41 l0 (ji7)).f1))) = true := by simpa using c12))
     (try (have c12b2 : (((rd_T41 l0 x13_1).f0) == ((rd_T41 l0 (ji7)).f0) && (((rd_T41 l0 x13_1).f1) == ((rd_T41 l0 (ji7)).f1))) = true := by simpa using c12))
     clear c12
     obtain rfl := Option.some.inj H
     try go_wp2
     replace HB := Aside0.mk (below_drew1 HB.out)
     have p101 : 0 ≤ ((ji4) : Int) := dt
     have q101 : (ji4) < (l0.length : Int) := dt
     obtain ⟨ad101, e101, hx101_0, hx101_1⟩ := at_T41 HR0.out (ji4) p101 q101
     have hw101_1 := hx101_1
     have hw101_0 := hx101_0
     cases e101
     replace hx101_0 := hc HB hx101_0
     replace hx101_1 := hc HB hx101_1
     replace p101 := eq_true p101
     replace q101 := eq_true q101
     have p102 : 0 ≤ ((ji7) : Int) := dt
     have q102 : (ji7) < (l0.length : Int) := dt
     obtain ⟨ad102, e102, hx102_0, hx102_1⟩ := at_T41 HR0.out (ji7) p102 q102
     have hw102_1 := hx102_1
     have hw102_0 := hx102_0
     obtain rfl : ad101 = ad102 := (by injection e102)
     replace hx102_0 := hc HB hx102_0
     replace hx102_1 := hc HB hx102_1
     replace p102 := eq_true p102
     replace q102 := eq_true q102
     refine start_ (n := 20) (S := fun w' => w'.cell? (ad101.add (((ji4)).toNat * 2)) = some (.int .i64 ((rd_T41 l0 (ji4)).f0)) ∧ w'.cell? ⟨(ad101.add (((ji4)).toNat * 2)).block, (ad101.add (((ji4)).toNat * 2)).off + 1, none⟩ = some (.int .i64 ((rd_T41 l0 (ji4)).f1)) ∧ w'.cell? (ad101.add (((ji7)).toNat * 2)) = some (.int .i64 ((rd_T41 l0 (ji7)).f0)) ∧ w'.cell? ⟨(ad101.add (((ji7)).toNat * 2)).block, (ad101.add (((ji7)).toNat * 2)).off + 1, none⟩ = some (.int .i64 ((rd_T41 l0 (ji7)).f1))) (ds := []) #[N,N,N,N,N,N,N,N,N,N,N,N,N,N,N,N,N,N,N,N] (by kernel_rfl) rfl rfl ⟨(hc HB hw101_0), (hc HB hw101_1), (hc HB hw102_0), (hc HB hw102_1)⟩ (fun hHeld => ?_); refine with_tabW shape_simple.tab5 shape_simple.bits5 (fun HT_ HW_ => ?_)
     generalize wr.drew = w13 at HB hx101_0 hx101_1 hx102_0 hx102_1 hHeld ⊢
     refine pu 0 16 HT_ ?_
     refine pu 1 17 HT_ ?_
     refine pu 2 18 HT_ ?_
     refine pu 3 19 HT_ ?_
     refine pu 4 20 HT_ ?_
     refine pu 5 21 HT_ ?_
     refine pu 6 22 HT_ ?_
     refine pu 7 23 HT_ ?_
     refine pu 9 25 HT_ ?_
     refine pu 10 26 HT_ ?_
     refine pu 11 27 HT_ ?_
     refine pu 12 28 HT_ ?_
     refine pu 13 29 HT_ ?_
     refine pu 14 30 HT_ ?_
     refine tk4 8 24 hHeld HT_ HW_ ?_
     refine tk4 15 31 hHeld HT_ HW_ ?_
     refine join_ (σ := Nat × Nat) 2 #[T,T,T,T,T,T,T,T,T,T,T,T,T,T,T,T,T,T,N,N] (fun s_ => [(5, .pointer (some ⟨s_.1, 0, none⟩)), (6, .pointer (some ⟨s_.2, 0, none⟩))]) (fun s_ w' => (w'.cell? (ad101.add (((ji4)).toNat * 2)) = some (.int .i64 ((rd_T41 l0 (ji4)).f0)) ∧ w'.cell? ⟨(ad101.add (((ji4)).toNat * 2)).block, (ad101.add (((ji4)).toNat * 2)).off + 1, none⟩ = some (.int .i64 ((rd_T41 l0 (ji4)).f1)) ∧ w'.cell? (ad101.add (((ji7)).toNat * 2)) = some (.int .i64 ((rd_T41 l0 (ji7)).f0)) ∧ w'.cell? ⟨(ad101.add (((ji7)).toNat * 2)).block, (ad101.add (((ji7)).toNat * 2)).off + 1, none⟩ = some (.int .i64 ((rd_T41 l0 (ji7)).f1))) ∧ (w'.heap[s_.1]? = some (.cells #[.int .i64 0, .int .i64 0] 41 (0, 0))) ∧ (w'.heap[s_.2]? = some (.cells #[.int .i64 0, .int .i64 0] 41 (0, 0))) ∧ (w.heap.size ≤ s_.1) ∧ (w.heap.size ≤ s_.1) ∧ (s_.2 ≠ s_.1) ∧ (s_.1 ≠ s_.2) ∧ (w.heap.size ≤ s_.2) ∧ (w.heap.size ≤ s_.2) ∧ (Below w.heap.size w w')) ?_ ?_
     rotate_left
     ·intro hCont
      refine two_ (i := 16) (j := 17) (Ni := some 5) (Nj := some 6) #[T,T,T,T,T,T,T,T,T,T,T,T,T,T,T,T,T,N,N,N] #[T,T,T,T,T,T,T,T,T,T,T,T,T,T,T,T,N,T,N,N] rfl rfl rfl rfl (on2 HT_) (by decide) (by decide) (fun K hK => ?_) (fun K hK => ?_)
      ·skip
       refine bxs 5 #[.int .i64 0, .int .i64 0] 41 ?_
       intro gb103 hg w14 hbox hb
       have BK103 := Aside0.mk (hbox)
       have GW103 := ga w hg
       have GE103 := GW103
       replace HB := bz hb
       clear hb hbox hg
       refine hK.out _ _ ⟨(hc HB hw101_0), (hc HB hw101_1), (hc HB hw102_0), (hc HB hw102_1)⟩ (fun hHeld => ?_)
       clear hK K
       refine nm 5 ?_
       refine one_ (i := 17) (N := some 6) #[T,T,T,T,T,T,T,T,T,T,T,T,T,T,T,T,T,T,N,N] rfl rfl (on1 HT_) (by decide) (fun K hK => ?_)
       refine bxs 6 #[.int .i64 0, .int .i64 0] 41 ?_
       intro gb104 hg w15 hbox hb
       have BK104 := Aside0.mk (hbox)
       have GW104 := ga w hg
       have GE104 := GW104
       have NB103_104 := nb hg (kl BK103)
       have NB104_103 := bn NB103_104
       replace BK103 := kb BK103 hb
       replace HB := bz hb
       clear hb hbox hg
       refine hK.out _ _ ⟨(hc HB hw101_0), (hc HB hw101_1), (hc HB hw102_0), (hc HB hw102_1)⟩ (fun hHeld => ?_)
       clear hK K
       refine nm 6 ?_
       exact norm_ pa (hCont (gb103, gb104) _ ⟨hHeld, bk BK103, bk BK104, GW103.out, GE103.out, NB104_103.out, NB103_104.out, GW104.out, GE104.out, bh⟩)
      ·skip
       refine bxs 6 #[.int .i64 0, .int .i64 0] 41 ?_
       intro gb104 hg w14 hbox hb
       have BK104 := Aside0.mk (hbox)
       have GW104 := ga w hg
       have GE104 := GW104
       replace HB := bz hb
       clear hb hbox hg
       refine hK.out _ _ ⟨(hc HB hw101_0), (hc HB hw101_1), (hc HB hw102_0), (hc HB hw102_1)⟩ (fun hHeld => ?_)
       clear hK K
       refine nm 6 ?_
       refine one_ (i := 16) (N := some 5) #[T,T,T,T,T,T,T,T,T,T,T,T,T,T,T,T,T,T,N,N] rfl rfl (on1 HT_) (by decide) (fun K hK => ?_)
       refine bxs 5 #[.int .i64 0, .int .i64 0] 41 ?_
       intro gb103 hg w15 hbox hb
       have BK103 := Aside0.mk (hbox)
       have GW103 := ga w hg
       have GE103 := GW103
       have NB104_103 := nb hg (kl BK104)
       have NB103_104 := bn NB104_103
       replace BK104 := kb BK104 hb
       replace HB := bz hb
       clear hb hbox hg
       refine hK.out _ _ ⟨(hc HB hw101_0), (hc HB hw101_1), (hc HB hw102_0), (hc HB hw102_1)⟩ (fun hHeld => ?_)
       clear hK K
       refine nm 5 ?_
       exact norm_ pa (hCont (gb103, gb104) _ ⟨hHeld, bk BK103, bk BK104, GW103.out, GE103.out, NB104_103.out, NB103_104.out, GW104.out, GE104.out, bh⟩)
     rintro ⟨gb103, gb104⟩ w16 ⟨hS_, h0_, h1_, h2_, h3_, h4_, h5_, h6_, h7_, h8_⟩
     have BK103 := Aside0.mk h0_
     have BK104 := Aside0.mk h1_
     have GW103 := Aside0.mk h2_
     have GE103 := Aside0.mk h3_
     have NB104_103 := Aside0.mk h4_
     have NB103_104 := Aside0.mk h5_
     have GW104 := Aside0.mk h6_
     have GE104 := Aside0.mk h7_
     replace HB := Aside0.mk h8_
     clear h0_ h1_ h2_ h3_ h4_ h5_ h6_ h7_ h8_
     have hHeld := hS_
     refine nn ?_
     refine one_ (i := 18) (N := none) #[T,T,T,T,T,T,T,T,T,T,T,T,T,T,T,T,T,T,T,N] rfl rfl (on1 HT_) (by decide) (fun K hK => ?_)
     have hs17 : w16.cell? ⟨gb103, 0, none⟩ = some (.int .i64 0) := bc BK103 0
     have hfs17 := blk_frozen BK103.out 0
     have hns17_1 := NB104_103.out
     have hms17_1 := NB103_104.out
     have hs18 : w16.cell? ⟨gb103, 1, none⟩ = some (.int .i64 0) := bc BK103 1
     have hfs18 := blk_frozen BK103.out 1
     have hns18_1 := NB104_103.out
     have hms18_1 := NB103_104.out
     refine skip_ (w1 := ?_) (by rfl) rfl ?_ ?_
     rotate_left
     ·go_simp
      rfl
     refine hK.out _ _ ⟨((cell_far (p := ⟨gb103, _, none⟩) (fr hw101_0 GW103) _).trans (((cell_far (p := ⟨gb103, _, none⟩) (fr hw101_0 GW103) _).trans (hHeld.1)))), ((cell_far (p := ⟨gb103, _, none⟩) (fr hw101_1 GW103) _).trans (((cell_far (p := ⟨gb103, _, none⟩) (fr hw101_1 GW103) _).trans (hHeld.2.1)))), ((cell_far (p := ⟨gb103, _, none⟩) (fr hw102_0 GW103) _).trans (((cell_far (p := ⟨gb103, _, none⟩) (fr hw102_0 GW103) _).trans (hHeld.2.2.1)))), ((cell_far (p := ⟨gb103, _, none⟩) (fr hw102_1 GW103) _).trans (((cell_far (p := ⟨gb103, _, none⟩) (fr hw102_1 GW103) _).trans (hHeld.2.2.2))))⟩ (fun hHeld => ?_)
     clear hK K
     refine one_ (i := 19) (N := none) #[T,T,T,T,T,T,T,T,T,T,T,T,T,T,T,T,T,T,T,T] rfl rfl (on1 HT_) (by decide) (fun K hK => ?_)
     have hs19 : w16.cell? ⟨gb104, 0, none⟩ = some (.int .i64 0) := bc BK104 0
     have hfs19 := blk_frozen BK104.out 0
     have hns19_0 := NB103_104.out
     have hms19_0 := NB104_103.out
     have hs20 : w16.cell? ⟨gb104, 1, none⟩ = some (.int .i64 0) := bc BK104 1
     have hfs20 := blk_frozen BK104.out 1
     have hns20_0 := NB103_104.out
     have hms20_0 := NB104_103.out
     refine skip_ (w1 := ?_) (by rfl) rfl ?_ ?_
     rotate_left
     ·go_simp
      rfl
     refine hK.out _ _ ⟨((cell_far (p := ⟨gb104, _, none⟩) (fr hw101_0 GW104) _).trans (((cell_far (p := ⟨gb104, _, none⟩) (fr hw101_0 GW104) _).trans (hHeld.1)))), ((cell_far (p := ⟨gb104, _, none⟩) (fr hw101_1 GW104) _).trans (((cell_far (p := ⟨gb104, _, none⟩) (fr hw101_1 GW104) _).trans (hHeld.2.1)))), ((cell_far (p := ⟨gb104, _, none⟩) (fr hw102_0 GW104) _).trans (((cell_far (p := ⟨gb104, _, none⟩) (fr hw102_0 GW104) _).trans (hHeld.2.2.1)))), ((cell_far (p := ⟨gb104, _, none⟩) (fr hw102_1 GW104) _).trans (((cell_far (p := ⟨gb104, _, none⟩) (fr hw102_1 GW104) _).trans (hHeld.2.2.2))))⟩ (fun hHeld => ?_)
     clear hK K
     refine done_ (done_of HT_.out (by kernel_rfl)) ?_
     try go_wp2
     have n0_ : Aside0 (((((w16.setCell ⟨gb103, 0, none⟩ (.int .i64 ((rd_T41 l0 (ji4)).f0))).setCell ⟨gb103, 1, none⟩ (.int .i64 ((rd_T41 l0 (ji4)).f1))).setCell ⟨gb104, 0, none⟩ (.int .i64 ((rd_T41 l0 (ji7)).f0))).setCell ⟨gb104, 1, none⟩ (.int .i64 ((rd_T41 l0 (ji7)).f1))).heap[gb103]? = some (.cells #[.int .i64 ((rd_T41 l0 (ji4)).f0), .int .i64 ((rd_T41 l0 (ji4)).f1)] 41 (0, 0))) := ⟨by refine bf NB103_104 ?_; refine bf NB103_104 ?_; refine bd ?_; refine blk_put (cs := #[.int .i64 ((rd_T41 l0 (ji4)).f0), .int .i64 0]) ?_ 1 _ rfl; refine bd ?_; refine blk_put (cs := #[.int .i64 0, .int .i64 0]) ?_ 0 _ rfl; refine bd ?_; exact BK103.out⟩
     have n1_ : Aside0 (((((w16.setCell ⟨gb103, 0, none⟩ (.int .i64 ((rd_T41 l0 (ji4)).f0))).setCell ⟨gb103, 1, none⟩ (.int .i64 ((rd_T41 l0 (ji4)).f1))).setCell ⟨gb104, 0, none⟩ (.int .i64 ((rd_T41 l0 (ji7)).f0))).setCell ⟨gb104, 1, none⟩ (.int .i64 ((rd_T41 l0 (ji7)).f1))).heap[gb104]? = some (.cells #[.int .i64 ((rd_T41 l0 (ji7)).f0), .int .i64 ((rd_T41 l0 (ji7)).f1)] 41 (0, 0))) := ⟨by refine bd ?_; refine blk_put (cs := #[.int .i64 ((rd_T41 l0 (ji7)).f0), .int .i64 0]) ?_ 1 _ rfl; refine bd ?_; refine blk_put (cs := #[.int .i64 0, .int .i64 0]) ?_ 0 _ rfl; refine bf NB104_103 ?_; refine bf NB104_103 ?_; refine bd ?_; exact BK104.out⟩
     have n2_ : Aside0 (Below w.heap.size w ((((w16.setCell ⟨gb103, 0, none⟩ (.int .i64 ((rd_T41 l0 (ji4)).f0))).setCell ⟨gb103, 1, none⟩ (.int .i64 ((rd_T41 l0 (ji4)).f1))).setCell ⟨gb104, 0, none⟩ (.int .i64 ((rd_T41 l0 (ji7)).f0))).setCell ⟨gb104, 1, none⟩ (.int .i64 ((rd_T41 l0 (ji7)).f1)))) := ⟨bh⟩
     (try clear BK103); (try clear BK104); (try clear HB)
     generalize ((((w16.setCell ⟨gb103, 0, none⟩ (.int .i64 ((rd_T41 l0 (ji4)).f0))).setCell ⟨gb103, 1, none⟩ (.int .i64 ((rd_T41 l0 (ji4)).f1))).setCell ⟨gb104, 0, none⟩ (.int .i64 ((rd_T41 l0 (ji7)).f0))).setCell ⟨gb104, 1, none⟩ (.int .i64 ((rd_T41 l0 (ji7)).f1))) = w21 at n0_ n1_ n2_ ⊢
     have BK103 := n0_
     have BK104 := n1_
     have HB := n2_
     clear n0_ n1_ n2_
     replace BK103 := Aside0.mk (blk_drew BK103.out)
     replace BK104 := Aside0.mk (blk_drew BK104.out)
     replace HB := Aside0.mk (below_drew1 HB.out)
     have p105 : 0 ≤ (x13_1 : Int) := dt
     have q105 : x13_1 < (l0.length : Int) := dt
     obtain ⟨ad105, e105, hx105_0, hx105_1⟩ := at_T41 HR0.out x13_1 p105 q105
     have hw105_1 := hx105_1
     have hw105_0 := hx105_0
     obtain rfl : ad101 = ad105 := (by injection e105)
     replace hx105_0 := hc HB hx105_0
     replace hx105_1 := hc HB hx105_1
     replace p105 := eq_true p105
     replace q105 := eq_true q105
     refine start_ (n := 6) (S := fun w' => w'.cell? ⟨gb104, 0, none⟩ = some (.int .i64 ((rd_T41 l0 (ji7)).f0)) ∧ w'.cell? ⟨gb104, 1, none⟩ = some (.int .i64 ((rd_T41 l0 (ji7)).f1)) ∧ w'.cell? (ad101.add ((x13_1).toNat * 2)) = some (.int .i64 ((rd_T41 l0 x13_1).f0)) ∧ w'.cell? ⟨(ad101.add ((x13_1).toNat * 2)).block, (ad101.add ((x13_1).toNat * 2)).off + 1, none⟩ = some (.int .i64 ((rd_T41 l0 x13_1).f1))) (ds := []) #[N,N,N,N,N,N] (by kernel_rfl) rfl rfl ⟨bc BK104 0, bc BK104 1, (hc HB hw105_0), (hc HB hw105_1)⟩ (fun hHeld => ?_)
     generalize w21.drew = w22 at BK103 BK104 HB hx105_0 hx105_1 hHeld ⊢
     refine pure_ (i := 0) (N := some 32) (v := ?_) (a' := ?_) #[T,N,N,N,N,N] rfl rfl (by kernel_rfl) (fun _ _ _ h => h) (Or.inl ⟨by rfl, ?_⟩) ?_ ?_
     rotate_left
     ·intro w'
      go_simp
      with_reducible rfl
     rotate_left
     ·simp only [Act.put, List.setIfInBounds_toArray, List.set_cons_zero, List.set_cons_succ, i64_w, i32_w]
      rfl
     refine pure_ (i := 1) (N := some 33) (v := ?_) (a' := ?_) #[T,T,N,N,N,N] rfl rfl (by kernel_rfl) (fun _ _ _ h => h) (Or.inl ⟨by rfl, ?_⟩) ?_ ?_
     rotate_left
     ·intro w'
      go_simp
      with_reducible rfl
     rotate_left
     ·simp only [Act.put, List.setIfInBounds_toArray, List.set_cons_zero, List.set_cons_succ, i64_w, i32_w]
      rfl
     refine pure_ (i := 2) (N := some 34) (v := ?_) (a' := ?_) #[T,T,T,N,N,N] rfl rfl (by kernel_rfl) (fun _ _ _ h => h) (Or.inl ⟨by rfl, ?_⟩) ?_ ?_
     rotate_left
     ·intro w'
      go_simp
      with_reducible rfl
     rotate_left
     ·simp only [Act.put, List.setIfInBounds_toArray, List.set_cons_zero, List.set_cons_succ, i64_w, i32_w]
      rfl
     refine take_ (i := 3) (N := some 35) (v := ?_) (a' := ?_) #[T,T,T,T,N,N] rfl rfl (by kernel_rfl) (fun _ _ _ h => h) (Or.inl ⟨by rfl, ?_⟩) hHeld ?_ ?_
     rotate_left
     ·rintro w' ⟨s0, s1, s2, s3⟩
      go_simp
      with_reducible rfl
     rotate_left
     ·simp only [Act.put, List.setIfInBounds_toArray, List.set_cons_zero, List.set_cons_succ, i64_w, i32_w]
      rfl
     refine take_ (i := 4) (N := some 36) (v := ?_) (a' := ?_) #[T,T,T,T,T,N] rfl rfl (by kernel_rfl) (fun _ _ _ h => h) (Or.inl ⟨by rfl, ?_⟩) hHeld ?_ ?_
     rotate_left
     ·rintro w' ⟨s0, s1, s2, s3⟩
      go_simp
      with_reducible rfl
     rotate_left
     ·simp only [Act.put, List.setIfInBounds_toArray, List.set_cons_zero, List.set_cons_succ, i64_w, i32_w]
      rfl
     refine pure_ (i := 5) (N := some 37) (v := ?_) (a' := ?_) #[T,T,T,T,T,T] rfl rfl (by kernel_rfl) (fun _ _ _ h => h) (Or.inl ⟨by rfl, ?_⟩) ?_ ?_
     rotate_left
     ·intro w'
      go_simp
      with_reducible rfl
     rotate_left
     ·simp only [Act.put, List.setIfInBounds_toArray, List.set_cons_zero, List.set_cons_succ, i64_w, i32_w]
      rfl
     refine done_ (by kernel_rfl) ?_
     try go_wp2
     go_ret
     exact ⟨by first | rfl | (simp [errW_none, errW_some] <;> rfl) | (simp only [← hji4, ← hji7]; first | rfl | (simp [errW_none, errW_some] <;> rfl)) | (simp [*, errW_none, errW_some] <;> rfl), bh⟩
    ·rw [if_neg c12] at H
     have c12b0 : (((rd_T41 l0 x13_1).f0) == ((rd_T41 l0 (ji7)).f0) && (((rd_T41 l0 x13_1).f1) == ((rd_T41 l0 (ji7)).f1))) = false := by simpa using c12
     (try (have c12b1 : decide (((rd_T41 l0 x13_1).f0) = ((rd_T41 l0 (ji7)).f0) && (((rd_T41 l0 x13_1).f1) == ((rd_T41 l0 (ji7)).f1))) = false := by simpa using c12))
     (try (have c12b2 : (((rd_T41 l0 x13_1).f0) == ((rd_T41 l0 (ji7)).f0) && (((rd_T41 l0 x13_1).f1) == ((rd_T41 l0 (ji7)).f1))) = false := by simpa using c12))
     (try (have c12b3 : ¬ (((rd_T41 l0 x13_1).f0) = ((rd_T41 l0 (ji7)).f0) && (((rd_T41 l0 x13_1).f1) == ((rd_T41 l0 (ji7)).f1))) := by simpa using c12))
     clear c12
     replace H := Option.bind_eq_some_iff.mp H
     obtain ⟨⟨t107, t108⟩, A230, H⟩ := H
     try dsimp only at H
     have A23 := Aside0.mk A230
     clear A230
     replace H := Option.bind_eq_some_iff.mp H
     obtain ⟨⟨t110, t111⟩, A240, H⟩ := H
     try dsimp only at H
     have A24 := Aside0.mk A240
     clear A240
     have HC25 := Aside0.mk H
     clear H
     try go_wp2
     replace HB := Aside0.mk (below_drew1 HB.out)
     have p101 : 0 ≤ ((ji4) : Int) := dt
     have q101 : (ji4) < (l0.length : Int) := dt
     obtain ⟨ad101, e101, hx101_0, hx101_1⟩ := at_T41 HR0.out (ji4) p101 q101
     have hw101_1 := hx101_1
     have hw101_0 := hx101_0
     cases e101
     replace hx101_0 := hc HB hx101_0
     replace hx101_1 := hc HB hx101_1
     replace p101 := eq_true p101
     replace q101 := eq_true q101
     have p102 : 0 ≤ ((ji7) : Int) := dt
     have q102 : (ji7) < (l0.length : Int) := dt
     obtain ⟨ad102, e102, hx102_0, hx102_1⟩ := at_T41 HR0.out (ji7) p102 q102
     have hw102_1 := hx102_1
     have hw102_0 := hx102_0
     obtain rfl : ad101 = ad102 := (by injection e102)
     replace hx102_0 := hc HB hx102_0
     replace hx102_1 := hc HB hx102_1
     replace p102 := eq_true p102
     replace q102 := eq_true q102
     refine start_ (n := 20) (S := fun w' => w'.cell? (ad101.add (((ji4)).toNat * 2)) = some (.int .i64 ((rd_T41 l0 (ji4)).f0)) ∧ w'.cell? ⟨(ad101.add (((ji4)).toNat * 2)).block, (ad101.add (((ji4)).toNat * 2)).off + 1, none⟩ = some (.int .i64 ((rd_T41 l0 (ji4)).f1)) ∧ w'.cell? (ad101.add (((ji7)).toNat * 2)) = some (.int .i64 ((rd_T41 l0 (ji7)).f0)) ∧ w'.cell? ⟨(ad101.add (((ji7)).toNat * 2)).block, (ad101.add (((ji7)).toNat * 2)).off + 1, none⟩ = some (.int .i64 ((rd_T41 l0 (ji7)).f1))) (ds := []) #[N,N,N,N,N,N,N,N,N,N,N,N,N,N,N,N,N,N,N,N] (by kernel_rfl) rfl rfl ⟨(hc HB hw101_0), (hc HB hw101_1), (hc HB hw102_0), (hc HB hw102_1)⟩ (fun hHeld => ?_); refine with_tabW shape_simple.tab5 shape_simple.bits5 (fun HT_ HW_ => ?_)
     generalize wr.drew = w26 at HB hx101_0 hx101_1 hx102_0 hx102_1 hHeld ⊢
     refine pu 0 16 HT_ ?_
     refine pu 1 17 HT_ ?_
     refine pu 2 18 HT_ ?_
     refine pu 3 19 HT_ ?_
     refine pu 4 20 HT_ ?_
     refine pu 5 21 HT_ ?_
     refine pu 6 22 HT_ ?_
     refine pu 7 23 HT_ ?_
     refine pu 9 25 HT_ ?_
     refine pu 10 26 HT_ ?_
     refine pu 11 27 HT_ ?_
     refine pu 12 28 HT_ ?_
     refine pu 13 29 HT_ ?_
     refine pu 14 30 HT_ ?_
     refine tk4 8 24 hHeld HT_ HW_ ?_
     refine tk4 15 31 hHeld HT_ HW_ ?_
     refine join_ (σ := Nat × Nat) 2 #[T,T,T,T,T,T,T,T,T,T,T,T,T,T,T,T,T,T,N,N] (fun s_ => [(5, .pointer (some ⟨s_.1, 0, none⟩)), (6, .pointer (some ⟨s_.2, 0, none⟩))]) (fun s_ w' => (w'.cell? (ad101.add (((ji4)).toNat * 2)) = some (.int .i64 ((rd_T41 l0 (ji4)).f0)) ∧ w'.cell? ⟨(ad101.add (((ji4)).toNat * 2)).block, (ad101.add (((ji4)).toNat * 2)).off + 1, none⟩ = some (.int .i64 ((rd_T41 l0 (ji4)).f1)) ∧ w'.cell? (ad101.add (((ji7)).toNat * 2)) = some (.int .i64 ((rd_T41 l0 (ji7)).f0)) ∧ w'.cell? ⟨(ad101.add (((ji7)).toNat * 2)).block, (ad101.add (((ji7)).toNat * 2)).off + 1, none⟩ = some (.int .i64 ((rd_T41 l0 (ji7)).f1))) ∧ (w'.heap[s_.1]? = some (.cells #[.int .i64 0, .int .i64 0] 41 (0, 0))) ∧ (w'.heap[s_.2]? = some (.cells #[.int .i64 0, .int .i64 0] 41 (0, 0))) ∧ (w.heap.size ≤ s_.1) ∧ (w.heap.size ≤ s_.1) ∧ (s_.2 ≠ s_.1) ∧ (s_.1 ≠ s_.2) ∧ (w.heap.size ≤ s_.2) ∧ (w.heap.size ≤ s_.2) ∧ (Below w.heap.size w w')) ?_ ?_
     rotate_left
     ·intro hCont
      refine two_ (i := 16) (j := 17) (Ni := some 5) (Nj := some 6) #[T,T,T,T,T,T,T,T,T,T,T,T,T,T,T,T,T,N,N,N] #[T,T,T,T,T,T,T,T,T,T,T,T,T,T,T,T,N,T,N,N] rfl rfl rfl rfl (on2 HT_) (by decide) (by decide) (fun K hK => ?_) (fun K hK => ?_)
      ·skip
       refine bxs 5 #[.int .i64 0, .int .i64 0] 41 ?_
       intro gb103 hg w27 hbox hb
       have BK103 := Aside0.mk (hbox)
       have GW103 := ga w hg
       have GE103 := GW103
       replace HB := bz hb
       clear hb hbox hg
       refine hK.out _ _ ⟨(hc HB hw101_0), (hc HB hw101_1), (hc HB hw102_0), (hc HB hw102_1)⟩ (fun hHeld => ?_)
       clear hK K
       refine nm 5 ?_
       refine one_ (i := 17) (N := some 6) #[T,T,T,T,T,T,T,T,T,T,T,T,T,T,T,T,T,T,N,N] rfl rfl (on1 HT_) (by decide) (fun K hK => ?_)
       refine bxs 6 #[.int .i64 0, .int .i64 0] 41 ?_
       intro gb104 hg w28 hbox hb
       have BK104 := Aside0.mk (hbox)
       have GW104 := ga w hg
       have GE104 := GW104
       have NB103_104 := nb hg (kl BK103)
       have NB104_103 := bn NB103_104
       replace BK103 := kb BK103 hb
       replace HB := bz hb
       clear hb hbox hg
       refine hK.out _ _ ⟨(hc HB hw101_0), (hc HB hw101_1), (hc HB hw102_0), (hc HB hw102_1)⟩ (fun hHeld => ?_)
       clear hK K
       refine nm 6 ?_
       exact norm_ pa (hCont (gb103, gb104) _ ⟨hHeld, bk BK103, bk BK104, GW103.out, GE103.out, NB104_103.out, NB103_104.out, GW104.out, GE104.out, bh⟩)
      ·skip
       refine bxs 6 #[.int .i64 0, .int .i64 0] 41 ?_
       intro gb104 hg w27 hbox hb
       have BK104 := Aside0.mk (hbox)
       have GW104 := ga w hg
       have GE104 := GW104
       replace HB := bz hb
       clear hb hbox hg
       refine hK.out _ _ ⟨(hc HB hw101_0), (hc HB hw101_1), (hc HB hw102_0), (hc HB hw102_1)⟩ (fun hHeld => ?_)
       clear hK K
       refine nm 6 ?_
       refine one_ (i := 16) (N := some 5) #[T,T,T,T,T,T,T,T,T,T,T,T,T,T,T,T,T,T,N,N] rfl rfl (on1 HT_) (by decide) (fun K hK => ?_)
       refine bxs 5 #[.int .i64 0, .int .i64 0] 41 ?_
       intro gb103 hg w28 hbox hb
       have BK103 := Aside0.mk (hbox)
       have GW103 := ga w hg
       have GE103 := GW103
       have NB104_103 := nb hg (kl BK104)
       have NB103_104 := bn NB104_103
       replace BK104 := kb BK104 hb
       replace HB := bz hb
       clear hb hbox hg
       refine hK.out _ _ ⟨(hc HB hw101_0), (hc HB hw101_1), (hc HB hw102_0), (hc HB hw102_1)⟩ (fun hHeld => ?_)
       clear hK K
       refine nm 5 ?_
       exact norm_ pa (hCont (gb103, gb104) _ ⟨hHeld, bk BK103, bk BK104, GW103.out, GE103.out, NB104_103.out, NB103_104.out, GW104.out, GE104.out, bh⟩)
     rintro ⟨gb103, gb104⟩ w29 ⟨hS_, h0_, h1_, h2_, h3_, h4_, h5_, h6_, h7_, h8_⟩
     have BK103 := Aside0.mk h0_
     have BK104 := Aside0.mk h1_
     have GW103 := Aside0.mk h2_
     have GE103 := Aside0.mk h3_
     have NB104_103 := Aside0.mk h4_
     have NB103_104 := Aside0.mk h5_
     have GW104 := Aside0.mk h6_
     have GE104 := Aside0.mk h7_
     replace HB := Aside0.mk h8_
     clear h0_ h1_ h2_ h3_ h4_ h5_ h6_ h7_ h8_
     have hHeld := hS_
     refine nn ?_
     refine one_ (i := 18) (N := none) #[T,T,T,T,T,T,T,T,T,T,T,T,T,T,T,T,T,T,T,N] rfl rfl (on1 HT_) (by decide) (fun K hK => ?_)
     have hs30 : w29.cell? ⟨gb103, 0, none⟩ = some (.int .i64 0) := bc BK103 0
     have hfs30 := blk_frozen BK103.out 0
     have hns30_1 := NB104_103.out
     have hms30_1 := NB103_104.out
     have hs31 : w29.cell? ⟨gb103, 1, none⟩ = some (.int .i64 0) := bc BK103 1
     have hfs31 := blk_frozen BK103.out 1
     have hns31_1 := NB104_103.out
     have hms31_1 := NB103_104.out
     refine skip_ (w1 := ?_) (by rfl) rfl ?_ ?_
     rotate_left
     ·go_simp
      rfl
     refine hK.out _ _ ⟨((cell_far (p := ⟨gb103, _, none⟩) (fr hw101_0 GW103) _).trans (((cell_far (p := ⟨gb103, _, none⟩) (fr hw101_0 GW103) _).trans (hHeld.1)))), ((cell_far (p := ⟨gb103, _, none⟩) (fr hw101_1 GW103) _).trans (((cell_far (p := ⟨gb103, _, none⟩) (fr hw101_1 GW103) _).trans (hHeld.2.1)))), ((cell_far (p := ⟨gb103, _, none⟩) (fr hw102_0 GW103) _).trans (((cell_far (p := ⟨gb103, _, none⟩) (fr hw102_0 GW103) _).trans (hHeld.2.2.1)))), ((cell_far (p := ⟨gb103, _, none⟩) (fr hw102_1 GW103) _).trans (((cell_far (p := ⟨gb103, _, none⟩) (fr hw102_1 GW103) _).trans (hHeld.2.2.2))))⟩ (fun hHeld => ?_)
     clear hK K
     refine one_ (i := 19) (N := none) #[T,T,T,T,T,T,T,T,T,T,T,T,T,T,T,T,T,T,T,T] rfl rfl (on1 HT_) (by decide) (fun K hK => ?_)
     have hs32 : w29.cell? ⟨gb104, 0, none⟩ = some (.int .i64 0) := bc BK104 0
     have hfs32 := blk_frozen BK104.out 0
     have hns32_0 := NB103_104.out
     have hms32_0 := NB104_103.out
     have hs33 : w29.cell? ⟨gb104, 1, none⟩ = some (.int .i64 0) := bc BK104 1
     have hfs33 := blk_frozen BK104.out 1
     have hns33_0 := NB103_104.out
     have hms33_0 := NB104_103.out
     refine skip_ (w1 := ?_) (by rfl) rfl ?_ ?_
     rotate_left
     ·go_simp
      rfl
     refine hK.out _ _ ⟨((cell_far (p := ⟨gb104, _, none⟩) (fr hw101_0 GW104) _).trans (((cell_far (p := ⟨gb104, _, none⟩) (fr hw101_0 GW104) _).trans (hHeld.1)))), ((cell_far (p := ⟨gb104, _, none⟩) (fr hw101_1 GW104) _).trans (((cell_far (p := ⟨gb104, _, none⟩) (fr hw101_1 GW104) _).trans (hHeld.2.1)))), ((cell_far (p := ⟨gb104, _, none⟩) (fr hw102_0 GW104) _).trans (((cell_far (p := ⟨gb104, _, none⟩) (fr hw102_0 GW104) _).trans (hHeld.2.2.1)))), ((cell_far (p := ⟨gb104, _, none⟩) (fr hw102_1 GW104) _).trans (((cell_far (p := ⟨gb104, _, none⟩) (fr hw102_1 GW104) _).trans (hHeld.2.2.2))))⟩ (fun hHeld => ?_)
     clear hK K
     refine done_ (done_of HT_.out (by kernel_rfl)) ?_
     try go_wp2
     have n0_ : Aside0 (((((w29.setCell ⟨gb103, 0, none⟩ (.int .i64 ((rd_T41 l0 (ji4)).f0))).setCell ⟨gb103, 1, none⟩ (.int .i64 ((rd_T41 l0 (ji4)).f1))).setCell ⟨gb104, 0, none⟩ (.int .i64 ((rd_T41 l0 (ji7)).f0))).setCell ⟨gb104, 1, none⟩ (.int .i64 ((rd_T41 l0 (ji7)).f1))).heap[gb103]? = some (.cells #[.int .i64 ((rd_T41 l0 (ji4)).f0), .int .i64 ((rd_T41 l0 (ji4)).f1)] 41 (0, 0))) := ⟨by refine bf NB103_104 ?_; refine bf NB103_104 ?_; refine bd ?_; refine blk_put (cs := #[.int .i64 ((rd_T41 l0 (ji4)).f0), .int .i64 0]) ?_ 1 _ rfl; refine bd ?_; refine blk_put (cs := #[.int .i64 0, .int .i64 0]) ?_ 0 _ rfl; refine bd ?_; exact BK103.out⟩
     have n1_ : Aside0 (((((w29.setCell ⟨gb103, 0, none⟩ (.int .i64 ((rd_T41 l0 (ji4)).f0))).setCell ⟨gb103, 1, none⟩ (.int .i64 ((rd_T41 l0 (ji4)).f1))).setCell ⟨gb104, 0, none⟩ (.int .i64 ((rd_T41 l0 (ji7)).f0))).setCell ⟨gb104, 1, none⟩ (.int .i64 ((rd_T41 l0 (ji7)).f1))).heap[gb104]? = some (.cells #[.int .i64 ((rd_T41 l0 (ji7)).f0), .int .i64 ((rd_T41 l0 (ji7)).f1)] 41 (0, 0))) := ⟨by refine bd ?_; refine blk_put (cs := #[.int .i64 ((rd_T41 l0 (ji7)).f0), .int .i64 0]) ?_ 1 _ rfl; refine bd ?_; refine blk_put (cs := #[.int .i64 0, .int .i64 0]) ?_ 0 _ rfl; refine bf NB104_103 ?_; refine bf NB104_103 ?_; refine bd ?_; exact BK104.out⟩
     have n2_ : Aside0 (Below w.heap.size w ((((w29.setCell ⟨gb103, 0, none⟩ (.int .i64 ((rd_T41 l0 (ji4)).f0))).setCell ⟨gb103, 1, none⟩ (.int .i64 ((rd_T41 l0 (ji4)).f1))).setCell ⟨gb104, 0, none⟩ (.int .i64 ((rd_T41 l0 (ji7)).f0))).setCell ⟨gb104, 1, none⟩ (.int .i64 ((rd_T41 l0 (ji7)).f1)))) := ⟨bh⟩
     (try clear BK103); (try clear BK104); (try clear HB)
     generalize ((((w29.setCell ⟨gb103, 0, none⟩ (.int .i64 ((rd_T41 l0 (ji4)).f0))).setCell ⟨gb103, 1, none⟩ (.int .i64 ((rd_T41 l0 (ji4)).f1))).setCell ⟨gb104, 0, none⟩ (.int .i64 ((rd_T41 l0 (ji7)).f0))).setCell ⟨gb104, 1, none⟩ (.int .i64 ((rd_T41 l0 (ji7)).f1))) = w34 at n0_ n1_ n2_ ⊢
     have BK103 := n0_
     have BK104 := n1_
     have HB := n2_
     clear n0_ n1_ n2_
     replace BK103 := Aside0.mk (blk_drew BK103.out)
     replace BK104 := Aside0.mk (blk_drew BK104.out)
     replace HB := Aside0.mk (below_drew1 HB.out)
     have p105 : 0 ≤ (x13_1 : Int) := dt
     have q105 : x13_1 < (l0.length : Int) := dt
     obtain ⟨ad105, e105, hx105_0, hx105_1⟩ := at_T41 HR0.out x13_1 p105 q105
     have hw105_1 := hx105_1
     have hw105_0 := hx105_0
     obtain rfl : ad101 = ad105 := (by injection e105)
     replace hx105_0 := hc HB hx105_0
     replace hx105_1 := hc HB hx105_1
     replace p105 := eq_true p105
     replace q105 := eq_true q105
     refine start_ (n := 6) (S := fun w' => w'.cell? ⟨gb104, 0, none⟩ = some (.int .i64 ((rd_T41 l0 (ji7)).f0)) ∧ w'.cell? ⟨gb104, 1, none⟩ = some (.int .i64 ((rd_T41 l0 (ji7)).f1)) ∧ w'.cell? (ad101.add ((x13_1).toNat * 2)) = some (.int .i64 ((rd_T41 l0 x13_1).f0)) ∧ w'.cell? ⟨(ad101.add ((x13_1).toNat * 2)).block, (ad101.add ((x13_1).toNat * 2)).off + 1, none⟩ = some (.int .i64 ((rd_T41 l0 x13_1).f1))) (ds := []) #[N,N,N,N,N,N] (by kernel_rfl) rfl rfl ⟨bc BK104 0, bc BK104 1, (hc HB hw105_0), (hc HB hw105_1)⟩ (fun hHeld => ?_)
     generalize w34.drew = w35 at BK103 BK104 HB hx105_0 hx105_1 hHeld ⊢
     refine pure_ (i := 0) (N := some 32) (v := ?_) (a' := ?_) #[T,N,N,N,N,N] rfl rfl (by kernel_rfl) (fun _ _ _ h => h) (Or.inl ⟨by rfl, ?_⟩) ?_ ?_
     rotate_left
     ·intro w'
      go_simp
      with_reducible rfl
     rotate_left
     ·simp only [Act.put, List.setIfInBounds_toArray, List.set_cons_zero, List.set_cons_succ, i64_w, i32_w]
      rfl
     refine pure_ (i := 1) (N := some 33) (v := ?_) (a' := ?_) #[T,T,N,N,N,N] rfl rfl (by kernel_rfl) (fun _ _ _ h => h) (Or.inl ⟨by rfl, ?_⟩) ?_ ?_
     rotate_left
     ·intro w'
      go_simp
      with_reducible rfl
     rotate_left
     ·simp only [Act.put, List.setIfInBounds_toArray, List.set_cons_zero, List.set_cons_succ, i64_w, i32_w]
      rfl
     refine pure_ (i := 2) (N := some 34) (v := ?_) (a' := ?_) #[T,T,T,N,N,N] rfl rfl (by kernel_rfl) (fun _ _ _ h => h) (Or.inl ⟨by rfl, ?_⟩) ?_ ?_
     rotate_left
     ·intro w'
      go_simp
      with_reducible rfl
     rotate_left
     ·simp only [Act.put, List.setIfInBounds_toArray, List.set_cons_zero, List.set_cons_succ, i64_w, i32_w]
      rfl
     refine take_ (i := 3) (N := some 35) (v := ?_) (a' := ?_) #[T,T,T,T,N,N] rfl rfl (by kernel_rfl) (fun _ _ _ h => h) (Or.inl ⟨by rfl, ?_⟩) hHeld ?_ ?_
     rotate_left
     ·rintro w' ⟨s0, s1, s2, s3⟩
      go_simp
      with_reducible rfl
     rotate_left
     ·simp only [Act.put, List.setIfInBounds_toArray, List.set_cons_zero, List.set_cons_succ, i64_w, i32_w]
      rfl
     refine take_ (i := 4) (N := some 36) (v := ?_) (a' := ?_) #[T,T,T,T,T,N] rfl rfl (by kernel_rfl) (fun _ _ _ h => h) (Or.inl ⟨by rfl, ?_⟩) hHeld ?_ ?_
     rotate_left
     ·rintro w' ⟨s0, s1, s2, s3⟩
      go_simp
      with_reducible rfl
     rotate_left
     ·simp only [Act.put, List.setIfInBounds_toArray, List.set_cons_zero, List.set_cons_succ, i64_w, i32_w]
      rfl
     refine pure_ (i := 5) (N := some 37) (v := ?_) (a' := ?_) #[T,T,T,T,T,T] rfl rfl (by kernel_rfl) (fun _ _ _ h => h) (Or.inl ⟨by rfl, ?_⟩) ?_ ?_
     rotate_left
     ·intro w'
      go_simp
      with_reducible rfl
     rotate_left
     ·simp only [Act.put, List.setIfInBounds_toArray, List.set_cons_zero, List.set_cons_succ, i64_w, i32_w]
      rfl
     refine done_ (by kernel_rfl) ?_
     try go_wp2
     replace BK103 := Aside0.mk (blk_drew BK103.out)
     replace BK104 := Aside0.mk (blk_drew BK104.out)
     replace HB := Aside0.mk (below_drew1 HB.out)
     have p106 : 0 ≤ (x13_1 : Int) := dt
     have q106 : x13_1 < (l0.length : Int) := dt
     obtain ⟨ad106, e106, hx106_0, hx106_1⟩ := at_T41 HR0.out x13_1 p106 q106
     have hw106_1 := hx106_1
     have hw106_0 := hx106_0
     obtain rfl : ad101 = ad106 := (by injection e106)
     replace hx106_0 := hc HB hx106_0
     replace hx106_1 := hc HB hx106_1
     replace p106 := eq_true p106
     replace q106 := eq_true q106
     have p109 : 0 ≤ (x13_1 : Int) := dt
     have q109 : x13_1 < (l0.length : Int) := dt
     obtain ⟨ad109, e109, hx109_0, hx109_1⟩ := at_T41 HR0.out x13_1 p109 q109
     have hw109_1 := hx109_1
     have hw109_0 := hx109_0
     obtain rfl : ad101 = ad109 := (by injection e109)
     replace hx109_0 := hc HB hx109_0
     replace hx109_1 := hc HB hx109_1
     replace p109 := eq_true p109
     replace q109 := eq_true q109
     refine start_ (n := 16) (S := fun w' => w'.cell? ⟨gb103, 0, none⟩ = some (.int .i64 ((rd_T41 l0 (ji4)).f0)) ∧ w'.cell? ⟨gb103, 1, none⟩ = some (.int .i64 ((rd_T41 l0 (ji4)).f1)) ∧ w'.cell? ⟨gb104, 0, none⟩ = some (.int .i64 ((rd_T41 l0 (ji7)).f0)) ∧ w'.cell? ⟨gb104, 1, none⟩ = some (.int .i64 ((rd_T41 l0 (ji7)).f1)) ∧ w'.cell? (ad101.add ((x13_1).toNat * 2)) = some (.int .i64 ((rd_T41 l0 x13_1).f0)) ∧ w'.cell? ⟨(ad101.add ((x13_1).toNat * 2)).block, (ad101.add ((x13_1).toNat * 2)).off + 1, none⟩ = some (.int .i64 ((rd_T41 l0 x13_1).f1)) ∧ w'.cell? (ad101.add ((x13_1).toNat * 2)) = some (.int .i64 ((rd_T41 l0 x13_1).f0)) ∧ w'.cell? ⟨(ad101.add ((x13_1).toNat * 2)).block, (ad101.add ((x13_1).toNat * 2)).off + 1, none⟩ = some (.int .i64 ((rd_T41 l0 x13_1).f1))) (ds := []) #[N,N,N,N,N,N,N,N,N,N,N,N,N,N,N,N] (by kernel_rfl) rfl rfl ⟨bc BK103 0, bc BK103 1, bc BK104 0, bc BK104 1, (hc HB hw106_0), (hc HB hw106_1), (hc HB hw109_0), (hc HB hw109_1)⟩ (fun hHeld => ?_); refine with_tabW shape_simple.tab8 shape_simple.bits8 (fun HT_ HW_ => ?_)
     generalize w35.drew = w36 at BK103 BK104 HB hx106_0 hx106_1 hx109_0 hx109_1 hHeld ⊢
     refine pu 1 39 HT_ ?_
     refine pu 2 40 HT_ ?_
     refine pu 3 41 HT_ ?_
     refine pu 7 45 HT_ ?_
     refine pu 8 46 HT_ ?_
     refine pu 9 47 HT_ ?_
     refine tk8 0 38 hHeld HT_ HW_ ?_
     refine tk8 4 42 hHeld HT_ HW_ ?_
     refine tk8 6 44 hHeld HT_ HW_ ?_
     refine tk8 10 48 hHeld HT_ HW_ ?_
     refine join_ (σ := Nat × Nat) 2 #[T,T,T,T,T,T,T,T,T,T,T,T,T,T,N,N] (fun s_ => [(43, .agg #[.int .i64 t107, .int .i64 t108]), (49, .agg #[.int .i64 t110, .int .i64 t111]), (7, .pointer (some ⟨s_.1, 0, none⟩)), (8, .pointer (some ⟨s_.2, 0, none⟩))]) (fun s_ w' => (w'.cell? ⟨gb103, 0, none⟩ = some (.int .i64 ((rd_T41 l0 (ji4)).f0)) ∧ w'.cell? ⟨gb103, 1, none⟩ = some (.int .i64 ((rd_T41 l0 (ji4)).f1)) ∧ w'.cell? ⟨gb104, 0, none⟩ = some (.int .i64 ((rd_T41 l0 (ji7)).f0)) ∧ w'.cell? ⟨gb104, 1, none⟩ = some (.int .i64 ((rd_T41 l0 (ji7)).f1)) ∧ w'.cell? (ad101.add ((x13_1).toNat * 2)) = some (.int .i64 ((rd_T41 l0 x13_1).f0)) ∧ w'.cell? ⟨(ad101.add ((x13_1).toNat * 2)).block, (ad101.add ((x13_1).toNat * 2)).off + 1, none⟩ = some (.int .i64 ((rd_T41 l0 x13_1).f1)) ∧ w'.cell? (ad101.add ((x13_1).toNat * 2)) = some (.int .i64 ((rd_T41 l0 x13_1).f0)) ∧ w'.cell? ⟨(ad101.add ((x13_1).toNat * 2)).block, (ad101.add ((x13_1).toNat * 2)).off + 1, none⟩ = some (.int .i64 ((rd_T41 l0 x13_1).f1))) ∧ (w'.heap[gb103]? = some (.cells #[.int .i64 ((rd_T41 l0 (ji4)).f0), .int .i64 ((rd_T41 l0 (ji4)).f1)] 41 (0, 0))) ∧ (w'.heap[gb104]? = some (.cells #[.int .i64 ((rd_T41 l0 (ji7)).f0), .int .i64 ((rd_T41 l0 (ji7)).f1)] 41 (0, 0))) ∧ (w'.heap[s_.1]? = some (.cells #[.int .i64 0, .int .i64 0] 41 (0, 0))) ∧ (w'.heap[s_.2]? = some (.cells #[.int .i64 0, .int .i64 0] 41 (0, 0))) ∧ (w.heap.size ≤ s_.1) ∧ (w.heap.size ≤ s_.1) ∧ (gb103 ≠ s_.1) ∧ (s_.1 ≠ gb103) ∧ (gb104 ≠ s_.1) ∧ (s_.1 ≠ gb104) ∧ (s_.2 ≠ s_.1) ∧ (s_.1 ≠ s_.2) ∧ (w.heap.size ≤ s_.2) ∧ (w.heap.size ≤ s_.2) ∧ (gb103 ≠ s_.2) ∧ (s_.2 ≠ gb103) ∧ (gb104 ≠ s_.2) ∧ (s_.2 ≠ gb104) ∧ (Below w.heap.size w w')) ?_ ?_
     rotate_left
     ·intro hJ5_11_12_13
      refine join_ (σ := Nat) 3 #[T,T,T,T,T,T,T,T,T,T,T,T,T,N,N,N] (fun s_ => [(43, .agg #[.int .i64 t107, .int .i64 t108]), (49, .agg #[.int .i64 t110, .int .i64 t111]), (7, .pointer (some ⟨s_, 0, none⟩))]) (fun s_ w' => (w'.cell? ⟨gb103, 0, none⟩ = some (.int .i64 ((rd_T41 l0 (ji4)).f0)) ∧ w'.cell? ⟨gb103, 1, none⟩ = some (.int .i64 ((rd_T41 l0 (ji4)).f1)) ∧ w'.cell? ⟨gb104, 0, none⟩ = some (.int .i64 ((rd_T41 l0 (ji7)).f0)) ∧ w'.cell? ⟨gb104, 1, none⟩ = some (.int .i64 ((rd_T41 l0 (ji7)).f1)) ∧ w'.cell? (ad101.add ((x13_1).toNat * 2)) = some (.int .i64 ((rd_T41 l0 x13_1).f0)) ∧ w'.cell? ⟨(ad101.add ((x13_1).toNat * 2)).block, (ad101.add ((x13_1).toNat * 2)).off + 1, none⟩ = some (.int .i64 ((rd_T41 l0 x13_1).f1)) ∧ w'.cell? (ad101.add ((x13_1).toNat * 2)) = some (.int .i64 ((rd_T41 l0 x13_1).f0)) ∧ w'.cell? ⟨(ad101.add ((x13_1).toNat * 2)).block, (ad101.add ((x13_1).toNat * 2)).off + 1, none⟩ = some (.int .i64 ((rd_T41 l0 x13_1).f1))) ∧ (w'.heap[gb103]? = some (.cells #[.int .i64 ((rd_T41 l0 (ji4)).f0), .int .i64 ((rd_T41 l0 (ji4)).f1)] 41 (0, 0))) ∧ (w'.heap[gb104]? = some (.cells #[.int .i64 ((rd_T41 l0 (ji7)).f0), .int .i64 ((rd_T41 l0 (ji7)).f1)] 41 (0, 0))) ∧ (w'.heap[s_]? = some (.cells #[.int .i64 0, .int .i64 0] 41 (0, 0))) ∧ (w.heap.size ≤ s_) ∧ (w.heap.size ≤ s_) ∧ (gb103 ≠ s_) ∧ (s_ ≠ gb103) ∧ (gb104 ≠ s_) ∧ (s_ ≠ gb104) ∧ (Below w.heap.size w w')) ?_ ?_
      rotate_left
      ·intro hJ5_11_12
       refine join_ (σ := Nat) 3 #[T,T,T,T,T,T,T,T,T,T,T,T,N,T,N,N] (fun s_ => [(43, .agg #[.int .i64 t107, .int .i64 t108]), (49, .agg #[.int .i64 t110, .int .i64 t111]), (8, .pointer (some ⟨s_, 0, none⟩))]) (fun s_ w' => (w'.cell? ⟨gb103, 0, none⟩ = some (.int .i64 ((rd_T41 l0 (ji4)).f0)) ∧ w'.cell? ⟨gb103, 1, none⟩ = some (.int .i64 ((rd_T41 l0 (ji4)).f1)) ∧ w'.cell? ⟨gb104, 0, none⟩ = some (.int .i64 ((rd_T41 l0 (ji7)).f0)) ∧ w'.cell? ⟨gb104, 1, none⟩ = some (.int .i64 ((rd_T41 l0 (ji7)).f1)) ∧ w'.cell? (ad101.add ((x13_1).toNat * 2)) = some (.int .i64 ((rd_T41 l0 x13_1).f0)) ∧ w'.cell? ⟨(ad101.add ((x13_1).toNat * 2)).block, (ad101.add ((x13_1).toNat * 2)).off + 1, none⟩ = some (.int .i64 ((rd_T41 l0 x13_1).f1)) ∧ w'.cell? (ad101.add ((x13_1).toNat * 2)) = some (.int .i64 ((rd_T41 l0 x13_1).f0)) ∧ w'.cell? ⟨(ad101.add ((x13_1).toNat * 2)).block, (ad101.add ((x13_1).toNat * 2)).off + 1, none⟩ = some (.int .i64 ((rd_T41 l0 x13_1).f1))) ∧ (w'.heap[gb103]? = some (.cells #[.int .i64 ((rd_T41 l0 (ji4)).f0), .int .i64 ((rd_T41 l0 (ji4)).f1)] 41 (0, 0))) ∧ (w'.heap[gb104]? = some (.cells #[.int .i64 ((rd_T41 l0 (ji7)).f0), .int .i64 ((rd_T41 l0 (ji7)).f1)] 41 (0, 0))) ∧ (w'.heap[s_]? = some (.cells #[.int .i64 0, .int .i64 0] 41 (0, 0))) ∧ (w.heap.size ≤ s_) ∧ (w.heap.size ≤ s_) ∧ (gb103 ≠ s_) ∧ (s_ ≠ gb103) ∧ (gb104 ≠ s_) ∧ (s_ ≠ gb104) ∧ (Below w.heap.size w w')) ?_ ?_
       rotate_left
       ·intro hJ5_11_13
        refine join_ (σ := Nat × Nat) 3 #[T,T,T,T,T,T,T,T,T,T,T,N,T,T,N,N] (fun s_ => [(43, .agg #[.int .i64 t107, .int .i64 t108]), (7, .pointer (some ⟨s_.1, 0, none⟩)), (8, .pointer (some ⟨s_.2, 0, none⟩))]) (fun s_ w' => (w'.cell? ⟨gb103, 0, none⟩ = some (.int .i64 ((rd_T41 l0 (ji4)).f0)) ∧ w'.cell? ⟨gb103, 1, none⟩ = some (.int .i64 ((rd_T41 l0 (ji4)).f1)) ∧ w'.cell? ⟨gb104, 0, none⟩ = some (.int .i64 ((rd_T41 l0 (ji7)).f0)) ∧ w'.cell? ⟨gb104, 1, none⟩ = some (.int .i64 ((rd_T41 l0 (ji7)).f1)) ∧ w'.cell? (ad101.add ((x13_1).toNat * 2)) = some (.int .i64 ((rd_T41 l0 x13_1).f0)) ∧ w'.cell? ⟨(ad101.add ((x13_1).toNat * 2)).block, (ad101.add ((x13_1).toNat * 2)).off + 1, none⟩ = some (.int .i64 ((rd_T41 l0 x13_1).f1)) ∧ w'.cell? (ad101.add ((x13_1).toNat * 2)) = some (.int .i64 ((rd_T41 l0 x13_1).f0)) ∧ w'.cell? ⟨(ad101.add ((x13_1).toNat * 2)).block, (ad101.add ((x13_1).toNat * 2)).off + 1, none⟩ = some (.int .i64 ((rd_T41 l0 x13_1).f1))) ∧ (w'.heap[gb103]? = some (.cells #[.int .i64 ((rd_T41 l0 (ji4)).f0), .int .i64 ((rd_T41 l0 (ji4)).f1)] 41 (0, 0))) ∧ (w'.heap[gb104]? = some (.cells #[.int .i64 ((rd_T41 l0 (ji7)).f0), .int .i64 ((rd_T41 l0 (ji7)).f1)] 41 (0, 0))) ∧ (w'.heap[s_.1]? = some (.cells #[.int .i64 0, .int .i64 0] 41 (0, 0))) ∧ (w'.heap[s_.2]? = some (.cells #[.int .i64 0, .int .i64 0] 41 (0, 0))) ∧ (w.heap.size ≤ s_.1) ∧ (w.heap.size ≤ s_.1) ∧ (gb103 ≠ s_.1) ∧ (s_.1 ≠ gb103) ∧ (gb104 ≠ s_.1) ∧ (s_.1 ≠ gb104) ∧ (s_.2 ≠ s_.1) ∧ (s_.1 ≠ s_.2) ∧ (w.heap.size ≤ s_.2) ∧ (w.heap.size ≤ s_.2) ∧ (gb103 ≠ s_.2) ∧ (s_.2 ≠ gb103) ∧ (gb104 ≠ s_.2) ∧ (s_.2 ≠ gb104) ∧ (Below w.heap.size w w')) ?_ ?_
        rotate_left
        ·intro hJ5_12_13
         refine join_ (σ := Unit) 4 #[T,T,T,T,T,T,T,T,T,T,T,T,N,N,N,N] (fun s_ => [(43, .agg #[.int .i64 t107, .int .i64 t108]), (49, .agg #[.int .i64 t110, .int .i64 t111])]) (fun s_ w' => (w'.cell? ⟨gb103, 0, none⟩ = some (.int .i64 ((rd_T41 l0 (ji4)).f0)) ∧ w'.cell? ⟨gb103, 1, none⟩ = some (.int .i64 ((rd_T41 l0 (ji4)).f1)) ∧ w'.cell? ⟨gb104, 0, none⟩ = some (.int .i64 ((rd_T41 l0 (ji7)).f0)) ∧ w'.cell? ⟨gb104, 1, none⟩ = some (.int .i64 ((rd_T41 l0 (ji7)).f1)) ∧ w'.cell? (ad101.add ((x13_1).toNat * 2)) = some (.int .i64 ((rd_T41 l0 x13_1).f0)) ∧ w'.cell? ⟨(ad101.add ((x13_1).toNat * 2)).block, (ad101.add ((x13_1).toNat * 2)).off + 1, none⟩ = some (.int .i64 ((rd_T41 l0 x13_1).f1)) ∧ w'.cell? (ad101.add ((x13_1).toNat * 2)) = some (.int .i64 ((rd_T41 l0 x13_1).f0)) ∧ w'.cell? ⟨(ad101.add ((x13_1).toNat * 2)).block, (ad101.add ((x13_1).toNat * 2)).off + 1, none⟩ = some (.int .i64 ((rd_T41 l0 x13_1).f1))) ∧ (w'.heap[gb103]? = some (.cells #[.int .i64 ((rd_T41 l0 (ji4)).f0), .int .i64 ((rd_T41 l0 (ji4)).f1)] 41 (0, 0))) ∧ (w'.heap[gb104]? = some (.cells #[.int .i64 ((rd_T41 l0 (ji7)).f0), .int .i64 ((rd_T41 l0 (ji7)).f1)] 41 (0, 0))) ∧ (Below w.heap.size w w')) ?_ ?_
         rotate_left
         ·intro hJ5_11
          refine join_ (σ := Nat) 4 #[T,T,T,T,T,T,T,T,T,T,T,N,T,N,N,N] (fun s_ => [(43, .agg #[.int .i64 t107, .int .i64 t108]), (7, .pointer (some ⟨s_, 0, none⟩))]) (fun s_ w' => (w'.cell? ⟨gb103, 0, none⟩ = some (.int .i64 ((rd_T41 l0 (ji4)).f0)) ∧ w'.cell? ⟨gb103, 1, none⟩ = some (.int .i64 ((rd_T41 l0 (ji4)).f1)) ∧ w'.cell? ⟨gb104, 0, none⟩ = some (.int .i64 ((rd_T41 l0 (ji7)).f0)) ∧ w'.cell? ⟨gb104, 1, none⟩ = some (.int .i64 ((rd_T41 l0 (ji7)).f1)) ∧ w'.cell? (ad101.add ((x13_1).toNat * 2)) = some (.int .i64 ((rd_T41 l0 x13_1).f0)) ∧ w'.cell? ⟨(ad101.add ((x13_1).toNat * 2)).block, (ad101.add ((x13_1).toNat * 2)).off + 1, none⟩ = some (.int .i64 ((rd_T41 l0 x13_1).f1)) ∧ w'.cell? (ad101.add ((x13_1).toNat * 2)) = some (.int .i64 ((rd_T41 l0 x13_1).f0)) ∧ w'.cell? ⟨(ad101.add ((x13_1).toNat * 2)).block, (ad101.add ((x13_1).toNat * 2)).off + 1, none⟩ = some (.int .i64 ((rd_T41 l0 x13_1).f1))) ∧ (w'.heap[gb103]? = some (.cells #[.int .i64 ((rd_T41 l0 (ji4)).f0), .int .i64 ((rd_T41 l0 (ji4)).f1)] 41 (0, 0))) ∧ (w'.heap[gb104]? = some (.cells #[.int .i64 ((rd_T41 l0 (ji7)).f0), .int .i64 ((rd_T41 l0 (ji7)).f1)] 41 (0, 0))) ∧ (w'.heap[s_]? = some (.cells #[.int .i64 0, .int .i64 0] 41 (0, 0))) ∧ (w.heap.size ≤ s_) ∧ (w.heap.size ≤ s_) ∧ (gb103 ≠ s_) ∧ (s_ ≠ gb103) ∧ (gb104 ≠ s_) ∧ (s_ ≠ gb104) ∧ (Below w.heap.size w w')) ?_ ?_
          rotate_left
          ·intro hJ5_12
           refine join_ (σ := Nat) 4 #[T,T,T,T,T,T,T,T,T,T,T,N,N,T,N,N] (fun s_ => [(43, .agg #[.int .i64 t107, .int .i64 t108]), (8, .pointer (some ⟨s_, 0, none⟩))]) (fun s_ w' => (w'.cell? ⟨gb103, 0, none⟩ = some (.int .i64 ((rd_T41 l0 (ji4)).f0)) ∧ w'.cell? ⟨gb103, 1, none⟩ = some (.int .i64 ((rd_T41 l0 (ji4)).f1)) ∧ w'.cell? ⟨gb104, 0, none⟩ = some (.int .i64 ((rd_T41 l0 (ji7)).f0)) ∧ w'.cell? ⟨gb104, 1, none⟩ = some (.int .i64 ((rd_T41 l0 (ji7)).f1)) ∧ w'.cell? (ad101.add ((x13_1).toNat * 2)) = some (.int .i64 ((rd_T41 l0 x13_1).f0)) ∧ w'.cell? ⟨(ad101.add ((x13_1).toNat * 2)).block, (ad101.add ((x13_1).toNat * 2)).off + 1, none⟩ = some (.int .i64 ((rd_T41 l0 x13_1).f1)) ∧ w'.cell? (ad101.add ((x13_1).toNat * 2)) = some (.int .i64 ((rd_T41 l0 x13_1).f0)) ∧ w'.cell? ⟨(ad101.add ((x13_1).toNat * 2)).block, (ad101.add ((x13_1).toNat * 2)).off + 1, none⟩ = some (.int .i64 ((rd_T41 l0 x13_1).f1))) ∧ (w'.heap[gb103]? = some (.cells #[.int .i64 ((rd_T41 l0 (ji4)).f0), .int .i64 ((rd_T41 l0 (ji4)).f1)] 41 (0, 0))) ∧ (w'.heap[gb104]? = some (.cells #[.int .i64 ((rd_T41 l0 (ji7)).f0), .int .i64 ((rd_T41 l0 (ji7)).f1)] 41 (0, 0))) ∧ (w'.heap[s_]? = some (.cells #[.int .i64 0, .int .i64 0] 41 (0, 0))) ∧ (w.heap.size ≤ s_) ∧ (w.heap.size ≤ s_) ∧ (gb103 ≠ s_) ∧ (s_ ≠ gb103) ∧ (gb104 ≠ s_) ∧ (s_ ≠ gb104) ∧ (Below w.heap.size w w')) ?_ ?_
           rotate_left
           ·intro hJ5_13
            refine join_ (σ := Nat × Nat) 4 #[T,T,T,T,T,N,T,T,T,T,T,N,T,T,N,N] (fun s_ => [(7, .pointer (some ⟨s_.1, 0, none⟩)), (8, .pointer (some ⟨s_.2, 0, none⟩))]) (fun s_ w' => (w'.cell? ⟨gb103, 0, none⟩ = some (.int .i64 ((rd_T41 l0 (ji4)).f0)) ∧ w'.cell? ⟨gb103, 1, none⟩ = some (.int .i64 ((rd_T41 l0 (ji4)).f1)) ∧ w'.cell? ⟨gb104, 0, none⟩ = some (.int .i64 ((rd_T41 l0 (ji7)).f0)) ∧ w'.cell? ⟨gb104, 1, none⟩ = some (.int .i64 ((rd_T41 l0 (ji7)).f1)) ∧ w'.cell? (ad101.add ((x13_1).toNat * 2)) = some (.int .i64 ((rd_T41 l0 x13_1).f0)) ∧ w'.cell? ⟨(ad101.add ((x13_1).toNat * 2)).block, (ad101.add ((x13_1).toNat * 2)).off + 1, none⟩ = some (.int .i64 ((rd_T41 l0 x13_1).f1)) ∧ w'.cell? (ad101.add ((x13_1).toNat * 2)) = some (.int .i64 ((rd_T41 l0 x13_1).f0)) ∧ w'.cell? ⟨(ad101.add ((x13_1).toNat * 2)).block, (ad101.add ((x13_1).toNat * 2)).off + 1, none⟩ = some (.int .i64 ((rd_T41 l0 x13_1).f1))) ∧ (w'.heap[gb103]? = some (.cells #[.int .i64 ((rd_T41 l0 (ji4)).f0), .int .i64 ((rd_T41 l0 (ji4)).f1)] 41 (0, 0))) ∧ (w'.heap[gb104]? = some (.cells #[.int .i64 ((rd_T41 l0 (ji7)).f0), .int .i64 ((rd_T41 l0 (ji7)).f1)] 41 (0, 0))) ∧ (w'.heap[s_.1]? = some (.cells #[.int .i64 0, .int .i64 0] 41 (0, 0))) ∧ (w'.heap[s_.2]? = some (.cells #[.int .i64 0, .int .i64 0] 41 (0, 0))) ∧ (w.heap.size ≤ s_.1) ∧ (w.heap.size ≤ s_.1) ∧ (gb103 ≠ s_.1) ∧ (s_.1 ≠ gb103) ∧ (gb104 ≠ s_.1) ∧ (s_.1 ≠ gb104) ∧ (s_.2 ≠ s_.1) ∧ (s_.1 ≠ s_.2) ∧ (w.heap.size ≤ s_.2) ∧ (w.heap.size ≤ s_.2) ∧ (gb103 ≠ s_.2) ∧ (s_.2 ≠ gb103) ∧ (gb104 ≠ s_.2) ∧ (s_.2 ≠ gb104) ∧ (Below w.heap.size w w')) ?_ ?_
            rotate_left
            ·intro hJ12_13
             refine join_ (σ := Unit) 5 #[T,T,T,T,T,T,T,T,T,T,T,N,N,N,N,N] (fun s_ => [(43, .agg #[.int .i64 t107, .int .i64 t108])]) (fun s_ w' => (w'.cell? ⟨gb103, 0, none⟩ = some (.int .i64 ((rd_T41 l0 (ji4)).f0)) ∧ w'.cell? ⟨gb103, 1, none⟩ = some (.int .i64 ((rd_T41 l0 (ji4)).f1)) ∧ w'.cell? ⟨gb104, 0, none⟩ = some (.int .i64 ((rd_T41 l0 (ji7)).f0)) ∧ w'.cell? ⟨gb104, 1, none⟩ = some (.int .i64 ((rd_T41 l0 (ji7)).f1)) ∧ w'.cell? (ad101.add ((x13_1).toNat * 2)) = some (.int .i64 ((rd_T41 l0 x13_1).f0)) ∧ w'.cell? ⟨(ad101.add ((x13_1).toNat * 2)).block, (ad101.add ((x13_1).toNat * 2)).off + 1, none⟩ = some (.int .i64 ((rd_T41 l0 x13_1).f1)) ∧ w'.cell? (ad101.add ((x13_1).toNat * 2)) = some (.int .i64 ((rd_T41 l0 x13_1).f0)) ∧ w'.cell? ⟨(ad101.add ((x13_1).toNat * 2)).block, (ad101.add ((x13_1).toNat * 2)).off + 1, none⟩ = some (.int .i64 ((rd_T41 l0 x13_1).f1))) ∧ (w'.heap[gb103]? = some (.cells #[.int .i64 ((rd_T41 l0 (ji4)).f0), .int .i64 ((rd_T41 l0 (ji4)).f1)] 41 (0, 0))) ∧ (w'.heap[gb104]? = some (.cells #[.int .i64 ((rd_T41 l0 (ji7)).f0), .int .i64 ((rd_T41 l0 (ji7)).f1)] 41 (0, 0))) ∧ (Below w.heap.size w w')) ?_ ?_
             rotate_left
             ·intro hJ5
              refine join_ (σ := Nat) 5 #[T,T,T,T,T,N,T,T,T,T,T,N,T,N,N,N] (fun s_ => [(7, .pointer (some ⟨s_, 0, none⟩))]) (fun s_ w' => (w'.cell? ⟨gb103, 0, none⟩ = some (.int .i64 ((rd_T41 l0 (ji4)).f0)) ∧ w'.cell? ⟨gb103, 1, none⟩ = some (.int .i64 ((rd_T41 l0 (ji4)).f1)) ∧ w'.cell? ⟨gb104, 0, none⟩ = some (.int .i64 ((rd_T41 l0 (ji7)).f0)) ∧ w'.cell? ⟨gb104, 1, none⟩ = some (.int .i64 ((rd_T41 l0 (ji7)).f1)) ∧ w'.cell? (ad101.add ((x13_1).toNat * 2)) = some (.int .i64 ((rd_T41 l0 x13_1).f0)) ∧ w'.cell? ⟨(ad101.add ((x13_1).toNat * 2)).block, (ad101.add ((x13_1).toNat * 2)).off + 1, none⟩ = some (.int .i64 ((rd_T41 l0 x13_1).f1)) ∧ w'.cell? (ad101.add ((x13_1).toNat * 2)) = some (.int .i64 ((rd_T41 l0 x13_1).f0)) ∧ w'.cell? ⟨(ad101.add ((x13_1).toNat * 2)).block, (ad101.add ((x13_1).toNat * 2)).off + 1, none⟩ = some (.int .i64 ((rd_T41 l0 x13_1).f1))) ∧ (w'.heap[gb103]? = some (.cells #[.int .i64 ((rd_T41 l0 (ji4)).f0), .int .i64 ((rd_T41 l0 (ji4)).f1)] 41 (0, 0))) ∧ (w'.heap[gb104]? = some (.cells #[.int .i64 ((rd_T41 l0 (ji7)).f0), .int .i64 ((rd_T41 l0 (ji7)).f1)] 41 (0, 0))) ∧ (w'.heap[s_]? = some (.cells #[.int .i64 0, .int .i64 0] 41 (0, 0))) ∧ (w.heap.size ≤ s_) ∧ (w.heap.size ≤ s_) ∧ (gb103 ≠ s_) ∧ (s_ ≠ gb103) ∧ (gb104 ≠ s_) ∧ (s_ ≠ gb104) ∧ (Below w.heap.size w w')) ?_ ?_
              rotate_left
              ·intro hJ12
               refine join_ (σ := Nat) 5 #[T,T,T,T,T,N,T,T,T,T,T,N,N,T,N,N] (fun s_ => [(8, .pointer (some ⟨s_, 0, none⟩))]) (fun s_ w' => (w'.cell? ⟨gb103, 0, none⟩ = some (.int .i64 ((rd_T41 l0 (ji4)).f0)) ∧ w'.cell? ⟨gb103, 1, none⟩ = some (.int .i64 ((rd_T41 l0 (ji4)).f1)) ∧ w'.cell? ⟨gb104, 0, none⟩ = some (.int .i64 ((rd_T41 l0 (ji7)).f0)) ∧ w'.cell? ⟨gb104, 1, none⟩ = some (.int .i64 ((rd_T41 l0 (ji7)).f1)) ∧ w'.cell? (ad101.add ((x13_1).toNat * 2)) = some (.int .i64 ((rd_T41 l0 x13_1).f0)) ∧ w'.cell? ⟨(ad101.add ((x13_1).toNat * 2)).block, (ad101.add ((x13_1).toNat * 2)).off + 1, none⟩ = some (.int .i64 ((rd_T41 l0 x13_1).f1)) ∧ w'.cell? (ad101.add ((x13_1).toNat * 2)) = some (.int .i64 ((rd_T41 l0 x13_1).f0)) ∧ w'.cell? ⟨(ad101.add ((x13_1).toNat * 2)).block, (ad101.add ((x13_1).toNat * 2)).off + 1, none⟩ = some (.int .i64 ((rd_T41 l0 x13_1).f1))) ∧ (w'.heap[gb103]? = some (.cells #[.int .i64 ((rd_T41 l0 (ji4)).f0), .int .i64 ((rd_T41 l0 (ji4)).f1)] 41 (0, 0))) ∧ (w'.heap[gb104]? = some (.cells #[.int .i64 ((rd_T41 l0 (ji7)).f0), .int .i64 ((rd_T41 l0 (ji7)).f1)] 41 (0, 0))) ∧ (w'.heap[s_]? = some (.cells #[.int .i64 0, .int .i64 0] 41 (0, 0))) ∧ (w.heap.size ≤ s_) ∧ (w.heap.size ≤ s_) ∧ (gb103 ≠ s_) ∧ (s_ ≠ gb103) ∧ (gb104 ≠ s_) ∧ (s_ ≠ gb104) ∧ (Below w.heap.size w w')) ?_ ?_
               rotate_left
               ·intro hJ13
                refine three_ (i := 5) (j := 12) (k := 13) (Ni := some 43) (Nj := some 7) (Nk := some 8) #[T,T,T,T,T,T,T,T,T,T,T,N,N,N,N,N] #[T,T,T,T,T,N,T,T,T,T,T,N,T,N,N,N] #[T,T,T,T,T,N,T,T,T,T,T,N,N,T,N,N] rfl rfl rfl rfl rfl rfl (on3 HT_) (by decide) (by decide) (by decide) (fun K hK => ?_) (fun K hK => ?_) (fun K hK => ?_)
                ·skip
                 refine goes_ Try.func53 (by kernel_rfl) rfl #[.agg #[.int .i64 ((rd_T41 l0 (ji4)).f0), .int .i64 ((rd_T41 l0 (ji4)).f1)], .agg #[.int .i64 ((rd_T41 l0 x13_1).f0), .int .i64 ((rd_T41 l0 x13_1).f1)]] (by rfl) rfl rfl (by (try simp only [List.map_toArray, List.map_cons, List.map_nil]); first | done | (simp only [hji4]; rfl) | rfl | (simp only [List.length_drop, List.length_take]; rfl)) ?_
                 with_reducible refine (shape_sub.calls ((rd_T41 l0 (ji4)).f0) ((rd_T41 l0 (ji4)).f1) ((rd_T41 l0 x13_1).f0) ((rd_T41 l0 x13_1).f1) t107 t108 _ A23.out).mono ?_
                 rintro e w37 ⟨rfl, hb⟩
                 refine ⟨_, rfl, ?_⟩
                 replace BK103 := kb BK103 hb
                 replace BK104 := kb BK104 hb
                 replace HB := bz hb
                 (try clear hb)
                 refine hK.out _ _ ⟨bc BK103 0, bc BK103 1, bc BK104 0, bc BK104 1, (hc HB hw106_0), (hc HB hw106_1), (hc HB hw109_0), (hc HB hw109_1)⟩ (fun hHeld => ?_)
                 clear hK K
                 refine nm 43 ?_
                 exact norm_ pa (hJ5 () _ ⟨hHeld, bk BK103, bk BK104, bh⟩)
                ·skip
                 refine bxs 7 #[.int .i64 0, .int .i64 0] 41 ?_
                 intro gb112 hg w37 hbox hb
                 have BK112 := Aside0.mk (hbox)
                 have GW112 := ga w hg
                 have GE112 := GW112
                 have NB103_112 := nb hg (kl BK103)
                 have NB112_103 := bn NB103_112
                 have NB104_112 := nb hg (kl BK104)
                 have NB112_104 := bn NB104_112
                 replace BK103 := kb BK103 hb
                 replace BK104 := kb BK104 hb
                 replace HB := bz hb
                 clear hb hbox hg
                 refine hK.out _ _ ⟨bc BK103 0, bc BK103 1, bc BK104 0, bc BK104 1, (hc HB hw106_0), (hc HB hw106_1), (hc HB hw109_0), (hc HB hw109_1)⟩ (fun hHeld => ?_)
                 clear hK K
                 refine nm 7 ?_
                 exact norm_ pa (hJ12 (gb112) _ ⟨hHeld, bk BK103, bk BK104, bk BK112, GW112.out, GE112.out, NB103_112.out, NB112_103.out, NB104_112.out, NB112_104.out, bh⟩)
                ·skip
                 refine bxs 8 #[.int .i64 0, .int .i64 0] 41 ?_
                 intro gb113 hg w37 hbox hb
                 have BK113 := Aside0.mk (hbox)
                 have GW113 := ga w hg
                 have GE113 := GW113
                 have NB103_113 := nb hg (kl BK103)
                 have NB113_103 := bn NB103_113
                 have NB104_113 := nb hg (kl BK104)
                 have NB113_104 := bn NB104_113
                 replace BK103 := kb BK103 hb
                 replace BK104 := kb BK104 hb
                 replace HB := bz hb
                 clear hb hbox hg
                 refine hK.out _ _ ⟨bc BK103 0, bc BK103 1, bc BK104 0, bc BK104 1, (hc HB hw106_0), (hc HB hw106_1), (hc HB hw109_0), (hc HB hw109_1)⟩ (fun hHeld => ?_)
                 clear hK K
                 refine nm 8 ?_
                 exact norm_ pa (hJ13 (gb113) _ ⟨hHeld, bk BK103, bk BK104, bk BK113, GW113.out, GE113.out, NB103_113.out, NB113_103.out, NB104_113.out, NB113_104.out, bh⟩)
               ·skip
                rintro gb113 w38 ⟨hS_, h0_, h1_, h2_, h3_, h4_, h5_, h6_, h7_, h8_, h9_⟩
                have BK113 := Aside0.mk h2_
                have GW113 := Aside0.mk h3_
                have GE113 := Aside0.mk h4_
                have NB103_113 := Aside0.mk h5_
                have NB113_103 := Aside0.mk h6_
                have NB104_113 := Aside0.mk h7_
                have NB113_104 := Aside0.mk h8_
                replace BK103 := Aside0.mk h0_
                replace BK104 := Aside0.mk h1_
                replace HB := Aside0.mk h9_
                clear h0_ h1_ h2_ h3_ h4_ h5_ h6_ h7_ h8_ h9_
                have hHeld := hS_
                refine nn ?_
                refine two_ (i := 5) (j := 12) (Ni := some 43) (Nj := some 7) #[T,T,T,T,T,T,T,T,T,T,T,N,N,T,N,N] #[T,T,T,T,T,N,T,T,T,T,T,N,T,T,N,N] rfl rfl rfl rfl (on2 HT_) (by decide) (by decide) (fun K hK => ?_) (fun K hK => ?_)
                ·skip
                 refine goes_ Try.func53 (by kernel_rfl) rfl #[.agg #[.int .i64 ((rd_T41 l0 (ji4)).f0), .int .i64 ((rd_T41 l0 (ji4)).f1)], .agg #[.int .i64 ((rd_T41 l0 x13_1).f0), .int .i64 ((rd_T41 l0 x13_1).f1)]] (by rfl) rfl rfl (by (try simp only [List.map_toArray, List.map_cons, List.map_nil]); first | done | (simp only [hji4]; rfl) | rfl | (simp only [List.length_drop, List.length_take]; rfl)) ?_
                 with_reducible refine (shape_sub.calls ((rd_T41 l0 (ji4)).f0) ((rd_T41 l0 (ji4)).f1) ((rd_T41 l0 x13_1).f0) ((rd_T41 l0 x13_1).f1) t107 t108 _ A23.out).mono ?_
                 rintro e w39 ⟨rfl, hb⟩
                 refine ⟨_, rfl, ?_⟩
                 replace BK103 := kb BK103 hb
                 replace BK104 := kb BK104 hb
                 replace BK113 := kb BK113 hb
                 replace HB := bz hb
                 (try clear hb)
                 refine hK.out _ _ ⟨bc BK103 0, bc BK103 1, bc BK104 0, bc BK104 1, (hc HB hw106_0), (hc HB hw106_1), (hc HB hw109_0), (hc HB hw109_1)⟩ (fun hHeld => ?_)
                 clear hK K
                 refine nm 43 ?_
                 exact norm_ pa (hJ5_13 (gb113) _ ⟨hHeld, bk BK103, bk BK104, bk BK113, GW113.out, GE113.out, NB103_113.out, NB113_103.out, NB104_113.out, NB113_104.out, bh⟩)
                ·skip
                 refine bxs 7 #[.int .i64 0, .int .i64 0] 41 ?_
                 intro gb112 hg w39 hbox hb
                 have BK112 := Aside0.mk (hbox)
                 have GW112 := ga w hg
                 have GE112 := GW112
                 have NB103_112 := nb hg (kl BK103)
                 have NB112_103 := bn NB103_112
                 have NB104_112 := nb hg (kl BK104)
                 have NB112_104 := bn NB104_112
                 have NB113_112 := nb hg (kl BK113)
                 have NB112_113 := bn NB113_112
                 replace BK103 := kb BK103 hb
                 replace BK104 := kb BK104 hb
                 replace BK113 := kb BK113 hb
                 replace HB := bz hb
                 clear hb hbox hg
                 refine hK.out _ _ ⟨bc BK103 0, bc BK103 1, bc BK104 0, bc BK104 1, (hc HB hw106_0), (hc HB hw106_1), (hc HB hw109_0), (hc HB hw109_1)⟩ (fun hHeld => ?_)
                 clear hK K
                 refine nm 7 ?_
                 exact norm_ pa (hJ12_13 (gb112, gb113) _ ⟨hHeld, bk BK103, bk BK104, bk BK112, bk BK113, GW112.out, GE112.out, NB103_112.out, NB112_103.out, NB104_112.out, NB112_104.out, NB113_112.out, NB112_113.out, GW113.out, GE113.out, NB103_113.out, NB113_103.out, NB104_113.out, NB113_104.out, bh⟩)
              ·skip
               rintro gb112 w38 ⟨hS_, h0_, h1_, h2_, h3_, h4_, h5_, h6_, h7_, h8_, h9_⟩
               have BK112 := Aside0.mk h2_
               have GW112 := Aside0.mk h3_
               have GE112 := Aside0.mk h4_
               have NB103_112 := Aside0.mk h5_
               have NB112_103 := Aside0.mk h6_
               have NB104_112 := Aside0.mk h7_
               have NB112_104 := Aside0.mk h8_
               replace BK103 := Aside0.mk h0_
               replace BK104 := Aside0.mk h1_
               replace HB := Aside0.mk h9_
               clear h0_ h1_ h2_ h3_ h4_ h5_ h6_ h7_ h8_ h9_
               have hHeld := hS_
               refine nn ?_
               refine two_ (i := 5) (j := 13) (Ni := some 43) (Nj := some 8) #[T,T,T,T,T,T,T,T,T,T,T,N,T,N,N,N] #[T,T,T,T,T,N,T,T,T,T,T,N,T,T,N,N] rfl rfl rfl rfl (on2 HT_) (by decide) (by decide) (fun K hK => ?_) (fun K hK => ?_)
               ·skip
                refine goes_ Try.func53 (by kernel_rfl) rfl #[.agg #[.int .i64 ((rd_T41 l0 (ji4)).f0), .int .i64 ((rd_T41 l0 (ji4)).f1)], .agg #[.int .i64 ((rd_T41 l0 x13_1).f0), .int .i64 ((rd_T41 l0 x13_1).f1)]] (by rfl) rfl rfl (by (try simp only [List.map_toArray, List.map_cons, List.map_nil]); first | done | (simp only [hji4]; rfl) | rfl | (simp only [List.length_drop, List.length_take]; rfl)) ?_
                with_reducible refine (shape_sub.calls ((rd_T41 l0 (ji4)).f0) ((rd_T41 l0 (ji4)).f1) ((rd_T41 l0 x13_1).f0) ((rd_T41 l0 x13_1).f1) t107 t108 _ A23.out).mono ?_
                rintro e w39 ⟨rfl, hb⟩
                refine ⟨_, rfl, ?_⟩
                replace BK103 := kb BK103 hb
                replace BK104 := kb BK104 hb
                replace BK112 := kb BK112 hb
                replace HB := bz hb
                (try clear hb)
                refine hK.out _ _ ⟨bc BK103 0, bc BK103 1, bc BK104 0, bc BK104 1, (hc HB hw106_0), (hc HB hw106_1), (hc HB hw109_0), (hc HB hw109_1)⟩ (fun hHeld => ?_)
                clear hK K
                refine nm 43 ?_
                exact norm_ pa (hJ5_12 (gb112) _ ⟨hHeld, bk BK103, bk BK104, bk BK112, GW112.out, GE112.out, NB103_112.out, NB112_103.out, NB104_112.out, NB112_104.out, bh⟩)
               ·skip
                refine bxs 8 #[.int .i64 0, .int .i64 0] 41 ?_
                intro gb113 hg w39 hbox hb
                have BK113 := Aside0.mk (hbox)
                have GW113 := ga w hg
                have GE113 := GW113
                have NB103_113 := nb hg (kl BK103)
                have NB113_103 := bn NB103_113
                have NB104_113 := nb hg (kl BK104)
                have NB113_104 := bn NB104_113
                have NB112_113 := nb hg (kl BK112)
                have NB113_112 := bn NB112_113
                replace BK103 := kb BK103 hb
                replace BK104 := kb BK104 hb
                replace BK112 := kb BK112 hb
                replace HB := bz hb
                clear hb hbox hg
                refine hK.out _ _ ⟨bc BK103 0, bc BK103 1, bc BK104 0, bc BK104 1, (hc HB hw106_0), (hc HB hw106_1), (hc HB hw109_0), (hc HB hw109_1)⟩ (fun hHeld => ?_)
                clear hK K
                refine nm 8 ?_
                exact norm_ pa (hJ12_13 (gb112, gb113) _ ⟨hHeld, bk BK103, bk BK104, bk BK112, bk BK113, GW112.out, GE112.out, NB103_112.out, NB112_103.out, NB104_112.out, NB112_104.out, NB113_112.out, NB112_113.out, GW113.out, GE113.out, NB103_113.out, NB113_103.out, NB104_113.out, NB113_104.out, bh⟩)
             ·skip
              rintro _ w38 ⟨hS_, h0_, h1_, h2_⟩
              replace BK103 := Aside0.mk h0_
              replace BK104 := Aside0.mk h1_
              replace HB := Aside0.mk h2_
              clear h0_ h1_ h2_
              have hHeld := hS_
              refine nn ?_
              refine three_ (i := 11) (j := 12) (k := 13) (Ni := some 49) (Nj := some 7) (Nk := some 8) #[T,T,T,T,T,T,T,T,T,T,T,T,N,N,N,N] #[T,T,T,T,T,T,T,T,T,T,T,N,T,N,N,N] #[T,T,T,T,T,T,T,T,T,T,T,N,N,T,N,N] rfl rfl rfl rfl rfl rfl (on3 HT_) (by decide) (by decide) (by decide) (fun K hK => ?_) (fun K hK => ?_) (fun K hK => ?_)
              ·skip
               refine goes_ Try.func53 (by kernel_rfl) rfl #[.agg #[.int .i64 ((rd_T41 l0 (ji7)).f0), .int .i64 ((rd_T41 l0 (ji7)).f1)], .agg #[.int .i64 ((rd_T41 l0 x13_1).f0), .int .i64 ((rd_T41 l0 x13_1).f1)]] (by rfl) rfl rfl (by (try simp only [List.map_toArray, List.map_cons, List.map_nil]); first | done | (simp only [hji7]; rfl) | rfl | (simp only [List.length_drop, List.length_take]; rfl)) ?_
               with_reducible refine (shape_sub.calls ((rd_T41 l0 (ji7)).f0) ((rd_T41 l0 (ji7)).f1) ((rd_T41 l0 x13_1).f0) ((rd_T41 l0 x13_1).f1) t110 t111 _ A24.out).mono ?_
               rintro e w39 ⟨rfl, hb⟩
               refine ⟨_, rfl, ?_⟩
               replace BK103 := kb BK103 hb
               replace BK104 := kb BK104 hb
               replace HB := bz hb
               (try clear hb)
               refine hK.out _ _ ⟨bc BK103 0, bc BK103 1, bc BK104 0, bc BK104 1, (hc HB hw106_0), (hc HB hw106_1), (hc HB hw109_0), (hc HB hw109_1)⟩ (fun hHeld => ?_)
               clear hK K
               refine nm 49 ?_
               exact norm_ pa (hJ5_11 () _ ⟨hHeld, bk BK103, bk BK104, bh⟩)
              ·skip
               refine bxs 7 #[.int .i64 0, .int .i64 0] 41 ?_
               intro gb112 hg w39 hbox hb
               have BK112 := Aside0.mk (hbox)
               have GW112 := ga w hg
               have GE112 := GW112
               have NB103_112 := nb hg (kl BK103)
               have NB112_103 := bn NB103_112
               have NB104_112 := nb hg (kl BK104)
               have NB112_104 := bn NB104_112
               replace BK103 := kb BK103 hb
               replace BK104 := kb BK104 hb
               replace HB := bz hb
               clear hb hbox hg
               refine hK.out _ _ ⟨bc BK103 0, bc BK103 1, bc BK104 0, bc BK104 1, (hc HB hw106_0), (hc HB hw106_1), (hc HB hw109_0), (hc HB hw109_1)⟩ (fun hHeld => ?_)
               clear hK K
               refine nm 7 ?_
               exact norm_ pa (hJ5_12 (gb112) _ ⟨hHeld, bk BK103, bk BK104, bk BK112, GW112.out, GE112.out, NB103_112.out, NB112_103.out, NB104_112.out, NB112_104.out, bh⟩)
              ·skip
               refine bxs 8 #[.int .i64 0, .int .i64 0] 41 ?_
               intro gb113 hg w39 hbox hb
               have BK113 := Aside0.mk (hbox)
               have GW113 := ga w hg
               have GE113 := GW113
               have NB103_113 := nb hg (kl BK103)
               have NB113_103 := bn NB103_113
               have NB104_113 := nb hg (kl BK104)
               have NB113_104 := bn NB104_113
               replace BK103 := kb BK103 hb
               replace BK104 := kb BK104 hb
               replace HB := bz hb
               clear hb hbox hg
               refine hK.out _ _ ⟨bc BK103 0, bc BK103 1, bc BK104 0, bc BK104 1, (hc HB hw106_0), (hc HB hw106_1), (hc HB hw109_0), (hc HB hw109_1)⟩ (fun hHeld => ?_)
               clear hK K
               refine nm 8 ?_
               exact norm_ pa (hJ5_13 (gb113) _ ⟨hHeld, bk BK103, bk BK104, bk BK113, GW113.out, GE113.out, NB103_113.out, NB113_103.out, NB104_113.out, NB113_104.out, bh⟩)
            ·skip
             rintro ⟨gb112, gb113⟩ w39 ⟨hS_, h0_, h1_, h2_, h3_, h4_, h5_, h6_, h7_, h8_, h9_, h10_, h11_, h12_, h13_, h14_, h15_, h16_, h17_, h18_⟩
             have BK112 := Aside0.mk h2_
             have BK113 := Aside0.mk h3_
             have GW112 := Aside0.mk h4_
             have GE112 := Aside0.mk h5_
             have NB103_112 := Aside0.mk h6_
             have NB112_103 := Aside0.mk h7_
             have NB104_112 := Aside0.mk h8_
             have NB112_104 := Aside0.mk h9_
             have NB113_112 := Aside0.mk h10_
             have NB112_113 := Aside0.mk h11_
             have GW113 := Aside0.mk h12_
             have GE113 := Aside0.mk h13_
             have NB103_113 := Aside0.mk h14_
             have NB113_103 := Aside0.mk h15_
             have NB104_113 := Aside0.mk h16_
             have NB113_104 := Aside0.mk h17_
             replace BK103 := Aside0.mk h0_
             replace BK104 := Aside0.mk h1_
             replace HB := Aside0.mk h18_
             clear h0_ h1_ h2_ h3_ h4_ h5_ h6_ h7_ h8_ h9_ h10_ h11_ h12_ h13_ h14_ h15_ h16_ h17_ h18_
             have hHeld := hS_
             refine nn ?_
             refine one_ (i := 5) (N := some 43) #[T,T,T,T,T,T,T,T,T,T,T,N,T,T,N,N] rfl rfl (on1 HT_) (by decide) (fun K hK => ?_)
             refine goes_ Try.func53 (by kernel_rfl) rfl #[.agg #[.int .i64 ((rd_T41 l0 (ji4)).f0), .int .i64 ((rd_T41 l0 (ji4)).f1)], .agg #[.int .i64 ((rd_T41 l0 x13_1).f0), .int .i64 ((rd_T41 l0 x13_1).f1)]] (by rfl) rfl rfl (by (try simp only [List.map_toArray, List.map_cons, List.map_nil]); first | done | (simp only [hji4]; rfl) | rfl | (simp only [List.length_drop, List.length_take]; rfl)) ?_
             with_reducible refine (shape_sub.calls ((rd_T41 l0 (ji4)).f0) ((rd_T41 l0 (ji4)).f1) ((rd_T41 l0 x13_1).f0) ((rd_T41 l0 x13_1).f1) t107 t108 _ A23.out).mono ?_
             rintro e w40 ⟨rfl, hb⟩
             refine ⟨_, rfl, ?_⟩
             replace BK103 := kb BK103 hb
             replace BK104 := kb BK104 hb
             replace BK112 := kb BK112 hb
             replace BK113 := kb BK113 hb
             replace HB := bz hb
             (try clear hb)
             refine hK.out _ _ ⟨bc BK103 0, bc BK103 1, bc BK104 0, bc BK104 1, (hc HB hw106_0), (hc HB hw106_1), (hc HB hw109_0), (hc HB hw109_1)⟩ (fun hHeld => ?_)
             clear hK K
             refine nm 43 ?_
             exact norm_ pa (hJ5_12_13 (gb112, gb113) _ ⟨hHeld, bk BK103, bk BK104, bk BK112, bk BK113, GW112.out, GE112.out, NB103_112.out, NB112_103.out, NB104_112.out, NB112_104.out, NB113_112.out, NB112_113.out, GW113.out, GE113.out, NB103_113.out, NB113_103.out, NB104_113.out, NB113_104.out, bh⟩)
           ·skip
            rintro gb113 w39 ⟨hS_, h0_, h1_, h2_, h3_, h4_, h5_, h6_, h7_, h8_, h9_⟩
            have BK113 := Aside0.mk h2_
            have GW113 := Aside0.mk h3_
            have GE113 := Aside0.mk h4_
            have NB103_113 := Aside0.mk h5_
            have NB113_103 := Aside0.mk h6_
            have NB104_113 := Aside0.mk h7_
            have NB113_104 := Aside0.mk h8_
            replace BK103 := Aside0.mk h0_
            replace BK104 := Aside0.mk h1_
            replace HB := Aside0.mk h9_
            clear h0_ h1_ h2_ h3_ h4_ h5_ h6_ h7_ h8_ h9_
            have hHeld := hS_
            refine nn ?_
            refine two_ (i := 11) (j := 12) (Ni := some 49) (Nj := some 7) #[T,T,T,T,T,T,T,T,T,T,T,T,N,T,N,N] #[T,T,T,T,T,T,T,T,T,T,T,N,T,T,N,N] rfl rfl rfl rfl (on2 HT_) (by decide) (by decide) (fun K hK => ?_) (fun K hK => ?_)
            ·skip
             refine goes_ Try.func53 (by kernel_rfl) rfl #[.agg #[.int .i64 ((rd_T41 l0 (ji7)).f0), .int .i64 ((rd_T41 l0 (ji7)).f1)], .agg #[.int .i64 ((rd_T41 l0 x13_1).f0), .int .i64 ((rd_T41 l0 x13_1).f1)]] (by rfl) rfl rfl (by (try simp only [List.map_toArray, List.map_cons, List.map_nil]); first | done | (simp only [hji7]; rfl) | rfl | (simp only [List.length_drop, List.length_take]; rfl)) ?_
             with_reducible refine (shape_sub.calls ((rd_T41 l0 (ji7)).f0) ((rd_T41 l0 (ji7)).f1) ((rd_T41 l0 x13_1).f0) ((rd_T41 l0 x13_1).f1) t110 t111 _ A24.out).mono ?_
             rintro e w40 ⟨rfl, hb⟩
             refine ⟨_, rfl, ?_⟩
             replace BK103 := kb BK103 hb
             replace BK104 := kb BK104 hb
             replace BK113 := kb BK113 hb
             replace HB := bz hb
             (try clear hb)
             refine hK.out _ _ ⟨bc BK103 0, bc BK103 1, bc BK104 0, bc BK104 1, (hc HB hw106_0), (hc HB hw106_1), (hc HB hw109_0), (hc HB hw109_1)⟩ (fun hHeld => ?_)
             clear hK K
             refine nm 49 ?_
             exact norm_ pa (hJ5_11_13 (gb113) _ ⟨hHeld, bk BK103, bk BK104, bk BK113, GW113.out, GE113.out, NB103_113.out, NB113_103.out, NB104_113.out, NB113_104.out, bh⟩)
            ·skip
             refine bxs 7 #[.int .i64 0, .int .i64 0] 41 ?_
             intro gb112 hg w40 hbox hb
             have BK112 := Aside0.mk (hbox)
             have GW112 := ga w hg
             have GE112 := GW112
             have NB103_112 := nb hg (kl BK103)
             have NB112_103 := bn NB103_112
             have NB104_112 := nb hg (kl BK104)
             have NB112_104 := bn NB104_112
             have NB113_112 := nb hg (kl BK113)
             have NB112_113 := bn NB113_112
             replace BK103 := kb BK103 hb
             replace BK104 := kb BK104 hb
             replace BK113 := kb BK113 hb
             replace HB := bz hb
             clear hb hbox hg
             refine hK.out _ _ ⟨bc BK103 0, bc BK103 1, bc BK104 0, bc BK104 1, (hc HB hw106_0), (hc HB hw106_1), (hc HB hw109_0), (hc HB hw109_1)⟩ (fun hHeld => ?_)
             clear hK K
             refine nm 7 ?_
             exact norm_ pa (hJ5_12_13 (gb112, gb113) _ ⟨hHeld, bk BK103, bk BK104, bk BK112, bk BK113, GW112.out, GE112.out, NB103_112.out, NB112_103.out, NB104_112.out, NB112_104.out, NB113_112.out, NB112_113.out, GW113.out, GE113.out, NB103_113.out, NB113_103.out, NB104_113.out, NB113_104.out, bh⟩)
          ·skip
           rintro gb112 w39 ⟨hS_, h0_, h1_, h2_, h3_, h4_, h5_, h6_, h7_, h8_, h9_⟩
           have BK112 := Aside0.mk h2_
           have GW112 := Aside0.mk h3_
           have GE112 := Aside0.mk h4_
           have NB103_112 := Aside0.mk h5_
           have NB112_103 := Aside0.mk h6_
           have NB104_112 := Aside0.mk h7_
           have NB112_104 := Aside0.mk h8_
           replace BK103 := Aside0.mk h0_
           replace BK104 := Aside0.mk h1_
           replace HB := Aside0.mk h9_
           clear h0_ h1_ h2_ h3_ h4_ h5_ h6_ h7_ h8_ h9_
           have hHeld := hS_
           refine nn ?_
           refine two_ (i := 11) (j := 13) (Ni := some 49) (Nj := some 8) #[T,T,T,T,T,T,T,T,T,T,T,T,T,N,N,N] #[T,T,T,T,T,T,T,T,T,T,T,N,T,T,N,N] rfl rfl rfl rfl (on2 HT_) (by decide) (by decide) (fun K hK => ?_) (fun K hK => ?_)
           ·skip
            refine goes_ Try.func53 (by kernel_rfl) rfl #[.agg #[.int .i64 ((rd_T41 l0 (ji7)).f0), .int .i64 ((rd_T41 l0 (ji7)).f1)], .agg #[.int .i64 ((rd_T41 l0 x13_1).f0), .int .i64 ((rd_T41 l0 x13_1).f1)]] (by rfl) rfl rfl (by (try simp only [List.map_toArray, List.map_cons, List.map_nil]); first | done | (simp only [hji7]; rfl) | rfl | (simp only [List.length_drop, List.length_take]; rfl)) ?_
            with_reducible refine (shape_sub.calls ((rd_T41 l0 (ji7)).f0) ((rd_T41 l0 (ji7)).f1) ((rd_T41 l0 x13_1).f0) ((rd_T41 l0 x13_1).f1) t110 t111 _ A24.out).mono ?_
            rintro e w40 ⟨rfl, hb⟩
            refine ⟨_, rfl, ?_⟩
            replace BK103 := kb BK103 hb
            replace BK104 := kb BK104 hb
            replace BK112 := kb BK112 hb
            replace HB := bz hb
            (try clear hb)
            refine hK.out _ _ ⟨bc BK103 0, bc BK103 1, bc BK104 0, bc BK104 1, (hc HB hw106_0), (hc HB hw106_1), (hc HB hw109_0), (hc HB hw109_1)⟩ (fun hHeld => ?_)
            clear hK K
            refine nm 49 ?_
            exact norm_ pa (hJ5_11_12 (gb112) _ ⟨hHeld, bk BK103, bk BK104, bk BK112, GW112.out, GE112.out, NB103_112.out, NB112_103.out, NB104_112.out, NB112_104.out, bh⟩)
           ·skip
            refine bxs 8 #[.int .i64 0, .int .i64 0] 41 ?_
            intro gb113 hg w40 hbox hb
            have BK113 := Aside0.mk (hbox)
            have GW113 := ga w hg
            have GE113 := GW113
            have NB103_113 := nb hg (kl BK103)
            have NB113_103 := bn NB103_113
            have NB104_113 := nb hg (kl BK104)
            have NB113_104 := bn NB104_113
            have NB112_113 := nb hg (kl BK112)
            have NB113_112 := bn NB112_113
            replace BK103 := kb BK103 hb
            replace BK104 := kb BK104 hb
            replace BK112 := kb BK112 hb
            replace HB := bz hb
            clear hb hbox hg
            refine hK.out _ _ ⟨bc BK103 0, bc BK103 1, bc BK104 0, bc BK104 1, (hc HB hw106_0), (hc HB hw106_1), (hc HB hw109_0), (hc HB hw109_1)⟩ (fun hHeld => ?_)
            clear hK K
            refine nm 8 ?_
            exact norm_ pa (hJ5_12_13 (gb112, gb113) _ ⟨hHeld, bk BK103, bk BK104, bk BK112, bk BK113, GW112.out, GE112.out, NB103_112.out, NB112_103.out, NB104_112.out, NB112_104.out, NB113_112.out, NB112_113.out, GW113.out, GE113.out, NB103_113.out, NB113_103.out, NB104_113.out, NB113_104.out, bh⟩)
         ·skip
          rintro _ w39 ⟨hS_, h0_, h1_, h2_⟩
          replace BK103 := Aside0.mk h0_
          replace BK104 := Aside0.mk h1_
          replace HB := Aside0.mk h2_
          clear h0_ h1_ h2_
          have hHeld := hS_
          refine nn ?_
          refine two_ (i := 12) (j := 13) (Ni := some 7) (Nj := some 8) #[T,T,T,T,T,T,T,T,T,T,T,T,T,N,N,N] #[T,T,T,T,T,T,T,T,T,T,T,T,N,T,N,N] rfl rfl rfl rfl (on2 HT_) (by decide) (by decide) (fun K hK => ?_) (fun K hK => ?_)
          ·skip
           refine bxs 7 #[.int .i64 0, .int .i64 0] 41 ?_
           intro gb112 hg w40 hbox hb
           have BK112 := Aside0.mk (hbox)
           have GW112 := ga w hg
           have GE112 := GW112
           have NB103_112 := nb hg (kl BK103)
           have NB112_103 := bn NB103_112
           have NB104_112 := nb hg (kl BK104)
           have NB112_104 := bn NB104_112
           replace BK103 := kb BK103 hb
           replace BK104 := kb BK104 hb
           replace HB := bz hb
           clear hb hbox hg
           refine hK.out _ _ ⟨bc BK103 0, bc BK103 1, bc BK104 0, bc BK104 1, (hc HB hw106_0), (hc HB hw106_1), (hc HB hw109_0), (hc HB hw109_1)⟩ (fun hHeld => ?_)
           clear hK K
           refine nm 7 ?_
           exact norm_ pa (hJ5_11_12 (gb112) _ ⟨hHeld, bk BK103, bk BK104, bk BK112, GW112.out, GE112.out, NB103_112.out, NB112_103.out, NB104_112.out, NB112_104.out, bh⟩)
          ·skip
           refine bxs 8 #[.int .i64 0, .int .i64 0] 41 ?_
           intro gb113 hg w40 hbox hb
           have BK113 := Aside0.mk (hbox)
           have GW113 := ga w hg
           have GE113 := GW113
           have NB103_113 := nb hg (kl BK103)
           have NB113_103 := bn NB103_113
           have NB104_113 := nb hg (kl BK104)
           have NB113_104 := bn NB104_113
           replace BK103 := kb BK103 hb
           replace BK104 := kb BK104 hb
           replace HB := bz hb
           clear hb hbox hg
           refine hK.out _ _ ⟨bc BK103 0, bc BK103 1, bc BK104 0, bc BK104 1, (hc HB hw106_0), (hc HB hw106_1), (hc HB hw109_0), (hc HB hw109_1)⟩ (fun hHeld => ?_)
           clear hK K
           refine nm 8 ?_
           exact norm_ pa (hJ5_11_13 (gb113) _ ⟨hHeld, bk BK103, bk BK104, bk BK113, GW113.out, GE113.out, NB103_113.out, NB113_103.out, NB104_113.out, NB113_104.out, bh⟩)
        ·skip
         rintro ⟨gb112, gb113⟩ w40 ⟨hS_, h0_, h1_, h2_, h3_, h4_, h5_, h6_, h7_, h8_, h9_, h10_, h11_, h12_, h13_, h14_, h15_, h16_, h17_, h18_⟩
         have BK112 := Aside0.mk h2_
         have BK113 := Aside0.mk h3_
         have GW112 := Aside0.mk h4_
         have GE112 := Aside0.mk h5_
         have NB103_112 := Aside0.mk h6_
         have NB112_103 := Aside0.mk h7_
         have NB104_112 := Aside0.mk h8_
         have NB112_104 := Aside0.mk h9_
         have NB113_112 := Aside0.mk h10_
         have NB112_113 := Aside0.mk h11_
         have GW113 := Aside0.mk h12_
         have GE113 := Aside0.mk h13_
         have NB103_113 := Aside0.mk h14_
         have NB113_103 := Aside0.mk h15_
         have NB104_113 := Aside0.mk h16_
         have NB113_104 := Aside0.mk h17_
         replace BK103 := Aside0.mk h0_
         replace BK104 := Aside0.mk h1_
         replace HB := Aside0.mk h18_
         clear h0_ h1_ h2_ h3_ h4_ h5_ h6_ h7_ h8_ h9_ h10_ h11_ h12_ h13_ h14_ h15_ h16_ h17_ h18_
         have hHeld := hS_
         refine nn ?_
         refine one_ (i := 11) (N := some 49) #[T,T,T,T,T,T,T,T,T,T,T,T,T,T,N,N] rfl rfl (on1 HT_) (by decide) (fun K hK => ?_)
         refine goes_ Try.func53 (by kernel_rfl) rfl #[.agg #[.int .i64 ((rd_T41 l0 (ji7)).f0), .int .i64 ((rd_T41 l0 (ji7)).f1)], .agg #[.int .i64 ((rd_T41 l0 x13_1).f0), .int .i64 ((rd_T41 l0 x13_1).f1)]] (by rfl) rfl rfl (by (try simp only [List.map_toArray, List.map_cons, List.map_nil]); first | done | (simp only [hji7]; rfl) | rfl | (simp only [List.length_drop, List.length_take]; rfl)) ?_
         with_reducible refine (shape_sub.calls ((rd_T41 l0 (ji7)).f0) ((rd_T41 l0 (ji7)).f1) ((rd_T41 l0 x13_1).f0) ((rd_T41 l0 x13_1).f1) t110 t111 _ A24.out).mono ?_
         rintro e w41 ⟨rfl, hb⟩
         refine ⟨_, rfl, ?_⟩
         replace BK103 := kb BK103 hb
         replace BK104 := kb BK104 hb
         replace BK112 := kb BK112 hb
         replace BK113 := kb BK113 hb
         replace HB := bz hb
         (try clear hb)
         refine hK.out _ _ ⟨bc BK103 0, bc BK103 1, bc BK104 0, bc BK104 1, (hc HB hw106_0), (hc HB hw106_1), (hc HB hw109_0), (hc HB hw109_1)⟩ (fun hHeld => ?_)
         clear hK K
         refine nm 49 ?_
         exact norm_ pa (hJ5_11_12_13 (gb112, gb113) _ ⟨hHeld, bk BK103, bk BK104, bk BK112, bk BK113, GW112.out, GE112.out, NB103_112.out, NB112_103.out, NB104_112.out, NB112_104.out, NB113_112.out, NB112_113.out, GW113.out, GE113.out, NB103_113.out, NB113_103.out, NB104_113.out, NB113_104.out, bh⟩)
       ·skip
        rintro gb113 w40 ⟨hS_, h0_, h1_, h2_, h3_, h4_, h5_, h6_, h7_, h8_, h9_⟩
        have BK113 := Aside0.mk h2_
        have GW113 := Aside0.mk h3_
        have GE113 := Aside0.mk h4_
        have NB103_113 := Aside0.mk h5_
        have NB113_103 := Aside0.mk h6_
        have NB104_113 := Aside0.mk h7_
        have NB113_104 := Aside0.mk h8_
        replace BK103 := Aside0.mk h0_
        replace BK104 := Aside0.mk h1_
        replace HB := Aside0.mk h9_
        clear h0_ h1_ h2_ h3_ h4_ h5_ h6_ h7_ h8_ h9_
        have hHeld := hS_
        refine nn ?_
        refine one_ (i := 12) (N := some 7) #[T,T,T,T,T,T,T,T,T,T,T,T,T,T,N,N] rfl rfl (on1 HT_) (by decide) (fun K hK => ?_)
        refine bxs 7 #[.int .i64 0, .int .i64 0] 41 ?_
        intro gb112 hg w41 hbox hb
        have BK112 := Aside0.mk (hbox)
        have GW112 := ga w hg
        have GE112 := GW112
        have NB103_112 := nb hg (kl BK103)
        have NB112_103 := bn NB103_112
        have NB104_112 := nb hg (kl BK104)
        have NB112_104 := bn NB104_112
        have NB113_112 := nb hg (kl BK113)
        have NB112_113 := bn NB113_112
        replace BK103 := kb BK103 hb
        replace BK104 := kb BK104 hb
        replace BK113 := kb BK113 hb
        replace HB := bz hb
        clear hb hbox hg
        refine hK.out _ _ ⟨bc BK103 0, bc BK103 1, bc BK104 0, bc BK104 1, (hc HB hw106_0), (hc HB hw106_1), (hc HB hw109_0), (hc HB hw109_1)⟩ (fun hHeld => ?_)
        clear hK K
        refine nm 7 ?_
        exact norm_ pa (hJ5_11_12_13 (gb112, gb113) _ ⟨hHeld, bk BK103, bk BK104, bk BK112, bk BK113, GW112.out, GE112.out, NB103_112.out, NB112_103.out, NB104_112.out, NB112_104.out, NB113_112.out, NB112_113.out, GW113.out, GE113.out, NB103_113.out, NB113_103.out, NB104_113.out, NB113_104.out, bh⟩)
      ·skip
       rintro gb112 w40 ⟨hS_, h0_, h1_, h2_, h3_, h4_, h5_, h6_, h7_, h8_, h9_⟩
       have BK112 := Aside0.mk h2_
       have GW112 := Aside0.mk h3_
       have GE112 := Aside0.mk h4_
       have NB103_112 := Aside0.mk h5_
       have NB112_103 := Aside0.mk h6_
       have NB104_112 := Aside0.mk h7_
       have NB112_104 := Aside0.mk h8_
       replace BK103 := Aside0.mk h0_
       replace BK104 := Aside0.mk h1_
       replace HB := Aside0.mk h9_
       clear h0_ h1_ h2_ h3_ h4_ h5_ h6_ h7_ h8_ h9_
       have hHeld := hS_
       refine nn ?_
       refine one_ (i := 13) (N := some 8) #[T,T,T,T,T,T,T,T,T,T,T,T,T,T,N,N] rfl rfl (on1 HT_) (by decide) (fun K hK => ?_)
       refine bxs 8 #[.int .i64 0, .int .i64 0] 41 ?_
       intro gb113 hg w41 hbox hb
       have BK113 := Aside0.mk (hbox)
       have GW113 := ga w hg
       have GE113 := GW113
       have NB103_113 := nb hg (kl BK103)
       have NB113_103 := bn NB103_113
       have NB104_113 := nb hg (kl BK104)
       have NB113_104 := bn NB104_113
       have NB112_113 := nb hg (kl BK112)
       have NB113_112 := bn NB112_113
       replace BK103 := kb BK103 hb
       replace BK104 := kb BK104 hb
       replace BK112 := kb BK112 hb
       replace HB := bz hb
       clear hb hbox hg
       refine hK.out _ _ ⟨bc BK103 0, bc BK103 1, bc BK104 0, bc BK104 1, (hc HB hw106_0), (hc HB hw106_1), (hc HB hw109_0), (hc HB hw109_1)⟩ (fun hHeld => ?_)
       clear hK K
       refine nm 8 ?_
       exact norm_ pa (hJ5_11_12_13 (gb112, gb113) _ ⟨hHeld, bk BK103, bk BK104, bk BK112, bk BK113, GW112.out, GE112.out, NB103_112.out, NB112_103.out, NB104_112.out, NB112_104.out, NB113_112.out, NB112_113.out, GW113.out, GE113.out, NB103_113.out, NB113_103.out, NB104_113.out, NB113_104.out, bh⟩)
     rintro ⟨gb112, gb113⟩ w41 ⟨hS_, h0_, h1_, h2_, h3_, h4_, h5_, h6_, h7_, h8_, h9_, h10_, h11_, h12_, h13_, h14_, h15_, h16_, h17_, h18_⟩
     have BK112 := Aside0.mk h2_
     have BK113 := Aside0.mk h3_
     have GW112 := Aside0.mk h4_
     have GE112 := Aside0.mk h5_
     have NB103_112 := Aside0.mk h6_
     have NB112_103 := Aside0.mk h7_
     have NB104_112 := Aside0.mk h8_
     have NB112_104 := Aside0.mk h9_
     have NB113_112 := Aside0.mk h10_
     have NB112_113 := Aside0.mk h11_
     have GW113 := Aside0.mk h12_
     have GE113 := Aside0.mk h13_
     have NB103_113 := Aside0.mk h14_
     have NB113_103 := Aside0.mk h15_
     have NB104_113 := Aside0.mk h16_
     have NB113_104 := Aside0.mk h17_
     replace BK103 := Aside0.mk h0_
     replace BK104 := Aside0.mk h1_
     replace HB := Aside0.mk h18_
     clear h0_ h1_ h2_ h3_ h4_ h5_ h6_ h7_ h8_ h9_ h10_ h11_ h12_ h13_ h14_ h15_ h16_ h17_ h18_
     have hHeld := hS_
     refine nn ?_
     refine one_ (i := 14) (N := none) #[T,T,T,T,T,T,T,T,T,T,T,T,T,T,T,N] rfl rfl (on1 HT_) (by decide) (fun K hK => ?_)
     have hs42 : w41.cell? ⟨gb112, 0, none⟩ = some (.int .i64 0) := bc BK112 0
     have hfs42 := blk_frozen BK112.out 0
     have hns42_0 := NB103_112.out
     have hns42_1 := NB104_112.out
     have hns42_3 := NB113_112.out
     have hms42_0 := NB112_103.out
     have hms42_1 := NB112_104.out
     have hms42_3 := NB112_113.out
     have hs43 : w41.cell? ⟨gb112, 1, none⟩ = some (.int .i64 0) := bc BK112 1
     have hfs43 := blk_frozen BK112.out 1
     have hns43_0 := NB103_112.out
     have hns43_1 := NB104_112.out
     have hns43_3 := NB113_112.out
     have hms43_0 := NB112_103.out
     have hms43_1 := NB112_104.out
     have hms43_3 := NB112_113.out
     refine skip_ (w1 := ?_) (by rfl) rfl ?_ ?_
     rotate_left
     ·go_simp
      rfl
     refine hK.out _ _ ⟨((cell_far (p := ⟨gb112, _, none⟩) NB103_112.out _).trans (((cell_far (p := ⟨gb112, _, none⟩) NB103_112.out _).trans (hHeld.1)))), ((cell_far (p := ⟨gb112, _, none⟩) NB103_112.out _).trans (((cell_far (p := ⟨gb112, _, none⟩) NB103_112.out _).trans (hHeld.2.1)))), ((cell_far (p := ⟨gb112, _, none⟩) NB104_112.out _).trans (((cell_far (p := ⟨gb112, _, none⟩) NB104_112.out _).trans (hHeld.2.2.1)))), ((cell_far (p := ⟨gb112, _, none⟩) NB104_112.out _).trans (((cell_far (p := ⟨gb112, _, none⟩) NB104_112.out _).trans (hHeld.2.2.2.1)))), ((cell_far (p := ⟨gb112, _, none⟩) (fr hw106_0 GW112) _).trans (((cell_far (p := ⟨gb112, _, none⟩) (fr hw106_0 GW112) _).trans (hHeld.2.2.2.2.1)))), ((cell_far (p := ⟨gb112, _, none⟩) (fr hw106_1 GW112) _).trans (((cell_far (p := ⟨gb112, _, none⟩) (fr hw106_1 GW112) _).trans (hHeld.2.2.2.2.2.1)))), ((cell_far (p := ⟨gb112, _, none⟩) (fr hw109_0 GW112) _).trans (((cell_far (p := ⟨gb112, _, none⟩) (fr hw109_0 GW112) _).trans (hHeld.2.2.2.2.2.2.1)))), ((cell_far (p := ⟨gb112, _, none⟩) (fr hw109_1 GW112) _).trans (((cell_far (p := ⟨gb112, _, none⟩) (fr hw109_1 GW112) _).trans (hHeld.2.2.2.2.2.2.2))))⟩ (fun hHeld => ?_)
     clear hK K
     refine one_ (i := 15) (N := none) #[T,T,T,T,T,T,T,T,T,T,T,T,T,T,T,T] rfl rfl (on1 HT_) (by decide) (fun K hK => ?_)
     have hs44 : w41.cell? ⟨gb113, 0, none⟩ = some (.int .i64 0) := bc BK113 0
     have hfs44 := blk_frozen BK113.out 0
     have hns44_0 := NB103_113.out
     have hns44_1 := NB104_113.out
     have hns44_2 := NB112_113.out
     have hms44_0 := NB113_103.out
     have hms44_1 := NB113_104.out
     have hms44_2 := NB113_112.out
     have hs45 : w41.cell? ⟨gb113, 1, none⟩ = some (.int .i64 0) := bc BK113 1
     have hfs45 := blk_frozen BK113.out 1
     have hns45_0 := NB103_113.out
     have hns45_1 := NB104_113.out
     have hns45_2 := NB112_113.out
     have hms45_0 := NB113_103.out
     have hms45_1 := NB113_104.out
     have hms45_2 := NB113_112.out
     refine skip_ (w1 := ?_) (by rfl) rfl ?_ ?_
     rotate_left
     ·go_simp
      rfl
     refine hK.out _ _ ⟨((cell_far (p := ⟨gb113, _, none⟩) NB103_113.out _).trans (((cell_far (p := ⟨gb113, _, none⟩) NB103_113.out _).trans (hHeld.1)))), ((cell_far (p := ⟨gb113, _, none⟩) NB103_113.out _).trans (((cell_far (p := ⟨gb113, _, none⟩) NB103_113.out _).trans (hHeld.2.1)))), ((cell_far (p := ⟨gb113, _, none⟩) NB104_113.out _).trans (((cell_far (p := ⟨gb113, _, none⟩) NB104_113.out _).trans (hHeld.2.2.1)))), ((cell_far (p := ⟨gb113, _, none⟩) NB104_113.out _).trans (((cell_far (p := ⟨gb113, _, none⟩) NB104_113.out _).trans (hHeld.2.2.2.1)))), ((cell_far (p := ⟨gb113, _, none⟩) (fr hw106_0 GW113) _).trans (((cell_far (p := ⟨gb113, _, none⟩) (fr hw106_0 GW113) _).trans (hHeld.2.2.2.2.1)))), ((cell_far (p := ⟨gb113, _, none⟩) (fr hw106_1 GW113) _).trans (((cell_far (p := ⟨gb113, _, none⟩) (fr hw106_1 GW113) _).trans (hHeld.2.2.2.2.2.1)))), ((cell_far (p := ⟨gb113, _, none⟩) (fr hw109_0 GW113) _).trans (((cell_far (p := ⟨gb113, _, none⟩) (fr hw109_0 GW113) _).trans (hHeld.2.2.2.2.2.2.1)))), ((cell_far (p := ⟨gb113, _, none⟩) (fr hw109_1 GW113) _).trans (((cell_far (p := ⟨gb113, _, none⟩) (fr hw109_1 GW113) _).trans (hHeld.2.2.2.2.2.2.2))))⟩ (fun hHeld => ?_)
     clear hK K
     refine done_ (done_of HT_.out (by kernel_rfl)) ?_
     go_upto_region 9 with (fail)
     go_cut [59] (fun v59 wc => ∃ (kq : Nat) (x59_24 : Bool), v59 = .bool x59_24 ∧ Aside0 (shape_simple.j1 kq l0 (l0.length : Int) x13_1 (l0.length : Int) x13_1 x59_24 ((rd_T41 l0 (ji7)).f0) ((rd_T41 l0 (ji7)).f1) = some r) ∧ Aside0 (kq ≤ k1) ∧ Aside0 (wc.heap[gb103]? = some (.cells #[.int .i64 ((rd_T41 l0 (ji4)).f0), .int .i64 ((rd_T41 l0 (ji4)).f1)] 41 (0, 0))) ∧ Aside0 (wc.heap[gb104]? = some (.cells #[.int .i64 ((rd_T41 l0 (ji7)).f0), .int .i64 ((rd_T41 l0 (ji7)).f1)] 41 (0, 0))) ∧ Aside0 (wc.heap[gb112]? = some (.cells #[.int .i64 t107, .int .i64 t108] 41 (0, 0))) ∧ Aside0 (wc.heap[gb113]? = some (.cells #[.int .i64 t110, .int .i64 t111] 41 (0, 0))) ∧ Aside0 (Below w.heap.size w wc))
     case first =>
      have H := HC25.out
      clear HC25
      replace H := Option.bind_eq_some_iff.mp H
      obtain ⟨t114, A460, H⟩ := H
      try dsimp only at H
      have A46 := Aside0.mk A460
      clear A460
      by_cases c47 : t114 = 0
      ·rw [if_pos c47] at H
       have c47b0 : (t114 == 0) = true := beq_iff_eq.mpr c47
       have c47b1 : (t114 != 0) = false := bne_eq_false_iff_eq.mpr c47
       clear c47
       (first | rw [c47b0] | (simp only [i64_w, i32_w]; rw [c47b0]) | skip)
       replace H := Option.bind_eq_some_iff.mp H
       obtain ⟨t115, A480, H⟩ := H
       try dsimp only at H
       have A48 := Aside0.mk A480
       clear A480
       have H' := Aside0.mk H
       clear H
       have hnb49 := NB112_103.out
       have hnc49 := NB103_112.out
       have hnb50 := NB112_104.out
       have hnc50 := NB104_112.out
       have hnb51 := NB112_113.out
       have hnc51 := NB113_112.out
       obtain ⟨hcz52_0, hcz52_1, hfz52_0, hfz52_1⟩ := b2 BK112
       have hnb53 := NB113_103.out
       have hnc53 := NB103_113.out
       have hnb54 := NB113_104.out
       have hnc54 := NB104_113.out
       obtain ⟨hcz55_0, hcz55_1, hfz55_0, hfz55_1⟩ := b2 BK113
       go_wp2_with (first | ((with_reducible refine gc 77 rfl ?_); refine goesL_ (some 52) rfl rfl Try.func77 (by kernel_rfl) rfl #[.agg #[.int .i64 t107, .int .i64 t108], .agg #[.int .i64 t110, .int .i64 t111]] rfl sg ?_; (with_reducible refine (shape_cross.calls t107 t108 t110 t111 t114 _ A46.out).mono ?_); rintro e w56 ⟨rfl, hb⟩; refine ⟨_, rfl, ?_⟩; replace BK103 := Aside0.mk (blk_below (g := gb103) (o := .cells #[.int .i64 ((rd_T41 l0 (ji4)).f0), .int .i64 ((rd_T41 l0 (ji4)).f1)] 41 (0, 0)) (by refine bf NB103_113 ?_; refine bf NB103_113 ?_; refine bf NB103_112 ?_; refine bf NB103_112 ?_; refine bd ?_; exact BK103.out) hb); replace BK104 := Aside0.mk (blk_below (g := gb104) (o := .cells #[.int .i64 ((rd_T41 l0 (ji7)).f0), .int .i64 ((rd_T41 l0 (ji7)).f1)] 41 (0, 0)) (by refine bf NB104_113 ?_; refine bf NB104_113 ?_; refine bf NB104_112 ?_; refine bf NB104_112 ?_; refine bd ?_; exact BK104.out) hb); replace BK112 := Aside0.mk (blk_below (g := gb112) (o := .cells #[.int .i64 t107, .int .i64 t108] 41 (0, 0)) (by refine bf NB112_113 ?_; refine bf NB112_113 ?_; refine bd ?_; refine blk_put (cs := #[.int .i64 t107, .int .i64 0]) ?_ 1 _ rfl; refine bd ?_; refine blk_put (cs := #[.int .i64 0, .int .i64 0]) ?_ 0 _ rfl; refine bd ?_; exact BK112.out) hb); replace BK113 := Aside0.mk (blk_below (g := gb113) (o := .cells #[.int .i64 t110, .int .i64 t111] 41 (0, 0)) (by refine bd ?_; refine blk_put (cs := #[.int .i64 t110, .int .i64 0]) ?_ 1 _ rfl; refine bd ?_; refine blk_put (cs := #[.int .i64 0, .int .i64 0]) ?_ 0 _ rfl; refine bf NB113_112 ?_; refine bf NB113_112 ?_; refine bd ?_; exact BK113.out) hb); replace HB := bz hb; (try clear hb); obtain ⟨hcz57_0, hcz57_1, hfz57_0, hfz57_1⟩ := b2 BK112; obtain ⟨hcz58_0, hcz58_1, hfz58_0, hfz58_1⟩ := b2 BK113) | (go_at_call 80; (with_reducible refine (shape_dot.calls t107 t108 t110 t111 t115 _ A48.out).mono ?_); rintro e w59 ⟨rfl, hb⟩; replace BK103 := kb BK103 hb; replace BK104 := kb BK104 hb; replace BK112 := kb BK112 hb; replace BK113 := kb BK113 hb; replace HB := bz hb; (try clear hb)))
       go_meet
       case rel => exact ⟨_, (decide (t115 > 0)), sd, H', ⟨by have := HK1.out; first | omega | exact Nat.le_refl _⟩, ⟨bk BK103⟩, ⟨bk BK104⟩, ⟨bk BK112⟩, ⟨bk BK113⟩, ⟨bh⟩⟩
      ·rw [if_neg c47] at H
       have c47b0 : (t114 == 0) = false := beq_eq_false_iff_ne.mpr c47
       have c47b1 : (t114 != 0) = true := bne_iff_ne.mpr c47
       (first | rw [c47b0] | (simp only [i64_w, i32_w]; rw [c47b0]) | skip)
       have H' := Aside0.mk H
       clear H
       have hnb60 := NB112_103.out
       have hnc60 := NB103_112.out
       have hnb61 := NB112_104.out
       have hnc61 := NB104_112.out
       have hnb62 := NB112_113.out
       have hnc62 := NB113_112.out
       obtain ⟨hcz63_0, hcz63_1, hfz63_0, hfz63_1⟩ := b2 BK112
       have hnb64 := NB113_103.out
       have hnc64 := NB103_113.out
       have hnb65 := NB113_104.out
       have hnc65 := NB104_113.out
       obtain ⟨hcz66_0, hcz66_1, hfz66_0, hfz66_1⟩ := b2 BK113
       go_wp2_with (first | ((with_reducible refine gc 77 rfl ?_); refine goesL_ (some 52) rfl rfl Try.func77 (by kernel_rfl) rfl #[.agg #[.int .i64 t107, .int .i64 t108], .agg #[.int .i64 t110, .int .i64 t111]] rfl sg ?_; (with_reducible refine (shape_cross.calls t107 t108 t110 t111 t114 _ A46.out).mono ?_); rintro e w67 ⟨rfl, hb⟩; refine ⟨_, rfl, ?_⟩; replace BK103 := Aside0.mk (blk_below (g := gb103) (o := .cells #[.int .i64 ((rd_T41 l0 (ji4)).f0), .int .i64 ((rd_T41 l0 (ji4)).f1)] 41 (0, 0)) (by refine bf NB103_113 ?_; refine bf NB103_113 ?_; refine bf NB103_112 ?_; refine bf NB103_112 ?_; refine bd ?_; exact BK103.out) hb); replace BK104 := Aside0.mk (blk_below (g := gb104) (o := .cells #[.int .i64 ((rd_T41 l0 (ji7)).f0), .int .i64 ((rd_T41 l0 (ji7)).f1)] 41 (0, 0)) (by refine bf NB104_113 ?_; refine bf NB104_113 ?_; refine bf NB104_112 ?_; refine bf NB104_112 ?_; refine bd ?_; exact BK104.out) hb); replace BK112 := Aside0.mk (blk_below (g := gb112) (o := .cells #[.int .i64 t107, .int .i64 t108] 41 (0, 0)) (by refine bf NB112_113 ?_; refine bf NB112_113 ?_; refine bd ?_; refine blk_put (cs := #[.int .i64 t107, .int .i64 0]) ?_ 1 _ rfl; refine bd ?_; refine blk_put (cs := #[.int .i64 0, .int .i64 0]) ?_ 0 _ rfl; refine bd ?_; exact BK112.out) hb); replace BK113 := Aside0.mk (blk_below (g := gb113) (o := .cells #[.int .i64 t110, .int .i64 t111] 41 (0, 0)) (by refine bd ?_; refine blk_put (cs := #[.int .i64 t110, .int .i64 0]) ?_ 1 _ rfl; refine bd ?_; refine blk_put (cs := #[.int .i64 0, .int .i64 0]) ?_ 0 _ rfl; refine bf NB113_112 ?_; refine bf NB113_112 ?_; refine bd ?_; exact BK113.out) hb); replace HB := bz hb; (try clear hb)))
       go_meet
       case rel => exact ⟨_, (false), sd, H', ⟨by have := HK1.out; first | omega | exact Nat.le_refl _⟩, ⟨bk BK103⟩, ⟨bk BK104⟩, ⟨bk BK112⟩, ⟨bk BK113⟩, ⟨bh⟩⟩
     case rest =>
      clear HC25
      skip
      obtain ⟨kq, x59_24, rfl, HA, HJ24, BK103, BK104, BK112, BK113, HB⟩ := hcut
      cases kq with
      | zero => exact absurd HA.out (by simp [shape_simple.j1])
      | succ kj24 =>
       have H := HA.out
       clear HA
       simp only [shape_simple.j1] at H
       by_cases c68 : x59_24 = true
       ·subst c68
        rw [if_pos rfl] at H
        obtain rfl := Option.some.inj H
        go_wp2
        go_ret
        exact ⟨by first | rfl | (simp [errW_none, errW_some] <;> rfl) | (simp only [← hji4, ← hji7]; first | rfl | (simp [errW_none, errW_some] <;> rfl)) | (simp [*, errW_none, errW_some] <;> rfl), bh⟩
       ·replace c68 := Bool.eq_false_iff.mpr c68
        subst c68
        rw [if_neg (show ¬ (false = true) by decide)] at H
        have H' := Aside0.mk H
        clear H
        go_wp2
        go_loopg [61] kj24 (fun kq v61 w' => ∃ (x61_3 : Int), v61 = .int .i64 x61_3 ∧ Aside0 (shape_simple.l1 kq l0 (l0.length : Int) x13_1 (l0.length : Int) x13_1 x13_1 x61_3 ((rd_T41 l0 (ji7)).f0) ((rd_T41 l0 (ji7)).f1) = some r) ∧ Aside0 (kq ≤ kj24) ∧ Aside0 (w'.heap[gb103]? = some (.cells #[.int .i64 ((rd_T41 l0 (ji4)).f0), .int .i64 ((rd_T41 l0 (ji4)).f1)] 41 (0, 0))) ∧ Aside0 (w'.heap[gb104]? = some (.cells #[.int .i64 ((rd_T41 l0 (ji7)).f0), .int .i64 ((rd_T41 l0 (ji7)).f1)] 41 (0, 0))) ∧ Aside0 (w'.heap[gb112]? = some (.cells #[.int .i64 t107, .int .i64 t108] 41 (0, 0))) ∧ Aside0 (w'.heap[gb113]? = some (.cells #[.int .i64 t110, .int .i64 t111] 41 (0, 0))) ∧ Aside0 (Below w.heap.size w w'))
        case atStart => exact ⟨(0), sd, H', ⟨Nat.le_refl _⟩, ⟨bk BK103⟩, ⟨bk BK104⟩, ⟨bk BK112⟩, ⟨bk BK113⟩, ⟨bh⟩⟩
        case round =>
         clear H'
         (try clear c68)
         obtain ⟨x61_3, rfl, HA, HK3, BK103, BK104, BK112, BK113, HB⟩ := hrel
         cases gk with
         | zero => exact absurd HA.out (by simp [shape_simple.l1])
         | succ k3 =>
          have H := HA.out
          clear HA
          simp only [shape_simple.l1] at H
          by_cases c69 : x61_3 < x13_1
          ·rw [if_pos c69] at H
           have c69b0 := decide_eq_true c69
           clear c69
           have HC70 := Aside0.mk H
           clear H
           go_upto_region 14 with (fail)
           go_cut [94] (fun v94 wc => ∃ (kq : Nat) (x94_69 : Bool), v94 = .bool x94_69 ∧ Aside0 (shape_simple.j3 kq l0 (l0.length : Int) x13_1 (l0.length : Int) x13_1 x13_1 x61_3 x94_69 ((rd_T41 l0 (ji7)).f0) ((rd_T41 l0 (ji7)).f1) = some r) ∧ Aside0 (kq ≤ k3) ∧ Aside0 (wc.heap[gb103]? = some (.cells #[.int .i64 ((rd_T41 l0 (ji4)).f0), .int .i64 ((rd_T41 l0 (ji4)).f1)] 41 (0, 0))) ∧ Aside0 (wc.heap[gb104]? = some (.cells #[.int .i64 ((rd_T41 l0 (ji7)).f0), .int .i64 ((rd_T41 l0 (ji7)).f1)] 41 (0, 0))) ∧ Aside0 (wc.heap[gb112]? = some (.cells #[.int .i64 t107, .int .i64 t108] 41 (0, 0))) ∧ Aside0 (wc.heap[gb113]? = some (.cells #[.int .i64 t110, .int .i64 t111] 41 (0, 0))) ∧ Aside0 (Below w.heap.size w wc))
           case first =>
            have H := HC70.out
            clear HC70
            by_cases c71 : (wrap64 (x61_3 + 1)) = x13_1
            ·rw [if_pos c71] at H
             have c71b0 : ((wrap64 (x61_3 + 1)) == x13_1) = true := beq_iff_eq.mpr c71
             have c71b1 : ((wrap64 (x61_3 + 1)) != x13_1) = false := bne_eq_false_iff_eq.mpr c71
             clear c71
             (first | rw [c71b0] | (simp only [i64_w, i32_w]; rw [c71b0]) | skip)
             have H' := Aside0.mk H
             clear H
             try go_wp2
             replace BK103 := Aside0.mk (blk_drew BK103.out)
             replace BK104 := Aside0.mk (blk_drew BK104.out)
             replace BK112 := Aside0.mk (blk_drew BK112.out)
             replace BK113 := Aside0.mk (blk_drew BK113.out)
             replace HB := Aside0.mk (below_drew1 HB.out)
             refine start_ (n := 31) (S := fun w' => True) (ds := []) #[N,N,N,N,N,N,N,N,N,N,N,N,N,N,N,N,N,N,N,N,N,N,N,N,N,N,N,N,N,N,N] (by kernel_rfl) rfl rfl trivial (fun hHeld => ?_); refine with_tabW shape_simple.tab14 shape_simple.bits14 (fun HT_ HW_ => ?_)
             generalize wr.drew = w72 at BK103 BK104 BK112 BK113 HB hHeld ⊢
             refine pu 0 64 HT_ ?_
             refine pu 1 65 HT_ ?_
             refine pu 2 66 HT_ ?_
             refine pu 3 67 HT_ ?_
             refine pu 4 68 HT_ ?_
             refine pz 5 69 HT_ ?_
             refine pz 6 70 HT_ ?_
             refine pz 7 71 HT_ ?_
             refine pz 8 72 HT_ ?_
             refine pz 9 73 HT_ ?_
             refine pz 10 74 HT_ ?_
             refine pz 11 75 HT_ ?_
             refine pz 12 76 HT_ ?_
             refine pu 13 77 HT_ ?_
             refine pu 14 78 HT_ ?_
             refine pz 15 79 HT_ ?_
             refine pz 16 80 HT_ ?_
             refine pz 17 81 HT_ ?_
             refine pz 18 82 HT_ ?_
             refine pz 19 83 HT_ ?_
             refine pz 20 84 HT_ ?_
             refine pz 21 85 HT_ ?_
             refine pz 22 86 HT_ ?_
             refine pz 23 87 HT_ ?_
             refine pz 24 88 HT_ ?_
             refine pz 25 89 HT_ ?_
             refine pz 26 90 HT_ ?_
             refine pz 27 91 HT_ ?_
             refine pz 28 92 HT_ ?_
             refine pz 29 93 HT_ ?_
             refine pu 30 94 HT_ ?_
             refine done_ (done_of HT_.out (by kernel_rfl)) ?_
             try go_wp2
             go_meet
             case rel => exact ⟨_, (false), sd, H', ⟨by have := HK1.out; have := HJ24.out; have := HK3.out; first | omega | exact Nat.le_refl _⟩, ⟨bk BK103⟩, ⟨bk BK104⟩, ⟨bk BK112⟩, ⟨bk BK113⟩, ⟨bh⟩⟩
            ·rw [if_neg c71] at H
             have c71b0 : ((wrap64 (x61_3 + 1)) == x13_1) = false := beq_eq_false_iff_ne.mpr c71
             have c71b1 : ((wrap64 (x61_3 + 1)) != x13_1) = true := bne_iff_ne.mpr c71
             (first | rw [c71b0] | (simp only [i64_w, i32_w]; rw [c71b0]) | skip)
             by_cases c73 : x61_3 = 0
             ·rw [if_pos c73] at H
              have c73b0 : (x61_3 == 0) = true := beq_iff_eq.mpr c73
              have c73b1 : (x61_3 != 0) = false := bne_eq_false_iff_eq.mpr c73
              clear c73
              by_cases c74 : x13_1 = (wrap64 ((l0.length : Int) - 1))
              ·rw [if_pos c74] at H
               have c74b0 : (x13_1 == (wrap64 ((l0.length : Int) - 1))) = true := beq_iff_eq.mpr c74
               have c74b1 : (x13_1 != (wrap64 ((l0.length : Int) - 1))) = false := bne_eq_false_iff_eq.mpr c74
               clear c74
               have H' := Aside0.mk H
               clear H
               try go_wp2
               replace BK103 := Aside0.mk (blk_drew BK103.out)
               replace BK104 := Aside0.mk (blk_drew BK104.out)
               replace BK112 := Aside0.mk (blk_drew BK112.out)
               replace BK113 := Aside0.mk (blk_drew BK113.out)
               replace HB := Aside0.mk (below_drew1 HB.out)
               refine start_ (n := 31) (S := fun w' => True) (ds := []) #[N,N,N,N,N,N,N,N,N,N,N,N,N,N,N,N,N,N,N,N,N,N,N,N,N,N,N,N,N,N,N] (by kernel_rfl) rfl rfl trivial (fun hHeld => ?_); refine with_tabW shape_simple.tab14 shape_simple.bits14 (fun HT_ HW_ => ?_)
               generalize wr.drew = w75 at BK103 BK104 BK112 BK113 HB hHeld ⊢
               refine pu 0 64 HT_ ?_
               refine pu 1 65 HT_ ?_
               refine pu 2 66 HT_ ?_
               refine pu 3 67 HT_ ?_
               refine pu 4 68 HT_ ?_
               refine pu 5 69 HT_ ?_
               refine pu 6 70 HT_ ?_
               refine pu 7 71 HT_ ?_
               refine pu 8 72 HT_ ?_
               refine pu 9 73 HT_ ?_
               refine pu 10 74 HT_ ?_
               refine pu 11 75 HT_ ?_
               refine pu 12 76 HT_ ?_
               refine pu 13 77 HT_ ?_
               refine pu 14 78 HT_ ?_
               refine pz 15 79 HT_ ?_
               refine pz 16 80 HT_ ?_
               refine pz 17 81 HT_ ?_
               refine pz 18 82 HT_ ?_
               refine pz 19 83 HT_ ?_
               refine pz 20 84 HT_ ?_
               refine pz 21 85 HT_ ?_
               refine pz 22 86 HT_ ?_
               refine pz 23 87 HT_ ?_
               refine pz 24 88 HT_ ?_
               refine pz 25 89 HT_ ?_
               refine pz 26 90 HT_ ?_
               refine pz 27 91 HT_ ?_
               refine pz 28 92 HT_ ?_
               refine pz 29 93 HT_ ?_
               refine pu 30 94 HT_ ?_
               refine done_ (done_of HT_.out (by kernel_rfl)) ?_
               try go_wp2
               go_meet
               case rel => exact ⟨_, (false), sd, H', ⟨by have := HK1.out; have := HJ24.out; have := HK3.out; first | omega | exact Nat.le_refl _⟩, ⟨bk BK103⟩, ⟨bk BK104⟩, ⟨bk BK112⟩, ⟨bk BK113⟩, ⟨bh⟩⟩
              ·rw [if_neg c74] at H
               have c74b0 : (x13_1 == (wrap64 ((l0.length : Int) - 1))) = false := beq_eq_false_iff_ne.mpr c74
               have c74b1 : (x13_1 != (wrap64 ((l0.length : Int) - 1))) = true := bne_iff_ne.mpr c74
               obtain ⟨c76, H⟩ := oi H
               have c76b0 := decide_eq_true c76
               clear c76
               obtain ⟨c77, H⟩ := oi H
               have c77b0 := decide_eq_true c77
               clear c77
               obtain ⟨c78, H⟩ := oi H
               have c78b0 := decide_eq_true c78
               clear c78
               obtain ⟨c79, H⟩ := oi H
               have c79b0 := decide_eq_true c79
               clear c79
               obtain ⟨ji80, hji80⟩ : ∃ j_ : Int, (wrap64 (x61_3 + 1)) = j_ := ⟨_, rfl⟩
               first | rw [hji80] at H | simp only [hji80] at H
               (try rw [hji80] at c71b0)
               (try rw [hji80] at c71b1)
               have hji80w : (IntKind.i64.wrap (x61_3 + 1)) = ji80 := (i64_w _).trans hji80
               obtain ⟨c81, H⟩ := oi H
               have c81b0 := decide_eq_true c81
               clear c81
               obtain ⟨c82, H⟩ := oi H
               have c82b0 := decide_eq_true c82
               clear c82
               replace H := Option.bind_eq_some_iff.mp H
               obtain ⟨t119, A830, H⟩ := H
               try dsimp only at H
               have A83 := Aside0.mk A830
               clear A830
               have H' := Aside0.mk H
               clear H
               try go_wp2
               replace BK103 := Aside0.mk (blk_drew BK103.out)
               replace BK104 := Aside0.mk (blk_drew BK104.out)
               replace BK112 := Aside0.mk (blk_drew BK112.out)
               replace BK113 := Aside0.mk (blk_drew BK113.out)
               replace HB := Aside0.mk (below_drew1 HB.out)
               have p116 : 0 ≤ (x13_1 : Int) := dt
               have q116 : x13_1 < (l0.length : Int) := dt
               obtain ⟨ad116, e116, hx116_0, hx116_1⟩ := at_T41 HR0.out x13_1 p116 q116
               have hw116_1 := hx116_1
               have hw116_0 := hx116_0
               obtain rfl : ad101 = ad116 := (by injection e116)
               replace hx116_0 := hc HB hx116_0
               replace hx116_1 := hc HB hx116_1
               replace p116 := eq_true p116
               replace q116 := eq_true q116
               have p117 : 0 ≤ (x61_3 : Int) := dt
               have q117 : x61_3 < (l0.length : Int) := dt
               obtain ⟨ad117, e117, hx117_0, hx117_1⟩ := at_T41 HR0.out x61_3 p117 q117
               have hw117_1 := hx117_1
               have hw117_0 := hx117_0
               obtain rfl : ad101 = ad117 := (by injection e117)
               replace hx117_0 := hc HB hx117_0
               replace hx117_1 := hc HB hx117_1
               replace p117 := eq_true p117
               replace q117 := eq_true q117
               have p118 : 0 ≤ ((ji80) : Int) := dt
               have q118 : (ji80) < (l0.length : Int) := dt
               obtain ⟨ad118, e118, hx118_0, hx118_1⟩ := at_T41 HR0.out (ji80) p118 q118
               have hw118_1 := hx118_1
               have hw118_0 := hx118_0
               obtain rfl : ad101 = ad118 := (by injection e118)
               replace hx118_0 := hc HB hx118_0
               replace hx118_1 := hc HB hx118_1
               replace p118 := eq_true p118
               replace q118 := eq_true q118
               refine start_ (n := 31) (S := fun w' => w'.cell? ⟨gb104, 0, none⟩ = some (.int .i64 ((rd_T41 l0 (ji7)).f0)) ∧ w'.cell? ⟨gb104, 1, none⟩ = some (.int .i64 ((rd_T41 l0 (ji7)).f1)) ∧ w'.cell? (ad101.add ((x13_1).toNat * 2)) = some (.int .i64 ((rd_T41 l0 x13_1).f0)) ∧ w'.cell? ⟨(ad101.add ((x13_1).toNat * 2)).block, (ad101.add ((x13_1).toNat * 2)).off + 1, none⟩ = some (.int .i64 ((rd_T41 l0 x13_1).f1)) ∧ w'.cell? (ad101.add ((x61_3).toNat * 2)) = some (.int .i64 ((rd_T41 l0 x61_3).f0)) ∧ w'.cell? ⟨(ad101.add ((x61_3).toNat * 2)).block, (ad101.add ((x61_3).toNat * 2)).off + 1, none⟩ = some (.int .i64 ((rd_T41 l0 x61_3).f1)) ∧ w'.cell? (ad101.add (((ji80)).toNat * 2)) = some (.int .i64 ((rd_T41 l0 (ji80)).f0)) ∧ w'.cell? ⟨(ad101.add (((ji80)).toNat * 2)).block, (ad101.add (((ji80)).toNat * 2)).off + 1, none⟩ = some (.int .i64 ((rd_T41 l0 (ji80)).f1))) (ds := []) #[N,N,N,N,N,N,N,N,N,N,N,N,N,N,N,N,N,N,N,N,N,N,N,N,N,N,N,N,N,N,N] (by kernel_rfl) rfl rfl ⟨bc BK104 0, bc BK104 1, (hc HB hw116_0), (hc HB hw116_1), (hc HB hw117_0), (hc HB hw117_1), (hc HB hw118_0), (hc HB hw118_1)⟩ (fun hHeld => ?_); refine with_tabW shape_simple.tab14 shape_simple.bits14 (fun HT_ HW_ => ?_)
               generalize wr.drew = w84 at BK103 BK104 BK112 BK113 HB hx116_0 hx116_1 hx117_0 hx117_1 hx118_0 hx118_1 hHeld ⊢
               refine pu 0 64 HT_ ?_
               refine pu 1 65 HT_ ?_
               refine pu 2 66 HT_ ?_
               refine pu 3 67 HT_ ?_
               refine pu 4 68 HT_ ?_
               refine pu 5 69 HT_ ?_
               refine pu 6 70 HT_ ?_
               refine pu 7 71 HT_ ?_
               refine pu 8 72 HT_ ?_
               refine pu 9 73 HT_ ?_
               refine pu 10 74 HT_ ?_
               refine pu 11 75 HT_ ?_
               refine pu 12 76 HT_ ?_
               refine pu 13 77 HT_ ?_
               refine pu 14 78 HT_ ?_
               refine pu 15 79 HT_ ?_
               refine pu 16 80 HT_ ?_
               refine pu 17 81 HT_ ?_
               refine pu 20 84 HT_ ?_
               refine pu 21 85 HT_ ?_
               refine pu 22 86 HT_ ?_
               refine pu 24 88 HT_ ?_
               refine pu 25 89 HT_ ?_
               refine pu 26 90 HT_ ?_
               refine pu 27 91 HT_ ?_
               refine tk8 18 82 hHeld HT_ HW_ ?_
               refine tk8 19 83 hHeld HT_ HW_ ?_
               refine tk8 23 87 hHeld HT_ HW_ ?_
               refine tk8 28 92 hHeld HT_ HW_ ?_
               refine one_ (i := 29) (N := some 93) #[T,T,T,T,T,T,T,T,T,T,T,T,T,T,T,T,T,T,T,T,T,T,T,T,T,T,T,T,T,T,N] rfl rfl (on1 HT_) (by decide) (fun K hK => ?_)
               refine goes_ Try.func81 (by kernel_rfl) rfl #[.agg #[.int .i64 ((rd_T41 l0 x13_1).f0), .int .i64 ((rd_T41 l0 x13_1).f1)], .agg #[.int .i64 ((rd_T41 l0 (ji7)).f0), .int .i64 ((rd_T41 l0 (ji7)).f1)], .agg #[.int .i64 ((rd_T41 l0 x61_3).f0), .int .i64 ((rd_T41 l0 x61_3).f1)], .agg #[.int .i64 ((rd_T41 l0 (ji80)).f0), .int .i64 ((rd_T41 l0 (ji80)).f1)]] (by rfl) rfl rfl (by (try simp only [List.map_toArray, List.map_cons, List.map_nil]); first | done | (simp only [hji7, hji80]; rfl) | rfl | (simp only [List.length_drop, List.length_take]; rfl)) ?_
               with_reducible refine (shape_meet.calls k3 ((rd_T41 l0 x13_1).f0) ((rd_T41 l0 x13_1).f1) ((rd_T41 l0 (ji7)).f0) ((rd_T41 l0 (ji7)).f1) ((rd_T41 l0 x61_3).f0) ((rd_T41 l0 x61_3).f1) ((rd_T41 l0 (ji80)).f0) ((rd_T41 l0 (ji80)).f1) t119 _ A83.out).mono ?_
               rintro e w85 ⟨rfl, hb⟩
               refine ⟨_, rfl, ?_⟩
               replace BK103 := kb BK103 hb
               replace BK104 := kb BK104 hb
               replace BK112 := kb BK112 hb
               replace BK113 := kb BK113 hb
               replace HB := bz hb
               (try clear hb)
               refine hK.out _ _ ⟨bc BK104 0, bc BK104 1, (hc HB hw116_0), (hc HB hw116_1), (hc HB hw117_0), (hc HB hw117_1), (hc HB hw118_0), (hc HB hw118_1)⟩ (fun hHeld => ?_)
               clear hK K
               refine nm 93 ?_
               refine pu 30 94 HT_ ?_
               refine done_ (done_of HT_.out (by kernel_rfl)) ?_
               try go_wp2
               go_meet
               case rel => exact ⟨_, (t119), sd, H', ⟨by have := HK1.out; have := HJ24.out; have := HK3.out; first | omega | exact Nat.le_refl _⟩, ⟨bk BK103⟩, ⟨bk BK104⟩, ⟨bk BK112⟩, ⟨bk BK113⟩, ⟨bh⟩⟩
             ·rw [if_neg c73] at H
              have c73b0 : (x61_3 == 0) = false := beq_eq_false_iff_ne.mpr c73
              have c73b1 : (x61_3 != 0) = true := bne_iff_ne.mpr c73
              obtain ⟨c86, H⟩ := oi H
              have c86b0 := decide_eq_true c86
              clear c86
              obtain ⟨c87, H⟩ := oi H
              have c87b0 := decide_eq_true c87
              clear c87
              obtain ⟨c88, H⟩ := oi H
              have c88b0 := decide_eq_true c88
              clear c88
              obtain ⟨c89, H⟩ := oi H
              have c89b0 := decide_eq_true c89
              clear c89
              obtain ⟨ji90, hji90⟩ : ∃ j_ : Int, (wrap64 (x61_3 + 1)) = j_ := ⟨_, rfl⟩
              first | rw [hji90] at H | simp only [hji90] at H
              (try rw [hji90] at c71b0)
              (try rw [hji90] at c71b1)
              have hji90w : (IntKind.i64.wrap (x61_3 + 1)) = ji90 := (i64_w _).trans hji90
              obtain ⟨c91, H⟩ := oi H
              have c91b0 := decide_eq_true c91
              clear c91
              obtain ⟨c92, H⟩ := oi H
              have c92b0 := decide_eq_true c92
              clear c92
              replace H := Option.bind_eq_some_iff.mp H
              obtain ⟨t123, A930, H⟩ := H
              try dsimp only at H
              have A93 := Aside0.mk A930
              clear A930
              have H' := Aside0.mk H
              clear H
              try go_wp2
              replace BK103 := Aside0.mk (blk_drew BK103.out)
              replace BK104 := Aside0.mk (blk_drew BK104.out)
              replace BK112 := Aside0.mk (blk_drew BK112.out)
              replace BK113 := Aside0.mk (blk_drew BK113.out)
              replace HB := Aside0.mk (below_drew1 HB.out)
              have p120 : 0 ≤ (x13_1 : Int) := dt
              have q120 : x13_1 < (l0.length : Int) := dt
              obtain ⟨ad120, e120, hx120_0, hx120_1⟩ := at_T41 HR0.out x13_1 p120 q120
              have hw120_1 := hx120_1
              have hw120_0 := hx120_0
              obtain rfl : ad101 = ad120 := (by injection e120)
              replace hx120_0 := hc HB hx120_0
              replace hx120_1 := hc HB hx120_1
              replace p120 := eq_true p120
              replace q120 := eq_true q120
              have p121 : 0 ≤ (x61_3 : Int) := dt
              have q121 : x61_3 < (l0.length : Int) := dt
              obtain ⟨ad121, e121, hx121_0, hx121_1⟩ := at_T41 HR0.out x61_3 p121 q121
              have hw121_1 := hx121_1
              have hw121_0 := hx121_0
              obtain rfl : ad101 = ad121 := (by injection e121)
              replace hx121_0 := hc HB hx121_0
              replace hx121_1 := hc HB hx121_1
              replace p121 := eq_true p121
              replace q121 := eq_true q121
              have p122 : 0 ≤ ((ji90) : Int) := dt
              have q122 : (ji90) < (l0.length : Int) := dt
              obtain ⟨ad122, e122, hx122_0, hx122_1⟩ := at_T41 HR0.out (ji90) p122 q122
              have hw122_1 := hx122_1
              have hw122_0 := hx122_0
              obtain rfl : ad101 = ad122 := (by injection e122)
              replace hx122_0 := hc HB hx122_0
              replace hx122_1 := hc HB hx122_1
              replace p122 := eq_true p122
              replace q122 := eq_true q122
              refine start_ (n := 31) (S := fun w' => w'.cell? ⟨gb104, 0, none⟩ = some (.int .i64 ((rd_T41 l0 (ji7)).f0)) ∧ w'.cell? ⟨gb104, 1, none⟩ = some (.int .i64 ((rd_T41 l0 (ji7)).f1)) ∧ w'.cell? (ad101.add ((x13_1).toNat * 2)) = some (.int .i64 ((rd_T41 l0 x13_1).f0)) ∧ w'.cell? ⟨(ad101.add ((x13_1).toNat * 2)).block, (ad101.add ((x13_1).toNat * 2)).off + 1, none⟩ = some (.int .i64 ((rd_T41 l0 x13_1).f1)) ∧ w'.cell? (ad101.add ((x61_3).toNat * 2)) = some (.int .i64 ((rd_T41 l0 x61_3).f0)) ∧ w'.cell? ⟨(ad101.add ((x61_3).toNat * 2)).block, (ad101.add ((x61_3).toNat * 2)).off + 1, none⟩ = some (.int .i64 ((rd_T41 l0 x61_3).f1)) ∧ w'.cell? (ad101.add (((ji90)).toNat * 2)) = some (.int .i64 ((rd_T41 l0 (ji90)).f0)) ∧ w'.cell? ⟨(ad101.add (((ji90)).toNat * 2)).block, (ad101.add (((ji90)).toNat * 2)).off + 1, none⟩ = some (.int .i64 ((rd_T41 l0 (ji90)).f1))) (ds := []) #[N,N,N,N,N,N,N,N,N,N,N,N,N,N,N,N,N,N,N,N,N,N,N,N,N,N,N,N,N,N,N] (by kernel_rfl) rfl rfl ⟨bc BK104 0, bc BK104 1, (hc HB hw120_0), (hc HB hw120_1), (hc HB hw121_0), (hc HB hw121_1), (hc HB hw122_0), (hc HB hw122_1)⟩ (fun hHeld => ?_); refine with_tabW shape_simple.tab14 shape_simple.bits14 (fun HT_ HW_ => ?_)
              generalize wr.drew = w94 at BK103 BK104 BK112 BK113 HB hx120_0 hx120_1 hx121_0 hx121_1 hx122_0 hx122_1 hHeld ⊢
              refine pu 0 64 HT_ ?_
              refine pu 1 65 HT_ ?_
              refine pu 2 66 HT_ ?_
              refine pu 3 67 HT_ ?_
              refine pu 4 68 HT_ ?_
              refine pu 5 69 HT_ ?_
              refine pu 6 70 HT_ ?_
              refine pu 7 71 HT_ ?_
              refine pz 8 72 HT_ ?_
              refine pz 9 73 HT_ ?_
              refine pz 10 74 HT_ ?_
              refine pz 11 75 HT_ ?_
              refine pu 12 76 HT_ ?_
              refine pu 13 77 HT_ ?_
              refine pu 14 78 HT_ ?_
              refine pu 15 79 HT_ ?_
              refine pu 16 80 HT_ ?_
              refine pu 17 81 HT_ ?_
              refine pu 20 84 HT_ ?_
              refine pu 21 85 HT_ ?_
              refine pu 22 86 HT_ ?_
              refine pu 24 88 HT_ ?_
              refine pu 25 89 HT_ ?_
              refine pu 26 90 HT_ ?_
              refine pu 27 91 HT_ ?_
              refine tk8 18 82 hHeld HT_ HW_ ?_
              refine tk8 19 83 hHeld HT_ HW_ ?_
              refine tk8 23 87 hHeld HT_ HW_ ?_
              refine tk8 28 92 hHeld HT_ HW_ ?_
              refine one_ (i := 29) (N := some 93) #[T,T,T,T,T,T,T,T,T,T,T,T,T,T,T,T,T,T,T,T,T,T,T,T,T,T,T,T,T,T,N] rfl rfl (on1 HT_) (by decide) (fun K hK => ?_)
              refine goes_ Try.func81 (by kernel_rfl) rfl #[.agg #[.int .i64 ((rd_T41 l0 x13_1).f0), .int .i64 ((rd_T41 l0 x13_1).f1)], .agg #[.int .i64 ((rd_T41 l0 (ji7)).f0), .int .i64 ((rd_T41 l0 (ji7)).f1)], .agg #[.int .i64 ((rd_T41 l0 x61_3).f0), .int .i64 ((rd_T41 l0 x61_3).f1)], .agg #[.int .i64 ((rd_T41 l0 (ji90)).f0), .int .i64 ((rd_T41 l0 (ji90)).f1)]] (by rfl) rfl rfl (by (try simp only [List.map_toArray, List.map_cons, List.map_nil]); first | done | (simp only [hji7, hji90]; rfl) | rfl | (simp only [List.length_drop, List.length_take]; rfl)) ?_
              with_reducible refine (shape_meet.calls k3 ((rd_T41 l0 x13_1).f0) ((rd_T41 l0 x13_1).f1) ((rd_T41 l0 (ji7)).f0) ((rd_T41 l0 (ji7)).f1) ((rd_T41 l0 x61_3).f0) ((rd_T41 l0 x61_3).f1) ((rd_T41 l0 (ji90)).f0) ((rd_T41 l0 (ji90)).f1) t123 _ A93.out).mono ?_
              rintro e w95 ⟨rfl, hb⟩
              refine ⟨_, rfl, ?_⟩
              replace BK103 := kb BK103 hb
              replace BK104 := kb BK104 hb
              replace BK112 := kb BK112 hb
              replace BK113 := kb BK113 hb
              replace HB := bz hb
              (try clear hb)
              refine hK.out _ _ ⟨bc BK104 0, bc BK104 1, (hc HB hw120_0), (hc HB hw120_1), (hc HB hw121_0), (hc HB hw121_1), (hc HB hw122_0), (hc HB hw122_1)⟩ (fun hHeld => ?_)
              clear hK K
              refine nm 93 ?_
              refine pu 30 94 HT_ ?_
              refine done_ (done_of HT_.out (by kernel_rfl)) ?_
              try go_wp2
              go_meet
              case rel => exact ⟨_, (t123), sd, H', ⟨by have := HK1.out; have := HJ24.out; have := HK3.out; first | omega | exact Nat.le_refl _⟩, ⟨bk BK103⟩, ⟨bk BK104⟩, ⟨bk BK112⟩, ⟨bk BK113⟩, ⟨bh⟩⟩
           case rest =>
            clear HC70
            skip
            obtain ⟨kq, x94_69, rfl, HA, HJ69, BK103, BK104, BK112, BK113, HB⟩ := hcut
            cases kq with
            | zero => exact absurd HA.out (by simp [shape_simple.j3])
            | succ kj69 =>
             have H := HA.out
             clear HA
             simp only [shape_simple.j3] at H
             by_cases c96 : x94_69 = true
             ·subst c96
              rw [if_pos rfl] at H
              obtain rfl := Option.some.inj H
              go_wp2
              go_ret
              exact ⟨by first | rfl | (simp [errW_none, errW_some] <;> rfl) | (simp only [← hji4, ← hji7]; first | rfl | (simp [errW_none, errW_some] <;> rfl)) | (simp [*, errW_none, errW_some] <;> rfl), bh⟩
             ·replace c96 := Bool.eq_false_iff.mpr c96
              subst c96
              rw [if_neg (show ¬ (false = true) by decide)] at H
              have H' := Aside0.mk H
              clear H
              go_wp2
              go_roundg kj69
              case measure => have := HK1.out; have := HJ24.out; have := HK3.out; have := HJ69.out; omega
              case rel => exact ⟨(wrap64 (x61_3 + 1)), sd, H', ⟨by have := HK1.out; have := HJ24.out; have := HK3.out; have := HJ69.out; omega⟩, ⟨bk BK103⟩, ⟨bk BK104⟩, ⟨bk BK112⟩, ⟨bk BK113⟩, ⟨bh⟩⟩
          ·rw [if_neg c69] at H
           have c69b0 := decide_eq_false c69
           clear c69
           have H' := Aside0.mk H
           clear H
           go_wp2
           go_roundg k3
           case measure => have := HK1.out; have := HJ24.out; have := HK3.out; omega
           case rel => exact ⟨(wrap64 (x13_1 + 1)), sd, H', ⟨by have := HK1.out; have := HJ24.out; have := HK3.out; omega⟩, ⟨bh⟩⟩
   ·rw [if_neg c2] at H
    have c2b0 := decide_eq_false c2
    clear c2
    obtain rfl := Option.some.inj H
    go_wp2
    go_ret
    exact ⟨by exact er, bh⟩
end Go.Proofs.Ythehmkpcddafnaa.PG
end
section
namespace Go.Proofs.Ythehmkpcddafnaa.PG
open Go.RowKit Go.Proofs.YthehmkpcddafnaaW.PrintWords Go.Proofs.YthehmkpcddafnaaW.PrintLast Go.Proofs.YthehmkpcddafnaaW.PrintMore
variable {P : Program} {ops : Array Oper} {Q : Exit → Act → World → Prop}
/-- A call of a function value, by the function's contract, in a region that draws. -/
theorem goesV_ {oi : Oper} {N : Option Tmp} {a : Act} {w : World} {K : Act → World → Prop} {f : FuncId} {fn : Func} {c : Operand} {xs_ : Array Operand} {ts : Array TypeId} (hf : P.funcs[f]? = some fn) (hname : (fn.name == "runtime.NumGoroutine") = false) (hb : fn.body.isSome = true) (args : Array Value)
  (hw : Region.wanted oi (yielded ops a.tmps) = true) (hN : oi.dst = N) (hop : oi.op = .call { callee := .value c, args := xs_, argTypes := ts }) (hargs : xs_.map a.eval = args) (hc : a.eval c = .func (.func f) #[] #[])
  (h : Calls P f args w fun e w' => ∃ v, e = .returned v ∧ K (a.put N v) w') : if Region.wanted oi (yielded ops a.tmps) = true then Oper.wp P oi a w K Q else K (a.put N undef) w := by
 refine call_ f args hw hN ?_ h
 have he := enters_ hf hname hb args w
 unfold execOp
 simp [hop, resolve, Deferred.ofValue, invoke, hargs, he, hc]
/-- .. in a plain region. -/
theorem goesLV_ {rest : List Oper} {oi : Oper} {a : Act} {w : World} (N : Option Tmp) (hd : oi.dst = N) (hg : oi.guard = none) {f : FuncId} {fn : Func} {c : Operand} {xs_ : Array Operand} {ts : Array TypeId} (hf : P.funcs[f]? = some fn) (hname : (fn.name == "runtime.NumGoroutine") = false) (hb : fn.body.isSome = true) (args : Array Value)
  (hop : oi.op = .call { callee := .value c, args := xs_, argTypes := ts }) (hargs : xs_.map a.eval = args) (hc : a.eval c = .func (.func f) #[] #[])
  (h : Calls P f args w fun e w' => ∃ v, e = .returned v ∧ wpList P ops Q rest (a.put N v) w') : wpList P ops Q (oi :: rest) a w := by
 refine wpList_plain hg fun K hK => ?_
 have he := enters_ hf hname hb args w
 have hrun : (execOp a.eval oi).run P w = .ok (.enter f args) w := by
  unfold execOp
  simp [hop, resolve, Deferred.ofValue, invoke, hargs, he, hc]
 unfold Oper.wp
 rw [hrun, Oper.upon_enter]
 refine h.mono fun e w'' hh => ?_
 obtain ⟨v, rfl, hk⟩ := hh
 subst hd
 exact hK _ _ hk
/-- The operation is a call of a value that is this function. -/
theorem gate_value {rest : List Oper} {o : Oper} {a : Act} {W : World} {c : Operand} {xs_ : Array Operand} {ts : Array TypeId} (f : FuncId) (_ho : o.op = .call { callee := .value c, args := xs_, argTypes := ts }) (_hc : a.eval c = .func (.func f) #[] #[]) (h : wpList P ops Q (o :: rest) a W) : wpList P ops Q (o :: rest) a W := h
end Go.Proofs.Ythehmkpcddafnaa.PG
end
section
namespace Go.Proofs.Ythehmkpcddafnaa.PG
open Go.RowKit Go.Proofs.YthehmkpcddafnaaW.PrintWords Go.Proofs.YthehmkpcddafnaaW.PrintLast Go.Proofs.YthehmkpcddafnaaW.PrintMore
attribute [local go_sem] max2_int min2_int max_two min_two max_three min_three max_four min_four
set_option linter.unusedVariables false
set_option linter.unusedSimpArgs false
/-! ### shape_refused_simple: function 1036 -/
def shape_refused_simple.f (k : Nat) (l0 : List (S41))  : Option (Int) := (shape_polygon.f l0).bind fun t101 => (if t101 = true then ((shape_simple.f k l0).bind fun t102 => (if t102 = true then (some 0) else (some 2))) else (some 1))
set_option maxHeartbeats 8000000 in
set_option maxRecDepth 100000 in
theorem shape_refused_simple.calls (k : Nat) (A0 : Option Addr) (c0 : Nat) (l0 : List (S41))  (r : Int) (w : World) (hr0 : Kd.C k41 w A0 l0.length l0) (hc0 : l0.length ≤ c0) (h : shape_refused_simple.f k l0 = some r) :
  Calls Try.prog 36 #[.slice A0 l0.length c0, .func (.func 37) #[] #[]] w fun e w' => e = .returned (.int .i64 r) ∧ Below w.heap.size w w' := by
 have HR0 := Aside0.mk hr0
 have HC0 := Aside0.mk hc0
 clear hr0 hc0
 have HB := Aside0.mk (Below.refl w.heap.size w)
 have H : ((shape_polygon.f l0).bind fun t101 => (if t101 = true then ((shape_simple.f k l0).bind fun t102 => (if t102 = true then (some 0) else (some 2))) else (some 1))) = some r := h
 clear h
 replace H := Option.bind_eq_some_iff.mp H
 obtain ⟨t101, A30, H⟩ := H
 try dsimp only at H
 have A3 := Aside0.mk A30
 clear A30
 by_cases c4 : t101 = true
 ·subst c4
  rw [if_pos rfl] at H
  replace H := Option.bind_eq_some_iff.mp H
  obtain ⟨t102, A50, H⟩ := H
  try dsimp only at H
  have A5 := Aside0.mk A50
  clear A50
  by_cases c6 : t102 = true
  ·subst c6
   rw [if_pos rfl] at H
   obtain rfl := Option.some.inj H
   go_enter Try.func36, Try.ntmps36
   go_wp2_with (first | ((first | ((with_reducible refine gc 71 rfl ?_); refine goesL_ (some 7) rfl rfl Try.func71 (by kernel_rfl) rfl #[.slice A0 l0.length c0] rfl sg ?_) | ((with_reducible refine gate_value 71 rfl rfl ?_); refine goesLV_ (some 7) rfl rfl Try.func71 (by kernel_rfl) rfl #[.slice A0 l0.length c0] rfl sg rfl ?_)); (with_reducible refine (shape_polygon.calls _ _ l0 true _ ?side1 ?side2 A3.out).mono ?_); (case side1 => exact cs HR0.out); (case side2 => exact HC0.out); rintro e w7 ⟨rfl, hb⟩; refine ⟨_, rfl, ?_⟩; replace HB := bz hb; (try clear hb)) | ((first | ((with_reducible refine gc 37 rfl ?_); refine goesL_ (some 12) rfl rfl Try.func37 (by kernel_rfl) rfl #[.slice A0 l0.length c0] rfl sg ?_) | ((with_reducible refine gate_value 37 rfl rfl ?_); refine goesLV_ (some 12) rfl rfl Try.func37 (by kernel_rfl) rfl #[.slice A0 l0.length c0] rfl sg rfl ?_)); (with_reducible refine (shape_simple.calls k _ _ l0 true _ ?side1 ?side2 A5.out).mono ?_); (case side1 => exact cs (Kd.C_below HR0.out HB.out)); (case side2 => exact HC0.out); rintro e w8 ⟨rfl, hb⟩; refine ⟨_, rfl, ?_⟩; replace HB := bz hb; (try clear hb)))
   go_ret
   exact ⟨by exact er, bh⟩
  ·replace c6 := Bool.eq_false_iff.mpr c6
   subst c6
   rw [if_neg (show ¬ (false = true) by decide)] at H
   obtain rfl := Option.some.inj H
   go_enter Try.func36, Try.ntmps36
   go_wp2_with (first | ((first | ((with_reducible refine gc 71 rfl ?_); refine goesL_ (some 7) rfl rfl Try.func71 (by kernel_rfl) rfl #[.slice A0 l0.length c0] rfl sg ?_) | ((with_reducible refine gate_value 71 rfl rfl ?_); refine goesLV_ (some 7) rfl rfl Try.func71 (by kernel_rfl) rfl #[.slice A0 l0.length c0] rfl sg rfl ?_)); (with_reducible refine (shape_polygon.calls _ _ l0 true _ ?side1 ?side2 A3.out).mono ?_); (case side1 => exact cs HR0.out); (case side2 => exact HC0.out); rintro e w9 ⟨rfl, hb⟩; refine ⟨_, rfl, ?_⟩; replace HB := bz hb; (try clear hb)) | ((first | ((with_reducible refine gc 37 rfl ?_); refine goesL_ (some 12) rfl rfl Try.func37 (by kernel_rfl) rfl #[.slice A0 l0.length c0] rfl sg ?_) | ((with_reducible refine gate_value 37 rfl rfl ?_); refine goesLV_ (some 12) rfl rfl Try.func37 (by kernel_rfl) rfl #[.slice A0 l0.length c0] rfl sg rfl ?_)); (with_reducible refine (shape_simple.calls k _ _ l0 false _ ?side1 ?side2 A5.out).mono ?_); (case side1 => exact cs (Kd.C_below HR0.out HB.out)); (case side2 => exact HC0.out); rintro e w10 ⟨rfl, hb⟩; refine ⟨_, rfl, ?_⟩; replace HB := bz hb; (try clear hb)))
   go_ret
   exact ⟨by exact er, bh⟩
 ·replace c4 := Bool.eq_false_iff.mpr c4
  subst c4
  rw [if_neg (show ¬ (false = true) by decide)] at H
  obtain rfl := Option.some.inj H
  go_enter Try.func36, Try.ntmps36
  go_wp2_with (first | ((first | ((with_reducible refine gc 71 rfl ?_); refine goesL_ (some 7) rfl rfl Try.func71 (by kernel_rfl) rfl #[.slice A0 l0.length c0] rfl sg ?_) | ((with_reducible refine gate_value 71 rfl rfl ?_); refine goesLV_ (some 7) rfl rfl Try.func71 (by kernel_rfl) rfl #[.slice A0 l0.length c0] rfl sg rfl ?_)); (with_reducible refine (shape_polygon.calls _ _ l0 false _ ?side1 ?side2 A3.out).mono ?_); (case side1 => exact cs HR0.out); (case side2 => exact HC0.out); rintro e w11 ⟨rfl, hb⟩; refine ⟨_, rfl, ?_⟩; replace HB := bz hb; (try clear hb)))
  go_ret
  exact ⟨by exact er, bh⟩
/-! ### shape_Lattice: function 23 -/
def shape_Lattice.l0 : Nat → List (S41) → Int → Int → Int → Option (Int × Int × Int)
 | 0, _, _, _, _ => none
 | k + 1, x0, x6, x16, x17 => if x17 < x16 then (if (x0.length : Int) = 0 then (none) else (if 0 ≤ (Int.tmod (wrap64 (x17 + 1)) (x0.length : Int)) then (if (Int.tmod (wrap64 (x17 + 1)) (x0.length : Int)) < (x0.length : Int) then (if 0 ≤ x17 then (if x17 < (x0.length : Int) then ((shape_sub.f ((rd_T41 x0 (Int.tmod (wrap64 (x17 + 1)) (x0.length : Int))).f0) ((rd_T41 x0 (Int.tmod (wrap64 (x17 + 1)) (x0.length : Int))).f1) ((rd_T41 x0 x17).f0) ((rd_T41 x0 x17).f1)).bind fun bt105 => ((shape_gcd.f k bt105.1 bt105.2).bind fun t108 => (shape_Lattice.l0 k x0 (wrap64 (x6 + t108)) x16 (wrap64 (x17 + 1))))) else (none)) else (none)) else (none)) else (none))) else ((shape_area2.f k x0).bind fun t102 => (some (wrap64 (Int.tdiv (wrap64 ((wrap64 ((mx t102 (wrap64 (-t102))) - x6)) + 2)) 2), x6, 0)))
def shape_Lattice.f (k : Nat) (l0 : List (S41)) : Option (Int × Int × Int) := (shape_refused_simple.f k l0).bind fun t101 => (if t101 = 0 then (shape_Lattice.l0 k l0 0 (l0.length : Int) 0) else (some (0, 0, t101)))
def shape_Lattice.T8 : Bool × List (List Nat × List Nat) := (true, [([], []), ([], []), ([1], [1]), ([], []), ([3], [3]), ([2, 4], [2, 4]), ([0, 5], [0, 5]), ([6], [6]), ([], []), ([], []), ([8, 9], [8, 9]), ([10], [10]), ([7, 11], [7, 11]), ([], []), ([13, 12, 12, 0, 1, 2, 3, 4, 5, 6, 7, 8, 9, 10, 11, 12, 13], [12, 13])])
def shape_Lattice.B8 : List Nat := [0, 0, 2, 0, 8, 30, 63, 127, 0, 0, 768, 1792, 4095, 0, 16383]
theorem shape_Lattice.tab8 : rtab .any (opsOf Try.f23 8) = shape_Lattice.T8 := by kernel_rfl
theorem shape_Lattice.bits8 : waitsOk shape_Lattice.T8.2 shape_Lattice.B8 = true := by kernel_rfl
set_option maxHeartbeats 8000000 in
set_option maxRecDepth 100000 in
theorem shape_Lattice.calls (k : Nat) (A0 : Option Addr) (c0 : Nat) (l0 : List (S41)) (r1 : Int) (r2 : Int) (r3 : Int) (w : World) (hr0 : Kd.C k41 w A0 l0.length l0) (hc0 : l0.length ≤ c0) (h : shape_Lattice.f k l0 = some (r1, r2, r3)) :
  Calls Try.prog 23 #[.slice A0 l0.length c0] w fun e w' => e = .returned (.tuple #[.int .i64 r1, .int .i64 r2, .int .i64 r3]) ∧ Below w.heap.size w w' := by
 have hu41 := Try.underlying41
 have HR0 := Aside0.mk hr0
 have HC0 := Aside0.mk hc0
 clear hr0 hc0
 have HB := Aside0.mk (Below.refl w.heap.size w)
 have H : ((shape_refused_simple.f k l0).bind fun t101 => (if t101 = 0 then (shape_Lattice.l0 k l0 0 (l0.length : Int) 0) else (some (0, 0, t101)))) = some (r1, r2, r3) := h
 clear h
 replace H := Option.bind_eq_some_iff.mp H
 obtain ⟨t101, A20, H⟩ := H
 replace H : (if t101 = 0 then (shape_Lattice.l0 k l0 0 (l0.length : Int) 0) else (some (0, 0, t101))) = some (r1, r2, r3) := H
 have A2 := Aside0.mk A20
 clear A20
 by_cases c3 : t101 = 0
 ·rw [if_pos c3] at H
  have c3b0 : (t101 == 0) = true := beq_iff_eq.mpr c3
  have c3b1 : (t101 != 0) = false := bne_eq_false_iff_eq.mpr c3
  clear c3
  have H' := Aside0.mk H
  clear H
  go_enter Try.func23, Try.ntmps23
  go_wp2_with (first | ((with_reducible refine gc 36 rfl ?_); refine goesL_ (some 11) rfl rfl Try.func36 (by kernel_rfl) rfl #[.slice A0 l0.length c0, .func (.func 37) #[] #[]] rfl sg ?_; (with_reducible refine (shape_refused_simple.calls k _ _ l0  t101 _ ?side1 ?side2 A2.out).mono ?_); (case side1 => exact cs HR0.out); (case side2 => exact HC0.out); rintro e w4 ⟨rfl, hb⟩; refine ⟨_, rfl, ?_⟩; replace HB := bz hb; (try clear hb)))
  go_loopg [6, 17] k (fun kq v6 v17 w' => ∃ (x6_1 : Int) (x17_1 : Int), v6 = .int .i64 x6_1 ∧ v17 = .int .i64 x17_1 ∧ Aside0 (shape_Lattice.l0 kq l0 x6_1 (l0.length : Int) x17_1 = some (r1, r2, r3)) ∧ Aside0 (kq ≤ k) ∧ Aside0 (Below w.heap.size w w'))
  case atStart => exact ⟨(0), (0), sd, sd, H', ⟨Nat.le_refl _⟩, ⟨bh⟩⟩
  case round =>
   clear H'
   (try clear c3b0); (try clear c3b1)
   obtain ⟨x6_1, x17_1, rfl, rfl, HA, HK1, HB⟩ := hrel
   cases gk with
   | zero => exact absurd HA.out (by simp [shape_Lattice.l0])
   | succ k1 =>
    have H := HA.out
    clear HA
    simp only [shape_Lattice.l0] at H
    by_cases c5 : x17_1 < (l0.length : Int)
    ·rw [if_pos c5] at H
     have c5b0 := decide_eq_true c5
     clear c5
     obtain ⟨c6, H⟩ := oj H
     have c6b0 : ((l0.length : Int) == 0) = false := beq_eq_false_iff_ne.mpr c6
     have c6b1 : ((l0.length : Int) != 0) = true := bne_iff_ne.mpr c6
     have c6b2 : ¬ (l0 = []) := fun h_ => c6 (by rw [h_]; rfl)
     obtain ⟨ji7, hji7⟩ : ∃ j_ : Int, (Int.tmod (wrap64 (x17_1 + 1)) (l0.length : Int)) = j_ := ⟨_, rfl⟩
     replace H : (if 0 ≤ (ji7) then (if (ji7) < (l0.length : Int) then (if 0 ≤ x17_1 then (if x17_1 < (l0.length : Int) then ((shape_sub.f ((rd_T41 l0 (ji7)).f0) ((rd_T41 l0 (ji7)).f1) ((rd_T41 l0 x17_1).f0) ((rd_T41 l0 x17_1).f1)).bind fun bt105 => ((shape_gcd.f k1 bt105.1 bt105.2).bind fun t108 => (shape_Lattice.l0 k1 l0 (wrap64 (x6_1 + t108)) (l0.length : Int) (wrap64 (x17_1 + 1))))) else (none)) else (none)) else (none)) else (none)) = some (r1, r2, r3) := by first | (rw [hji7] at H; exact H) | (simp only [hji7] at H ⊢; exact H)
     obtain ⟨c8, H⟩ := oi H
     have c8b0 := decide_eq_true c8
     clear c8
     obtain ⟨c9, H⟩ := oi H
     have c9b0 := decide_eq_true c9
     clear c9
     obtain ⟨c10, H⟩ := oi H
     have c10b0 := decide_eq_true c10
     clear c10
     obtain ⟨c11, H⟩ := oi H
     have c11b0 := decide_eq_true c11
     clear c11
     replace H := Option.bind_eq_some_iff.mp H
     obtain ⟨⟨t105, t106⟩, A120, H⟩ := H
     replace H : ((shape_gcd.f k1 t105 t106).bind fun t108 => (shape_Lattice.l0 k1 l0 (wrap64 (x6_1 + t108)) (l0.length : Int) (wrap64 (x17_1 + 1)))) = some (r1, r2, r3) := H
     have A12 := Aside0.mk A120
     clear A120
     replace H := Option.bind_eq_some_iff.mp H
     obtain ⟨t108, A130, H⟩ := H
     replace H : (shape_Lattice.l0 k1 l0 (wrap64 (x6_1 + t108)) (l0.length : Int) (wrap64 (x17_1 + 1))) = some (r1, r2, r3) := H
     have A13 := Aside0.mk A130
     clear A130
     have H' := Aside0.mk H
     clear H
     try go_wp2
     replace HB := Aside0.mk (below_drew1 HB.out)
     have p103 : 0 ≤ ((ji7) : Int) := dt
     have q103 : (ji7) < (l0.length : Int) := dt
     obtain ⟨ad103, e103, hx103_0, hx103_1⟩ := at_T41 HR0.out (ji7) p103 q103
     have hw103_1 := hx103_1
     have hw103_0 := hx103_0
     cases e103
     replace hx103_0 := hc HB hx103_0
     replace hx103_1 := hc HB hx103_1
     replace p103 := eq_true p103
     replace q103 := eq_true q103
     have p104 : 0 ≤ (x17_1 : Int) := dt
     have q104 : x17_1 < (l0.length : Int) := dt
     obtain ⟨ad104, e104, hx104_0, hx104_1⟩ := at_T41 HR0.out x17_1 p104 q104
     have hw104_1 := hx104_1
     have hw104_0 := hx104_0
     obtain rfl : ad103 = ad104 := (by injection e104)
     replace hx104_0 := hc HB hx104_0
     replace hx104_1 := hc HB hx104_1
     replace p104 := eq_true p104
     replace q104 := eq_true q104
     refine start_ (n := 15) (S := fun w' => w'.cell? (ad103.add (((ji7)).toNat * 2)) = some (.int .i64 ((rd_T41 l0 (ji7)).f0)) ∧ w'.cell? ⟨(ad103.add (((ji7)).toNat * 2)).block, (ad103.add (((ji7)).toNat * 2)).off + 1, none⟩ = some (.int .i64 ((rd_T41 l0 (ji7)).f1)) ∧ w'.cell? (ad103.add ((x17_1).toNat * 2)) = some (.int .i64 ((rd_T41 l0 x17_1).f0)) ∧ w'.cell? ⟨(ad103.add ((x17_1).toNat * 2)).block, (ad103.add ((x17_1).toNat * 2)).off + 1, none⟩ = some (.int .i64 ((rd_T41 l0 x17_1).f1))) (ds := []) #[N,N,N,N,N,N,N,N,N,N,N,N,N,N,N] (by kernel_rfl) rfl rfl ⟨(hc HB hw103_0), (hc HB hw103_1), (hc HB hw104_0), (hc HB hw104_1)⟩ (fun hHeld => ?_); refine with_tabW shape_Lattice.tab8 shape_Lattice.bits8 (fun HT_ HW_ => ?_)
     generalize wr.drew = w14 at HB hx103_0 hx103_1 hx104_0 hx104_1 hHeld ⊢
     refine pu 0 20 HT_ ?_
     refine pu 1 21 HT_ ?_
     refine pu 2 22 HT_ ?_
     refine pu 3 23 HT_ ?_
     refine pu 4 24 HT_ ?_
     refine pu 5 25 HT_ ?_
     refine pu 6 26 HT_ ?_
     refine pu 8 28 HT_ ?_
     refine pu 9 29 HT_ ?_
     refine pu 10 30 HT_ ?_
     refine tk4 7 27 hHeld HT_ HW_ ?_
     refine tk4 11 31 hHeld HT_ HW_ ?_
     refine join_ (σ := Nat) 1 #[T,T,T,T,T,T,T,T,T,T,T,T,T,T,N] (fun s_ => [(32, .agg #[.int .i64 t105, .int .i64 t106]), (8, .pointer (some ⟨s_, 0, none⟩))]) (fun s_ w' => (w'.cell? (ad103.add (((ji7)).toNat * 2)) = some (.int .i64 ((rd_T41 l0 (ji7)).f0)) ∧ w'.cell? ⟨(ad103.add (((ji7)).toNat * 2)).block, (ad103.add (((ji7)).toNat * 2)).off + 1, none⟩ = some (.int .i64 ((rd_T41 l0 (ji7)).f1)) ∧ w'.cell? (ad103.add ((x17_1).toNat * 2)) = some (.int .i64 ((rd_T41 l0 x17_1).f0)) ∧ w'.cell? ⟨(ad103.add ((x17_1).toNat * 2)).block, (ad103.add ((x17_1).toNat * 2)).off + 1, none⟩ = some (.int .i64 ((rd_T41 l0 x17_1).f1))) ∧ (w'.heap[s_]? = some (.cells #[.int .i64 0, .int .i64 0] 41 (0, 0))) ∧ (w.heap.size ≤ s_) ∧ (w.heap.size ≤ s_) ∧ (Below w.heap.size w w')) ?_ ?_
     rotate_left
     ·intro hCont
      refine two_ (i := 12) (j := 13) (Ni := some 32) (Nj := some 8) #[T,T,T,T,T,T,T,T,T,T,T,T,T,N,N] #[T,T,T,T,T,T,T,T,T,T,T,T,N,T,N] rfl rfl rfl rfl (on2 HT_) (by decide) (by decide) (fun K hK => ?_) (fun K hK => ?_)
      ·skip
       refine goes_ Try.func53 (by kernel_rfl) rfl #[.agg #[.int .i64 ((rd_T41 l0 (ji7)).f0), .int .i64 ((rd_T41 l0 (ji7)).f1)], .agg #[.int .i64 ((rd_T41 l0 x17_1).f0), .int .i64 ((rd_T41 l0 x17_1).f1)]] (by rfl) rfl rfl (by (try simp only [List.map_toArray, List.map_cons, List.map_nil]); first | done | (simp only [hji7]; rfl) | rfl | (simp only [List.length_drop, List.length_take]; rfl)) ?_
       with_reducible refine (shape_sub.calls ((rd_T41 l0 (ji7)).f0) ((rd_T41 l0 (ji7)).f1) ((rd_T41 l0 x17_1).f0) ((rd_T41 l0 x17_1).f1) t105 t106 _ A12.out).mono ?_
       rintro e w15 ⟨rfl, hb⟩
       refine ⟨_, rfl, ?_⟩
       replace HB := bz hb
       (try clear hb)
       refine hK.out _ _ ⟨(hc HB hw103_0), (hc HB hw103_1), (hc HB hw104_0), (hc HB hw104_1)⟩ (fun hHeld => ?_)
       clear hK K
       refine nm 32 ?_
       refine one_ (i := 13) (N := some 8) #[T,T,T,T,T,T,T,T,T,T,T,T,T,T,N] rfl rfl (on1 HT_) (by decide) (fun K hK => ?_)
       refine bxs 8 #[.int .i64 0, .int .i64 0] 41 ?_
       intro gb107 hg w16 hbox hb
       have BK107 := Aside0.mk (hbox)
       have GW107 := ga w hg
       have GE107 := GW107
       replace HB := bz hb
       clear hb hbox hg
       refine hK.out _ _ ⟨(hc HB hw103_0), (hc HB hw103_1), (hc HB hw104_0), (hc HB hw104_1)⟩ (fun hHeld => ?_)
       clear hK K
       refine nm 8 ?_
       exact norm_ pa (hCont (gb107) _ ⟨hHeld, bk BK107, GW107.out, GE107.out, bh⟩)
      ·skip
       refine bxs 8 #[.int .i64 0, .int .i64 0] 41 ?_
       intro gb107 hg w15 hbox hb
       have BK107 := Aside0.mk (hbox)
       have GW107 := ga w hg
       have GE107 := GW107
       replace HB := bz hb
       clear hb hbox hg
       refine hK.out _ _ ⟨(hc HB hw103_0), (hc HB hw103_1), (hc HB hw104_0), (hc HB hw104_1)⟩ (fun hHeld => ?_)
       clear hK K
       refine nm 8 ?_
       refine one_ (i := 12) (N := some 32) #[T,T,T,T,T,T,T,T,T,T,T,T,T,T,N] rfl rfl (on1 HT_) (by decide) (fun K hK => ?_)
       refine goes_ Try.func53 (by kernel_rfl) rfl #[.agg #[.int .i64 ((rd_T41 l0 (ji7)).f0), .int .i64 ((rd_T41 l0 (ji7)).f1)], .agg #[.int .i64 ((rd_T41 l0 x17_1).f0), .int .i64 ((rd_T41 l0 x17_1).f1)]] (by rfl) rfl rfl (by (try simp only [List.map_toArray, List.map_cons, List.map_nil]); first | done | (simp only [hji7]; rfl) | rfl | (simp only [List.length_drop, List.length_take]; rfl)) ?_
       with_reducible refine (shape_sub.calls ((rd_T41 l0 (ji7)).f0) ((rd_T41 l0 (ji7)).f1) ((rd_T41 l0 x17_1).f0) ((rd_T41 l0 x17_1).f1) t105 t106 _ A12.out).mono ?_
       rintro e w16 ⟨rfl, hb⟩
       refine ⟨_, rfl, ?_⟩
       replace BK107 := kb BK107 hb
       replace HB := bz hb
       (try clear hb)
       refine hK.out _ _ ⟨(hc HB hw103_0), (hc HB hw103_1), (hc HB hw104_0), (hc HB hw104_1)⟩ (fun hHeld => ?_)
       clear hK K
       refine nm 32 ?_
       exact norm_ pa (hCont (gb107) _ ⟨hHeld, bk BK107, GW107.out, GE107.out, bh⟩)
     rintro gb107 w17 ⟨hS_, h0_, h1_, h2_, h3_⟩
     have BK107 := Aside0.mk h0_
     have GW107 := Aside0.mk h1_
     have GE107 := Aside0.mk h2_
     replace HB := Aside0.mk h3_
     clear h0_ h1_ h2_ h3_
     have hHeld := hS_
     refine nn ?_
     refine one_ (i := 14) (N := none) #[T,T,T,T,T,T,T,T,T,T,T,T,T,T,T] rfl rfl (on1 HT_) (by decide) (fun K hK => ?_)
     have hs18 : w17.cell? ⟨gb107, 0, none⟩ = some (.int .i64 0) := bc BK107 0
     have hfs18 := blk_frozen BK107.out 0
     have hs19 : w17.cell? ⟨gb107, 1, none⟩ = some (.int .i64 0) := bc BK107 1
     have hfs19 := blk_frozen BK107.out 1
     refine skip_ (w1 := ?_) (by rfl) rfl ?_ ?_
     rotate_left
     ·go_simp
      rfl
     refine hK.out _ _ ⟨((cell_far (p := ⟨gb107, _, none⟩) (fr hw103_0 GW107) _).trans (((cell_far (p := ⟨gb107, _, none⟩) (fr hw103_0 GW107) _).trans (hHeld.1)))), ((cell_far (p := ⟨gb107, _, none⟩) (fr hw103_1 GW107) _).trans (((cell_far (p := ⟨gb107, _, none⟩) (fr hw103_1 GW107) _).trans (hHeld.2.1)))), ((cell_far (p := ⟨gb107, _, none⟩) (fr hw104_0 GW107) _).trans (((cell_far (p := ⟨gb107, _, none⟩) (fr hw104_0 GW107) _).trans (hHeld.2.2.1)))), ((cell_far (p := ⟨gb107, _, none⟩) (fr hw104_1 GW107) _).trans (((cell_far (p := ⟨gb107, _, none⟩) (fr hw104_1 GW107) _).trans (hHeld.2.2.2))))⟩ (fun hHeld => ?_)
     clear hK K
     refine done_ (done_of HT_.out (by kernel_rfl)) ?_
     obtain ⟨hcz20_0, hcz20_1, hfz20_0, hfz20_1⟩ := b2 BK107
     try go_wp2_with (first | ((with_reducible refine gc 54 rfl ?_); refine goesL_ (some 38) rfl rfl Try.func54 (by kernel_rfl) rfl #[.int .i64 t105, .int .i64 t106] rfl sg ?_; (with_reducible refine (shape_gcd.calls k1 t105 t106 t108 _ A13.out).mono ?_); rintro e w21 ⟨rfl, hb⟩; refine ⟨_, rfl, ?_⟩; replace BK107 := Aside0.mk (blk_below (g := gb107) (o := .cells #[.int .i64 t105, .int .i64 t106] 41 (0, 0)) (by refine bd ?_; refine blk_put (cs := #[.int .i64 t105, .int .i64 0]) ?_ 1 _ rfl; refine bd ?_; refine blk_put (cs := #[.int .i64 0, .int .i64 0]) ?_ 0 _ rfl; refine bd ?_; exact BK107.out) hb); replace HB := bz hb; (try clear hb)))
     go_roundg k1
     case measure => have := HK1.out; omega
     case rel => exact ⟨(wrap64 (x6_1 + t108)), (wrap64 (x17_1 + 1)), sd, sd, H', ⟨by have := HK1.out; omega⟩, ⟨bh⟩⟩
    ·rw [if_neg c5] at H
     have c5b0 := decide_eq_false c5
     clear c5
     replace H := Option.bind_eq_some_iff.mp H
     obtain ⟨t102, A220, H⟩ := H
     replace H : (some (wrap64 (Int.tdiv (wrap64 ((wrap64 ((mx t102 (wrap64 (-t102))) - x6_1)) + 2)) 2), x6_1, 0)) = some (r1, r2, r3) := H
     have A22 := Aside0.mk A220
     clear A220
     obtain ⟨ji23, hji23⟩ : ∃ j_ : Int, (mx t102 (wrap64 (-t102))) = j_ := ⟨_, rfl⟩
     replace H : (some (wrap64 (Int.tdiv (wrap64 ((wrap64 ((ji23) - x6_1)) + 2)) 2), x6_1, 0)) = some (r1, r2, r3) := by first | (rw [hji23] at H; exact H) | (simp only [hji23] at H ⊢; exact H)
     (try rw [hji23] at A22)
     have hji23_ : (if t102 < (wrap64 (-t102)) then (wrap64 (-t102)) else t102) = ji23 := hji23
     simp only [Option.some.injEq, Prod.mk.injEq] at H
     obtain ⟨rfl, rfl, rfl⟩ := H
     go_wp2_with (first | ((with_reducible refine gc 55 rfl ?_); refine goesL_ (some 42) rfl rfl Try.func55 (by kernel_rfl) rfl #[.slice A0 l0.length c0] rfl sg ?_; (with_reducible refine (shape_area2.calls k1 _ _ l0 t102 _ ?side1 ?side2 A22.out).mono ?_); (case side1 => exact cs (Kd.C_below HR0.out HB.out)); (case side2 => exact HC0.out); rintro e w24 ⟨rfl, hb⟩; refine ⟨_, rfl, ?_⟩; replace HB := bz hb; (try clear hb)))
     go_ret3
     exact ⟨by first | rfl | (simp [errW_none, errW_some] <;> rfl) | (simp only [← hji23]; first | rfl | (simp [errW_none, errW_some] <;> rfl)) | (simp [*, errW_none, errW_some] <;> rfl), bh⟩
 ·rw [if_neg c3] at H
  have c3b0 : (t101 == 0) = false := beq_eq_false_iff_ne.mpr c3
  have c3b1 : (t101 != 0) = true := bne_iff_ne.mpr c3
  simp only [Option.some.injEq, Prod.mk.injEq] at H
  obtain ⟨rfl, rfl, rfl⟩ := H
  go_enter Try.func23, Try.ntmps23
  go_wp2_with (first | ((with_reducible refine gc 36 rfl ?_); refine goesL_ (some 11) rfl rfl Try.func36 (by kernel_rfl) rfl #[.slice A0 l0.length c0, .func (.func 37) #[] #[]] rfl sg ?_; (with_reducible refine (shape_refused_simple.calls k _ _ l0  t101 _ ?side1 ?side2 A2.out).mono ?_); (case side1 => exact cs HR0.out); (case side2 => exact HC0.out); rintro e w25 ⟨rfl, hb⟩; refine ⟨_, rfl, ?_⟩; replace HB := bz hb; (try clear hb)))
  go_ret3
  exact ⟨by exact er, bh⟩
/-! ### shape_Area2: function 29 -/
def shape_Area2.f (k : Nat) (l0 : List (S41)) : Option (Int × Int) := (shape_polygon.f l0).bind fun t101 => (if t101 = true then ((shape_area2.f k l0).bind fun t102 => (some (t102, 0))) else (some (0, 1)))
set_option maxHeartbeats 8000000 in
set_option maxRecDepth 100000 in
theorem shape_Area2.calls (k : Nat) (A0 : Option Addr) (c0 : Nat) (l0 : List (S41)) (r1 : Int) (r2 : Int) (w : World) (hr0 : Kd.C k41 w A0 l0.length l0) (hc0 : l0.length ≤ c0) (h : shape_Area2.f k l0 = some (r1, r2)) :
  Calls Try.prog 29 #[.slice A0 l0.length c0] w fun e w' => e = .returned (.tuple #[.int .i64 r1, .int .i64 r2]) ∧ Below w.heap.size w w' := by
 have HR0 := Aside0.mk hr0
 have HC0 := Aside0.mk hc0
 clear hr0 hc0
 have HB := Aside0.mk (Below.refl w.heap.size w)
 have H : ((shape_polygon.f l0).bind fun t101 => (if t101 = true then ((shape_area2.f k l0).bind fun t102 => (some (t102, 0))) else (some (0, 1)))) = some (r1, r2) := h
 clear h
 replace H := Option.bind_eq_some_iff.mp H
 obtain ⟨t101, A20, H⟩ := H
 replace H : (if t101 = true then ((shape_area2.f k l0).bind fun t102 => (some (t102, 0))) else (some (0, 1))) = some (r1, r2) := H
 have A2 := Aside0.mk A20
 clear A20
 by_cases c3 : t101 = true
 ·subst c3
  rw [if_pos rfl] at H
  replace H := Option.bind_eq_some_iff.mp H
  obtain ⟨t102, A40, H⟩ := H
  replace H : (some (t102, 0)) = some (r1, r2) := H
  have A4 := Aside0.mk A40
  clear A40
  simp only [Option.some.injEq, Prod.mk.injEq] at H
  obtain ⟨rfl, rfl⟩ := H
  go_enter Try.func29, Try.ntmps29
  go_wp2_with (first | ((with_reducible refine gc 71 rfl ?_); refine goesL_ (some 5) rfl rfl Try.func71 (by kernel_rfl) rfl #[.slice A0 l0.length c0] rfl sg ?_; (with_reducible refine (shape_polygon.calls _ _ l0 true _ ?side1 ?side2 A2.out).mono ?_); (case side1 => exact cs HR0.out); (case side2 => exact HC0.out); rintro e w5 ⟨rfl, hb⟩; refine ⟨_, rfl, ?_⟩; replace HB := bz hb; (try clear hb)) | ((with_reducible refine gc 55 rfl ?_); refine goesL_ (some 8) rfl rfl Try.func55 (by kernel_rfl) rfl #[.slice A0 l0.length c0] rfl sg ?_; (with_reducible refine (shape_area2.calls k _ _ l0 t102 _ ?side1 ?side2 A4.out).mono ?_); (case side1 => exact cs (Kd.C_below HR0.out HB.out)); (case side2 => exact HC0.out); rintro e w6 ⟨rfl, hb⟩; refine ⟨_, rfl, ?_⟩; replace HB := bz hb; (try clear hb)))
  go_ret2
  exact ⟨by exact er, bh⟩
 ·replace c3 := Bool.eq_false_iff.mpr c3
  subst c3
  rw [if_neg (show ¬ (false = true) by decide)] at H
  simp only [Option.some.injEq, Prod.mk.injEq] at H
  obtain ⟨rfl, rfl⟩ := H
  go_enter Try.func29, Try.ntmps29
  go_wp2_with (first | ((with_reducible refine gc 71 rfl ?_); refine goesL_ (some 5) rfl rfl Try.func71 (by kernel_rfl) rfl #[.slice A0 l0.length c0] rfl sg ?_; (with_reducible refine (shape_polygon.calls _ _ l0 false _ ?side1 ?side2 A2.out).mono ?_); (case side1 => exact cs HR0.out); (case side2 => exact HC0.out); rintro e w7 ⟨rfl, hb⟩; refine ⟨_, rfl, ?_⟩; replace HB := bz hb; (try clear hb)))
  go_ret2
  exact ⟨by exact er, bh⟩
attribute [local go_sem high] eqA41
/-! ### cracknelref04_Same: function 41 -/
def cracknelref04_Same.l0 : Nat → List (S41) → List (S41) → Int → Option (Bool)
 | 0, _, _, _ => none
 | k + 1, x0, x1, x5 => if x5 < (x0.length : Int) then (if 0 ≤ x5 then (if x5 < (x1.length : Int) then (if (!(((rd_T41 x0 x5).f0) == ((rd_T41 x1 x5).f0)) || (!(((rd_T41 x0 x5).f1) == ((rd_T41 x1 x5).f1)))) = true then (some false) else (cracknelref04_Same.l0 k x0 x1 (wrap64 (x5 + 1)))) else (none)) else (none)) else (some true)
def cracknelref04_Same.f (k : Nat) (l0 : List (S41)) (l1 : List (S41)) : Option (Bool) := if (l0.length : Int) = (l1.length : Int) then (cracknelref04_Same.l0 k l0 l1 0) else (some false)
set_option maxHeartbeats 8000000 in
set_option maxRecDepth 100000 in
theorem cracknelref04_Same.calls (k : Nat) (A0 : Option Addr) (c0 : Nat) (l0 : List (S41)) (A1 : Option Addr) (c1 : Nat) (l1 : List (S41)) (r : Bool) (w : World) (hr0 : Kd.C k41 w A0 l0.length l0) (hc0 : l0.length ≤ c0) (hr1 : Kd.C k41 w A1 l1.length l1) (hc1 : l1.length ≤ c1) (h : cracknelref04_Same.f k l0 l1 = some r) :
  Calls Try.prog 41 #[.slice A0 l0.length c0, .slice A1 l1.length c1] w fun e w' => e = .returned (.bool r) ∧ Drawn0 w w' := by
 have hu41 := Try.underlying41
 have HR0 := Aside0.mk hr0
 have HC0 := Aside0.mk hc0
 clear hr0 hc0
 have HR1 := Aside0.mk hr1
 have HC1 := Aside0.mk hc1
 clear hr1 hc1
 have H : (if (l0.length : Int) = (l1.length : Int) then (cracknelref04_Same.l0 k l0 l1 0) else (some false)) = some r := h
 clear h
 by_cases c3 : (l0.length : Int) = (l1.length : Int)
 ·rw [if_pos c3] at H
  have c3b0 : ((l0.length : Int) == (l1.length : Int)) = true := beq_iff_eq.mpr c3
  have c3b1 : ((l0.length : Int) != (l1.length : Int)) = false := bne_eq_false_iff_eq.mpr c3
  have c3b2 : (l0.length == l1.length) = true := by first | simpa using c3 | (simp at c3 ⊢; omega)
  clear c3
  have H' := Aside0.mk H
  clear H
  go_enter Try.func41, Try.ntmps41
  go_wp2
  repeat (go_quiet (fail); try go_wp2)
  go_loopg [5] k (fun kq v5 w' => ∃ (x5_1 : Int), v5 = .int .i64 x5_1 ∧ Aside0 (cracknelref04_Same.l0 kq l0 l1 x5_1 = some r) ∧ Aside0 (kq ≤ k) ∧ Drawn0 w w')
  case atStart => exact ⟨(0), sd, H', ⟨Nat.le_refl _⟩, by repeat (first | exact Drawn0.refl _ | apply Drawn0.step)⟩
  case round =>
   clear H'
   (try clear c1); (try clear c3b0); (try clear c3b1); (try clear c3b2)
   obtain ⟨x5_1, rfl, HA, HK1, ⟨m1, rfl⟩⟩ := hrel
   cases gk with
   | zero => exact absurd HA.out (by simp [cracknelref04_Same.l0])
   | succ k1 =>
    have H := HA.out
    clear HA
    simp only [cracknelref04_Same.l0] at H
    by_cases c4 : x5_1 < (l0.length : Int)
    ·rw [if_pos c4] at H
     have c4b0 := decide_eq_true c4
     clear c4
     obtain ⟨c5, H⟩ := oi H
     have c5b0 := decide_eq_true c5
     clear c5
     obtain ⟨c6, H⟩ := oi H
     have c6b0 := decide_eq_true c6
     clear c6
     by_cases c7 : (!(((rd_T41 l0 x5_1).f0) == ((rd_T41 l1 x5_1).f0)) || (!(((rd_T41 l0 x5_1).f1) == ((rd_T41 l1 x5_1).f1)))) = true
     ·rw [if_pos c7] at H
      have c7b0 : (!(((rd_T41 l0 x5_1).f0) == ((rd_T41 l1 x5_1).f0)) || (!(((rd_T41 l0 x5_1).f1) == ((rd_T41 l1 x5_1).f1)))) = true := c7
      clear c7
      obtain rfl := Option.some.inj H
      have p101 : 0 ≤ (x5_1 : Int) := dt
      have q101 : x5_1 < (l0.length : Int) := dt
      obtain ⟨ad101, e101, hx101_0, hx101_1⟩ := at_T41 HR0.out x5_1 p101 q101
      cases e101
      replace p101 := eq_true p101
      replace q101 := eq_true q101
      have p102 : 0 ≤ (x5_1 : Int) := dt
      have q102 : x5_1 < (l1.length : Int) := dt
      obtain ⟨ad102, e102, hx102_0, hx102_1⟩ := at_T41 HR1.out x5_1 p102 q102
      cases e102
      replace p102 := eq_true p102
      replace q102 := eq_true q102
      go_wp2
      repeat (go_quiet (fail); try go_wp2)
      go_ret
      exact ⟨by first | rfl | (simp; done) | (simp [*]; done), by repeat (first | exact Drawn0.refl _ | apply Drawn0.step)⟩
     ·rw [if_neg c7] at H
      have c7b0 : (!(((rd_T41 l0 x5_1).f0) == ((rd_T41 l1 x5_1).f0)) || (!(((rd_T41 l0 x5_1).f1) == ((rd_T41 l1 x5_1).f1)))) = false := by simpa using c7
      clear c7
      have H' := Aside0.mk H
      clear H
      have p101 : 0 ≤ (x5_1 : Int) := dt
      have q101 : x5_1 < (l0.length : Int) := dt
      obtain ⟨ad101, e101, hx101_0, hx101_1⟩ := at_T41 HR0.out x5_1 p101 q101
      cases e101
      replace p101 := eq_true p101
      replace q101 := eq_true q101
      have p102 : 0 ≤ (x5_1 : Int) := dt
      have q102 : x5_1 < (l1.length : Int) := dt
      obtain ⟨ad102, e102, hx102_0, hx102_1⟩ := at_T41 HR1.out x5_1 p102 q102
      cases e102
      replace p102 := eq_true p102
      replace q102 := eq_true q102
      go_wp2
      repeat (go_quiet (fail); try go_wp2)
      go_roundg k1
      case measure => have := HK1.out; omega
      case rel => exact ⟨(wrap64 (x5_1 + 1)), sd, H', ⟨by have := HK1.out; omega⟩, by repeat (first | exact Drawn0.refl _ | apply Drawn0.step)⟩
    ·rw [if_neg c4] at H
     have c4b0 := decide_eq_false c4
     clear c4
     obtain rfl := Option.some.inj H
     go_wp2
     repeat (go_quiet (fail); try go_wp2)
     go_ret
     exact ⟨by first | rfl | (simp; done) | (simp [*]; done), by repeat (first | exact Drawn0.refl _ | apply Drawn0.step)⟩
 ·rw [if_neg c3] at H
  have c3b0 : ((l0.length : Int) == (l1.length : Int)) = false := beq_eq_false_iff_ne.mpr c3
  have c3b1 : ((l0.length : Int) != (l1.length : Int)) = true := bne_iff_ne.mpr c3
  have c3b2 : (l0.length == l1.length) = false := by first | simpa using c3 | (simp at c3 ⊢; omega)
  obtain rfl := Option.some.inj H
  go_enter Try.func41, Try.ntmps41
  go_wp2
  repeat (go_quiet (fail); try go_wp2)
  go_ret
  exact ⟨by first | rfl | (simp; done) | (simp [*]; done), by repeat (first | exact Drawn0.refl _ | apply Drawn0.step)⟩
/-! ### shape_chain: function 93 -/
mutual
def shape_chain.l0 : Nat → List (S41) → List (S41) → Int → Int → Option ((List (S41)))
 | 0, _, _, _, _ => none
 | k + 1, x3, x7, x8, x9 => if x9 < x8 then (if 0 ≤ x9 then (if x9 < (x7.length : Int) then (shape_chain.l1 k x3 (x3.length : Int) x7 x8 x9 ((rd_T41 x7 x9).f0) ((rd_T41 x7 x9).f1)) else (none)) else (none)) else (some x3)
def shape_chain.l1 : Nat → List (S41) → Int → List (S41) → Int → Int → Int → Int → Option ((List (S41)))
 | 0, _, _, _, _, _, _, _ => none
 | k + 1, x3, x6, x7, x8, x9, x103000, x103001 => if x6 ≥ 2 then (if 0 ≤ (wrap64 (x6 - 2)) then (if (wrap64 (x6 - 2)) < (x3.length : Int) then (if 0 ≤ (wrap64 (x6 - 1)) then (if (wrap64 (x6 - 1)) < (x3.length : Int) then ((shape_side.f ((rd_T41 x3 (wrap64 (x6 - 2))).f0) ((rd_T41 x3 (wrap64 (x6 - 2))).f1) ((rd_T41 x3 (wrap64 (x6 - 1))).f0) ((rd_T41 x3 (wrap64 (x6 - 1))).f1) x103000 x103001).bind fun t105 => (if t105 ≤ 0 then (if (wrap64 (x6 - 1)) ≤ (x3.length : Int) then ((some (x3.take ((wrap64 (x6 - 1)) : Int).toNat : List (S41))).bind fun y106 => (shape_chain.l1 k y106 (y106.length : Int) x7 x8 x9 x103000 x103001)) else (none)) else (if x3.length < 8796093022208 then (shape_chain.l0 k (x3 ++ [(⟨x103000, x103001⟩ : S41)]) x7 x8 (wrap64 (x9 + 1))) else (none)))) else (none)) else (none)) else (none)) else (none)) else (if x3.length < 8796093022208 then (shape_chain.l0 k (x3 ++ [(⟨x103000, x103001⟩ : S41)]) x7 x8 (wrap64 (x9 + 1))) else (none))
end
def shape_chain.f (k : Nat) (l0 : List (S41)) : Option ((List (S41))) := shape_chain.l0 k ([] : List (S41)) l0 (l0.length : Int) 0
def shape_chain.T6 : Bool × List (List Nat × List Nat) := (true, [([], []), ([0], [0]), ([1], [1]), ([2], [2]), ([2], [2]), ([4, 2], [2, 4]), ([3, 5, 2], [2, 3, 5]), ([6, 2], [2, 6]), ([2], [2]), ([2], [2]), ([9, 2], [2, 9]), ([8, 10, 2], [2, 8, 10]), ([11, 2], [2, 11]), ([2], [2]), ([7, 12, 13, 2, 2], [2, 7, 12, 13]), ([14, 2], [2, 14]), ([2, 15], [2, 15])])
def shape_chain.B6 : List Nat := [0, 1, 3, 7, 7, 23, 63, 127, 7, 7, 519, 1799, 3847, 7, 16383, 32767, 65535]
theorem shape_chain.tab6 : rtab .any (opsOf Try.f93 6) = shape_chain.T6 := by kernel_rfl
theorem shape_chain.bits6 : waitsOk shape_chain.T6.2 shape_chain.B6 = true := by kernel_rfl
set_option maxHeartbeats 8000000 in
set_option maxRecDepth 100000 in
theorem shape_chain.calls (k : Nat) (A0 : Option Addr) (c0 : Nat) (l0 : List (S41)) (r : List (S41)) (w : World) (hr0 : Kd.C k41 w A0 l0.length l0) (hc0 : l0.length ≤ c0) (h : shape_chain.f k l0 = some r) :
  Calls Try.prog 93 #[.slice A0 l0.length c0] w fun e w' => ∃ v0_ : Value, e = .returned (v0_) ∧ Kd.R k41 41 w' w.heap.size (fun _ => True) v0_ r ∧ Below w.heap.size w w' := by
 have hu41 := Try.underlying41
 have HR0 := Aside0.mk hr0
 have HC0 := Aside0.mk hc0
 clear hr0 hc0
 have HB := Aside0.mk (Below.refl w.heap.size w)
 have H : (shape_chain.l0 k ([] : List (S41)) l0 (l0.length : Int) 0) = some r := h
 clear h
 have H' := Aside0.mk H
 clear H
 go_enter Try.func93, Try.ntmps93
 go_wp2
 go_loopg [3, 9] k (fun kq v3 v9 w' => ∃ (x3_1 : List (S41)) (x9_1 : Int), v9 = .int .i64 x9_1 ∧ Aside0 (shape_chain.l0 kq x3_1 l0 (l0.length : Int) x9_1 = some r) ∧ Aside0 (kq ≤ k) ∧ Aside0 (Kd.R k41 41 w' w.heap.size (fun _ => True) v3 x3_1) ∧ Aside0 (Below w.heap.size w w'))
 case atStart => exact ⟨(([] : List (S41))), (0), sd, H', ⟨Nat.le_refl _⟩, ⟨by first | exact Kd.R_nil _ _ _ _ _ | exact Kd.N_nil _ _ _ _ _ | exact Kd.V_nil _ _ _ _ _ | exact Kd.Q_nil _ _ _ _ _ | exact Kd.S_nil _ _ _ _ _⟩, ⟨bh⟩⟩
 case round =>
  clear H'
  obtain ⟨x3_1, x9_1, rfl, HA, HK1, HO_3, HB⟩ := hrel
  cases gk with
  | zero => exact absurd HA.out (by simp [shape_chain.l0])
  | succ k1 =>
   have H := HA.out
   clear HA
   simp only [shape_chain.l0] at H
   by_cases c2 : x9_1 < (l0.length : Int)
   ·rw [if_pos c2] at H
    have c2b0 := decide_eq_true c2
    clear c2
    obtain ⟨c3, H⟩ := oi H
    have c3b0 := decide_eq_true c3
    clear c3
    obtain ⟨c4, H⟩ := oi H
    have c4b0 := decide_eq_true c4
    clear c4
    have H' := Aside0.mk H
    clear H
    have p101 : 0 ≤ (x9_1 : Int) := dt
    have q101 : x9_1 < (l0.length : Int) := dt
    obtain ⟨ad101, e101, hx101_0, hx101_1⟩ := at_T41 HR0.out x9_1 p101 q101
    cases e101
    replace hx101_0 := hc HB hx101_0
    replace hx101_1 := hc HB hx101_1
    replace p101 := eq_true p101
    replace q101 := eq_true q101
    go_wp2_with (first | ((with_reducible refine gate_dst (N := 5) rfl ?_); refine bxe 5 #[.int .i64 0, .int .i64 0] 41 ?_; intro gb102 hg w5 hbox hb; have BK102 := Aside0.mk (hbox); have GW102 := ga w hg; have GE102 := GW102; replace HO_3 := Aside0.mk (Kd.R_below (Kd.R_elderB (ro HO_3) gb102 (Nat.le_of_eq hg.symm)) hb); replace HB := bz hb; clear hb hbox hg; obtain ⟨hcz6_0, hcz6_1, hfz6_0, hfz6_1⟩ := b2 BK102; obtain ⟨Ao7, co7, eo7⟩ := Kd.R_slice HO_3.out; subst eo7))
    go_loopg [3, 6] k1 (fun kq v3 v6 w' => ∃ (x3_2 : List (S41)) (x6_2 : Int), v6 = .int .i64 x6_2 ∧ Aside0 (shape_chain.l1 kq x3_2 x6_2 l0 (l0.length : Int) x9_1 ((rd_T41 l0 x9_1).f0) ((rd_T41 l0 x9_1).f1) = some r) ∧ Aside0 (kq ≤ k1) ∧ Aside0 (Kd.R k41 41 w' w.heap.size (fun k_ => k_ ≠ gb102) v3 x3_2) ∧ Aside0 (w'.heap[gb102]? = some (.cells #[.int .i64 ((rd_T41 l0 x9_1).f0), .int .i64 ((rd_T41 l0 x9_1).f1)] 41 (0, 0))) ∧ Aside0 (Below w.heap.size w w'))
    case atStart => exact ⟨(x3_1), ((x3_1.length : Int)), sd, H', ⟨Nat.le_refl _⟩, ⟨by (with_reducible repeat (first | apply Kd.R_alloc | apply Kd.R_drewN | apply Kd.R_drew)); exact Kd.R_mono (Kd.R_far (p := ⟨gb102, 1, none⟩) (Kd.R_far (p := ⟨gb102, 0, none⟩) (Kd.R_mono HO_3.out (fun k_ hk => (⟨hk, hk.2⟩ : _ ∧ k_ ≠ gb102))) (fun _ hk => hk.2) (.int .i64 ((rd_T41 l0 x9_1).f0))) (fun _ hk => hk.2) (.int .i64 ((rd_T41 l0 x9_1).f1))) (fun _ hk => hk.1.2)⟩, ⟨by refine bd ?_; refine blk_put (cs := #[.int .i64 ((rd_T41 l0 x9_1).f0), .int .i64 0]) ?_ 1 _ rfl; refine bd ?_; refine blk_put (cs := #[.int .i64 0, .int .i64 0]) ?_ 0 _ rfl; refine bd ?_; exact BK102.out⟩, ⟨bh⟩⟩
    case round =>
     clear H'
     (try clear c2b0); (try clear c3b0); (try clear c4b0); (try clear hcz6_0); (try clear hcz6_1); (try clear hfz6_0); (try clear hfz6_1); (try clear hx101_0); (try clear hx101_1); (try clear p101); (try clear q101)
     obtain ⟨x3_2, x6_2, rfl, HA, HK2, HO_3, BK102, HB⟩ := hrel
     cases gk with
     | zero => exact absurd HA.out (by simp [shape_chain.l1])
     | succ k2 =>
      have H := HA.out
      clear HA
      simp only [shape_chain.l1] at H
      by_cases c8 : x6_2 ≥ 2
      ·rw [if_pos c8] at H
       have c8b0 := decide_eq_true c8
       clear c8
       obtain ⟨ji9, hji9⟩ : ∃ j_ : Int, (wrap64 (x6_2 - 2)) = j_ := ⟨_, rfl⟩
       first | rw [hji9] at H | simp only [hji9] at H
       have hji9w : (IntKind.i64.wrap (x6_2 - 2)) = ji9 := (i64_w _).trans hji9
       obtain ⟨c10, H⟩ := oi H
       have c10b0 := decide_eq_true c10
       clear c10
       obtain ⟨c11, H⟩ := oi H
       have c11b0 := decide_eq_true c11
       clear c11
       obtain ⟨ji12, hji12⟩ : ∃ j_ : Int, (wrap64 (x6_2 - 1)) = j_ := ⟨_, rfl⟩
       first | rw [hji12] at H | simp only [hji12] at H
       have hji12w : (IntKind.i64.wrap (x6_2 - 1)) = ji12 := (i64_w _).trans hji12
       obtain ⟨c13, H⟩ := oi H
       have c13b0 := decide_eq_true c13
       clear c13
       obtain ⟨c14, H⟩ := oi H
       have c14b0 := decide_eq_true c14
       clear c14
       replace H := Option.bind_eq_some_iff.mp H
       obtain ⟨t105, A150, H⟩ := H
       try dsimp only at H
       have A15 := Aside0.mk A150
       clear A150
       by_cases c16 : t105 ≤ 0
       ·rw [if_pos c16] at H
        have c16b0 := decide_eq_true c16
        clear c16
        obtain ⟨c17, H⟩ := oi H
        have c17b0 := eq_true c17
        have c17b1 := decide_eq_true c17
        clear c17
        obtain ⟨y106, hy106⟩ : ∃ y_ : List (S41), y_ = (x3_2.take ((ji12) : Int).toNat) := ⟨_, rfl⟩
        replace H : (shape_chain.l1 k2 y106 (y106.length : Int) l0 (l0.length : Int) x9_1 ((rd_T41 l0 x9_1).f0) ((rd_T41 l0 x9_1).f1)) = some r := by first | (rw [hy106]; with_reducible exact H) | (have H2_ := (Option.bind_some _ _).symm.trans H; rw [hy106]; with_reducible exact H2_) | (have H2_ := (Option.bind_some _ _).symm.trans H; with_reducible exact H2_) | with_reducible exact H | (rw [hy106]; exact H) | exact H
        have Ny106 := Aside0.mk hy106
        clear hy106
        have H' := Aside0.mk H
        clear H
        try go_wp2
        replace HO_3 := Aside0.mk (Kd.R_drew HO_3.out)
        replace BK102 := Aside0.mk (blk_drew BK102.out)
        replace HB := Aside0.mk (below_drew1 HB.out)
        obtain ⟨Ao19, co19, eo19⟩ := Kd.R_slice HO_3.out
        (first | subst eo19 | (injection eo19 with f1_ f2_ f3_; have f4_ := f1_.symm; have f5_ := f3_.symm; clear f1_ f2_ f3_; subst f4_; subst f5_))
        have p103 : 0 ≤ ((ji9) : Int) := dt
        have q103 : (ji9) < (x3_2.length : Int) := dt
        obtain ⟨ad103, e103, hx103_0, hx103_1⟩ := at_T41 (Kd.R_reads' HO_3.out).2.2 (ji9) p103 q103
        cases e103
        replace p103 := eq_true p103
        replace q103 := eq_true q103
        have p104 : 0 ≤ ((ji12) : Int) := dt
        have q104 : (ji12) < (x3_2.length : Int) := dt
        obtain ⟨ad104, e104, hx104_0, hx104_1⟩ := at_T41 (Kd.R_reads' HO_3.out).2.2 (ji12) p104 q104
        obtain rfl : ad103 = ad104 := (by injection e104)
        replace p104 := eq_true p104
        replace q104 := eq_true q104
        refine start_ (n := 17) (S := fun w' => w'.cell? ⟨gb102, 0, none⟩ = some (.int .i64 ((rd_T41 l0 x9_1).f0)) ∧ w'.cell? ⟨gb102, 1, none⟩ = some (.int .i64 ((rd_T41 l0 x9_1).f1)) ∧ w'.cell? (ad103.add (((ji9)).toNat * 2)) = some (.int .i64 ((rd_T41 x3_2 (ji9)).f0)) ∧ w'.cell? ⟨(ad103.add (((ji9)).toNat * 2)).block, (ad103.add (((ji9)).toNat * 2)).off + 1, none⟩ = some (.int .i64 ((rd_T41 x3_2 (ji9)).f1)) ∧ w'.cell? (ad103.add (((ji12)).toNat * 2)) = some (.int .i64 ((rd_T41 x3_2 (ji12)).f0)) ∧ w'.cell? ⟨(ad103.add (((ji12)).toNat * 2)).block, (ad103.add (((ji12)).toNat * 2)).off + 1, none⟩ = some (.int .i64 ((rd_T41 x3_2 (ji12)).f1))) (ds := []) #[N,N,N,N,N,N,N,N,N,N,N,N,N,N,N,N,N] (by kernel_rfl) rfl rfl ⟨bc BK102 0, bc BK102 1, hx103_0, hx103_1, hx104_0, hx104_1⟩ (fun hHeld => ?_); refine with_tabW shape_chain.tab6 shape_chain.bits6 (fun HT_ HW_ => ?_)
        generalize wr.drew = w18 at HO_3 BK102 HB hx103_0 hx103_1 hx104_0 hx104_1 hHeld ⊢
        refine pu 0 15 HT_ ?_
        refine pu 1 16 HT_ ?_
        refine pu 2 17 HT_ ?_
        refine pu 3 18 HT_ ?_
        refine pu 4 19 HT_ ?_
        refine pu 5 20 HT_ ?_
        refine pu 6 21 HT_ ?_
        refine pu 8 23 HT_ ?_
        refine pu 9 24 HT_ ?_
        refine pu 10 25 HT_ ?_
        refine pu 11 26 HT_ ?_
        refine tk6 7 22 hHeld HT_ HW_ ?_
        refine tk6 12 27 hHeld HT_ HW_ ?_
        refine tk6 13 28 hHeld HT_ HW_ ?_
        refine one_ (i := 14) (N := some 29) #[T,T,T,T,T,T,T,T,T,T,T,T,T,T,T,N,N] rfl rfl (on1 HT_) (by decide) (fun K hK => ?_)
        refine goes_ Try.func98 (by kernel_rfl) rfl #[.agg #[.int .i64 ((rd_T41 x3_2 (ji9)).f0), .int .i64 ((rd_T41 x3_2 (ji9)).f1)], .agg #[.int .i64 ((rd_T41 x3_2 (ji12)).f0), .int .i64 ((rd_T41 x3_2 (ji12)).f1)], .agg #[.int .i64 ((rd_T41 l0 x9_1).f0), .int .i64 ((rd_T41 l0 x9_1).f1)]] (by rfl) rfl rfl (by (try simp only [List.map_toArray, List.map_cons, List.map_nil]); first | done | (simp only [hji12, hji9]; rfl) | rfl | (simp only [List.length_drop, List.length_take]; rfl)) ?_
        with_reducible refine (shape_side.calls ((rd_T41 x3_2 (ji9)).f0) ((rd_T41 x3_2 (ji9)).f1) ((rd_T41 x3_2 (ji12)).f0) ((rd_T41 x3_2 (ji12)).f1) ((rd_T41 l0 x9_1).f0) ((rd_T41 l0 x9_1).f1) t105 _ A15.out).mono ?_
        rintro e w20 ⟨rfl, hb⟩
        have HS2_ := (hb.cell (World.block_lt_of_cell? _ _ (hHeld.2.2.1))).trans (hHeld.2.2.1)
        have HS3_ := (hb.cell (World.block_lt_of_cell? _ _ (hHeld.2.2.2.1))).trans (hHeld.2.2.2.1)
        have HS4_ := (hb.cell (World.block_lt_of_cell? _ _ (hHeld.2.2.2.2.1))).trans (hHeld.2.2.2.2.1)
        have HS5_ := (hb.cell (World.block_lt_of_cell? _ _ (hHeld.2.2.2.2.2))).trans (hHeld.2.2.2.2.2)
        refine ⟨_, rfl, ?_⟩
        replace HO_3 := Aside0.mk (Kd.R_below (ro HO_3) hb)
        replace BK102 := kb BK102 hb
        replace HB := bz hb
        (try clear hb)
        refine hK.out _ _ ⟨bc BK102 0, bc BK102 1, HS2_, HS3_, HS4_, HS5_⟩ (fun hHeld => ?_)
        clear hK K
        refine nm 29 ?_
        refine pu 15 30 HT_ ?_
        refine pu 16 31 HT_ ?_
        refine done_ (done_of HT_.out (by kernel_rfl)) ?_
        have q21 : ((ji12) : Int) ≤ ((x3_2.length : Int) : Int) := dt
        obtain ⟨i021, hi021, _, hsz21, _⟩ := info_parts info41
        have hcut21 := cut_to (P := Try.prog) 22 41 .i64 Try.underlying22 hi021 (some ad103) x3_2.length co19 (ji12) (dt) q21 (Kd.R_reads' HO_3.out).2.1
        have hr21 := Kd.R_take (m := ((ji12) : Int).toNat) HO_3.out (by omega)
        have hy21 : y106.length = ((ji12) : Int).toNat := (by rw [Ny106.out, List.length_take]; omega)
        rw [← Ny106.out] at hr21
        rw [← hy21] at hr21 hcut21
        clear hy21 hi021 hsz21 HO_3
        have HO108 := Aside0.mk hr21
        clear hr21
        replace q21 := eq_true q21
        try go_wp2
        go_roundg k2
        case measure => have := HK1.out; have := HK2.out; omega
        case rel => exact ⟨(y106), ((y106.length : Int)), sd, H', ⟨by have := HK1.out; have := HK2.out; omega⟩, ⟨ro HO108⟩, ⟨bk BK102⟩, ⟨bh⟩⟩
       ·rw [if_neg c16] at H
        have c16b0 := decide_eq_false c16
        clear c16
        obtain ⟨c22, H⟩ := oi H
        have LMc22 := Aside0.mk c22
        clear c22
        obtain ⟨y109, hy109⟩ : ∃ y_ : List (S41), y_ = (x3_2 ++ [(⟨((rd_T41 l0 x9_1).f0), ((rd_T41 l0 x9_1).f1)⟩ : S41)]) := ⟨_, rfl⟩
        replace H : (shape_chain.l0 k2 y109 l0 (l0.length : Int) (wrap64 (x9_1 + 1))) = some r := by first | (rw [hy109]; with_reducible exact H) | (have H2_ := (Option.bind_some _ _).symm.trans H; rw [hy109]; with_reducible exact H2_) | (have H2_ := (Option.bind_some _ _).symm.trans H; with_reducible exact H2_) | with_reducible exact H | (rw [hy109]; exact H) | exact H
        have Ny109 := Aside0.mk hy109
        clear hy109
        have H' := Aside0.mk H
        clear H
        try go_wp2
        replace HO_3 := Aside0.mk (Kd.R_drew HO_3.out)
        replace BK102 := Aside0.mk (blk_drew BK102.out)
        replace HB := Aside0.mk (below_drew1 HB.out)
        obtain ⟨Ao24, co24, eo24⟩ := Kd.R_slice HO_3.out
        (first | subst eo24 | (injection eo24 with f1_ f2_ f3_; have f4_ := f1_.symm; have f5_ := f3_.symm; clear f1_ f2_ f3_; subst f4_; subst f5_))
        have p103 : 0 ≤ ((ji9) : Int) := dt
        have q103 : (ji9) < (x3_2.length : Int) := dt
        obtain ⟨ad103, e103, hx103_0, hx103_1⟩ := at_T41 (Kd.R_reads' HO_3.out).2.2 (ji9) p103 q103
        cases e103
        replace p103 := eq_true p103
        replace q103 := eq_true q103
        have p104 : 0 ≤ ((ji12) : Int) := dt
        have q104 : (ji12) < (x3_2.length : Int) := dt
        obtain ⟨ad104, e104, hx104_0, hx104_1⟩ := at_T41 (Kd.R_reads' HO_3.out).2.2 (ji12) p104 q104
        obtain rfl : ad103 = ad104 := (by injection e104)
        replace p104 := eq_true p104
        replace q104 := eq_true q104
        refine start_ (n := 17) (S := fun w' => w'.cell? ⟨gb102, 0, none⟩ = some (.int .i64 ((rd_T41 l0 x9_1).f0)) ∧ w'.cell? ⟨gb102, 1, none⟩ = some (.int .i64 ((rd_T41 l0 x9_1).f1)) ∧ w'.cell? (ad103.add (((ji9)).toNat * 2)) = some (.int .i64 ((rd_T41 x3_2 (ji9)).f0)) ∧ w'.cell? ⟨(ad103.add (((ji9)).toNat * 2)).block, (ad103.add (((ji9)).toNat * 2)).off + 1, none⟩ = some (.int .i64 ((rd_T41 x3_2 (ji9)).f1)) ∧ w'.cell? (ad103.add (((ji12)).toNat * 2)) = some (.int .i64 ((rd_T41 x3_2 (ji12)).f0)) ∧ w'.cell? ⟨(ad103.add (((ji12)).toNat * 2)).block, (ad103.add (((ji12)).toNat * 2)).off + 1, none⟩ = some (.int .i64 ((rd_T41 x3_2 (ji12)).f1))) (ds := []) #[N,N,N,N,N,N,N,N,N,N,N,N,N,N,N,N,N] (by kernel_rfl) rfl rfl ⟨bc BK102 0, bc BK102 1, hx103_0, hx103_1, hx104_0, hx104_1⟩ (fun hHeld => ?_); refine with_tabW shape_chain.tab6 shape_chain.bits6 (fun HT_ HW_ => ?_)
        generalize wr.drew = w23 at HO_3 BK102 HB hx103_0 hx103_1 hx104_0 hx104_1 hHeld ⊢
        refine pu 0 15 HT_ ?_
        refine pu 1 16 HT_ ?_
        refine pu 2 17 HT_ ?_
        refine pu 3 18 HT_ ?_
        refine pu 4 19 HT_ ?_
        refine pu 5 20 HT_ ?_
        refine pu 6 21 HT_ ?_
        refine pu 8 23 HT_ ?_
        refine pu 9 24 HT_ ?_
        refine pu 10 25 HT_ ?_
        refine pu 11 26 HT_ ?_
        refine tk6 7 22 hHeld HT_ HW_ ?_
        refine tk6 12 27 hHeld HT_ HW_ ?_
        refine tk6 13 28 hHeld HT_ HW_ ?_
        refine one_ (i := 14) (N := some 29) #[T,T,T,T,T,T,T,T,T,T,T,T,T,T,T,N,N] rfl rfl (on1 HT_) (by decide) (fun K hK => ?_)
        refine goes_ Try.func98 (by kernel_rfl) rfl #[.agg #[.int .i64 ((rd_T41 x3_2 (ji9)).f0), .int .i64 ((rd_T41 x3_2 (ji9)).f1)], .agg #[.int .i64 ((rd_T41 x3_2 (ji12)).f0), .int .i64 ((rd_T41 x3_2 (ji12)).f1)], .agg #[.int .i64 ((rd_T41 l0 x9_1).f0), .int .i64 ((rd_T41 l0 x9_1).f1)]] (by rfl) rfl rfl (by (try simp only [List.map_toArray, List.map_cons, List.map_nil]); first | done | (simp only [hji12, hji9]; rfl) | rfl | (simp only [List.length_drop, List.length_take]; rfl)) ?_
        with_reducible refine (shape_side.calls ((rd_T41 x3_2 (ji9)).f0) ((rd_T41 x3_2 (ji9)).f1) ((rd_T41 x3_2 (ji12)).f0) ((rd_T41 x3_2 (ji12)).f1) ((rd_T41 l0 x9_1).f0) ((rd_T41 l0 x9_1).f1) t105 _ A15.out).mono ?_
        rintro e w25 ⟨rfl, hb⟩
        have HS2_ := (hb.cell (World.block_lt_of_cell? _ _ (hHeld.2.2.1))).trans (hHeld.2.2.1)
        have HS3_ := (hb.cell (World.block_lt_of_cell? _ _ (hHeld.2.2.2.1))).trans (hHeld.2.2.2.1)
        have HS4_ := (hb.cell (World.block_lt_of_cell? _ _ (hHeld.2.2.2.2.1))).trans (hHeld.2.2.2.2.1)
        have HS5_ := (hb.cell (World.block_lt_of_cell? _ _ (hHeld.2.2.2.2.2))).trans (hHeld.2.2.2.2.2)
        refine ⟨_, rfl, ?_⟩
        replace HO_3 := Aside0.mk (Kd.R_below (ro HO_3) hb)
        replace BK102 := kb BK102 hb
        replace HB := bz hb
        (try clear hb)
        refine hK.out _ _ ⟨bc BK102 0, bc BK102 1, HS2_, HS3_, HS4_, HS5_⟩ (fun hHeld => ?_)
        clear hK K
        refine nm 29 ?_
        refine pu 15 30 HT_ ?_
        refine pu 16 31 HT_ ?_
        refine done_ (done_of HT_.out (by kernel_rfl)) ?_
        obtain ⟨hcz26_0, hcz26_1, hfz26_0, hfz26_1⟩ := b2 BK102
        try go_wp2_with (first | ((with_reducible refine gate_builtin (b := .append) (xs := #[.tmp 38, .tmp 40]) rfl ?_); at_builtin; refine Kd.R_append k41 (w0 := w) w.heap.size rfl (.tmp 38) (.tmp 40) 22 41 (.agg #[(.int .i64 0), (.int .i64 0)]) 16 rfl Try.underlying22 info41 rfl (by decide) (by omega) (.slice (some ad103) x3_2.length co24) x3_2 (⟨((rd_T41 l0 x9_1).f0), ((rd_T41 l0 x9_1).f1)⟩ : S41) [.int .i64 ((rd_T41 l0 x9_1).f0), .int .i64 ((rd_T41 l0 x9_1).f1)] (fun k_ => k_ ≠ gb102) (fun _ => False) rfl rfl ?aP (fun _ hk => hk.elim) ?aF ?aO ?aB ?aS ?aL ?_; (case aP => exact k41_mkM _ _ _ (⟨((rd_T41 l0 x9_1).f0), ((rd_T41 l0 x9_1).f1)⟩ : S41)); (case aB => exact bh); (case aF => exact (fun k_ hk => Kd.freshB (g := gb102) (o := .cells #[.int .i64 ((rd_T41 l0 x9_1).f0), .int .i64 ((rd_T41 l0 x9_1).f1)] 41 (0, 0)) (bk BK102) k_ hk)); (case aO => exact (ro HO_3)); (case aS => exact (below_size bh)); (case aL => have := LMc22.out; omega); intro v110 w27 ho hb hg hat; rw [← Ny109.out] at ho; have HO111 := Aside0.mk (ho); replace BK102 := Aside0.mk (blk_grown (g := gb102) (o := .cells #[.int .i64 ((rd_T41 l0 x9_1).f0), .int .i64 ((rd_T41 l0 x9_1).f1)] 41 (0, 0)) (bk BK102) hg (Kd.R_away HO_3.out (fun _ hk => hk))); replace HB := Aside0.mk (hb); clear HO_3; clear ho hb hg hat))
        go_roundg k2
        case measure => have := HK1.out; have := HK2.out; omega
        case rel => exact ⟨(y109), (wrap64 (x9_1 + 1)), sd, H', ⟨by have := HK1.out; have := HK2.out; omega⟩, ⟨by (with_reducible repeat (first | apply Kd.R_alloc | apply Kd.R_drewN | apply Kd.R_drew)); exact Kd.R_mono HO111.out (fun _ hk => trivial)⟩, ⟨bh⟩⟩
      ·rw [if_neg c8] at H
       have c8b0 := decide_eq_false c8
       clear c8
       obtain ⟨c28, H⟩ := oi H
       have LMc28 := Aside0.mk c28
       clear c28
       obtain ⟨y112, hy112⟩ : ∃ y_ : List (S41), y_ = (x3_2 ++ [(⟨((rd_T41 l0 x9_1).f0), ((rd_T41 l0 x9_1).f1)⟩ : S41)]) := ⟨_, rfl⟩
       replace H : (shape_chain.l0 k2 y112 l0 (l0.length : Int) (wrap64 (x9_1 + 1))) = some r := by first | (rw [hy112]; with_reducible exact H) | (have H2_ := (Option.bind_some _ _).symm.trans H; rw [hy112]; with_reducible exact H2_) | (have H2_ := (Option.bind_some _ _).symm.trans H; with_reducible exact H2_) | with_reducible exact H | (rw [hy112]; exact H) | exact H
       have Ny112 := Aside0.mk hy112
       clear hy112
       have H' := Aside0.mk H
       clear H
       try go_wp2
       replace HO_3 := Aside0.mk (Kd.R_drew HO_3.out)
       replace BK102 := Aside0.mk (blk_drew BK102.out)
       replace HB := Aside0.mk (below_drew1 HB.out)
       refine start_ (n := 17) (S := fun w' => True) (ds := []) #[N,N,N,N,N,N,N,N,N,N,N,N,N,N,N,N,N] (by kernel_rfl) rfl rfl trivial (fun hHeld => ?_); refine with_tabW shape_chain.tab6 shape_chain.bits6 (fun HT_ HW_ => ?_)
       generalize wr.drew = w29 at HO_3 BK102 HB hHeld ⊢
       refine pu 0 15 HT_ ?_
       refine pu 1 16 HT_ ?_
       refine pu 2 17 HT_ ?_
       refine pz 3 18 HT_ ?_
       refine pz 4 19 HT_ ?_
       refine pz 5 20 HT_ ?_
       refine pz 6 21 HT_ ?_
       refine pz 7 22 HT_ ?_
       refine pz 8 23 HT_ ?_
       refine pz 9 24 HT_ ?_
       refine pz 10 25 HT_ ?_
       refine pz 11 26 HT_ ?_
       refine pz 12 27 HT_ ?_
       refine pz 13 28 HT_ ?_
       refine pz 14 29 HT_ ?_
       refine pz 15 30 HT_ ?_
       refine pu 16 31 HT_ ?_
       refine done_ (done_of HT_.out (by kernel_rfl)) ?_
       obtain ⟨hcz30_0, hcz30_1, hfz30_0, hfz30_1⟩ := b2 BK102
       try go_wp2_with (first | ((with_reducible refine gate_builtin (b := .append) (xs := #[.tmp 38, .tmp 40]) rfl ?_); at_builtin; refine Kd.R_append k41 (w0 := w) w.heap.size rfl (.tmp 38) (.tmp 40) 22 41 (.agg #[(.int .i64 0), (.int .i64 0)]) 16 rfl Try.underlying22 info41 rfl (by decide) (by omega) u3 x3_2 (⟨((rd_T41 l0 x9_1).f0), ((rd_T41 l0 x9_1).f1)⟩ : S41) [.int .i64 ((rd_T41 l0 x9_1).f0), .int .i64 ((rd_T41 l0 x9_1).f1)] (fun k_ => k_ ≠ gb102) (fun _ => False) rfl rfl ?aP (fun _ hk => hk.elim) ?aF ?aO ?aB ?aS ?aL ?_; (case aP => exact k41_mkM _ _ _ (⟨((rd_T41 l0 x9_1).f0), ((rd_T41 l0 x9_1).f1)⟩ : S41)); (case aB => exact bh); (case aF => exact (fun k_ hk => Kd.freshB (g := gb102) (o := .cells #[.int .i64 ((rd_T41 l0 x9_1).f0), .int .i64 ((rd_T41 l0 x9_1).f1)] 41 (0, 0)) (bk BK102) k_ hk)); (case aO => exact (ro HO_3)); (case aS => exact (below_size bh)); (case aL => have := LMc28.out; omega); intro v113 w31 ho hb hg hat; rw [← Ny112.out] at ho; have HO114 := Aside0.mk (ho); replace BK102 := Aside0.mk (blk_grown (g := gb102) (o := .cells #[.int .i64 ((rd_T41 l0 x9_1).f0), .int .i64 ((rd_T41 l0 x9_1).f1)] 41 (0, 0)) (bk BK102) hg (Kd.R_away HO_3.out (fun _ hk => hk))); replace HB := Aside0.mk (hb); clear HO_3; clear ho hb hg hat))
       go_roundg k2
       case measure => have := HK1.out; have := HK2.out; omega
       case rel => exact ⟨(y112), (wrap64 (x9_1 + 1)), sd, H', ⟨by have := HK1.out; have := HK2.out; omega⟩, ⟨by (with_reducible repeat (first | apply Kd.R_alloc | apply Kd.R_drewN | apply Kd.R_drew)); exact Kd.R_mono HO114.out (fun _ hk => trivial)⟩, ⟨bh⟩⟩
   ·rw [if_neg c2] at H
    have c2b0 := decide_eq_false c2
    clear c2
    obtain rfl := Option.some.inj H
    go_wp2
    go_ret
    exact ⟨_, by exact er, by (with_reducible repeat (first | apply Kd.R_alloc | apply Kd.R_drewN | apply Kd.R_drew)); exact HO_3.out, bh⟩
end Go.Proofs.Ythehmkpcddafnaa.PG
end
section
namespace Go.Proofs.Ythehmkpcddafnaa.PG
open Go.RowKit Go.Proofs.YthehmkpcddafnaaW.PrintWords Go.Proofs.YthehmkpcddafnaaW.PrintLast Go.Proofs.YthehmkpcddafnaaW.PrintMore
def Pts (cur : Array Value) (l : List S41) : Prop := ∀ j (h : j < l.length), cur[2 * j]? = some (.int .i64 l[j].f0) ∧ cur[2 * j + 1]? = some (.int .i64 l[j].f1)
theorem rd_nat (L : List S41) (i : Nat) (h : i < L.length) : rd_T41 L (i : Int) = L[i] := by
 unfold rd_T41; rw [Int.toNat_natCast, List.getD_eq_getElem?_getD, List.getElem?_eq_getElem h]; rfl
theorem pts_take {cur : Array Value} {l : List S41} (m : Nat) (h : Pts cur l) : Pts cur (l.take m) := by
 intro j hj
 have := h j (by simp at hj; omega)
 simpa using this
theorem pts_list {cur : Array Value} {l : List S41} (h : Pts cur l) : cur.toList.take (l.length * 2) = l.flatMap fun x => [Value.int .i64 x.f0, Value.int .i64 x.f1] := by
 induction l generalizing cur with
 | nil => simp
 | cons a l ih =>
  obtain ⟨a0, a1⟩ := h 0 (by simp)
  simp only [Nat.mul_zero, List.getElem_cons_zero] at a0 a1
  have e : ∃ x y t, cur.toList = x :: y :: t := by
   match hh : cur.toList with
   | [] => rw [← Array.getElem?_toList, hh] at a0; simp at a0
   | [x] => rw [← Array.getElem?_toList, hh] at a1; simp at a1
   | x :: y :: t => exact ⟨x, y, t, rfl⟩
  obtain ⟨x, y, t, e⟩ := e
  rw [← Array.getElem?_toList, e] at a0 a1
  simp at a0 a1
  subst a0; subst a1
  have h2 : Pts t.toArray l := by
   intro j hj
   have := h (j + 1) (by simp; omega)
   rw [← Array.getElem?_toList, ← Array.getElem?_toList, e] at this
   simpa [Nat.mul_add, Nat.add_assoc] using this
  have := ih h2
  rw [e, List.flatMap_cons, ← this]
  simp [Nat.add_mul]
theorem pts_reps {l : List S41} {W : World} {base : Nat} {ok : Nat → Prop} : Reps (k41.M W base ok) k41.sz l (l.flatMap fun x => [Value.int .i64 x.f0, Value.int .i64 x.f1]) := by
 suffices H : ∀ (l pre : List S41) (cs : List Value), Reps (k41.M W base ok) k41.sz pre cs → Reps (k41.M W base ok) k41.sz (pre ++ l) (cs ++ l.flatMap fun x => [Value.int .i64 x.f0, Value.int .i64 x.f1]) by
  simpa using H l [] [] (Reps.none _ _)
 intro l
 induction l with
 | nil => intro pre cs h; simpa using h
 | cons a l ih =>
  intro pre cs h
  have := ih (pre ++ [a]) (cs ++ [Value.int .i64 a.f0, Value.int .i64 a.f1]) (h.snoc (k41_mkM W base ok a) rfl)
  simpa using this
theorem row_open {w : World} {base : Nat} {P : Nat → Prop} {u : Value} {l : List S41} (h : Kd.R k41 41 w base P u l) (hl : 0 < l.length) :
  ∃ g cap cur, u = .slice (some ⟨g, 0, none⟩) l.length cap ∧ base ≤ g ∧ w.heap[g]? = some (.cells cur 41 (0, 0)) ∧ l.length ≤ cap ∧ cap ≤ maxLen ∧ cur.size = cap * 2 ∧ P g ∧ Pts cur l := by
 obtain ⟨hP, inner, ⟨hlen, ho⟩, hr⟩ := h
 rcases ho with ⟨_, h0⟩ | ⟨g, cap, cur, rfl, hb, hh, hn, hc, hs, ht⟩
 ·omega
 ·refine ⟨g, cap, cur, rfl, hb, hh, hn, hc, hs, hP g rfl, ?_⟩
  intro j hj
  have hm := hr.2 j l[j] (by simp [hj])
  obtain hm := k41_openM hm
  have hsz : k41.sz = 2 := rfl
  rw [hsz] at hm ht
  have e0 : inner[2 * j]? = some (.int .i64 l[j].f0) := by
   have := congrArg (fun z => z[0]?) hm
   simp at this
   rw [Nat.mul_comm]; exact this
  have e1 : inner[2 * j + 1]? = some (.int .i64 l[j].f1) := by
   have := congrArg (fun z => z[1]?) hm
   simp at this
   rw [Nat.mul_comm]; exact this
  rw [← ht, List.getElem?_take_of_lt (by omega), Array.getElem?_toList] at e0
  rw [← ht, List.getElem?_take_of_lt (by omega), Array.getElem?_toList] at e1
  exact ⟨e0, e1⟩
theorem row_shut {w' : World} {base g cap : Nat} {P : Nat → Prop} {cur : Array Value} {l : List S41} (hb : base ≤ g) (hh : w'.heap[g]? = some (.cells cur 41 (0, 0))) (hn : l.length ≤ cap) (hc : cap ≤ maxLen) (hs : cur.size = cap * 2) (hP : P g) (hp : Pts cur l) :
  Kd.R k41 41 w' base P (.slice (some ⟨g, 0, none⟩) l.length cap) l := by
 refine ⟨fun k hk => ?_, l.flatMap fun x => [Value.int .i64 x.f0, Value.int .i64 x.f1], ⟨?_, .inr ⟨g, cap, cur, rfl, hb, hh, hn, hc, hs, (show cur.toList.take (l.length * 2) = _ from pts_list hp)⟩⟩, pts_reps⟩
 ·simp [Value.ownBlock] at hk; subst hk; exact hP
 ·have := congrArg List.length (pts_list hp)
  rw [← this]
  simp
  have : k41.sz = 2 := rfl
  rw [this, hs]; omega
theorem pts_set {cur : Array Value} {L : List S41} {k : Nat} (x : S41) (h : Pts cur L) (hs : L.length * 2 ≤ cur.size) (hk : k < L.length) :
  Pts ((cur.setIfInBounds (k * 2) (.int .i64 x.f0)).setIfInBounds (k * 2 + 1) (.int .i64 x.f1)) (L.set k x) := by
 intro j hj
 rw [List.length_set] at hj
 have hp := h j hj
 rw [List.getElem_set]
 by_cases e : k = j
 ·subst e
  rw [if_pos rfl]
  refine ⟨?_, ?_⟩
  ·rw [Array.getElem?_setIfInBounds_ne (by omega), Nat.mul_comm 2 k, Array.getElem?_setIfInBounds_self_of_lt (by omega)]
  ·rw [Nat.mul_comm 2 k, Array.getElem?_setIfInBounds_self_of_lt (by simp; omega)]
 ·rw [if_neg e]
  refine ⟨?_, ?_⟩
  ·rw [Array.getElem?_setIfInBounds_ne (by omega), Array.getElem?_setIfInBounds_ne (by omega)]; exact hp.1
  ·rw [Array.getElem?_setIfInBounds_ne (by omega), Array.getElem?_setIfInBounds_ne (by omega)]; exact hp.2
theorem grown_set {w w1 : World} {g : Nat} (h : w.grownBy w1 (some g)) (i : Nat) (u : Value) : w.grownBy (w1.setCell ⟨g, i, none⟩ u) (some g) := by
 have hs : ∀ k, k ≠ g → (w1.setCell ⟨g, i, none⟩ u).heap[k]? = w1.heap[k]? := fun k hk => Below.heap_setCell w1 ⟨g, i, none⟩ u k hk
 refine ⟨?_, ?_, ?_, ?_, fun k hk hne => ?_⟩
 ·have := h.os; simpa [World.setCell] using this
 ·have := h.tape; simpa [World.setCell] using this
 ·have := h.output; simpa [World.setCell] using this
 ·have := h.size; simpa [World.setCell] using this
 ·rw [hs k (fun e => hne (by rw [e]))]; exact h.block k hk hne
theorem grown_drewN {w w1 : World} {r : Option Nat} (h : w.grownBy w1 r) (q : Nat) : w.grownBy (w1.drewN q) r := ⟨h.os, h.tape, h.output, h.size, h.block⟩
theorem grown_below {w0 w w1 : World} {g : Nat} (hB : Below w0.heap.size w0 w) (h : w.grownBy w1 (some g)) (hg : w0.heap.size ≤ g) : Below w0.heap.size w0 w1 :=
 pw_below_grown hB (some g) hB.size h (fun k e => by simp at e; omega)
theorem grown_kept {w w1 : World} {g : Nat} {P : Nat → Prop} (h : w.grownBy w1 (some g)) (hg : P g) : Kept w w1 P :=
 ⟨h.size, fun i hi hn => h.block i hi (fun e => hn (by simp at e; rw [e]; exact hg))⟩
end Go.Proofs.Ythehmkpcddafnaa.PG
end
section
namespace Go.Proofs.Ythehmkpcddafnaa.PG
open Go.RowKit Go.Proofs.YthehmkpcddafnaaW.PrintWords Go.Proofs.YthehmkpcddafnaaW.PrintLast Go.Proofs.YthehmkpcddafnaaW.PrintMore
def slices_Grow_nil.f (a1 : Int) : Option (List S41) := if 0 ≤ a1 ∧ a1 < 8796093022208 then some [] else none
set_option maxHeartbeats 2000000 in
theorem slices_Grow_nil.calls (a1 : Int) (r : List S41) (w : World) (h : slices_Grow_nil.f a1 = some r) :
  Calls Try.prog 118 #[.slice none 0 0, .int .i64 a1] w fun e w' => ∃ v0_ : Value, e = .returned (v0_) ∧ Kd.R k41 41 w' w.heap.size (fun _ => True) v0_ r ∧ Below w.heap.size w w' := by
 unfold slices_Grow_nil.f at h
 split at h
 ·rename_i hb
  obtain rfl := Option.some.inj h
  clear h
  have h0 : 0 ≤ a1 := hb.1
  have h1 : a1 < 8796093022208 := hb.2
  clear hb
  have HB := Aside0.mk (Below.refl w.heap.size w)
  by_cases hp : 0 < a1
  ·have HL := Aside0.mk h1
   go_enter Try.func118, Try.ntmps118
   go_wp2_with ((with_reducible refine gate_builtin (b := .append) (xs := #[.tmp 20, .tmp 21]) rfl ?_); at_builtin; refine Kd.R_append_zeros k41 (w0 := w) w.heap.size rfl (.tmp 20) (.tmp 21) 22 3 41 (.agg #[(.int .i64 0), (.int .i64 0)]) 16 rfl Try.underlying22 Try.underlying3 info41 rfl (by decide) (by omega) (.slice none 0 0) ([] : List S41) z41 a1 (fun _ => True) rfl rfl ?aZ (fun _ _ => trivial) ?aO h0 HB.out (Nat.le_refl _) ?aL ?_; (case aZ => exact k41_mkM _ _ _ z41); (case aO => exact ⟨fun k hk => by simp [Value.ownBlock] at hk, [], own_nil _ _ _ _, Reps.none _ _⟩); (case aL => have := HL.out; simp; omega); intro v1 w1 ho hb hg hat; rw [List.nil_append] at ho; obtain ⟨g, cap, cur, rfl, q1, q2, q3, q4, q5, _, _⟩ := row_open ho (by simp; omega); simp only [List.length_replicate] at q3; have HB1 := Aside0.mk hb; have Q1 := Aside0.mk q1; have Q2 := Aside0.mk q2; have Q4 := Aside0.mk q4; have Q5 := Aside0.mk q5; clear HB ho hb hg hat q1 q2 q4 q5)
   go_ret
   exact ⟨_, rfl, row_shut (l := []) Q1.out Q2.out (Nat.zero_le _) Q4.out Q5.out trivial (fun j hj => by simp at hj), HB1.out⟩
  ·have : a1 = 0 := by omega
   subst this
   go_enter Try.func118, Try.ntmps118
   go_wp2
   go_ret
   exact ⟨_, rfl, ⟨fun k hk => by simp [Value.ownBlock] at hk, [], own_nil _ _ _ _, Reps.none _ _⟩, Below.refl _ _⟩
 ·cases h
end Go.Proofs.Ythehmkpcddafnaa.PG
end
section
namespace Go.Proofs.Ythehmkpcddafnaa.PG
open Go.RowKit Go.Proofs.YthehmkpcddafnaaW.PrintWords Go.Proofs.YthehmkpcddafnaaW.PrintLast Go.Proofs.YthehmkpcddafnaaW.PrintMore
attribute [local go_sem] max2_int min2_int max_two min_two max_three min_three max_four min_four
set_option linter.unusedVariables false
set_option linter.unusedSimpArgs false
/-! ### api_Point_95: function 95 -/
mutual
def api_Point_95.l0 : Nat → List (List (S41)) → Int → List (List (S41)) → Int → Int → Option ((List (S41)))
 | 0, _, _, _, _, _ => none
 | k + 1, x0, x3, x9, x10, x11 => if x11 < x10 then (if 0 ≤ x11 then (if x11 < (x9.length : Int) then (if (wrap64 (x3 + ((rd_L2 x9 x11).length : Int))) < 0 then (none) else (api_Point_95.l0 k x0 (wrap64 (x3 + ((rd_L2 x9 x11).length : Int))) x9 x10 (wrap64 (x11 + 1)))) else (none)) else (none)) else ((slices_Grow_nil.f x3).bind fun t102 => (api_Point_95.l1 k t102 x0 (x0.length : Int) 0))
def api_Point_95.l1 : Nat → List (S41) → List (List (S41)) → Int → Int → Option ((List (S41)))
 | 0, _, _, _, _ => none
 | k + 1, x6, x25, x26, x27 => if x27 < x26 then (if 0 ≤ x27 then (if x27 < (x25.length : Int) then (if x6.length + (rd_L2 x25 x27).length < 8796093022208 then (api_Point_95.l1 k (x6 ++ (rd_L2 x25 x27)) x25 x26 (wrap64 (x27 + 1))) else (none)) else (none)) else (none)) else (some x6)
end
def api_Point_95.f (k : Nat) (l0 : List (List (S41))) : Option ((List (S41))) := api_Point_95.l0 k l0 0 l0 (l0.length : Int) 0
set_option maxHeartbeats 8000000 in
set_option maxRecDepth 100000 in
theorem api_Point_95.calls (k : Nat) (A0 : Option Addr) (c0 : Nat) (l0 : List (List (S41))) (r : List (S41)) (w : World) (hr0 : Kd.C (Kd.slice 41 k41) w A0 l0.length l0) (hc0 : l0.length ≤ c0) (h : api_Point_95.f k l0 = some r) :
  Calls Try.prog 95 #[.slice A0 l0.length c0] w fun e w' => ∃ v0_ : Value, e = .returned (v0_) ∧ Kd.R k41 41 w' w.heap.size (fun _ => True) v0_ r ∧ Below w.heap.size w w' := by
 have HR0 := Aside0.mk hr0
 have HC0 := Aside0.mk hc0
 clear hr0 hc0
 have HB := Aside0.mk (Below.refl w.heap.size w)
 have H : (api_Point_95.l0 k l0 0 l0 (l0.length : Int) 0) = some r := h
 clear h
 have H' := Aside0.mk H
 clear H
 go_enter Try.func95, Try.ntmps95
 go_wp2
 go_loopg [3, 11] k (fun kq v3 v11 w' => ∃ (x3_1 : Int) (x11_1 : Int), v3 = .int .i64 x3_1 ∧ v11 = .int .i64 x11_1 ∧ Aside0 (api_Point_95.l0 kq l0 x3_1 l0 (l0.length : Int) x11_1 = some r) ∧ Aside0 (kq ≤ k) ∧ Aside0 (Below w.heap.size w w'))
 case atStart => exact ⟨(0), (0), sd, sd, H', ⟨Nat.le_refl _⟩, ⟨bh⟩⟩
 case round =>
  clear H'
  obtain ⟨x3_1, x11_1, rfl, rfl, HA, HK1, HB⟩ := hrel
  cases gk with
  | zero => exact absurd HA.out (by simp [api_Point_95.l0])
  | succ k1 =>
   have H := HA.out
   clear HA
   simp only [api_Point_95.l0] at H
   by_cases c2 : x11_1 < (l0.length : Int)
   ·rw [if_pos c2] at H
    have c2b0 := decide_eq_true c2
    clear c2
    obtain ⟨c3, H⟩ := oi H
    have c3b0 := decide_eq_true c3
    clear c3
    obtain ⟨c4, H⟩ := oi H
    have c4b0 := decide_eq_true c4
    clear c4
    obtain ⟨c5, H⟩ := oj H
    have c5b0 := decide_eq_false c5
    clear c5
    have H' := Aside0.mk H
    clear H
    have p101 : 0 ≤ (x11_1 : Int) := dt
    have q101 : x11_1 < (l0.length : Int) := dt
    obtain ⟨ad101, A101_0, c101_0, e101, hx101_0, hl101_0, hi101_0⟩ := at_L2 HR0.out x11_1 p101 q101
    cases e101
    replace hx101_0 := hc HB hx101_0
    have HR101_0 := Aside0.mk hi101_0
    have HC101_0 := Aside0.mk hl101_0
    clear hi101_0 hl101_0
    replace p101 := eq_true p101
    replace q101 := eq_true q101
    go_wp2
    go_roundg k1
    case measure => have := HK1.out; omega
    case rel => exact ⟨(wrap64 (x3_1 + ((rd_L2 l0 x11_1).length : Int))), (wrap64 (x11_1 + 1)), sd, sd, H', ⟨by have := HK1.out; omega⟩, ⟨bh⟩⟩
   ·rw [if_neg c2] at H
    have c2b0 := decide_eq_false c2
    clear c2
    replace H := Option.bind_eq_some_iff.mp H
    obtain ⟨t102, A60, H⟩ := H
    try dsimp only at H
    have A6 := Aside0.mk A60
    clear A60
    have H' := Aside0.mk H
    clear H
    go_wp2_with (first | ((with_reducible refine gc 118 rfl ?_); refine goesL_ (some 24) rfl rfl Try.func118 (by kernel_rfl) rfl #[.slice none 0 0, .int .i64 x3_1] rfl sg ?_; (with_reducible refine (slices_Grow_nil.calls  x3_1 t102 _ A6.out).mono ?_); rintro e w7 ⟨v103, rfl, ho0, hb⟩; refine ⟨_, rfl, ?_⟩; have HO104 := Aside0.mk (Kd.R_lower ho0 (below_size bh)); replace HB := bz hb; (try clear hb); (try clear ho0)))
    go_loopg [6, 27] k1 (fun kq v6 v27 w' => ∃ (x6_2 : List (S41)) (x27_2 : Int), v27 = .int .i64 x27_2 ∧ Aside0 (api_Point_95.l1 kq x6_2 l0 (l0.length : Int) x27_2 = some r) ∧ Aside0 (kq ≤ k1) ∧ Aside0 (Kd.R k41 41 w' w.heap.size (fun _ => True) v6 x6_2) ∧ Aside0 (Below w.heap.size w w'))
    case atStart => exact ⟨(t102), (0), sd, H', ⟨Nat.le_refl _⟩, ⟨ro HO104⟩, ⟨bh⟩⟩
    case round =>
     clear H'
     (try clear c2b0)
     obtain ⟨x6_2, x27_2, rfl, HA, HK2, HO_6, HB⟩ := hrel
     cases gk with
     | zero => exact absurd HA.out (by simp [api_Point_95.l1])
     | succ k2 =>
      have H := HA.out
      clear HA
      simp only [api_Point_95.l1] at H
      by_cases c8 : x27_2 < (l0.length : Int)
      ·rw [if_pos c8] at H
       have c8b0 := decide_eq_true c8
       clear c8
       obtain ⟨c9, H⟩ := oi H
       have c9b0 := decide_eq_true c9
       clear c9
       obtain ⟨c10, H⟩ := oi H
       have c10b0 := decide_eq_true c10
       clear c10
       obtain ⟨c11, H⟩ := oi H
       have LMc11 := Aside0.mk c11
       clear c11
       obtain ⟨y106, hy106⟩ : ∃ y_ : List (S41), y_ = (x6_2 ++ (rd_L2 l0 x27_2)) := ⟨_, rfl⟩
       replace H : (api_Point_95.l1 k2 y106 l0 (l0.length : Int) (wrap64 (x27_2 + 1))) = some r := by first | (rw [hy106]; with_reducible exact H) | (have H2_ := (Option.bind_some _ _).symm.trans H; rw [hy106]; with_reducible exact H2_) | (have H2_ := (Option.bind_some _ _).symm.trans H; with_reducible exact H2_) | with_reducible exact H | (rw [hy106]; exact H) | exact H
       have Ny106 := Aside0.mk hy106
       clear hy106
       have H' := Aside0.mk H
       clear H
       have p105 : 0 ≤ (x27_2 : Int) := dt
       have q105 : x27_2 < (l0.length : Int) := dt
       obtain ⟨ad105, A105_0, c105_0, e105, hx105_0, hl105_0, hi105_0⟩ := at_L2 HR0.out x27_2 p105 q105
       cases e105
       replace hx105_0 := hc HB hx105_0
       have HR105_0 := Aside0.mk hi105_0
       have HC105_0 := Aside0.mk hl105_0
       clear hi105_0 hl105_0
       replace p105 := eq_true p105
       replace q105 := eq_true q105
       go_wp2_with (first | ((with_reducible refine gate_builtin (b := .append) (xs := #[.tmp 31, .tmp 32]) rfl ?_); at_builtin; refine Kd.R_append_rows k41 (w0 := w) w.heap.size rfl (.tmp 31) (.tmp 32) 22 41 (.agg #[(.int .i64 0), (.int .i64 0)]) 16 rfl Try.underlying22 info41 rfl (by decide) (by omega) u6 x6_2 (rd_L2 l0 x27_2) _ _ _ (fun _ => True) (fun _ => False) rfl rfl ?aO ?aR (fun _ _ h => h) (fun _ h => h.elim) ?aF ?aB ?aS ?aL ?_; (case aR => repeat (first | exact (Kd.C_below HR105_0.out HB.out) | (with_reducible refine Kd.C_alloc ?_ _) | (with_reducible refine Kd.C_drewN ?_ _) | (with_reducible refine Kd.C_drew ?_))); (case aB => exact bh); (case aF => exact (fun _ _ => trivial)); (case aO => exact (ro HO_6)); (case aS => exact (below_size bh)); (case aL => have := LMc11.out; omega); intro v107 w12 ho hb hg hat; rw [← Ny106.out] at ho; have HO108 := Aside0.mk (ho); replace HB := Aside0.mk (hb); clear HO_6; clear ho hb hg hat))
       go_roundg k2
       case measure => have := HK1.out; have := HK2.out; omega
       case rel => exact ⟨(y106), (wrap64 (x27_2 + 1)), sd, H', ⟨by have := HK1.out; have := HK2.out; omega⟩, ⟨ro HO108⟩, ⟨bh⟩⟩
      ·rw [if_neg c8] at H
       have c8b0 := decide_eq_false c8
       clear c8
       obtain rfl := Option.some.inj H
       go_wp2
       go_ret
       exact ⟨_, by exact er, by (with_reducible repeat (first | apply Kd.R_alloc | apply Kd.R_drewN | apply Kd.R_drew)); exact HO_6.out, bh⟩
attribute [local go_sem high] eqA41
/-! ### api_Point_119: function 119 -/
def api_Point_119.l0 : Nat → List (S41) → Int → Int → Int → Int → Option (Int)
 | 0, _, _, _, _, _ => none
 | k + 1, x0, x7, x8, x102000, x102001 => if x8 < x7 then (if 0 ≤ x8 then (if x8 < (x0.length : Int) then (if (x102000 == ((rd_T41 x0 x8).f0) && (x102001 == ((rd_T41 x0 x8).f1))) = true then (some x8) else (api_Point_119.l0 k x0 x7 (wrap64 (x8 + 1)) x102000 x102001)) else (none)) else (none)) else (some (-1))
def api_Point_119.f (k : Nat) (l0 : List (S41)) (a1_0 : Int) (a1_1 : Int) : Option (Int) := api_Point_119.l0 k l0 (l0.length : Int) 0 a1_0 a1_1
set_option maxHeartbeats 8000000 in
set_option maxRecDepth 100000 in
theorem api_Point_119.calls (k : Nat) (A0 : Option Addr) (c0 : Nat) (l0 : List (S41)) (a1_0 : Int) (a1_1 : Int) (r : Int) (w : World) (hr0 : Kd.C k41 w A0 l0.length l0) (hc0 : l0.length ≤ c0) (h : api_Point_119.f k l0 a1_0 a1_1 = some r) :
  Calls Try.prog 119 #[.slice A0 l0.length c0, .agg #[.int .i64 a1_0, .int .i64 a1_1]] w fun e w' => e = .returned (.int .i64 r) ∧ Below w.heap.size w w' := by
 have hu41 := Try.underlying41
 have HR0 := Aside0.mk hr0
 have HC0 := Aside0.mk hc0
 clear hr0 hc0
 have HB := Aside0.mk (Below.refl w.heap.size w)
 have H : (api_Point_119.l0 k l0 (l0.length : Int) 0 a1_0 a1_1) = some r := h
 clear h
 have H' := Aside0.mk H
 clear H
 go_enter Try.func119, Try.ntmps119
 go_wp2_with (first | ((with_reducible refine gate_dst (N := 3) rfl ?_); refine bxe 3 #[.int .i64 a1_0, .int .i64 a1_1] 41 ?_; intro gb101 hg w3 hbox hb; have BK101 := Aside0.mk (hbox); have GW101 := ga w hg; have GE101 := GW101; replace HB := bz hb; clear hb hbox hg))
 repeat (go_quiet (first | ((with_reducible refine gate_dst (N := 3) rfl ?_); refine bxe 3 #[.int .i64 a1_0, .int .i64 a1_1] 41 ?_; intro gb101 hg w3 hbox hb; have BK101 := Aside0.mk (hbox); have GW101 := ga w hg; have GE101 := GW101; replace HB := bz hb; clear hb hbox hg)); try go_wp2_with (first | ((with_reducible refine gate_dst (N := 3) rfl ?_); refine bxe 3 #[.int .i64 a1_0, .int .i64 a1_1] 41 ?_; intro gb101 hg w3 hbox hb; have BK101 := Aside0.mk (hbox); have GW101 := ga w hg; have GE101 := GW101; replace HB := bz hb; clear hb hbox hg)))
 go_loopg [8] k (fun kq v8 w' => ∃ (x8_1 : Int), v8 = .int .i64 x8_1 ∧ Aside0 (api_Point_119.l0 kq l0 (l0.length : Int) x8_1 a1_0 a1_1 = some r) ∧ Aside0 (kq ≤ k) ∧ Aside0 (w'.heap[gb101]? = some (.cells #[.int .i64 a1_0, .int .i64 a1_1] 41 (0, 0))) ∧ Aside0 (Below w.heap.size w w'))
 case atStart => exact ⟨(0), sd, H', ⟨Nat.le_refl _⟩, ⟨bk BK101⟩, ⟨bh⟩⟩
 case round =>
  clear H'
  skip
  obtain ⟨x8_1, rfl, HA, HK1, BK101, HB⟩ := hrel
  cases gk with
  | zero => exact absurd HA.out (by simp [api_Point_119.l0])
  | succ k1 =>
   have H := HA.out
   clear HA
   simp only [api_Point_119.l0] at H
   by_cases c4 : x8_1 < (l0.length : Int)
   ·rw [if_pos c4] at H
    have c4b0 := decide_eq_true c4
    clear c4
    obtain ⟨c5, H⟩ := oi H
    have c5b0 := decide_eq_true c5
    clear c5
    obtain ⟨c6, H⟩ := oi H
    have c6b0 := decide_eq_true c6
    clear c6
    by_cases c7 : (a1_0 == ((rd_T41 l0 x8_1).f0) && (a1_1 == ((rd_T41 l0 x8_1).f1))) = true
    ·rw [if_pos c7] at H
     have c7b0 : (a1_0 == ((rd_T41 l0 x8_1).f0) && (a1_1 == ((rd_T41 l0 x8_1).f1))) = true := c7
     (try (have c7b1 : decide (a1_0 = ((rd_T41 l0 x8_1).f0) && (a1_1 == ((rd_T41 l0 x8_1).f1))) = true := by simpa using c7))
     (try (have c7b2 : (a1_0 == ((rd_T41 l0 x8_1).f0) && (a1_1 == ((rd_T41 l0 x8_1).f1))) = true := by simpa using c7))
     clear c7
     obtain rfl := Option.some.inj H
     obtain ⟨hcz8_0, hcz8_1, hfz8_0, hfz8_1⟩ := b2 BK101
     have p102 : 0 ≤ (x8_1 : Int) := dt
     have q102 : x8_1 < (l0.length : Int) := dt
     obtain ⟨ad102, e102, hx102_0, hx102_1⟩ := at_T41 HR0.out x8_1 p102 q102
     cases e102
     replace hx102_0 := hc HB hx102_0
     replace hx102_1 := hc HB hx102_1
     replace p102 := eq_true p102
     replace q102 := eq_true q102
     go_wp2
     repeat (go_quiet (fail); try go_wp2)
     go_ret
     exact ⟨by exact er, bh⟩
    ·rw [if_neg c7] at H
     have c7b0 : (a1_0 == ((rd_T41 l0 x8_1).f0) && (a1_1 == ((rd_T41 l0 x8_1).f1))) = false := by simpa using c7
     (try (have c7b1 : decide (a1_0 = ((rd_T41 l0 x8_1).f0) && (a1_1 == ((rd_T41 l0 x8_1).f1))) = false := by simpa using c7))
     (try (have c7b2 : (a1_0 == ((rd_T41 l0 x8_1).f0) && (a1_1 == ((rd_T41 l0 x8_1).f1))) = false := by simpa using c7))
     (try (have c7b3 : ¬ (a1_0 = ((rd_T41 l0 x8_1).f0) && (a1_1 == ((rd_T41 l0 x8_1).f1))) := by simpa using c7))
     clear c7
     have H' := Aside0.mk H
     clear H
     obtain ⟨hcz9_0, hcz9_1, hfz9_0, hfz9_1⟩ := b2 BK101
     have p102 : 0 ≤ (x8_1 : Int) := dt
     have q102 : x8_1 < (l0.length : Int) := dt
     obtain ⟨ad102, e102, hx102_0, hx102_1⟩ := at_T41 HR0.out x8_1 p102 q102
     cases e102
     replace hx102_0 := hc HB hx102_0
     replace hx102_1 := hc HB hx102_1
     replace p102 := eq_true p102
     replace q102 := eq_true q102
     go_wp2
     repeat (go_quiet (fail); try go_wp2)
     go_roundg k1
     case measure => have := HK1.out; omega
     case rel => exact ⟨(wrap64 (x8_1 + 1)), sd, H', ⟨by have := HK1.out; omega⟩, ⟨bk BK101⟩, ⟨bh⟩⟩
   ·rw [if_neg c4] at H
    have c4b0 := decide_eq_false c4
    clear c4
    obtain rfl := Option.some.inj H
    go_wp2
    repeat (go_quiet (fail); try go_wp2)
    go_ret
    exact ⟨by exact er, bh⟩
/-! ### cmp_Or_int: function 90 -/
def cmp_Or_int.l0 : Nat → Int → List Int → Int → Int → Option (Int)
 | 0, _, _, _, _ => none
 | k + 1, x3, x6, x7, x8 => if x8 < x7 then (if 0 ≤ x8 then (if x8 < (x6.length : Int) then (if (rd x6 x8) = x3 then (cmp_Or_int.l0 k x3 x6 x7 (wrap64 (x8 + 1))) else (some (rd x6 x8))) else (none)) else (none)) else (some x3)
def cmp_Or_int.f (k : Nat) (l0 : List Int) : Option (Int) := cmp_Or_int.l0 k 0 l0 (l0.length : Int) 0
set_option maxHeartbeats 8000000 in
set_option maxRecDepth 100000 in
theorem cmp_Or_int.calls (k : Nat) (A0 : Option Addr) (c0 : Nat) (l0 : List Int) (r : Int) (w : World) (hr0 : Kd.C (Kd.int .i64) w A0 l0.length l0) (hc0 : l0.length ≤ c0) (h : cmp_Or_int.f k l0 = some r) :
  Calls Try.prog 90 #[.slice A0 l0.length c0] w fun e w' => e = .returned (.int .i64 r) ∧ Drawn0 w w' := by
 have HR0 := Aside0.mk hr0
 have HC0 := Aside0.mk hc0
 clear hr0 hc0
 have H : (cmp_Or_int.l0 k 0 l0 (l0.length : Int) 0) = some r := h
 clear h
 have H' := Aside0.mk H
 clear H
 go_enter Try.func90, Try.ntmps90
 go_wp2
 go_loopg [8] k (fun kq v8 w' => ∃ (x8_1 : Int), v8 = .int .i64 x8_1 ∧ Aside0 (cmp_Or_int.l0 kq 0 l0 (l0.length : Int) x8_1 = some r) ∧ Aside0 (kq ≤ k) ∧ Drawn0 w w')
 case atStart => exact ⟨(0), sd, H', ⟨Nat.le_refl _⟩, by repeat (first | exact Drawn0.refl _ | apply Drawn0.step)⟩
 case round =>
  clear H'
  obtain ⟨x8_1, rfl, HA, HK1, ⟨m1, rfl⟩⟩ := hrel
  cases gk with
  | zero => exact absurd HA.out (by simp [cmp_Or_int.l0])
  | succ k1 =>
   have H := HA.out
   clear HA
   simp only [cmp_Or_int.l0] at H
   by_cases c2 : x8_1 < (l0.length : Int)
   ·rw [if_pos c2] at H
    have c2b0 := decide_eq_true c2
    clear c2
    obtain ⟨c3, H⟩ := oi H
    have c3b0 := decide_eq_true c3
    clear c3
    obtain ⟨c4, H⟩ := oi H
    have c4b0 := decide_eq_true c4
    clear c4
    by_cases c5 : (rd l0 x8_1) = 0
    ·rw [if_pos c5] at H
     have c5b0 : ((rd l0 x8_1) == 0) = true := beq_iff_eq.mpr c5
     have c5b1 : ((rd l0 x8_1) != 0) = false := bne_eq_false_iff_eq.mpr c5
     clear c5
     have H' := Aside0.mk H
     clear H
     have p101 : 0 ≤ (x8_1 : Int) := dt
     have q101 : x8_1 < (l0.length : Int) := dt
     obtain ⟨ad101, e101, hx101_0⟩ := Kd.at_int HR0.out x8_1 p101 q101
     cases e101
     replace p101 := eq_true p101
     replace q101 := eq_true q101
     go_wp2
     go_roundg k1
     case measure => have := HK1.out; omega
     case rel => exact ⟨(wrap64 (x8_1 + 1)), sd, H', ⟨by have := HK1.out; omega⟩, by repeat (first | exact Drawn0.refl _ | apply Drawn0.step)⟩
    ·rw [if_neg c5] at H
     have c5b0 : ((rd l0 x8_1) == 0) = false := beq_eq_false_iff_ne.mpr c5
     have c5b1 : ((rd l0 x8_1) != 0) = true := bne_iff_ne.mpr c5
     obtain rfl := Option.some.inj H
     have p101 : 0 ≤ (x8_1 : Int) := dt
     have q101 : x8_1 < (l0.length : Int) := dt
     obtain ⟨ad101, e101, hx101_0⟩ := Kd.at_int HR0.out x8_1 p101 q101
     cases e101
     replace p101 := eq_true p101
     replace q101 := eq_true q101
     go_wp2
     go_ret
     exact ⟨by first | rfl | (simp; done) | (simp [*]; done), by repeat (first | exact Drawn0.refl _ | apply Drawn0.step)⟩
   ·rw [if_neg c2] at H
    have c2b0 := decide_eq_false c2
    clear c2
    obtain rfl := Option.some.inj H
    go_wp2
    go_ret
    exact ⟨by first | rfl | (simp; done) | (simp [*]; done), by repeat (first | exact Drawn0.refl _ | apply Drawn0.step)⟩
/-! ### shape_lower: function 100 -/
def shape_lower.f (k : Nat) (a0_0 : Int) (a0_1 : Int) (a1_0 : Int) (a1_1 : Int) : Option (Int) := (cmp_Compare_int.f a0_1 a1_1).bind fun t103 => ((cmp_Compare_int.f a0_0 a1_0).bind fun t104 => ((cmp_Or_int.f k (([t103, t104] : List Int))).bind fun t108 => (some t108)))
def shape_lower.T1 : Bool × List (List Nat × List Nat) := (true, [([], []), ([0], [0]), ([], []), ([2], [2]), ([1, 3], [1, 3]), ([], []), ([5], [5]), ([], []), ([7], [7]), ([6, 8, 4], [6, 8]), ([4, 9], [4, 9]), ([10, 9], [10]), ([11, 11, 0, 1, 2, 3, 4, 5, 6, 7, 8, 9, 10, 11], [11])])
def shape_lower.B1 : List Nat := [0, 1, 0, 4, 15, 0, 32, 0, 128, 511, 1023, 2047, 4095]
theorem shape_lower.tab1 : rtab .any (opsOf Try.f100 1) = shape_lower.T1 := by kernel_rfl
theorem shape_lower.bits1 : waitsOk shape_lower.T1.2 shape_lower.B1 = true := by kernel_rfl
set_option maxHeartbeats 8000000 in
set_option maxRecDepth 100000 in
theorem shape_lower.calls (k : Nat) (a0_0 : Int) (a0_1 : Int) (a1_0 : Int) (a1_1 : Int) (r : Int) (w : World) (h : shape_lower.f k a0_0 a0_1 a1_0 a1_1 = some r) :
  Calls Try.prog 100 #[.agg #[.int .i64 a0_0, .int .i64 a0_1], .agg #[.int .i64 a1_0, .int .i64 a1_1]] w fun e w' => e = .returned (.int .i64 r) ∧ Below w.heap.size w w' := by
 have hu41 := Try.underlying41
 have HB := Aside0.mk (Below.refl w.heap.size w)
 have H : ((cmp_Compare_int.f a0_1 a1_1).bind fun t103 => ((cmp_Compare_int.f a0_0 a1_0).bind fun t104 => ((cmp_Or_int.f k (([t103, t104] : List Int))).bind fun t108 => (some t108)))) = some r := h
 clear h
 replace H := Option.bind_eq_some_iff.mp H
 obtain ⟨t103, A30, H⟩ := H
 try dsimp only at H
 have A3 := Aside0.mk A30
 clear A30
 replace H := Option.bind_eq_some_iff.mp H
 obtain ⟨t104, A40, H⟩ := H
 try dsimp only at H
 have A4 := Aside0.mk A40
 clear A40
 obtain ⟨y105, hy105⟩ : ∃ y_ : List Int, y_ = (([t103, t104] : List Int)) := ⟨_, rfl⟩
 replace H : ((cmp_Or_int.f k y105).bind fun t108 => (some t108)) = some r := by first | (rw [hy105]; with_reducible exact H) | (have H2_ := (Option.bind_some _ _).symm.trans H; rw [hy105]; with_reducible exact H2_) | (have H2_ := (Option.bind_some _ _).symm.trans H; with_reducible exact H2_) | with_reducible exact H | (rw [hy105]; exact H) | exact H
 have Ny105 := Aside0.mk hy105
 clear hy105
 replace H := Option.bind_eq_some_iff.mp H
 obtain ⟨t108, A50, H⟩ := H
 try dsimp only at H
 have A5 := Aside0.mk A50
 clear A50
 obtain rfl := Option.some.inj H
 go_enter Try.func100, Try.ntmps100
 try go_wp2_with (first | ((with_reducible refine gate_dst (N := 2) rfl ?_); refine bxe 2 #[.int .i64 a0_0, .int .i64 a0_1] 41 ?_; intro gb101 hg w6 hbox hb; have BK101 := Aside0.mk (hbox); have GW101 := ga w hg; have GE101 := GW101; replace HB := bz hb; clear hb hbox hg) | ((with_reducible refine gate_dst (N := 3) rfl ?_); refine bxe 3 #[.int .i64 a1_0, .int .i64 a1_1] 41 ?_; intro gb102 hg w7 hbox hb; have BK102 := Aside0.mk (hbox); have GW102 := ga w hg; have GE102 := GW102; have NB101_102 := nb hg (kl BK101); have NB102_101 := bn NB101_102; replace BK101 := kb BK101 hb; replace HB := bz hb; clear hb hbox hg))
 replace BK101 := Aside0.mk (blk_drew BK101.out)
 replace BK102 := Aside0.mk (blk_drew BK102.out)
 replace HB := Aside0.mk (below_drew1 HB.out)
 refine start_ (n := 13) (S := fun w' => w'.cell? ⟨gb101, 0, none⟩ = some (.int .i64 a0_0) ∧ w'.cell? ⟨gb101, 1, none⟩ = some (.int .i64 a0_1) ∧ w'.cell? ⟨gb102, 0, none⟩ = some (.int .i64 a1_0) ∧ w'.cell? ⟨gb102, 1, none⟩ = some (.int .i64 a1_1)) (ds := []) #[N,N,N,N,N,N,N,N,N,N,N,N,N] (by kernel_rfl) rfl rfl ⟨bc BK101 0, bc BK101 1, bc BK102 0, bc BK102 1⟩ (fun hHeld => ?_); refine with_tabW shape_lower.tab1 shape_lower.bits1 (fun HT_ HW_ => ?_)
 generalize w7.drew = w8 at BK101 BK102 HB hHeld ⊢
 refine pu 0 5 HT_ ?_
 refine pu 2 7 HT_ ?_
 refine pu 5 10 HT_ ?_
 refine pu 7 12 HT_ ?_
 refine tk4 1 6 hHeld HT_ HW_ ?_
 refine tk4 3 8 hHeld HT_ HW_ ?_
 refine tk4 6 11 hHeld HT_ HW_ ?_
 refine tk4 8 13 hHeld HT_ HW_ ?_
 refine one_ (i := 4) (N := some 9) #[T,T,T,T,T,T,T,T,T,N,N,N,N] rfl rfl (on1 HT_) (by decide) (fun K hK => ?_)
 refine goes_ Try.func91 (by kernel_rfl) rfl #[.int .i64 a0_1, .int .i64 a1_1] (by rfl) rfl rfl sg ?_
 with_reducible refine (cmp_Compare_int.calls a0_1 a1_1 t103 _ A3.out).mono ?_
 rintro e w' ⟨rfl, ⟨nd, rfl⟩⟩
 refine ⟨_, rfl, ?_⟩
 refine hK.out _ _ ⟨bc BK101 0, bc BK101 1, bc BK102 0, bc BK102 1⟩ (fun hHeld => ?_)
 clear hK K
 refine nm 9 ?_
 refine one_ (i := 9) (N := some 14) #[T,T,T,T,T,T,T,T,T,T,N,N,N] rfl rfl (on1 HT_) (by decide) (fun K hK => ?_)
 refine goes_ Try.func91 (by kernel_rfl) rfl #[.int .i64 a0_0, .int .i64 a1_0] (by rfl) rfl rfl sg ?_
 with_reducible refine (cmp_Compare_int.calls a0_0 a1_0 t104 _ A4.out).mono ?_
 rintro e w' ⟨rfl, ⟨nd, rfl⟩⟩
 refine ⟨_, rfl, ?_⟩
 refine hK.out _ _ ⟨bc BK101 0, bc BK101 1, bc BK102 0, bc BK102 1⟩ (fun hHeld => ?_)
 clear hK K
 refine nm 14 ?_
 refine one_ (i := 10) (N := some 15) #[T,T,T,T,T,T,T,T,T,T,T,N,N] rfl rfl (on1 HT_) (by decide) (fun K hK => ?_)
 refine Kd.R_lit_step (Kd.int .i64) _ 3 ?hg (N := 15) ?hd (xs := ([t103, t104] : List Int)) (inner := [.int .i64 t103, .int .i64 t104]) (ok := fun _ => True) (okp := fun _ => True) ?hr ?hp (fun _ hk => hk) trivial (Below.refl _ _) (Nat.le_refl _) (by simp) ?_; (case hd => rfl); (case hg => rfl); (case hr => first | (go_simp; done) | (go_simp; rfl)); (case hp => exact (Reps.one (show Kd.M (Kd.int .i64) _ _ _ t103 [.int .i64 t103] from rfl) (Reps.one (show Kd.M (Kd.int .i64) _ _ _ t104 [.int .i64 t104] from rfl) (Reps.none _ _))))
 intro v106 w9 ho10 hb hg_ hnew_
 clear hg_ hnew_
 (first | rw [← Ny105.out] at ho10 | (simp only [Int.reduceToNat] at ho10; rw [← Ny105.out] at ho10))
 have HO107 := Aside0.mk (Kd.R_lower ho10 (below_size bh))
 replace BK101 := kb BK101 hb
 replace BK102 := kb BK102 hb
 replace HB := bz hb
 clear hb ho10
 obtain ⟨Ao11, co11, eo11⟩ := Kd.R_slice HO107.out
 (first | subst eo11 | (injection eo11 with f1_ f2_ f3_; have f4_ := f1_.symm; have f5_ := f3_.symm; clear f1_ f2_ f3_; subst f4_; subst f5_))
 refine hK.out _ _ ⟨bc BK101 0, bc BK101 1, bc BK102 0, bc BK102 1⟩ (fun hHeld => ?_)
 clear hK K
 refine nm 15 ?_
 refine one_ (i := 11) (N := some 16) #[T,T,T,T,T,T,T,T,T,T,T,T,N] rfl rfl (on1 HT_) (by decide) (fun K hK => ?_)
 refine goes_ Try.func90 (by kernel_rfl) rfl #[.slice Ao11 y105.length co11] (by rfl) rfl rfl sg ?_
 with_reducible refine (cmp_Or_int.calls k _ _ y105 t108 _ ?side1 ?side2 A5.out).mono ?_
 (case side1 => exact cs (Kd.R_reads' HO107.out).2.2)
 (case side2 => exact (Kd.R_reads' HO107.out).2.1)
 rintro e w' ⟨rfl, ⟨nd, rfl⟩⟩
 refine ⟨_, rfl, ?_⟩
 refine hK.out _ _ ⟨bc BK101 0, bc BK101 1, bc BK102 0, bc BK102 1⟩ (fun hHeld => ?_)
 clear hK K
 refine nm 16 ?_
 refine pu 12 4 HT_ ?_
 refine done_ (done_of HT_.out (by kernel_rfl)) ?_
 try go_wp2
 go_ret
 exact ⟨by exact er, bh⟩
/-! ### slices_MinFunc_lower: function 1099 -/
def slices_MinFunc_lower.l0 : Nat → List (S41) → Int → Int → Int → Option (Int × Int)
 | 0, _, _, _, _ => none
 | k + 1, x0, x6, x104000, x104001 => if x6 < (x0.length : Int) then (if 0 ≤ x6 then ((shape_lower.f k ((rd_T41 x0 x6).f0) ((rd_T41 x0 x6).f1) x104000 x104001).bind fun t105 => (if t105 < 0 then (slices_MinFunc_lower.l0 k x0 (wrap64 (x6 + 1)) ((rd_T41 x0 x6).f0) ((rd_T41 x0 x6).f1)) else (slices_MinFunc_lower.l0 k x0 (wrap64 (x6 + 1)) x104000 x104001))) else (none)) else (some (x104000, x104001))
def slices_MinFunc_lower.f (k : Nat) (l0 : List (S41))  : Option (Int × Int) := if (l0.length : Int) < 1 then (none) else (if 0 < (l0.length : Int) then (slices_MinFunc_lower.l0 k l0 1 ((rd_T41 l0 0).f0) ((rd_T41 l0 0).f1)) else (none))
def slices_MinFunc_lower.T7 : Bool × List (List Nat × List Nat) := (true, [([], []), ([], []), ([], []), ([1, 2], [1, 2]), ([3], [3]), ([], []), ([0, 4, 5], [0, 4, 5]), ([6], [6])])
def slices_MinFunc_lower.B7 : List Nat := [0, 0, 0, 6, 14, 0, 63, 127]
theorem slices_MinFunc_lower.tab7 : rtab .any (opsOf Try.f99 7) = slices_MinFunc_lower.T7 := by kernel_rfl
theorem slices_MinFunc_lower.bits7 : waitsOk slices_MinFunc_lower.T7.2 slices_MinFunc_lower.B7 = true := by kernel_rfl
set_option maxHeartbeats 8000000 in
set_option maxRecDepth 100000 in
theorem slices_MinFunc_lower.calls (k : Nat) (A0 : Option Addr) (c0 : Nat) (l0 : List (S41))  (r1 : Int) (r2 : Int) (w : World) (hr0 : Kd.C k41 w A0 l0.length l0) (hc0 : l0.length ≤ c0) (h : slices_MinFunc_lower.f k l0 = some (r1, r2)) :
  Calls Try.prog 99 #[.slice A0 l0.length c0, .func (.func 100) #[] #[]] w fun e w' => e = .returned (.agg #[.int .i64 r1, .int .i64 r2]) ∧ Below w.heap.size w w' := by
 have hu41 := Try.underlying41
 have HR0 := Aside0.mk hr0
 have HC0 := Aside0.mk hc0
 clear hr0 hc0
 have HB := Aside0.mk (Below.refl w.heap.size w)
 have H : (if (l0.length : Int) < 1 then (none) else (if 0 < (l0.length : Int) then (slices_MinFunc_lower.l0 k l0 1 ((rd_T41 l0 0).f0) ((rd_T41 l0 0).f1)) else (none))) = some (r1, r2) := h
 clear h
 obtain ⟨c3, H⟩ := oj H
 have c3b0 := decide_eq_false c3
 have c3b1 : decide (l0.length < 1) = false := decide_eq_false (by omega)
 clear c3
 obtain ⟨c4, H⟩ := oi H
 have c4b0 := decide_eq_true c4
 have c4b1 : decide (0 < l0.length) = true := decide_eq_true (by omega)
 clear c4
 have H' := Aside0.mk H
 clear H
 go_enter Try.func99, Try.ntmps99
 go_wp2_with (first | ((with_reducible refine gate_dst (N := 4) rfl ?_); refine bxe 4 #[.int .i64 0, .int .i64 0] 41 ?_; intro gb101 hg w5 hbox hb; have BK101 := Aside0.mk (hbox); have GW101 := ga w hg; have GE101 := GW101; replace HB := bz hb; clear hb hbox hg; have p102 : 0 ≤ (0 : Int) := (by omega); have q102 : 0 < (l0.length : Int) := dt; obtain ⟨ad102, e102, hx102_0, hx102_1⟩ := at_T41 HR0.out 0 p102 q102; cases e102; have qi102 : (0 < l0.length) = True := eq_true (by omega); (try rw [show ((0 : Int)).toNat = 0 from rfl] at hx102_0); (try rw [show 0 * 2 = 0 from rfl] at hx102_0); (try rw [Addr.add_zero'] at hx102_0); (try rw [show ((0 : Int)).toNat = 0 from rfl] at hx102_1); (try rw [show 0 * 2 = 0 from rfl] at hx102_1); (try rw [Addr.add_zero'] at hx102_1); replace hx102_0 := (HB.out.cell (World.block_lt_of_cell? w _ hx102_0)).trans hx102_0; replace hx102_1 := (HB.out.cell (World.block_lt_of_cell? w _ hx102_1)).trans hx102_1; replace p102 := eq_true p102; replace q102 := eq_true q102) | ((with_reducible refine gate_dst (N := 5) rfl ?_); refine bxe 5 #[.int .i64 0, .int .i64 0] 41 ?_; intro gb103 hg w6 hbox hb; have BK103 := Aside0.mk (hbox); have GW103 := ga w hg; have GE103 := GW103; have NB101_103 := nb hg (kl BK101); have NB103_101 := bn NB101_103; replace BK101 := kb BK101 hb; replace HB := bz hb; clear hb hbox hg; have hnb7 := NB103_101.out; have hnc7 := NB101_103.out; obtain ⟨hcz8_0, hcz8_1, hfz8_0, hfz8_1⟩ := b2 BK103))
 go_loopg [6] k (fun kq v6 w' => ∃ (x6_1 : Int) (x104000_1 : Int) (x104001_1 : Int), v6 = .int .i64 x6_1 ∧ Aside0 (slices_MinFunc_lower.l0 kq l0 x6_1 x104000_1 x104001_1 = some (r1, r2)) ∧ Aside0 (kq ≤ k) ∧ Aside0 (w'.heap[gb101]? = some (.cells #[.int .i64 0, .int .i64 0] 41 (0, 0))) ∧ Aside0 (w'.heap[gb103]? = some (.cells #[.int .i64 x104000_1, .int .i64 x104001_1] 41 (0, 0))) ∧ Aside0 (Below w.heap.size w w'))
 case atStart => exact ⟨(1), ((rd_T41 l0 0).f0), ((rd_T41 l0 0).f1), sd, H', ⟨Nat.le_refl _⟩, ⟨by refine bf NB101_103 ?_; refine bf NB101_103 ?_; refine bd ?_; exact BK101.out⟩, ⟨by refine bd ?_; refine blk_put (cs := #[.int .i64 ((rd_T41 l0 0).f0), .int .i64 0]) ?_ 1 _ rfl; refine bd ?_; refine blk_put (cs := #[.int .i64 0, .int .i64 0]) ?_ 0 _ rfl; refine bd ?_; exact BK103.out⟩, ⟨bh⟩⟩
 case round =>
  clear H'
  (try clear c3b0); (try clear c3b1); (try clear c4b0); (try clear c4b1); (try clear hcz8_0); (try clear hcz8_1); (try clear hfz8_0); (try clear hfz8_1); (try clear hx102_0); (try clear hx102_1); (try clear p102); (try clear q102)
  obtain ⟨x6_1, x104000_1, x104001_1, rfl, HA, HK1, BK101, BK103, HB⟩ := hrel
  cases gk with
  | zero => exact absurd HA.out (by simp [slices_MinFunc_lower.l0])
  | succ k1 =>
   have H := HA.out
   clear HA
   simp only [slices_MinFunc_lower.l0] at H
   by_cases c9 : x6_1 < (l0.length : Int)
   ·rw [if_pos c9] at H
    have c9b0 := decide_eq_true c9
    clear c9
    obtain ⟨c10, H⟩ := oi H
    have c10b0 := decide_eq_true c10
    clear c10
    replace H := Option.bind_eq_some_iff.mp H
    obtain ⟨t105, A110, H⟩ := H
    replace H : (if t105 < 0 then (slices_MinFunc_lower.l0 k1 l0 (wrap64 (x6_1 + 1)) ((rd_T41 l0 x6_1).f0) ((rd_T41 l0 x6_1).f1)) else (slices_MinFunc_lower.l0 k1 l0 (wrap64 (x6_1 + 1)) x104000_1 x104001_1)) = some (r1, r2) := H
    have A11 := Aside0.mk A110
    clear A110
    by_cases c12 : t105 < 0
    ·rw [if_pos c12] at H
     have c12b0 := decide_eq_true c12
     clear c12
     have H' := Aside0.mk H
     clear H
     try go_wp2
     replace BK101 := Aside0.mk (blk_drew BK101.out)
     replace BK103 := Aside0.mk (blk_drew BK103.out)
     replace HB := Aside0.mk (below_drew1 HB.out)
     have p104 : 0 ≤ (x6_1 : Int) := dt
     have q104 : x6_1 < (l0.length : Int) := dt
     obtain ⟨ad104, e104, hx104_0, hx104_1⟩ := at_T41 HR0.out x6_1 p104 q104
     have hw104_1 := hx104_1
     have hw104_0 := hx104_0
     obtain rfl : ad102 = ad104 := (by injection e104)
     replace hx104_0 := hc HB hx104_0
     replace hx104_1 := hc HB hx104_1
     replace p104 := eq_true p104
     replace q104 := eq_true q104
     refine start_ (n := 8) (S := fun w' => w'.cell? ⟨gb103, 0, none⟩ = some (.int .i64 x104000_1) ∧ w'.cell? ⟨gb103, 1, none⟩ = some (.int .i64 x104001_1) ∧ w'.cell? (ad102.add ((x6_1).toNat * 2)) = some (.int .i64 ((rd_T41 l0 x6_1).f0)) ∧ w'.cell? ⟨(ad102.add ((x6_1).toNat * 2)).block, (ad102.add ((x6_1).toNat * 2)).off + 1, none⟩ = some (.int .i64 ((rd_T41 l0 x6_1).f1))) (ds := []) #[N,N,N,N,N,N,N,N] (by kernel_rfl) rfl rfl ⟨bc BK103 0, bc BK103 1, (hc HB hw104_0), (hc HB hw104_1)⟩ (fun hHeld => ?_); refine with_tabW slices_MinFunc_lower.tab7 slices_MinFunc_lower.bits7 (fun HT_ HW_ => ?_)
     generalize wr.drew = w13 at BK101 BK103 HB hx104_0 hx104_1 hHeld ⊢
     refine pu 0 20 HT_ ?_
     refine pu 1 21 HT_ ?_
     refine pu 2 22 HT_ ?_
     refine pu 3 23 HT_ ?_
     refine tk4 4 24 hHeld HT_ HW_ ?_
     refine tk4 5 25 hHeld HT_ HW_ ?_
     refine one_ (i := 6) (N := some 26) #[T,T,T,T,T,T,T,N] rfl rfl (on1 HT_) (by decide) (fun K hK => ?_)
     first | (refine goes_ Try.func100 (by kernel_rfl) rfl #[.agg #[.int .i64 ((rd_T41 l0 x6_1).f0), .int .i64 ((rd_T41 l0 x6_1).f1)], .agg #[.int .i64 x104000_1, .int .i64 x104001_1]] (by rfl) rfl rfl sg ?_) | (refine goesV_ Try.func100 (by kernel_rfl) rfl #[.agg #[.int .i64 ((rd_T41 l0 x6_1).f0), .int .i64 ((rd_T41 l0 x6_1).f1)], .agg #[.int .i64 x104000_1, .int .i64 x104001_1]] (by rfl) rfl rfl sg (by rfl) ?_)
     with_reducible refine (shape_lower.calls k1 ((rd_T41 l0 x6_1).f0) ((rd_T41 l0 x6_1).f1) x104000_1 x104001_1 t105 _ A11.out).mono ?_
     rintro e w14 ⟨rfl, hb⟩
     refine ⟨_, rfl, ?_⟩
     replace BK101 := kb BK101 hb
     replace BK103 := kb BK103 hb
     replace HB := bz hb
     (try clear hb)
     refine hK.out _ _ ⟨bc BK103 0, bc BK103 1, (hc HB hw104_0), (hc HB hw104_1)⟩ (fun hHeld => ?_)
     clear hK K
     refine nm 26 ?_
     refine pu 7 27 HT_ ?_
     refine done_ (done_of HT_.out (by kernel_rfl)) ?_
     have p106 : 0 ≤ (x6_1 : Int) := dt
     have q106 : x6_1 < (l0.length : Int) := dt
     obtain ⟨ad106, e106, hx106_0, hx106_1⟩ := at_T41 HR0.out x6_1 p106 q106
     obtain rfl : ad102 = ad106 := (by injection e106)
     replace hx106_0 := hc HB hx106_0
     replace hx106_1 := hc HB hx106_1
     replace p106 := eq_true p106
     replace q106 := eq_true q106
     have hnb15 := NB103_101.out
     have hnc15 := NB101_103.out
     obtain ⟨hcz16_0, hcz16_1, hfz16_0, hfz16_1⟩ := b2 BK103
     try go_wp2
     go_roundg k1
     case measure => have := HK1.out; omega
     case rel => exact ⟨(wrap64 (x6_1 + 1)), ((rd_T41 l0 x6_1).f0), ((rd_T41 l0 x6_1).f1), sd, H', ⟨by have := HK1.out; omega⟩, ⟨by refine bf NB101_103 ?_; refine bf NB101_103 ?_; refine bd ?_; exact BK101.out⟩, ⟨by refine bd ?_; refine blk_put (cs := #[.int .i64 ((rd_T41 l0 x6_1).f0), .int .i64 x104001_1]) ?_ 1 _ rfl; refine bd ?_; refine blk_put (cs := #[.int .i64 x104000_1, .int .i64 x104001_1]) ?_ 0 _ rfl; refine bd ?_; exact BK103.out⟩, ⟨bh⟩⟩
    ·rw [if_neg c12] at H
     have c12b0 := decide_eq_false c12
     clear c12
     have H' := Aside0.mk H
     clear H
     try go_wp2
     replace BK101 := Aside0.mk (blk_drew BK101.out)
     replace BK103 := Aside0.mk (blk_drew BK103.out)
     replace HB := Aside0.mk (below_drew1 HB.out)
     have p104 : 0 ≤ (x6_1 : Int) := dt
     have q104 : x6_1 < (l0.length : Int) := dt
     obtain ⟨ad104, e104, hx104_0, hx104_1⟩ := at_T41 HR0.out x6_1 p104 q104
     have hw104_1 := hx104_1
     have hw104_0 := hx104_0
     obtain rfl : ad102 = ad104 := (by injection e104)
     replace hx104_0 := hc HB hx104_0
     replace hx104_1 := hc HB hx104_1
     replace p104 := eq_true p104
     replace q104 := eq_true q104
     refine start_ (n := 8) (S := fun w' => w'.cell? ⟨gb103, 0, none⟩ = some (.int .i64 x104000_1) ∧ w'.cell? ⟨gb103, 1, none⟩ = some (.int .i64 x104001_1) ∧ w'.cell? (ad102.add ((x6_1).toNat * 2)) = some (.int .i64 ((rd_T41 l0 x6_1).f0)) ∧ w'.cell? ⟨(ad102.add ((x6_1).toNat * 2)).block, (ad102.add ((x6_1).toNat * 2)).off + 1, none⟩ = some (.int .i64 ((rd_T41 l0 x6_1).f1))) (ds := []) #[N,N,N,N,N,N,N,N] (by kernel_rfl) rfl rfl ⟨bc BK103 0, bc BK103 1, (hc HB hw104_0), (hc HB hw104_1)⟩ (fun hHeld => ?_); refine with_tabW slices_MinFunc_lower.tab7 slices_MinFunc_lower.bits7 (fun HT_ HW_ => ?_)
     generalize wr.drew = w17 at BK101 BK103 HB hx104_0 hx104_1 hHeld ⊢
     refine pu 0 20 HT_ ?_
     refine pu 1 21 HT_ ?_
     refine pu 2 22 HT_ ?_
     refine pu 3 23 HT_ ?_
     refine tk4 4 24 hHeld HT_ HW_ ?_
     refine tk4 5 25 hHeld HT_ HW_ ?_
     refine one_ (i := 6) (N := some 26) #[T,T,T,T,T,T,T,N] rfl rfl (on1 HT_) (by decide) (fun K hK => ?_)
     first | (refine goes_ Try.func100 (by kernel_rfl) rfl #[.agg #[.int .i64 ((rd_T41 l0 x6_1).f0), .int .i64 ((rd_T41 l0 x6_1).f1)], .agg #[.int .i64 x104000_1, .int .i64 x104001_1]] (by rfl) rfl rfl sg ?_) | (refine goesV_ Try.func100 (by kernel_rfl) rfl #[.agg #[.int .i64 ((rd_T41 l0 x6_1).f0), .int .i64 ((rd_T41 l0 x6_1).f1)], .agg #[.int .i64 x104000_1, .int .i64 x104001_1]] (by rfl) rfl rfl sg (by rfl) ?_)
     with_reducible refine (shape_lower.calls k1 ((rd_T41 l0 x6_1).f0) ((rd_T41 l0 x6_1).f1) x104000_1 x104001_1 t105 _ A11.out).mono ?_
     rintro e w18 ⟨rfl, hb⟩
     refine ⟨_, rfl, ?_⟩
     replace BK101 := kb BK101 hb
     replace BK103 := kb BK103 hb
     replace HB := bz hb
     (try clear hb)
     refine hK.out _ _ ⟨bc BK103 0, bc BK103 1, (hc HB hw104_0), (hc HB hw104_1)⟩ (fun hHeld => ?_)
     clear hK K
     refine nm 26 ?_
     refine pu 7 27 HT_ ?_
     refine done_ (done_of HT_.out (by kernel_rfl)) ?_
     try go_wp2
     go_roundg k1
     case measure => have := HK1.out; omega
     case rel => exact ⟨(wrap64 (x6_1 + 1)), (x104000_1), (x104001_1), sd, H', ⟨by have := HK1.out; omega⟩, ⟨bk BK101⟩, ⟨bk BK103⟩, ⟨bh⟩⟩
   ·rw [if_neg c9] at H
    have c9b0 := decide_eq_false c9
    clear c9
    simp only [Option.some.injEq, Prod.mk.injEq] at H
    obtain ⟨rfl, rfl⟩ := H
    have hnb19 := NB103_101.out
    have hnc19 := NB101_103.out
    obtain ⟨hcz20_0, hcz20_1, hfz20_0, hfz20_1⟩ := b2 BK103
    obtain ⟨hcz21_0, hcz21_1, hfz21_0, hfz21_1⟩ := b2 BK101
    go_wp2
    refine bodyPost_ret (results_cell_row rfl _ _ gb101 41 #[.int .i64 x104000_1, .int .i64 x104001_1] (0, 0) _ rfl (by refine bd ?_; refine blk_put (cs := #[.int .i64 x104000_1, .int .i64 0]) ?_ 1 _ rfl; refine bd ?_; refine blk_put (cs := #[.int .i64 0, .int .i64 0]) ?_ 0 _ rfl; refine bd ?_; exact BK101.out) Try.underlying41 rfl (by kernel_rfl)) rfl ?_
    exact ⟨by exact er, bh⟩
/-! ### shape_begun: function 96 -/
def shape_begun.f (k : Nat) (l0 : List (S41)) : Option ((List (S41))) := (slices_MinFunc_lower.f k l0).bind fun bt101 => ((api_Point_119.f k l0 bt101.1 bt101.2).bind fun t103 => (if 0 ≤ t103 then (if t103 ≤ (l0.length : Int) then ((api_Point_95.f k (([(l0.drop (t103 : Int).toNat), (l0.take (t103 : Int).toNat)] : List (List (S41))))).bind fun t117 => (some t117)) else (none)) else (none)))
def shape_begun.T2 : Bool × List (List Nat × List Nat) := (true, [([], []), ([], []), ([0, 1], [0, 1]), ([], []), ([], []), ([3, 4], [3, 4]), ([2, 5], [2, 5]), ([6], [6]), ([7, 7, 0, 1, 2, 3, 4, 5, 6, 7], [7])])
def shape_begun.B2 : List Nat := [0, 0, 3, 0, 0, 24, 63, 127, 255]
theorem shape_begun.tab2 : rtab .any (opsOf Try.f96 2) = shape_begun.T2 := by kernel_rfl
theorem shape_begun.bits2 : waitsOk shape_begun.T2.2 shape_begun.B2 = true := by kernel_rfl
set_option maxHeartbeats 8000000 in
set_option maxRecDepth 100000 in
theorem shape_begun.calls (k : Nat) (P0_ : Nat → Prop) (A0 : Option Addr) (c0 : Nat) (l0 : List (S41)) (r : List (S41)) (w : World) (hs0 : Kd.V k41 41 w w.heap.size (fun k_ => P0_ k_) (.slice A0 l0.length c0) l0) (h : shape_begun.f k l0 = some r) :
  Calls Try.prog 96 #[.slice A0 l0.length c0] w fun e w' => ∃ v0_ : Value, e = .returned (v0_) ∧ Kd.R k41 41 w' w.heap.size (fun k_ => (w.heap.size ≤ k_)) v0_ r ∧ Below w.heap.size w w' := by
 have HO0 := Aside0.mk (show Kd.V k41 41 w w.heap.size (fun k_ => (P0_ k_ ∨ w.heap.size ≤ k_)) (.slice A0 l0.length c0) l0 from Kd.V_mono hs0 (fun k_ hk => .inl hk))
 have HB := Aside0.mk (Below.refl w.heap.size w)
 have H : ((slices_MinFunc_lower.f k l0).bind fun bt101 => ((api_Point_119.f k l0 bt101.1 bt101.2).bind fun t103 => (if 0 ≤ t103 then (if t103 ≤ (l0.length : Int) then ((api_Point_95.f k (([(l0.drop (t103 : Int).toNat), (l0.take (t103 : Int).toNat)] : List (List (S41))))).bind fun t117 => (some t117)) else (none)) else (none)))) = some r := h
 clear h
 replace H := Option.bind_eq_some_iff.mp H
 obtain ⟨⟨t101, t102⟩, A20, H⟩ := H
 try dsimp only at H
 have A2 := Aside0.mk A20
 clear A20
 replace H := Option.bind_eq_some_iff.mp H
 obtain ⟨t103, A30, H⟩ := H
 try dsimp only at H
 have A3 := Aside0.mk A30
 clear A30
 obtain ⟨c4, H⟩ := oi H
 have c4b0 := eq_true c4
 have c4b1 := decide_eq_true c4
 clear c4
 obtain ⟨c5, H⟩ := oi H
 have c5b0 := eq_true c5
 have c5b1 := decide_eq_true c5
 clear c5
 obtain ⟨y104, hy104⟩ : ∃ y_ : List (S41), y_ = (l0.drop (t103 : Int).toNat) := ⟨_, rfl⟩
 replace H : ((api_Point_95.f k (([y104, (l0.take (t103 : Int).toNat)] : List (List (S41))))).bind fun t117 => (some t117)) = some r := by first | (rw [hy104]; with_reducible exact H) | (have H2_ := (Option.bind_some _ _).symm.trans H; rw [hy104]; with_reducible exact H2_) | (have H2_ := (Option.bind_some _ _).symm.trans H; with_reducible exact H2_) | with_reducible exact H | (rw [hy104]; exact H) | exact H
 have Ny104 := Aside0.mk hy104
 clear hy104
 have c6b0 := eq_true (dt : 0 ≤ t103)
 have c7b0 := eq_true (dt : t103 ≤ (l0.length : Int))
 obtain ⟨y109, hy109⟩ : ∃ y_ : List (S41), y_ = (l0.take (t103 : Int).toNat) := ⟨_, rfl⟩
 replace H : ((api_Point_95.f k (([y104, y109] : List (List (S41))))).bind fun t117 => (some t117)) = some r := by first | (rw [hy109]; with_reducible exact H) | (have H2_ := (Option.bind_some _ _).symm.trans H; rw [hy109]; with_reducible exact H2_) | (have H2_ := (Option.bind_some _ _).symm.trans H; with_reducible exact H2_) | with_reducible exact H | (rw [hy109]; exact H) | exact H
 have Ny109 := Aside0.mk hy109
 clear hy109
 obtain ⟨y114, hy114⟩ : ∃ y_ : List (List (S41)), y_ = (([y104, y109] : List (List (S41)))) := ⟨_, rfl⟩
 replace H : ((api_Point_95.f k y114).bind fun t117 => (some t117)) = some r := by first | (rw [hy114]; with_reducible exact H) | (have H2_ := (Option.bind_some _ _).symm.trans H; rw [hy114]; with_reducible exact H2_) | (have H2_ := (Option.bind_some _ _).symm.trans H; with_reducible exact H2_) | with_reducible exact H | (rw [hy114]; exact H) | exact H
 have Ny114 := Aside0.mk hy114
 clear hy114
 replace H := Option.bind_eq_some_iff.mp H
 obtain ⟨t117, A80, H⟩ := H
 try dsimp only at H
 have A8 := Aside0.mk A80
 clear A80
 obtain rfl := Option.some.inj H
 go_enter Try.func96, Try.ntmps96
 try go_wp2_with (first | ((with_reducible refine gc 99 rfl ?_); refine goesL_ (some 6) rfl rfl Try.func99 (by kernel_rfl) rfl #[.slice A0 l0.length c0, .func (.func 100) #[] #[]] rfl sg ?_; (with_reducible refine (slices_MinFunc_lower.calls k _ _ l0  t101 t102 _ ?side1 ?side2 A2.out).mono ?_); (case side1 => exact cs (Kd.V_reads' HO0.out).2.2); (case side2 => exact (Kd.V_reads' HO0.out).2.1); rintro e w9 ⟨rfl, hb⟩; refine ⟨_, rfl, ?_⟩; replace HO0 := Aside0.mk (Kd.V_below (vo HO0) hb); replace HB := bz hb; (try clear hb)) | ((with_reducible refine gc 119 rfl ?_); refine goesL_ (some 7) rfl rfl Try.func119 (by kernel_rfl) rfl #[.slice A0 l0.length c0, .agg #[.int .i64 t101, .int .i64 t102]] rfl sg ?_; (with_reducible refine (api_Point_119.calls k _ _ l0 t101 t102 t103 _ ?side1 ?side2 A3.out).mono ?_); (case side1 => exact cs (Kd.V_reads' HO0.out).2.2); (case side2 => exact (Kd.V_reads' HO0.out).2.1); rintro e w10 ⟨rfl, hb⟩; refine ⟨_, rfl, ?_⟩; replace HO0 := Aside0.mk (Kd.V_below (vo HO0) hb); replace HB := bz hb; (try clear hb)))
 replace HO0 := Aside0.mk (Kd.V_drew HO0.out)
 replace HB := Aside0.mk (below_drew1 HB.out)
 have q12 : (t103 : Int) ≤ ((l0.length : Int) : Int) := dt
 obtain ⟨i012, hi012, _, hsz12, _⟩ := info_parts info41
 have hroom12 : l0.length ≤ c0 := (Kd.V_reads' HO0.out).2.1
 have hC12 : Kd.F k41 _ _ A0 l0.length l0 := (Kd.V_at (base := w.heap.size) HO0.out).2.2
 have q012 : (0 : Int) ≤ (t103 : Int) := dt
 have hcut12 := cut_from (P := Try.prog) 22 41 .i64 Try.underlying22 hi012 2 hsz12 A0 l0.length c0 t103 q012 q12
 have hr12 := Kd.F_cut (m := (t103 : Int).toNat) (c := c0) hC12 (by omega) hroom12
 obtain ⟨A12, hA12⟩ : ∃ A1, A1 = (if c0 = (t103 : Int).toNat then A0 else (A0 : Option Addr).map (·.add ((t103 : Int).toNat * 2))) := ⟨_, rfl⟩
 obtain ⟨c12, hc12⟩ : ∃ c1, c1 = c0 - (t103 : Int).toNat := ⟨_, rfl⟩
 have hy12 : y104.length = l0.length - (t103 : Int).toNat := (by rw [Ny104.out, List.length_drop] <;> omega)
 rw [show (l0).drop (t103 : Int).toNat = y104 from Ny104.out.symm] at hr12
 replace hr12 : Kd.F k41 _ _ A12 y104.length y104 := (by rw [hA12]; exact hr12)
 rw [← hy12, ← hA12, ← hc12] at hcut12
 have HO108 := Aside0.mk (show Kd.V k41 41 _ w.heap.size _ (.slice A12 y104.length c12) y104 from Kd.V_mk (by rw [hy12, hc12]; exact Nat.sub_le_sub_right hroom12 _) hr12)
 have HC108 := Aside0.mk (show y104.length ≤ c12 from by rw [hy12, hc12]; exact Nat.sub_le_sub_right hroom12 _)
 clear hr12 hC12 hroom12 hi012 hsz12 hc12
 have KY12 := Aside0.mk hy12
 have KA12 := Aside0.mk hA12
 clear hy12 hA12
 replace q12 := eq_true q12
 have q13 : (t103 : Int) ≤ ((l0.length : Int) : Int) := dt
 obtain ⟨i013, hi013, _, hsz13, _⟩ := info_parts info41
 have hroom13 : l0.length ≤ c0 := (Kd.V_reads' HO0.out).2.1
 have hC13 : Kd.F k41 _ _ A0 l0.length l0 := (Kd.V_at (base := w.heap.size) HO0.out).2.2
 have hcut13 := cut_to (P := Try.prog) 22 41 .i64 Try.underlying22 hi013 A0 l0.length c0 t103 (dt) q13 hroom13
 have hr13 := Kd.F_take (m := (t103 : Int).toNat) hC13 (by omega)
 have hy13 : y109.length = (t103 : Int).toNat := (by rw [Ny109.out, List.length_take]; omega)
 rw [← Ny109.out] at hr13
 rw [← hy13] at hcut13
 have HO113 := Aside0.mk (show Kd.V k41 41 _ w.heap.size _ (.slice A0 y109.length c0) y109 from Kd.V_mk (by omega) hr13)
 have HC113 := Aside0.mk (show y109.length ≤ c0 from by omega)
 clear hr13 hC13 hroom13 hi013 hsz13
 have KY13 := Aside0.mk hy13
 clear hy13
 replace q13 := eq_true q13
 refine start_ (n := 9) (S := fun w' => True) (ds := []) #[N,N,N,N,N,N,N,N,N] (by kernel_rfl) rfl rfl trivial (fun hHeld => ?_); refine with_tabW shape_begun.tab2 shape_begun.bits2 (fun HT_ HW_ => ?_)
 generalize w10.drew = w11 at HO0 HB HO108 HO113 hHeld ⊢
 refine pu 0 8 HT_ ?_
 refine pu 1 9 HT_ ?_
 refine pu 2 10 HT_ ?_
 refine pu 3 11 HT_ ?_
 refine pu 4 12 HT_ ?_
 refine pu 5 13 HT_ ?_
 refine one_ (i := 6) (N := some 14) #[T,T,T,T,T,T,T,N,N] rfl rfl (on1 HT_) (by decide) (fun K hK => ?_)
 refine Kd.N_lit_step (Kd.slice 41 k41) _ 22 ?hg (N' := 14) ?hd (xs := ([y104, y109] : List (List (S41)))) (inner := [.slice A12 y104.length c12, .slice A0 y109.length c0]) (ok := (fun k_ => (P0_ k_ ∨ w.heap.size ≤ k_))) (okp := (fun k_ => (P0_ k_ ∨ w.heap.size ≤ k_))) ?hr ?hp (fun _ hk => hk) ((show ∀ k_, w11.heap.size ≤ k_ → (fun k_ => (P0_ k_ ∨ w.heap.size ≤ k_)) k_ from fun k_ hk => (.inr (Nat.le_trans (below_size bh) hk))) _ (Nat.le_refl _)) (Below.refl _ _) (Nat.le_refl _) (by simp) ?_; (case hd => rfl); (case hg => rfl); (case hr => first | (go_simp; done) | (go_simp; rfl)); (case hp => exact (Reps.one (show Kd.FK (Kd.slice 41 k41) _ _ y104 [.slice A12 y104.length c12] from (Kd.FK_slice_mk (Kd.V_reads' (Kd.V_mono (ok' := (fun k_ => (P0_ k_ ∨ w.heap.size ≤ k_))) (HO108.out) (fun k_ hk => hk))).2.1 (Kd.V_F (Kd.V_mono (ok' := (fun k_ => (P0_ k_ ∨ w.heap.size ≤ k_))) (HO108.out) (fun k_ hk => hk))))) (Reps.one (show Kd.FK (Kd.slice 41 k41) _ _ y109 [.slice A0 y109.length c0] from (Kd.FK_slice_mk (Kd.V_reads' (Kd.V_mono (ok' := (fun k_ => (P0_ k_ ∨ w.heap.size ≤ k_))) (HO113.out) (fun k_ hk => hk))).2.1 (Kd.V_F (Kd.V_mono (ok' := (fun k_ => (P0_ k_ ∨ w.heap.size ≤ k_))) (HO113.out) (fun k_ hk => hk))))) (Reps.none _ _))))
 intro v115 w14 ho15 hb hg_ hnew_
 clear hg_ hnew_
 (first | rw [← Ny114.out] at ho15 | (simp only [Int.reduceToNat] at ho15; rw [← Ny114.out] at ho15))
 have HO116 := Aside0.mk (Kd.N_lower ho15 (below_size bh))
 replace HO0 := Aside0.mk (Kd.V_elder' (vo HO0) (Kd.N_base ho15) hb)
 replace HO108 := Aside0.mk (Kd.V_elder' (vo HO108) (Kd.N_base ho15) hb)
 replace HO113 := Aside0.mk (Kd.V_elder' (vo HO113) (Kd.N_base ho15) hb)
 replace HB := bz hb
 clear hb ho15
 obtain ⟨Ao16, co16, eo16⟩ := Kd.N_slice HO116.out
 (first | subst eo16 | (injection eo16 with f1_ f2_ f3_; have f4_ := f1_.symm; have f5_ := f3_.symm; clear f1_ f2_ f3_; subst f4_; subst f5_))
 refine hK.out _ _ trivial (fun hHeld => ?_)
 clear hK K
 refine nm 14 ?_
 refine one_ (i := 7) (N := some 15) #[T,T,T,T,T,T,T,T,N] rfl rfl (on1 HT_) (by decide) (fun K hK => ?_)
 refine goes_ Try.func95 (by kernel_rfl) rfl #[.slice Ao16 y114.length co16] (by rfl) rfl rfl sg ?_
 with_reducible refine (api_Point_95.calls k _ _ y114 t117 _ ?side1 ?side2 A8.out).mono ?_
 (case side1 => exact cs (Kd.N_reads' HO116.out).2.2)
 (case side2 => exact (Kd.N_reads' HO116.out).2.1)
 rintro e w17 ⟨v118, rfl, ho0, hb⟩
 refine ⟨_, rfl, ?_⟩
 have HO119 := Aside0.mk (Kd.R_lower (Kd.R_newM (M := fun k_ => (w.heap.size ≤ k_)) ho0 (below_size bh) (fun k_ h_ => h_)) (below_size bh))
 replace HO0 := Aside0.mk (Kd.V_elder' (vo HO0) (Kd.R_base ho0) hb)
 replace HO108 := Aside0.mk (Kd.V_elder' (vo HO108) (Kd.R_base ho0) hb)
 replace HO113 := Aside0.mk (Kd.V_elder' (vo HO113) (Kd.R_base ho0) hb)
 replace HO116 := Aside0.mk (Kd.N_elder' (no HO116) (Kd.R_base ho0) hb)
 replace HB := bz hb
 (try clear hb); (try clear ho0)
 refine hK.out _ _ trivial (fun hHeld => ?_)
 clear hK K
 refine nm 15 ?_
 refine pu 8 2 HT_ ?_
 refine done_ (done_of HT_.out (by kernel_rfl)) ?_
 try go_wp2
 go_ret
 exact ⟨_, by exact er, by (with_reducible repeat (first | apply Kd.R_alloc | apply Kd.R_drewN | apply Kd.R_drew)); exact Kd.R_mono HO119.out (fun _ hk => hk.1), bh⟩
end Go.Proofs.Ythehmkpcddafnaa.PG
end
