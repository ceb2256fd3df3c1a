/- Parts of the proof of YthehmkpcddafnaaLawShapeShows: printed walks, their words, and plain laws. -/
import Derived.Test.YthehmkpcddafnaaQS1
section
namespace Go.Proofs.Ythehmkpcddafnaa.PG
open Go.RowKit Go.Proofs.YthehmkpcddafnaaW.PrintWords Go.Proofs.YthehmkpcddafnaaW.PrintLast Go.Proofs.YthehmkpcddafnaaW.PrintMore
attribute [local go_sem] max2_int min2_int max_two min_two max_three min_three max_four min_four
set_option linter.unusedVariables false
set_option linter.unusedSimpArgs false
/-! ### cracknelref04_Meet: function 60 -/
def cracknelref04_Meet.j0 : Nat → Bool → Int → Int → Int → Int → Int → Int → Int → Int → Option (Bool)
 | 0, _, _, _, _, _, _, _, _, _ => none
 | k + 1, x30, x102000, x102001, x103000, x103001, x104000, x104001, x105000, x105001 => if x30 = true then (some true) else ((cracknelref04_Cross.f x102000 x102001 x103000 x103001 x104000 x104001).bind fun t109 => ((cracknelref04_sign.f t109).bind fun t110 => ((cracknelref04_Cross.f x102000 x102001 x103000 x103001 x105000 x105001).bind fun t111 => ((cracknelref04_sign.f t111).bind fun t112 => (if (wrap64 (t110 * t112)) < 0 then ((cracknelref04_Cross.f x104000 x104001 x105000 x105001 x102000 x102001).bind fun t113 => ((cracknelref04_sign.f t113).bind fun t114 => ((cracknelref04_Cross.f x104000 x104001 x105000 x105001 x103000 x103001).bind fun t115 => ((cracknelref04_sign.f t115).bind fun t116 => (some (decide ((wrap64 (t114 * t116)) < 0))))))) else (some false))))))
def cracknelref04_Meet.f (k : Nat) (a0_0 : Int) (a0_1 : Int) (a1_0 : Int) (a1_1 : Int) (a2_0 : Int) (a2_1 : Int) (a3_0 : Int) (a3_1 : Int) : Option (Bool) := (cracknelref04_On.f a0_0 a0_1 a1_0 a1_1 a2_0 a2_1).bind fun t105 => (if t105 = true then (cracknelref04_Meet.j0 k true a0_0 a0_1 a1_0 a1_1 a2_0 a2_1 a3_0 a3_1) else ((cracknelref04_On.f a0_0 a0_1 a1_0 a1_1 a3_0 a3_1).bind fun t106 => (if t106 = true then (cracknelref04_Meet.j0 k true a0_0 a0_1 a1_0 a1_1 a2_0 a2_1 a3_0 a3_1) else ((cracknelref04_On.f a2_0 a2_1 a3_0 a3_1 a0_0 a0_1).bind fun t107 => (if t107 = true then (cracknelref04_Meet.j0 k true a0_0 a0_1 a1_0 a1_1 a2_0 a2_1 a3_0 a3_1) else ((cracknelref04_On.f a2_0 a2_1 a3_0 a3_1 a1_0 a1_1).bind fun t108 => (cracknelref04_Meet.j0 k t108 a0_0 a0_1 a1_0 a1_1 a2_0 a2_1 a3_0 a3_1)))))))
def cracknelref04_Meet.T3 : Bool × List (List Nat × List Nat) := (true, [([], []), ([], []), ([], []), ([0, 1, 2], [0, 1, 2]), ([3, 3], [3]), ([], []), ([], []), ([], []), ([5, 6, 7, 4], [5, 6, 7]), ([8, 8], [8]), ([4, 9], [4, 9]), ([10], [10]), ([11, 9], [11]), ([12], [12]), ([12], [12]), ([12], [12]), ([13, 14, 15, 12, 12], [12, 13, 14, 15]), ([16, 16, 12], [12, 16]), ([12], [12]), ([12], [12]), ([12], [12]), ([18, 19, 20, 17, 12], [12, 18, 19, 20]), ([21, 21, 12], [12, 21]), ([17, 22, 12], [12, 17, 22]), ([23, 12], [12, 23]), ([12, 24], [12, 24]), ([25, 22, 0, 1, 2, 3, 4, 5, 6, 7, 8, 9, 10, 11, 12, 13, 14, 15, 16, 17, 18, 19, 20, 21, 22, 23, 24, 25], [25])])
def cracknelref04_Meet.B3 : List Nat := [0, 0, 0, 7, 15, 0, 0, 0, 255, 511, 1023, 2047, 4095, 8191, 8191, 8191, 65535, 131071, 8191, 8191, 8191, 2097151, 4194303, 8388607, 16777215, 33554431, 67108863]
theorem cracknelref04_Meet.tab3 : rtab .any (opsOf Try.f60 3) = cracknelref04_Meet.T3 := by kernel_rfl
theorem cracknelref04_Meet.bits3 : waitsOk cracknelref04_Meet.T3.2 cracknelref04_Meet.B3 = true := by kernel_rfl
set_option maxHeartbeats 8000000 in
set_option maxRecDepth 100000 in
theorem cracknelref04_Meet.calls (k : Nat) (a0_0 : Int) (a0_1 : Int) (a1_0 : Int) (a1_1 : Int) (a2_0 : Int) (a2_1 : Int) (a3_0 : Int) (a3_1 : Int) (r : Bool) (w : World) (h : cracknelref04_Meet.f k a0_0 a0_1 a1_0 a1_1 a2_0 a2_1 a3_0 a3_1 = some r) :
  Calls Try.prog 60 #[.agg #[.int .i64 a0_0, .int .i64 a0_1], .agg #[.int .i64 a1_0, .int .i64 a1_1], .agg #[.int .i64 a2_0, .int .i64 a2_1], .agg #[.int .i64 a3_0, .int .i64 a3_1]] w fun e w' => e = .returned (.bool r) ∧ Below w.heap.size w w' := by
 have hu41 := Try.underlying41
 have HB := Aside0.mk (Below.refl w.heap.size w)
 have H : ((cracknelref04_On.f a0_0 a0_1 a1_0 a1_1 a2_0 a2_1).bind fun t105 => (if t105 = true then (cracknelref04_Meet.j0 k true a0_0 a0_1 a1_0 a1_1 a2_0 a2_1 a3_0 a3_1) else ((cracknelref04_On.f a0_0 a0_1 a1_0 a1_1 a3_0 a3_1).bind fun t106 => (if t106 = true then (cracknelref04_Meet.j0 k true a0_0 a0_1 a1_0 a1_1 a2_0 a2_1 a3_0 a3_1) else ((cracknelref04_On.f a2_0 a2_1 a3_0 a3_1 a0_0 a0_1).bind fun t107 => (if t107 = true then (cracknelref04_Meet.j0 k true a0_0 a0_1 a1_0 a1_1 a2_0 a2_1 a3_0 a3_1) else ((cracknelref04_On.f a2_0 a2_1 a3_0 a3_1 a1_0 a1_1).bind fun t108 => (cracknelref04_Meet.j0 k t108 a0_0 a0_1 a1_0 a1_1 a2_0 a2_1 a3_0 a3_1)))))))) = some r := h
 clear h
 have HC5 := Aside0.mk H
 clear H
 go_enter Try.func60, Try.ntmps60
 go_upto_region 1 with (first | ((with_reducible refine gate_dst (N := 4) rfl ?_); refine bxe 4 #[.int .i64 a0_0, .int .i64 a0_1] 41 ?_; intro gb101 hg w6 hbox hb; have BK101 := Aside0.mk (hbox); have GW101 := ga w hg; have GE101 := GW101; replace HB := bz hb; clear hb hbox hg) | ((with_reducible refine gate_dst (N := 5) rfl ?_); refine bxe 5 #[.int .i64 a1_0, .int .i64 a1_1] 41 ?_; intro gb102 hg w7 hbox hb; have BK102 := Aside0.mk (hbox); have GW102 := ga w hg; have GE102 := GW102; have NB101_102 := nb hg (kl BK101); have NB102_101 := bn NB101_102; replace BK101 := kb BK101 hb; replace HB := bz hb; clear hb hbox hg) | ((with_reducible refine gate_dst (N := 6) rfl ?_); refine bxe 6 #[.int .i64 a2_0, .int .i64 a2_1] 41 ?_; intro gb103 hg w8 hbox hb; have BK103 := Aside0.mk (hbox); have GW103 := ga w hg; have GE103 := GW103; have NB101_103 := nb hg (kl BK101); have NB103_101 := bn NB101_103; have NB102_103 := nb hg (kl BK102); have NB103_102 := bn NB102_103; replace BK101 := kb BK101 hb; replace BK102 := kb BK102 hb; replace HB := bz hb; clear hb hbox hg) | ((with_reducible refine gate_dst (N := 7) rfl ?_); refine bxe 7 #[.int .i64 a3_0, .int .i64 a3_1] 41 ?_; intro gb104 hg w9 hbox hb; have BK104 := Aside0.mk (hbox); have GW104 := ga w hg; have GE104 := GW104; have NB101_104 := nb hg (kl BK101); have NB104_101 := bn NB101_104; have NB102_104 := nb hg (kl BK102); have NB104_102 := bn NB102_104; have NB103_104 := nb hg (kl BK103); have NB104_103 := bn NB103_104; replace BK101 := kb BK101 hb; replace BK102 := kb BK102 hb; replace BK103 := kb BK103 hb; replace HB := bz hb; clear hb hbox hg))
 (try simp only [Act.put, List.setIfInBounds_toArray, List.set_cons_zero, List.set_cons_succ])
 go_cut [30] (fun v30 wc => ∃ (kq : Nat) (x30_4 : Bool), v30 = .bool x30_4 ∧ Aside0 (cracknelref04_Meet.j0 kq x30_4 a0_0 a0_1 a1_0 a1_1 a2_0 a2_1 a3_0 a3_1 = some r) ∧ Aside0 (kq ≤ k) ∧ Aside0 (wc.heap[gb101]? = some (.cells #[.int .i64 a0_0, .int .i64 a0_1] 41 (0, 0))) ∧ Aside0 (wc.heap[gb102]? = some (.cells #[.int .i64 a1_0, .int .i64 a1_1] 41 (0, 0))) ∧ Aside0 (wc.heap[gb103]? = some (.cells #[.int .i64 a2_0, .int .i64 a2_1] 41 (0, 0))) ∧ Aside0 (wc.heap[gb104]? = some (.cells #[.int .i64 a3_0, .int .i64 a3_1] 41 (0, 0))) ∧ Aside0 (Below w.heap.size w wc))
 case first =>
  have H := HC5.out
  clear HC5
  replace H := Option.bind_eq_some_iff.mp H
  obtain ⟨t105, A100, H⟩ := H
  try dsimp only at H
  have A10 := Aside0.mk A100
  clear A100
  by_cases c11 : t105 = true
  ·subst c11
   rw [if_pos rfl] at H
   have H' := Aside0.mk H
   clear H
   have hnb12 := NB101_102.out
   have hnc12 := NB102_101.out
   have hnb13 := NB101_103.out
   have hnc13 := NB103_101.out
   have hnb14 := NB101_104.out
   have hnc14 := NB104_101.out
   obtain ⟨hcz15_0, hcz15_1, hfz15_0, hfz15_1⟩ := b2 BK101
   have hnb16 := NB102_103.out
   have hnc16 := NB103_102.out
   have hnb17 := NB102_104.out
   have hnc17 := NB104_102.out
   obtain ⟨hcz18_0, hcz18_1, hfz18_0, hfz18_1⟩ := b2 BK102
   have hnb19 := NB103_104.out
   have hnc19 := NB104_103.out
   obtain ⟨hcz20_0, hcz20_1, hfz20_0, hfz20_1⟩ := b2 BK103
   go_wp2_with (first | ((with_reducible refine gc 59 rfl ?_); refine goesL_ (some 12) rfl rfl Try.func59 (by kernel_rfl) rfl #[.agg #[.int .i64 a0_0, .int .i64 a0_1], .agg #[.int .i64 a1_0, .int .i64 a1_1], .agg #[.int .i64 a2_0, .int .i64 a2_1]] rfl sg ?_; (with_reducible refine (cracknelref04_On.calls a0_0 a0_1 a1_0 a1_1 a2_0 a2_1 true _ A10.out).mono ?_); rintro e w21 ⟨rfl, hb⟩; refine ⟨_, rfl, ?_⟩; replace BK101 := kb BK101 hb; replace BK102 := kb BK102 hb; replace BK103 := kb BK103 hb; replace BK104 := kb BK104 hb; replace HB := bz hb; (try clear hb)))
   go_meet
   case rel => exact ⟨_, (true), sd, H', ⟨om⟩, ⟨bk BK101⟩, ⟨bk BK102⟩, ⟨bk BK103⟩, ⟨bk BK104⟩, ⟨bh⟩⟩
  ·replace c11 := Bool.eq_false_iff.mpr c11
   subst c11
   rw [if_neg (show ¬ (false = true) by decide)] at H
   replace H := Option.bind_eq_some_iff.mp H
   obtain ⟨t106, A220, H⟩ := H
   try dsimp only at H
   have A22 := Aside0.mk A220
   clear A220
   by_cases c23 : t106 = true
   ·subst c23
    rw [if_pos rfl] at H
    have H' := Aside0.mk H
    clear H
    have hnb24 := NB101_102.out
    have hnc24 := NB102_101.out
    have hnb25 := NB101_103.out
    have hnc25 := NB103_101.out
    have hnb26 := NB101_104.out
    have hnc26 := NB104_101.out
    obtain ⟨hcz27_0, hcz27_1, hfz27_0, hfz27_1⟩ := b2 BK101
    have hnb28 := NB102_103.out
    have hnc28 := NB103_102.out
    have hnb29 := NB102_104.out
    have hnc29 := NB104_102.out
    obtain ⟨hcz30_0, hcz30_1, hfz30_0, hfz30_1⟩ := b2 BK102
    have hnb31 := NB103_104.out
    have hnc31 := NB104_103.out
    obtain ⟨hcz32_0, hcz32_1, hfz32_0, hfz32_1⟩ := b2 BK103
    go_wp2_with (first | ((with_reducible refine gc 59 rfl ?_); refine goesL_ (some 12) rfl rfl Try.func59 (by kernel_rfl) rfl #[.agg #[.int .i64 a0_0, .int .i64 a0_1], .agg #[.int .i64 a1_0, .int .i64 a1_1], .agg #[.int .i64 a2_0, .int .i64 a2_1]] rfl sg ?_; (with_reducible refine (cracknelref04_On.calls a0_0 a0_1 a1_0 a1_1 a2_0 a2_1 false _ A10.out).mono ?_); rintro e w33 ⟨rfl, hb⟩; refine ⟨_, rfl, ?_⟩; replace BK101 := kb BK101 hb; replace BK102 := kb BK102 hb; replace BK103 := kb BK103 hb; replace BK104 := kb BK104 hb; replace HB := bz hb; (try clear hb); obtain ⟨hcz34_0, hcz34_1, hfz34_0, hfz34_1⟩ := b2 BK101; obtain ⟨hcz35_0, hcz35_1, hfz35_0, hfz35_1⟩ := b2 BK102; obtain ⟨hcz36_0, hcz36_1, hfz36_0, hfz36_1⟩ := b2 BK104) | (go_at_call 59; (with_reducible refine (cracknelref04_On.calls a0_0 a0_1 a1_0 a1_1 a3_0 a3_1 true _ A22.out).mono ?_); rintro e w37 ⟨rfl, hb⟩; replace BK101 := kb BK101 hb; replace BK102 := kb BK102 hb; replace BK103 := kb BK103 hb; replace BK104 := kb BK104 hb; replace HB := bz hb; (try clear hb)))
    go_meet
    case rel => exact ⟨_, (true), sd, H', ⟨om⟩, ⟨bk BK101⟩, ⟨bk BK102⟩, ⟨bk BK103⟩, ⟨bk BK104⟩, ⟨bh⟩⟩
   ·replace c23 := Bool.eq_false_iff.mpr c23
    subst c23
    rw [if_neg (show ¬ (false = true) by decide)] at H
    replace H := Option.bind_eq_some_iff.mp H
    obtain ⟨t107, A380, H⟩ := H
    try dsimp only at H
    have A38 := Aside0.mk A380
    clear A380
    by_cases c39 : t107 = true
    ·subst c39
     rw [if_pos rfl] at H
     have H' := Aside0.mk H
     clear H
     have hnb40 := NB101_102.out
     have hnc40 := NB102_101.out
     have hnb41 := NB101_103.out
     have hnc41 := NB103_101.out
     have hnb42 := NB101_104.out
     have hnc42 := NB104_101.out
     obtain ⟨hcz43_0, hcz43_1, hfz43_0, hfz43_1⟩ := b2 BK101
     have hnb44 := NB102_103.out
     have hnc44 := NB103_102.out
     have hnb45 := NB102_104.out
     have hnc45 := NB104_102.out
     obtain ⟨hcz46_0, hcz46_1, hfz46_0, hfz46_1⟩ := b2 BK102
     have hnb47 := NB103_104.out
     have hnc47 := NB104_103.out
     obtain ⟨hcz48_0, hcz48_1, hfz48_0, hfz48_1⟩ := b2 BK103
     go_wp2_with (first | ((with_reducible refine gc 59 rfl ?_); refine goesL_ (some 12) rfl rfl Try.func59 (by kernel_rfl) rfl #[.agg #[.int .i64 a0_0, .int .i64 a0_1], .agg #[.int .i64 a1_0, .int .i64 a1_1], .agg #[.int .i64 a2_0, .int .i64 a2_1]] rfl sg ?_; (with_reducible refine (cracknelref04_On.calls a0_0 a0_1 a1_0 a1_1 a2_0 a2_1 false _ A10.out).mono ?_); rintro e w49 ⟨rfl, hb⟩; refine ⟨_, rfl, ?_⟩; replace BK101 := kb BK101 hb; replace BK102 := kb BK102 hb; replace BK103 := kb BK103 hb; replace BK104 := kb BK104 hb; replace HB := bz hb; (try clear hb); obtain ⟨hcz50_0, hcz50_1, hfz50_0, hfz50_1⟩ := b2 BK101; obtain ⟨hcz51_0, hcz51_1, hfz51_0, hfz51_1⟩ := b2 BK102; obtain ⟨hcz52_0, hcz52_1, hfz52_0, hfz52_1⟩ := b2 BK104) | (go_at_call 59; (with_reducible refine (cracknelref04_On.calls a0_0 a0_1 a1_0 a1_1 a3_0 a3_1 false _ A22.out).mono ?_); rintro e w53 ⟨rfl, hb⟩; replace BK101 := kb BK101 hb; replace BK102 := kb BK102 hb; replace BK103 := kb BK103 hb; replace BK104 := kb BK104 hb; replace HB := bz hb; (try clear hb); obtain ⟨hcz54_0, hcz54_1, hfz54_0, hfz54_1⟩ := b2 BK103; obtain ⟨hcz55_0, hcz55_1, hfz55_0, hfz55_1⟩ := b2 BK104; obtain ⟨hcz56_0, hcz56_1, hfz56_0, hfz56_1⟩ := b2 BK101) | (go_at_call 59; (with_reducible refine (cracknelref04_On.calls a2_0 a2_1 a3_0 a3_1 a0_0 a0_1 true _ A38.out).mono ?_); rintro e w57 ⟨rfl, hb⟩; replace BK101 := kb BK101 hb; replace BK102 := kb BK102 hb; replace BK103 := kb BK103 hb; replace BK104 := kb BK104 hb; replace HB := bz hb; (try clear hb)))
     go_meet
     case rel => exact ⟨_, (true), sd, H', ⟨om⟩, ⟨bk BK101⟩, ⟨bk BK102⟩, ⟨bk BK103⟩, ⟨bk BK104⟩, ⟨bh⟩⟩
    ·replace c39 := Bool.eq_false_iff.mpr c39
     subst c39
     rw [if_neg (show ¬ (false = true) by decide)] at H
     replace H := Option.bind_eq_some_iff.mp H
     obtain ⟨t108, A580, H⟩ := H
     try dsimp only at H
     have A58 := Aside0.mk A580
     clear A580
     have H' := Aside0.mk H
     clear H
     have hnb59 := NB101_102.out
     have hnc59 := NB102_101.out
     have hnb60 := NB101_103.out
     have hnc60 := NB103_101.out
     have hnb61 := NB101_104.out
     have hnc61 := NB104_101.out
     obtain ⟨hcz62_0, hcz62_1, hfz62_0, hfz62_1⟩ := b2 BK101
     have hnb63 := NB102_103.out
     have hnc63 := NB103_102.out
     have hnb64 := NB102_104.out
     have hnc64 := NB104_102.out
     obtain ⟨hcz65_0, hcz65_1, hfz65_0, hfz65_1⟩ := b2 BK102
     have hnb66 := NB103_104.out
     have hnc66 := NB104_103.out
     obtain ⟨hcz67_0, hcz67_1, hfz67_0, hfz67_1⟩ := b2 BK103
     go_wp2_with (first | ((with_reducible refine gc 59 rfl ?_); refine goesL_ (some 12) rfl rfl Try.func59 (by kernel_rfl) rfl #[.agg #[.int .i64 a0_0, .int .i64 a0_1], .agg #[.int .i64 a1_0, .int .i64 a1_1], .agg #[.int .i64 a2_0, .int .i64 a2_1]] rfl sg ?_; (with_reducible refine (cracknelref04_On.calls a0_0 a0_1 a1_0 a1_1 a2_0 a2_1 false _ A10.out).mono ?_); rintro e w68 ⟨rfl, hb⟩; refine ⟨_, rfl, ?_⟩; replace BK101 := kb BK101 hb; replace BK102 := kb BK102 hb; replace BK103 := kb BK103 hb; replace BK104 := kb BK104 hb; replace HB := bz hb; (try clear hb); obtain ⟨hcz69_0, hcz69_1, hfz69_0, hfz69_1⟩ := b2 BK101; obtain ⟨hcz70_0, hcz70_1, hfz70_0, hfz70_1⟩ := b2 BK102; obtain ⟨hcz71_0, hcz71_1, hfz71_0, hfz71_1⟩ := b2 BK104) | (go_at_call 59; (with_reducible refine (cracknelref04_On.calls a0_0 a0_1 a1_0 a1_1 a3_0 a3_1 false _ A22.out).mono ?_); rintro e w72 ⟨rfl, hb⟩; replace BK101 := kb BK101 hb; replace BK102 := kb BK102 hb; replace BK103 := kb BK103 hb; replace BK104 := kb BK104 hb; replace HB := bz hb; (try clear hb); obtain ⟨hcz73_0, hcz73_1, hfz73_0, hfz73_1⟩ := b2 BK103; obtain ⟨hcz74_0, hcz74_1, hfz74_0, hfz74_1⟩ := b2 BK104; obtain ⟨hcz75_0, hcz75_1, hfz75_0, hfz75_1⟩ := b2 BK101) | (go_at_call 59; (with_reducible refine (cracknelref04_On.calls a2_0 a2_1 a3_0 a3_1 a0_0 a0_1 false _ A38.out).mono ?_); rintro e w76 ⟨rfl, hb⟩; replace BK101 := kb BK101 hb; replace BK102 := kb BK102 hb; replace BK103 := kb BK103 hb; replace BK104 := kb BK104 hb; replace HB := bz hb; (try clear hb); obtain ⟨hcz77_0, hcz77_1, hfz77_0, hfz77_1⟩ := b2 BK103; obtain ⟨hcz78_0, hcz78_1, hfz78_0, hfz78_1⟩ := b2 BK104; obtain ⟨hcz79_0, hcz79_1, hfz79_0, hfz79_1⟩ := b2 BK102) | (go_at_call 59; (with_reducible refine (cracknelref04_On.calls a2_0 a2_1 a3_0 a3_1 a1_0 a1_1 t108 _ A58.out).mono ?_); rintro e w80 ⟨rfl, hb⟩; replace BK101 := kb BK101 hb; replace BK102 := kb BK102 hb; replace BK103 := kb BK103 hb; replace BK104 := kb BK104 hb; replace HB := bz hb; (try clear hb)))
     go_meet
     case rel => exact ⟨_, (t108), sd, H', ⟨om⟩, ⟨bk BK101⟩, ⟨bk BK102⟩, ⟨bk BK103⟩, ⟨bk BK104⟩, ⟨bh⟩⟩
 case rest =>
  clear HC5
  skip
  obtain ⟨kq, x30_4, rfl, HA, HJ4, BK101, BK102, BK103, BK104, HB⟩ := hcut
  cases kq with
  | zero => exact absurd HA.out (by simp [cracknelref04_Meet.j0])
  | succ kj4 =>
   have H := HA.out
   clear HA
   simp only [cracknelref04_Meet.j0] at H
   by_cases c81 : x30_4 = true
   ·subst c81
    rw [if_pos rfl] at H
    obtain rfl := Option.some.inj H
    go_wp2
    go_ret
    exact ⟨by exact er, bh⟩
   ·replace c81 := Bool.eq_false_iff.mpr c81
    subst c81
    rw [if_neg (show ¬ (false = true) by decide)] at H
    replace H := Option.bind_eq_some_iff.mp H
    obtain ⟨t109, A820, H⟩ := H
    try dsimp only at H
    have A82 := Aside0.mk A820
    clear A820
    replace H := Option.bind_eq_some_iff.mp H
    obtain ⟨t110, A830, H⟩ := H
    try dsimp only at H
    have A83 := Aside0.mk A830
    clear A830
    replace H := Option.bind_eq_some_iff.mp H
    obtain ⟨t111, A840, H⟩ := H
    try dsimp only at H
    have A84 := Aside0.mk A840
    clear A840
    replace H := Option.bind_eq_some_iff.mp H
    obtain ⟨t112, A850, H⟩ := H
    try dsimp only at H
    have A85 := Aside0.mk A850
    clear A850
    by_cases c86 : (wrap64 (t110 * t112)) < 0
    ·rw [if_pos c86] at H
     have c86b0 := decide_eq_true c86
     clear c86
     replace H := Option.bind_eq_some_iff.mp H
     obtain ⟨t113, A870, H⟩ := H
     try dsimp only at H
     have A87 := Aside0.mk A870
     clear A870
     replace H := Option.bind_eq_some_iff.mp H
     obtain ⟨t114, A880, H⟩ := H
     try dsimp only at H
     have A88 := Aside0.mk A880
     clear A880
     replace H := Option.bind_eq_some_iff.mp H
     obtain ⟨t115, A890, H⟩ := H
     try dsimp only at H
     have A89 := Aside0.mk A890
     clear A890
     replace H := Option.bind_eq_some_iff.mp H
     obtain ⟨t116, A900, H⟩ := H
     try dsimp only at H
     have A90 := Aside0.mk A900
     clear A900
     obtain rfl := Option.some.inj H
     try go_wp2
     replace BK101 := Aside0.mk (blk_drew BK101.out)
     replace BK102 := Aside0.mk (blk_drew BK102.out)
     replace BK103 := Aside0.mk (blk_drew BK103.out)
     replace BK104 := Aside0.mk (blk_drew BK104.out)
     replace HB := Aside0.mk (below_drew1 HB.out)
     refine start_ (n := 27) (S := fun w' => w'.cell? ⟨gb101, 0, none⟩ = some (.int .i64 a0_0) ∧ w'.cell? ⟨gb101, 1, none⟩ = some (.int .i64 a0_1) ∧ w'.cell? ⟨gb102, 0, none⟩ = some (.int .i64 a1_0) ∧ w'.cell? ⟨gb102, 1, none⟩ = some (.int .i64 a1_1) ∧ w'.cell? ⟨gb103, 0, none⟩ = some (.int .i64 a2_0) ∧ w'.cell? ⟨gb103, 1, none⟩ = some (.int .i64 a2_1) ∧ w'.cell? ⟨gb104, 0, none⟩ = some (.int .i64 a3_0) ∧ w'.cell? ⟨gb104, 1, none⟩ = some (.int .i64 a3_1)) (ds := []) #[N,N,N,N,N,N,N,N,N,N,N,N,N,N,N,N,N,N,N,N,N,N,N,N,N,N,N] (by kernel_rfl) rfl rfl ⟨bc BK101 0, bc BK101 1, bc BK102 0, bc BK102 1, bc BK103 0, bc BK103 1, bc BK104 0, bc BK104 1⟩ (fun hHeld => ?_); refine with_tabW cracknelref04_Meet.tab3 cracknelref04_Meet.bits3 (fun HT_ HW_ => ?_)
     generalize wc.drew = w91 at BK101 BK102 BK103 BK104 HB hHeld ⊢
     refine tk8 0 31 hHeld HT_ HW_ ?_
     refine tk8 1 32 hHeld HT_ HW_ ?_
     refine tk8 2 33 hHeld HT_ HW_ ?_
     refine tk8 5 36 hHeld HT_ HW_ ?_
     refine tk8 6 37 hHeld HT_ HW_ ?_
     refine tk8 7 38 hHeld HT_ HW_ ?_
     refine one_ (i := 3) (N := some 34) #[T,T,T,T,N,T,T,T,N,N,N,N,N,N,N,N,N,N,N,N,N,N,N,N,N,N,N] rfl rfl (on1 HT_) (by decide) (fun K hK => ?_)
     refine goes_ Try.func31 (by kernel_rfl) rfl #[.agg #[.int .i64 a0_0, .int .i64 a0_1], .agg #[.int .i64 a1_0, .int .i64 a1_1], .agg #[.int .i64 a2_0, .int .i64 a2_1]] (by rfl) rfl rfl sg ?_
     with_reducible refine (cracknelref04_Cross.calls a0_0 a0_1 a1_0 a1_1 a2_0 a2_1 t109 _ A82.out).mono ?_
     rintro e w92 ⟨rfl, hb⟩
     refine ⟨_, rfl, ?_⟩
     replace BK101 := kb BK101 hb
     replace BK102 := kb BK102 hb
     replace BK103 := kb BK103 hb
     replace BK104 := kb BK104 hb
     replace HB := bz hb
     (try clear hb)
     refine hK.out _ _ ⟨bc BK101 0, bc BK101 1, bc BK102 0, bc BK102 1, bc BK103 0, bc BK103 1, bc BK104 0, bc BK104 1⟩ (fun hHeld => ?_)
     clear hK K
     refine nm 34 ?_
     refine one_ (i := 4) (N := some 35) #[T,T,T,T,T,T,T,T,N,N,N,N,N,N,N,N,N,N,N,N,N,N,N,N,N,N,N] rfl rfl (on1 HT_) (by decide) (fun K hK => ?_)
     refine goes_ Try.func105 (by kernel_rfl) rfl #[.int .i64 t109] (by rfl) rfl rfl sg ?_
     with_reducible refine (cracknelref04_sign.calls t109 t110 _ A83.out).mono ?_
     rintro e w' ⟨rfl, ⟨nd, rfl⟩⟩
     refine ⟨_, rfl, ?_⟩
     refine hK.out _ _ ⟨bc BK101 0, bc BK101 1, bc BK102 0, bc BK102 1, bc BK103 0, bc BK103 1, bc BK104 0, bc BK104 1⟩ (fun hHeld => ?_)
     clear hK K
     refine nm 35 ?_
     refine one_ (i := 8) (N := some 39) #[T,T,T,T,T,T,T,T,T,N,N,N,N,N,N,N,N,N,N,N,N,N,N,N,N,N,N] rfl rfl (on1 HT_) (by decide) (fun K hK => ?_)
     refine goes_ Try.func31 (by kernel_rfl) rfl #[.agg #[.int .i64 a0_0, .int .i64 a0_1], .agg #[.int .i64 a1_0, .int .i64 a1_1], .agg #[.int .i64 a3_0, .int .i64 a3_1]] (by rfl) rfl rfl sg ?_
     with_reducible refine (cracknelref04_Cross.calls a0_0 a0_1 a1_0 a1_1 a3_0 a3_1 t111 _ A84.out).mono ?_
     rintro e w93 ⟨rfl, hb⟩
     refine ⟨_, rfl, ?_⟩
     replace BK101 := kb BK101 hb
     replace BK102 := kb BK102 hb
     replace BK103 := kb BK103 hb
     replace BK104 := kb BK104 hb
     replace HB := bz hb
     (try clear hb)
     refine hK.out _ _ ⟨bc BK101 0, bc BK101 1, bc BK102 0, bc BK102 1, bc BK103 0, bc BK103 1, bc BK104 0, bc BK104 1⟩ (fun hHeld => ?_)
     clear hK K
     refine nm 39 ?_
     refine one_ (i := 9) (N := some 40) #[T,T,T,T,T,T,T,T,T,T,N,N,N,N,N,N,N,N,N,N,N,N,N,N,N,N,N] rfl rfl (on1 HT_) (by decide) (fun K hK => ?_)
     refine goes_ Try.func105 (by kernel_rfl) rfl #[.int .i64 t111] (by rfl) rfl rfl sg ?_
     with_reducible refine (cracknelref04_sign.calls t111 t112 _ A85.out).mono ?_
     rintro e w' ⟨rfl, ⟨nd, rfl⟩⟩
     refine ⟨_, rfl, ?_⟩
     refine hK.out _ _ ⟨bc BK101 0, bc BK101 1, bc BK102 0, bc BK102 1, bc BK103 0, bc BK103 1, bc BK104 0, bc BK104 1⟩ (fun hHeld => ?_)
     clear hK K
     refine nm 40 ?_
     refine pu 10 41 HT_ ?_
     refine pu 11 42 HT_ ?_
     refine pu 12 43 HT_ ?_
     refine tk8 13 44 hHeld HT_ HW_ ?_
     refine tk8 14 45 hHeld HT_ HW_ ?_
     refine tk8 15 46 hHeld HT_ HW_ ?_
     refine tk8 18 49 hHeld HT_ HW_ ?_
     refine tk8 19 50 hHeld HT_ HW_ ?_
     refine tk8 20 51 hHeld HT_ HW_ ?_
     refine one_ (i := 16) (N := some 47) #[T,T,T,T,T,T,T,T,T,T,T,T,T,T,T,T,T,N,T,T,T,N,N,N,N,N,N] rfl rfl (on1 HT_) (by decide) (fun K hK => ?_)
     refine goes_ Try.func31 (by kernel_rfl) rfl #[.agg #[.int .i64 a2_0, .int .i64 a2_1], .agg #[.int .i64 a3_0, .int .i64 a3_1], .agg #[.int .i64 a0_0, .int .i64 a0_1]] (by rfl) rfl rfl sg ?_
     with_reducible refine (cracknelref04_Cross.calls a2_0 a2_1 a3_0 a3_1 a0_0 a0_1 t113 _ A87.out).mono ?_
     rintro e w94 ⟨rfl, hb⟩
     refine ⟨_, rfl, ?_⟩
     replace BK101 := kb BK101 hb
     replace BK102 := kb BK102 hb
     replace BK103 := kb BK103 hb
     replace BK104 := kb BK104 hb
     replace HB := bz hb
     (try clear hb)
     refine hK.out _ _ ⟨bc BK101 0, bc BK101 1, bc BK102 0, bc BK102 1, bc BK103 0, bc BK103 1, bc BK104 0, bc BK104 1⟩ (fun hHeld => ?_)
     clear hK K
     refine nm 47 ?_
     refine one_ (i := 17) (N := some 48) #[T,T,T,T,T,T,T,T,T,T,T,T,T,T,T,T,T,T,T,T,T,N,N,N,N,N,N] rfl rfl (on1 HT_) (by decide) (fun K hK => ?_)
     refine goes_ Try.func105 (by kernel_rfl) rfl #[.int .i64 t113] (by rfl) rfl rfl sg ?_
     with_reducible refine (cracknelref04_sign.calls t113 t114 _ A88.out).mono ?_
     rintro e w' ⟨rfl, ⟨nd, rfl⟩⟩
     refine ⟨_, rfl, ?_⟩
     refine hK.out _ _ ⟨bc BK101 0, bc BK101 1, bc BK102 0, bc BK102 1, bc BK103 0, bc BK103 1, bc BK104 0, bc BK104 1⟩ (fun hHeld => ?_)
     clear hK K
     refine nm 48 ?_
     refine one_ (i := 21) (N := some 52) #[T,T,T,T,T,T,T,T,T,T,T,T,T,T,T,T,T,T,T,T,T,T,N,N,N,N,N] rfl rfl (on1 HT_) (by decide) (fun K hK => ?_)
     refine goes_ Try.func31 (by kernel_rfl) rfl #[.agg #[.int .i64 a2_0, .int .i64 a2_1], .agg #[.int .i64 a3_0, .int .i64 a3_1], .agg #[.int .i64 a1_0, .int .i64 a1_1]] (by rfl) rfl rfl sg ?_
     with_reducible refine (cracknelref04_Cross.calls a2_0 a2_1 a3_0 a3_1 a1_0 a1_1 t115 _ A89.out).mono ?_
     rintro e w95 ⟨rfl, hb⟩
     refine ⟨_, rfl, ?_⟩
     replace BK101 := kb BK101 hb
     replace BK102 := kb BK102 hb
     replace BK103 := kb BK103 hb
     replace BK104 := kb BK104 hb
     replace HB := bz hb
     (try clear hb)
     refine hK.out _ _ ⟨bc BK101 0, bc BK101 1, bc BK102 0, bc BK102 1, bc BK103 0, bc BK103 1, bc BK104 0, bc BK104 1⟩ (fun hHeld => ?_)
     clear hK K
     refine nm 52 ?_
     refine one_ (i := 22) (N := some 53) #[T,T,T,T,T,T,T,T,T,T,T,T,T,T,T,T,T,T,T,T,T,T,T,N,N,N,N] rfl rfl (on1 HT_) (by decide) (fun K hK => ?_)
     refine goes_ Try.func105 (by kernel_rfl) rfl #[.int .i64 t115] (by rfl) rfl rfl sg ?_
     with_reducible refine (cracknelref04_sign.calls t115 t116 _ A90.out).mono ?_
     rintro e w' ⟨rfl, ⟨nd, rfl⟩⟩
     refine ⟨_, rfl, ?_⟩
     refine hK.out _ _ ⟨bc BK101 0, bc BK101 1, bc BK102 0, bc BK102 1, bc BK103 0, bc BK103 1, bc BK104 0, bc BK104 1⟩ (fun hHeld => ?_)
     clear hK K
     refine nm 53 ?_
     refine pu 23 54 HT_ ?_
     refine pu 24 55 HT_ ?_
     refine pu 25 56 HT_ ?_
     refine pu 26 8 HT_ ?_
     refine done_ (done_of HT_.out (by kernel_rfl)) ?_
     try go_wp2
     go_ret
     exact ⟨by exact er, bh⟩
    ·rw [if_neg c86] at H
     have c86b0 := decide_eq_false c86
     clear c86
     obtain rfl := Option.some.inj H
     try go_wp2
     replace BK101 := Aside0.mk (blk_drew BK101.out)
     replace BK102 := Aside0.mk (blk_drew BK102.out)
     replace BK103 := Aside0.mk (blk_drew BK103.out)
     replace BK104 := Aside0.mk (blk_drew BK104.out)
     replace HB := Aside0.mk (below_drew1 HB.out)
     refine start_ (n := 27) (S := fun w' => w'.cell? ⟨gb101, 0, none⟩ = some (.int .i64 a0_0) ∧ w'.cell? ⟨gb101, 1, none⟩ = some (.int .i64 a0_1) ∧ w'.cell? ⟨gb102, 0, none⟩ = some (.int .i64 a1_0) ∧ w'.cell? ⟨gb102, 1, none⟩ = some (.int .i64 a1_1) ∧ w'.cell? ⟨gb103, 0, none⟩ = some (.int .i64 a2_0) ∧ w'.cell? ⟨gb103, 1, none⟩ = some (.int .i64 a2_1) ∧ w'.cell? ⟨gb104, 0, none⟩ = some (.int .i64 a3_0) ∧ w'.cell? ⟨gb104, 1, none⟩ = some (.int .i64 a3_1)) (ds := []) #[N,N,N,N,N,N,N,N,N,N,N,N,N,N,N,N,N,N,N,N,N,N,N,N,N,N,N] (by kernel_rfl) rfl rfl ⟨bc BK101 0, bc BK101 1, bc BK102 0, bc BK102 1, bc BK103 0, bc BK103 1, bc BK104 0, bc BK104 1⟩ (fun hHeld => ?_); refine with_tabW cracknelref04_Meet.tab3 cracknelref04_Meet.bits3 (fun HT_ HW_ => ?_)
     generalize wc.drew = w96 at BK101 BK102 BK103 BK104 HB hHeld ⊢
     refine tk8 0 31 hHeld HT_ HW_ ?_
     refine tk8 1 32 hHeld HT_ HW_ ?_
     refine tk8 2 33 hHeld HT_ HW_ ?_
     refine tk8 5 36 hHeld HT_ HW_ ?_
     refine tk8 6 37 hHeld HT_ HW_ ?_
     refine tk8 7 38 hHeld HT_ HW_ ?_
     refine one_ (i := 3) (N := some 34) #[T,T,T,T,N,T,T,T,N,N,N,N,N,N,N,N,N,N,N,N,N,N,N,N,N,N,N] rfl rfl (on1 HT_) (by decide) (fun K hK => ?_)
     refine goes_ Try.func31 (by kernel_rfl) rfl #[.agg #[.int .i64 a0_0, .int .i64 a0_1], .agg #[.int .i64 a1_0, .int .i64 a1_1], .agg #[.int .i64 a2_0, .int .i64 a2_1]] (by rfl) rfl rfl sg ?_
     with_reducible refine (cracknelref04_Cross.calls a0_0 a0_1 a1_0 a1_1 a2_0 a2_1 t109 _ A82.out).mono ?_
     rintro e w97 ⟨rfl, hb⟩
     refine ⟨_, rfl, ?_⟩
     replace BK101 := kb BK101 hb
     replace BK102 := kb BK102 hb
     replace BK103 := kb BK103 hb
     replace BK104 := kb BK104 hb
     replace HB := bz hb
     (try clear hb)
     refine hK.out _ _ ⟨bc BK101 0, bc BK101 1, bc BK102 0, bc BK102 1, bc BK103 0, bc BK103 1, bc BK104 0, bc BK104 1⟩ (fun hHeld => ?_)
     clear hK K
     refine nm 34 ?_
     refine one_ (i := 4) (N := some 35) #[T,T,T,T,T,T,T,T,N,N,N,N,N,N,N,N,N,N,N,N,N,N,N,N,N,N,N] rfl rfl (on1 HT_) (by decide) (fun K hK => ?_)
     refine goes_ Try.func105 (by kernel_rfl) rfl #[.int .i64 t109] (by rfl) rfl rfl sg ?_
     with_reducible refine (cracknelref04_sign.calls t109 t110 _ A83.out).mono ?_
     rintro e w' ⟨rfl, ⟨nd, rfl⟩⟩
     refine ⟨_, rfl, ?_⟩
     refine hK.out _ _ ⟨bc BK101 0, bc BK101 1, bc BK102 0, bc BK102 1, bc BK103 0, bc BK103 1, bc BK104 0, bc BK104 1⟩ (fun hHeld => ?_)
     clear hK K
     refine nm 35 ?_
     refine one_ (i := 8) (N := some 39) #[T,T,T,T,T,T,T,T,T,N,N,N,N,N,N,N,N,N,N,N,N,N,N,N,N,N,N] rfl rfl (on1 HT_) (by decide) (fun K hK => ?_)
     refine goes_ Try.func31 (by kernel_rfl) rfl #[.agg #[.int .i64 a0_0, .int .i64 a0_1], .agg #[.int .i64 a1_0, .int .i64 a1_1], .agg #[.int .i64 a3_0, .int .i64 a3_1]] (by rfl) rfl rfl sg ?_
     with_reducible refine (cracknelref04_Cross.calls a0_0 a0_1 a1_0 a1_1 a3_0 a3_1 t111 _ A84.out).mono ?_
     rintro e w98 ⟨rfl, hb⟩
     refine ⟨_, rfl, ?_⟩
     replace BK101 := kb BK101 hb
     replace BK102 := kb BK102 hb
     replace BK103 := kb BK103 hb
     replace BK104 := kb BK104 hb
     replace HB := bz hb
     (try clear hb)
     refine hK.out _ _ ⟨bc BK101 0, bc BK101 1, bc BK102 0, bc BK102 1, bc BK103 0, bc BK103 1, bc BK104 0, bc BK104 1⟩ (fun hHeld => ?_)
     clear hK K
     refine nm 39 ?_
     refine one_ (i := 9) (N := some 40) #[T,T,T,T,T,T,T,T,T,T,N,N,N,N,N,N,N,N,N,N,N,N,N,N,N,N,N] rfl rfl (on1 HT_) (by decide) (fun K hK => ?_)
     refine goes_ Try.func105 (by kernel_rfl) rfl #[.int .i64 t111] (by rfl) rfl rfl sg ?_
     with_reducible refine (cracknelref04_sign.calls t111 t112 _ A85.out).mono ?_
     rintro e w' ⟨rfl, ⟨nd, rfl⟩⟩
     refine ⟨_, rfl, ?_⟩
     refine hK.out _ _ ⟨bc BK101 0, bc BK101 1, bc BK102 0, bc BK102 1, bc BK103 0, bc BK103 1, bc BK104 0, bc BK104 1⟩ (fun hHeld => ?_)
     clear hK K
     refine nm 40 ?_
     refine pu 10 41 HT_ ?_
     refine pu 11 42 HT_ ?_
     refine pu 12 43 HT_ ?_
     refine pz 13 44 HT_ ?_
     refine pz 14 45 HT_ ?_
     refine pz 15 46 HT_ ?_
     refine pz 16 47 HT_ ?_
     refine pz 17 48 HT_ ?_
     refine pz 18 49 HT_ ?_
     refine pz 19 50 HT_ ?_
     refine pz 20 51 HT_ ?_
     refine pz 21 52 HT_ ?_
     refine pz 22 53 HT_ ?_
     refine pz 23 54 HT_ ?_
     refine pz 24 55 HT_ ?_
     refine pu 25 56 HT_ ?_
     refine pu 26 8 HT_ ?_
     refine done_ (done_of HT_.out (by kernel_rfl)) ?_
     try go_wp2
     go_ret
     exact ⟨by exact er, bh⟩
attribute [local go_sem high] eqA41
/-! ### cracknelref04_Simple: function 27 -/
mutual
def cracknelref04_Simple.l0 : Nat → List (S41) → Int → Int → Option (Bool)
 | 0, _, _, _ => none
 | k + 1, x0, x3, x4 => if x4 < x3 then (if 0 ≤ x4 then (if x4 < (x0.length : Int) then ((cracknelref04_next.f x0 x4).bind fun bt102 => (if (((rd_T41 x0 x4).f0) == bt102.1 && (((rd_T41 x0 x4).f1) == bt102.2)) = true then (some false) else (cracknelref04_Simple.l0 k x0 x3 (wrap64 (x4 + 1))))) else (none)) else (none)) else (cracknelref04_Simple.l1 k x0 x3 0)
def cracknelref04_Simple.l1 : Nat → List (S41) → Int → Int → Option (Bool)
 | 0, _, _, _ => none
 | k + 1, x0, x3, x5 => if x5 < x3 then (if 0 ≤ x5 then (if x5 < (x0.length : Int) then ((cracknelref04_next.f x0 x5).bind fun bt105 => ((cracknelref04_next.f x0 (wrap64 (x5 + 1))).bind fun bt109 => ((cracknelref04_On.f ((rd_T41 x0 x5).f0) ((rd_T41 x0 x5).f1) bt105.1 bt105.2 bt109.1 bt109.2).bind fun t112 => (if t112 = true then (cracknelref04_Simple.j2 k x0 x3 x5 true ((rd_T41 x0 x5).f0) ((rd_T41 x0 x5).f1) bt105.1 bt105.2) else ((cracknelref04_On.f bt105.1 bt105.2 bt109.1 bt109.2 ((rd_T41 x0 x5).f0) ((rd_T41 x0 x5).f1)).bind fun t113 => (cracknelref04_Simple.j2 k x0 x3 x5 t113 ((rd_T41 x0 x5).f0) ((rd_T41 x0 x5).f1) bt105.1 bt105.2)))))) else (none)) else (none)) else (some true)
def cracknelref04_Simple.j2 : Nat → List (S41) → Int → Int → Bool → Int → Int → Int → Int → Option (Bool)
 | 0, _, _, _, _, _, _, _, _ => none
 | k + 1, x0, x3, x5, x50, x108000, x108001, x109000, x109001 => if x50 = true then (some false) else (cracknelref04_Simple.l2 k x0 x3 x5 (wrap64 (x5 + 2)) x108000 x108001 x109000 x109001)
def cracknelref04_Simple.l2 : Nat → List (S41) → Int → Int → Int → Int → Int → Int → Int → Option (Bool)
 | 0, _, _, _, _, _, _, _, _ => none
 | k + 1, x0, x3, x5, x9, x108000, x108001, x109000, x109001 => if x9 < x3 then (if x3 = 0 then (none) else (if (Int.tmod (wrap64 (x9 + 1)) x3) = x5 then (cracknelref04_Simple.l2 k x0 x3 x5 (wrap64 (x9 + 1)) x108000 x108001 x109000 x109001) else (if 0 ≤ x9 then (if x9 < (x0.length : Int) then ((cracknelref04_next.f x0 x9).bind fun bt115 => ((cracknelref04_Meet.f k x108000 x108001 x109000 x109001 ((rd_T41 x0 x9).f0) ((rd_T41 x0 x9).f1) bt115.1 bt115.2).bind fun t117 => (if t117 = true then (some false) else (cracknelref04_Simple.l2 k x0 x3 x5 (wrap64 (x9 + 1)) x108000 x108001 x109000 x109001)))) else (none)) else (none)))) else (cracknelref04_Simple.l1 k x0 x3 (wrap64 (x5 + 1)))
end
def cracknelref04_Simple.f (k : Nat) (l0 : List (S41)) : Option (Bool) := cracknelref04_Simple.l0 k l0 (l0.length : Int) 0
def cracknelref04_Simple.T5 : Bool × List (List Nat × List Nat) := (true, [([], []), ([], []), ([0, 1], [0, 1]), ([2], [2]), ([], []), ([], []), ([4, 5], [4, 5]), ([3, 6], [3, 6])])
def cracknelref04_Simple.B5 : List Nat := [0, 0, 3, 7, 0, 0, 48, 127]
theorem cracknelref04_Simple.tab5 : rtab .any (opsOf Try.f27 5) = cracknelref04_Simple.T5 := by kernel_rfl
theorem cracknelref04_Simple.bits5 : waitsOk cracknelref04_Simple.T5.2 cracknelref04_Simple.B5 = true := by kernel_rfl
def cracknelref04_Simple.T10 : Bool × List (List Nat × List Nat) := (true, [([], []), ([], []), ([0, 1], [0, 1]), ([2], [2]), ([], []), ([], []), ([4, 5], [4, 5]), ([], []), ([], []), ([7, 3, 6, 0, 1, 2, 3, 7, 8], [3, 7]), ([8, 6, 9, 0, 1, 2, 3, 4, 5, 6, 7, 8, 9], [6, 8])])
def cracknelref04_Simple.B10 : List Nat := [0, 0, 3, 7, 0, 0, 48, 0, 0, 511, 1023]
theorem cracknelref04_Simple.tab10 : rtab .any (opsOf Try.f27 10) = cracknelref04_Simple.T10 := by kernel_rfl
theorem cracknelref04_Simple.bits10 : waitsOk cracknelref04_Simple.T10.2 cracknelref04_Simple.B10 = true := by kernel_rfl
def cracknelref04_Simple.T17 : Bool × List (List Nat × List Nat) := (true, [([], []), ([0], [0]), ([], []), ([1, 2], [1, 2]), ([], []), ([3, 4], [3, 4]), ([5], [5]), ([6], [6]), ([6], [6]), ([6], [6]), ([6], [6]), ([9, 10, 6], [6, 9, 10]), ([11, 6], [6, 11]), ([6], [6]), ([6], [6]), ([13, 14, 6, 6], [6, 13, 14]), ([7, 8, 12, 15, 15, 6], [6, 7, 8, 12, 15]), ([6, 16], [6, 16])])
def cracknelref04_Simple.B17 : List Nat := [0, 1, 0, 7, 0, 31, 63, 127, 127, 127, 127, 1663, 3711, 127, 127, 24703, 65535, 131071]
theorem cracknelref04_Simple.tab17 : rtab .any (opsOf Try.f27 17) = cracknelref04_Simple.T17 := by kernel_rfl
theorem cracknelref04_Simple.bits17 : waitsOk cracknelref04_Simple.T17.2 cracknelref04_Simple.B17 = true := by kernel_rfl
set_option maxHeartbeats 8000000 in
set_option maxRecDepth 100000 in
theorem cracknelref04_Simple.calls (k : Nat) (A0 : Option Addr) (c0 : Nat) (l0 : List (S41)) (r : Bool) (w : World) (hr0 : Kd.C k41 w A0 l0.length l0) (hc0 : l0.length ≤ c0) (h : cracknelref04_Simple.f k l0 = some r) :
  Calls Try.prog 27 #[.slice A0 l0.length c0] w fun e w' => e = .returned (.bool r) ∧ Below w.heap.size w w' := by
 have hu41 := Try.underlying41
 have HR0 := Aside0.mk hr0
 have HC0 := Aside0.mk hc0
 clear hr0 hc0
 have HB := Aside0.mk (Below.refl w.heap.size w)
 have H : (cracknelref04_Simple.l0 k l0 (l0.length : Int) 0) = some r := h
 clear h
 have H' := Aside0.mk H
 clear H
 go_enter Try.func27, Try.ntmps27
 go_wp2
 go_loopg [4] k (fun kq v4 w' => ∃ (x4_1 : Int), v4 = .int .i64 x4_1 ∧ Aside0 (cracknelref04_Simple.l0 kq l0 (l0.length : Int) x4_1 = some r) ∧ Aside0 (kq ≤ k) ∧ Aside0 (Below w.heap.size w w'))
 case atStart => exact ⟨(0), sd, H', ⟨Nat.le_refl _⟩, ⟨bh⟩⟩
 case round =>
  clear H'
  obtain ⟨x4_1, rfl, HA, HK1, HB⟩ := hrel
  cases gk with
  | zero => exact absurd HA.out (by simp [cracknelref04_Simple.l0])
  | succ k1 =>
   have H := HA.out
   clear HA
   simp only [cracknelref04_Simple.l0] at H
   by_cases c2 : x4_1 < (l0.length : Int)
   ·rw [if_pos c2] at H
    have c2b0 := decide_eq_true c2
    clear c2
    obtain ⟨c3, H⟩ := oi H
    have c3b0 := decide_eq_true c3
    clear c3
    obtain ⟨c4, H⟩ := oi H
    have c4b0 := decide_eq_true c4
    clear c4
    replace H := Option.bind_eq_some_iff.mp H
    obtain ⟨⟨t102, t103⟩, A50, H⟩ := H
    try dsimp only at H
    have A5 := Aside0.mk A50
    clear A50
    by_cases c6 : (((rd_T41 l0 x4_1).f0) == t102 && (((rd_T41 l0 x4_1).f1) == t103)) = true
    ·rw [if_pos c6] at H
     have c6b0 : (((rd_T41 l0 x4_1).f0) == t102 && (((rd_T41 l0 x4_1).f1) == t103)) = true := c6
     (try (have c6b1 : decide (((rd_T41 l0 x4_1).f0) = t102 && (((rd_T41 l0 x4_1).f1) == t103)) = true := by simpa using c6))
     (try (have c6b2 : (((rd_T41 l0 x4_1).f0) == t102 && (((rd_T41 l0 x4_1).f1) == t103)) = true := by simpa using c6))
     clear c6
     obtain rfl := Option.some.inj H
     try go_wp2
     replace HB := Aside0.mk (below_drew1 HB.out)
     have p101 : 0 ≤ (x4_1 : Int) := dt
     have q101 : x4_1 < (l0.length : Int) := dt
     obtain ⟨ad101, e101, hx101_0, hx101_1⟩ := at_T41 HR0.out x4_1 p101 q101
     have hw101_1 := hx101_1
     have hw101_0 := hx101_0
     cases e101
     replace hx101_0 := hc HB hx101_0
     replace hx101_1 := hc HB hx101_1
     replace p101 := eq_true p101
     replace q101 := eq_true q101
     refine start_ (n := 8) (S := fun w' => w'.cell? (ad101.add ((x4_1).toNat * 2)) = some (.int .i64 ((rd_T41 l0 x4_1).f0)) ∧ w'.cell? ⟨(ad101.add ((x4_1).toNat * 2)).block, (ad101.add ((x4_1).toNat * 2)).off + 1, none⟩ = some (.int .i64 ((rd_T41 l0 x4_1).f1))) (ds := []) #[N,N,N,N,N,N,N,N] (by kernel_rfl) rfl rfl ⟨(hc HB hw101_0), (hc HB hw101_1)⟩ (fun hHeld => ?_); refine with_tabW cracknelref04_Simple.tab5 cracknelref04_Simple.bits5 (fun HT_ HW_ => ?_)
     generalize wr.drew = w7 at HB hx101_0 hx101_1 hHeld ⊢
     refine pu 0 17 HT_ ?_
     refine pu 1 18 HT_ ?_
     refine pu 2 19 HT_ ?_
     refine pu 4 21 HT_ ?_
     refine pu 5 22 HT_ ?_
     refine tk2 3 20 hHeld HT_ HW_ ?_
     refine one_ (i := 6) (N := some 23) #[T,T,T,T,T,T,T,N] rfl rfl (on1 HT_) (by decide) (fun K hK => ?_)
     refine goes_ Try.func58 (by kernel_rfl) rfl #[.slice (some ad101) l0.length c0, .int .i64 x4_1] (by rfl) rfl rfl sg ?_
     with_reducible refine (cracknelref04_next.calls _ _ l0 x4_1 t102 t103 _ ?side1 ?side2 A5.out).mono ?_
     (case side1 => exact cs (Kd.C_below HR0.out HB.out))
     (case side2 => exact HC0.out)
     rintro e w8 ⟨rfl, hb⟩
     refine ⟨_, rfl, ?_⟩
     replace HB := bz hb
     (try clear hb)
     refine hK.out _ _ ⟨(hc HB hw101_0), (hc HB hw101_1)⟩ (fun hHeld => ?_)
     clear hK K
     refine nm 23 ?_
     refine pu 7 24 HT_ ?_
     refine done_ (done_of HT_.out (by kernel_rfl)) ?_
     try go_wp2
     go_ret
     exact ⟨by exact er, bh⟩
    ·rw [if_neg c6] at H
     have c6b0 : (((rd_T41 l0 x4_1).f0) == t102 && (((rd_T41 l0 x4_1).f1) == t103)) = false := by simpa using c6
     (try (have c6b1 : decide (((rd_T41 l0 x4_1).f0) = t102 && (((rd_T41 l0 x4_1).f1) == t103)) = false := by simpa using c6))
     (try (have c6b2 : (((rd_T41 l0 x4_1).f0) == t102 && (((rd_T41 l0 x4_1).f1) == t103)) = false := by simpa using c6))
     (try (have c6b3 : ¬ (((rd_T41 l0 x4_1).f0) = t102 && (((rd_T41 l0 x4_1).f1) == t103)) := by simpa using c6))
     clear c6
     have H' := Aside0.mk H
     clear H
     try go_wp2
     replace HB := Aside0.mk (below_drew1 HB.out)
     have p101 : 0 ≤ (x4_1 : Int) := dt
     have q101 : x4_1 < (l0.length : Int) := dt
     obtain ⟨ad101, e101, hx101_0, hx101_1⟩ := at_T41 HR0.out x4_1 p101 q101
     have hw101_1 := hx101_1
     have hw101_0 := hx101_0
     cases e101
     replace hx101_0 := hc HB hx101_0
     replace hx101_1 := hc HB hx101_1
     replace p101 := eq_true p101
     replace q101 := eq_true q101
     refine start_ (n := 8) (S := fun w' => w'.cell? (ad101.add ((x4_1).toNat * 2)) = some (.int .i64 ((rd_T41 l0 x4_1).f0)) ∧ w'.cell? ⟨(ad101.add ((x4_1).toNat * 2)).block, (ad101.add ((x4_1).toNat * 2)).off + 1, none⟩ = some (.int .i64 ((rd_T41 l0 x4_1).f1))) (ds := []) #[N,N,N,N,N,N,N,N] (by kernel_rfl) rfl rfl ⟨(hc HB hw101_0), (hc HB hw101_1)⟩ (fun hHeld => ?_); refine with_tabW cracknelref04_Simple.tab5 cracknelref04_Simple.bits5 (fun HT_ HW_ => ?_)
     generalize wr.drew = w9 at HB hx101_0 hx101_1 hHeld ⊢
     refine pu 0 17 HT_ ?_
     refine pu 1 18 HT_ ?_
     refine pu 2 19 HT_ ?_
     refine pu 4 21 HT_ ?_
     refine pu 5 22 HT_ ?_
     refine tk2 3 20 hHeld HT_ HW_ ?_
     refine one_ (i := 6) (N := some 23) #[T,T,T,T,T,T,T,N] rfl rfl (on1 HT_) (by decide) (fun K hK => ?_)
     refine goes_ Try.func58 (by kernel_rfl) rfl #[.slice (some ad101) l0.length c0, .int .i64 x4_1] (by rfl) rfl rfl sg ?_
     with_reducible refine (cracknelref04_next.calls _ _ l0 x4_1 t102 t103 _ ?side1 ?side2 A5.out).mono ?_
     (case side1 => exact cs (Kd.C_below HR0.out HB.out))
     (case side2 => exact HC0.out)
     rintro e w10 ⟨rfl, hb⟩
     refine ⟨_, rfl, ?_⟩
     replace HB := bz hb
     (try clear hb)
     refine hK.out _ _ ⟨(hc HB hw101_0), (hc HB hw101_1)⟩ (fun hHeld => ?_)
     clear hK K
     refine nm 23 ?_
     refine pu 7 24 HT_ ?_
     refine done_ (done_of HT_.out (by kernel_rfl)) ?_
     try go_wp2
     go_roundg k1
     case measure => have := HK1.out; omega
     case rel => exact ⟨(wrap64 (x4_1 + 1)), sd, H', ⟨by have := HK1.out; omega⟩, ⟨bh⟩⟩
   ·rw [if_neg c2] at H
    have c2b0 := decide_eq_false c2
    clear c2
    have H' := Aside0.mk H
    clear H
    go_wp2
    go_loopg [5] k1 (fun kq v5 w' => ∃ (x5_2 : Int), v5 = .int .i64 x5_2 ∧ Aside0 (cracknelref04_Simple.l1 kq l0 (l0.length : Int) x5_2 = some r) ∧ Aside0 (kq ≤ k1) ∧ Aside0 (Below w.heap.size w w'))
    case atStart => exact ⟨(0), sd, H', ⟨Nat.le_refl _⟩, ⟨bh⟩⟩
    case round =>
     clear H'
     (try clear c2b0)
     obtain ⟨x5_2, rfl, HA, HK2, HB⟩ := hrel
     cases gk with
     | zero => exact absurd HA.out (by simp [cracknelref04_Simple.l1])
     | succ k2 =>
      have H := HA.out
      clear HA
      simp only [cracknelref04_Simple.l1] at H
      by_cases c11 : x5_2 < (l0.length : Int)
      ·rw [if_pos c11] at H
       have c11b0 := decide_eq_true c11
       clear c11
       obtain ⟨c12, H⟩ := oi H
       have c12b0 := decide_eq_true c12
       clear c12
       obtain ⟨c13, H⟩ := oi H
       have c13b0 := decide_eq_true c13
       clear c13
       replace H := Option.bind_eq_some_iff.mp H
       obtain ⟨⟨t105, t106⟩, A140, H⟩ := H
       try dsimp only at H
       have A14 := Aside0.mk A140
       clear A140
       replace H := Option.bind_eq_some_iff.mp H
       obtain ⟨⟨t109, t110⟩, A150, H⟩ := H
       try dsimp only at H
       have A15 := Aside0.mk A150
       clear A150
       have HC16 := Aside0.mk H
       clear H
       try go_wp2
       replace HB := Aside0.mk (below_drew1 HB.out)
       have p104 : 0 ≤ (x5_2 : Int) := dt
       have q104 : x5_2 < (l0.length : Int) := dt
       obtain ⟨ad104, e104, hx104_0, hx104_1⟩ := at_T41 HR0.out x5_2 p104 q104
       have hw104_1 := hx104_1
       have hw104_0 := hx104_0
       cases e104
       replace hx104_0 := hc HB hx104_0
       replace hx104_1 := hc HB hx104_1
       replace p104 := eq_true p104
       replace q104 := eq_true q104
       refine start_ (n := 11) (S := fun w' => w'.cell? (ad104.add ((x5_2).toNat * 2)) = some (.int .i64 ((rd_T41 l0 x5_2).f0)) ∧ w'.cell? ⟨(ad104.add ((x5_2).toNat * 2)).block, (ad104.add ((x5_2).toNat * 2)).off + 1, none⟩ = some (.int .i64 ((rd_T41 l0 x5_2).f1))) (ds := []) #[N,N,N,N,N,N,N,N,N,N,N] (by kernel_rfl) rfl rfl ⟨(hc HB hw104_0), (hc HB hw104_1)⟩ (fun hHeld => ?_); refine with_tabW cracknelref04_Simple.tab10 cracknelref04_Simple.bits10 (fun HT_ HW_ => ?_)
       generalize wr.drew = w17 at HB hx104_0 hx104_1 hHeld ⊢
       refine pu 0 30 HT_ ?_
       refine pu 1 31 HT_ ?_
       refine pu 2 32 HT_ ?_
       refine pu 4 34 HT_ ?_
       refine pu 5 35 HT_ ?_
       refine tk2 3 33 hHeld HT_ HW_ ?_
       refine join_ (σ := Nat × Nat) 2 #[T,T,T,T,T,T,T,T,T,N,N] (fun s_ => [(36, .agg #[.int .i64 t105, .int .i64 t106]), (6, .pointer (some ⟨s_.1, 0, none⟩)), (7, .pointer (some ⟨s_.2, 0, none⟩))]) (fun s_ w' => (w'.cell? (ad104.add ((x5_2).toNat * 2)) = some (.int .i64 ((rd_T41 l0 x5_2).f0)) ∧ w'.cell? ⟨(ad104.add ((x5_2).toNat * 2)).block, (ad104.add ((x5_2).toNat * 2)).off + 1, none⟩ = some (.int .i64 ((rd_T41 l0 x5_2).f1))) ∧ (w'.heap[s_.1]? = some (.cells #[.int .i64 0, .int .i64 0] 41 (0, 0))) ∧ (w'.heap[s_.2]? = some (.cells #[.int .i64 0, .int .i64 0] 41 (0, 0))) ∧ (w.heap.size ≤ s_.1) ∧ (w.heap.size ≤ s_.1) ∧ (s_.2 ≠ s_.1) ∧ (s_.1 ≠ s_.2) ∧ (w.heap.size ≤ s_.2) ∧ (w.heap.size ≤ s_.2) ∧ (Below w.heap.size w w')) ?_ ?_
       rotate_left
       ·intro hJ6_7_8
        refine join_ (σ := Nat) 3 #[T,T,T,T,T,T,T,T,N,N,N] (fun s_ => [(36, .agg #[.int .i64 t105, .int .i64 t106]), (6, .pointer (some ⟨s_, 0, none⟩))]) (fun s_ w' => (w'.cell? (ad104.add ((x5_2).toNat * 2)) = some (.int .i64 ((rd_T41 l0 x5_2).f0)) ∧ w'.cell? ⟨(ad104.add ((x5_2).toNat * 2)).block, (ad104.add ((x5_2).toNat * 2)).off + 1, none⟩ = some (.int .i64 ((rd_T41 l0 x5_2).f1))) ∧ (w'.heap[s_]? = some (.cells #[.int .i64 0, .int .i64 0] 41 (0, 0))) ∧ (w.heap.size ≤ s_) ∧ (w.heap.size ≤ s_) ∧ (Below w.heap.size w w')) ?_ ?_
        rotate_left
        ·intro hJ6_7
         refine join_ (σ := Nat) 3 #[T,T,T,T,T,T,T,N,T,N,N] (fun s_ => [(36, .agg #[.int .i64 t105, .int .i64 t106]), (7, .pointer (some ⟨s_, 0, none⟩))]) (fun s_ w' => (w'.cell? (ad104.add ((x5_2).toNat * 2)) = some (.int .i64 ((rd_T41 l0 x5_2).f0)) ∧ w'.cell? ⟨(ad104.add ((x5_2).toNat * 2)).block, (ad104.add ((x5_2).toNat * 2)).off + 1, none⟩ = some (.int .i64 ((rd_T41 l0 x5_2).f1))) ∧ (w'.heap[s_]? = some (.cells #[.int .i64 0, .int .i64 0] 41 (0, 0))) ∧ (w.heap.size ≤ s_) ∧ (w.heap.size ≤ s_) ∧ (Below w.heap.size w w')) ?_ ?_
         rotate_left
         ·intro hJ6_8
          refine join_ (σ := Nat × Nat) 3 #[T,T,T,T,T,T,N,T,T,N,N] (fun s_ => [(6, .pointer (some ⟨s_.1, 0, none⟩)), (7, .pointer (some ⟨s_.2, 0, none⟩))]) (fun s_ w' => (w'.cell? (ad104.add ((x5_2).toNat * 2)) = some (.int .i64 ((rd_T41 l0 x5_2).f0)) ∧ w'.cell? ⟨(ad104.add ((x5_2).toNat * 2)).block, (ad104.add ((x5_2).toNat * 2)).off + 1, none⟩ = some (.int .i64 ((rd_T41 l0 x5_2).f1))) ∧ (w'.heap[s_.1]? = some (.cells #[.int .i64 0, .int .i64 0] 41 (0, 0))) ∧ (w'.heap[s_.2]? = some (.cells #[.int .i64 0, .int .i64 0] 41 (0, 0))) ∧ (w.heap.size ≤ s_.1) ∧ (w.heap.size ≤ s_.1) ∧ (s_.2 ≠ s_.1) ∧ (s_.1 ≠ s_.2) ∧ (w.heap.size ≤ s_.2) ∧ (w.heap.size ≤ s_.2) ∧ (Below w.heap.size w w')) ?_ ?_
          rotate_left
          ·intro hJ7_8
           refine join_ (σ := Unit) 4 #[T,T,T,T,T,T,T,N,N,N,N] (fun s_ => [(36, .agg #[.int .i64 t105, .int .i64 t106])]) (fun s_ w' => (w'.cell? (ad104.add ((x5_2).toNat * 2)) = some (.int .i64 ((rd_T41 l0 x5_2).f0)) ∧ w'.cell? ⟨(ad104.add ((x5_2).toNat * 2)).block, (ad104.add ((x5_2).toNat * 2)).off + 1, none⟩ = some (.int .i64 ((rd_T41 l0 x5_2).f1))) ∧ (Below w.heap.size w w')) ?_ ?_
           rotate_left
           ·intro hJ6
            refine join_ (σ := Nat) 4 #[T,T,T,T,T,T,N,T,N,N,N] (fun s_ => [(6, .pointer (some ⟨s_, 0, none⟩))]) (fun s_ w' => (w'.cell? (ad104.add ((x5_2).toNat * 2)) = some (.int .i64 ((rd_T41 l0 x5_2).f0)) ∧ w'.cell? ⟨(ad104.add ((x5_2).toNat * 2)).block, (ad104.add ((x5_2).toNat * 2)).off + 1, none⟩ = some (.int .i64 ((rd_T41 l0 x5_2).f1))) ∧ (w'.heap[s_]? = some (.cells #[.int .i64 0, .int .i64 0] 41 (0, 0))) ∧ (w.heap.size ≤ s_) ∧ (w.heap.size ≤ s_) ∧ (Below w.heap.size w w')) ?_ ?_
            rotate_left
            ·intro hJ7
             refine join_ (σ := Nat) 4 #[T,T,T,T,T,T,N,N,T,N,N] (fun s_ => [(7, .pointer (some ⟨s_, 0, none⟩))]) (fun s_ w' => (w'.cell? (ad104.add ((x5_2).toNat * 2)) = some (.int .i64 ((rd_T41 l0 x5_2).f0)) ∧ w'.cell? ⟨(ad104.add ((x5_2).toNat * 2)).block, (ad104.add ((x5_2).toNat * 2)).off + 1, none⟩ = some (.int .i64 ((rd_T41 l0 x5_2).f1))) ∧ (w'.heap[s_]? = some (.cells #[.int .i64 0, .int .i64 0] 41 (0, 0))) ∧ (w.heap.size ≤ s_) ∧ (w.heap.size ≤ s_) ∧ (Below w.heap.size w w')) ?_ ?_
             rotate_left
             ·intro hJ8
              refine three_ (i := 6) (j := 7) (k := 8) (Ni := some 36) (Nj := some 6) (Nk := some 7) #[T,T,T,T,T,T,T,N,N,N,N] #[T,T,T,T,T,T,N,T,N,N,N] #[T,T,T,T,T,T,N,N,T,N,N] rfl rfl rfl rfl rfl rfl (on3 HT_) (by decide) (by decide) (by decide) (fun K hK => ?_) (fun K hK => ?_) (fun K hK => ?_)
              ·skip
               refine goes_ Try.func58 (by kernel_rfl) rfl #[.slice (some ad104) l0.length c0, .int .i64 x5_2] (by rfl) rfl rfl sg ?_
               with_reducible refine (cracknelref04_next.calls _ _ l0 x5_2 t105 t106 _ ?side1 ?side2 A14.out).mono ?_
               (case side1 => exact cs (Kd.C_below HR0.out HB.out))
               (case side2 => exact HC0.out)
               rintro e w18 ⟨rfl, hb⟩
               refine ⟨_, rfl, ?_⟩
               replace HB := bz hb
               (try clear hb)
               refine hK.out _ _ ⟨(hc HB hw104_0), (hc HB hw104_1)⟩ (fun hHeld => ?_)
               clear hK K
               refine nm 36 ?_
               exact norm_ pa (hJ6 () _ ⟨hHeld, bh⟩)
              ·skip
               refine bxs 6 #[.int .i64 0, .int .i64 0] 41 ?_
               intro gb107 hg w18 hbox hb
               have BK107 := Aside0.mk (hbox)
               have GW107 := ga w hg
               have GE107 := GW107
               replace HB := bz hb
               clear hb hbox hg
               refine hK.out _ _ ⟨(hc HB hw104_0), (hc HB hw104_1)⟩ (fun hHeld => ?_)
               clear hK K
               refine nm 6 ?_
               exact norm_ pa (hJ7 (gb107) _ ⟨hHeld, bk BK107, GW107.out, GE107.out, bh⟩)
              ·skip
               refine bxs 7 #[.int .i64 0, .int .i64 0] 41 ?_
               intro gb108 hg w18 hbox hb
               have BK108 := Aside0.mk (hbox)
               have GW108 := ga w hg
               have GE108 := GW108
               replace HB := bz hb
               clear hb hbox hg
               refine hK.out _ _ ⟨(hc HB hw104_0), (hc HB hw104_1)⟩ (fun hHeld => ?_)
               clear hK K
               refine nm 7 ?_
               exact norm_ pa (hJ8 (gb108) _ ⟨hHeld, bk BK108, GW108.out, GE108.out, bh⟩)
             ·skip
              rintro gb108 w19 ⟨hS_, h0_, h1_, h2_, h3_⟩
              have BK108 := Aside0.mk h0_
              have GW108 := Aside0.mk h1_
              have GE108 := Aside0.mk h2_
              replace HB := Aside0.mk h3_
              clear h0_ h1_ h2_ h3_
              have hHeld := hS_
              refine nn ?_
              refine two_ (i := 6) (j := 7) (Ni := some 36) (Nj := some 6) #[T,T,T,T,T,T,T,N,T,N,N] #[T,T,T,T,T,T,N,T,T,N,N] rfl rfl rfl rfl (on2 HT_) (by decide) (by decide) (fun K hK => ?_) (fun K hK => ?_)
              ·skip
               refine goes_ Try.func58 (by kernel_rfl) rfl #[.slice (some ad104) l0.length c0, .int .i64 x5_2] (by rfl) rfl rfl sg ?_
               with_reducible refine (cracknelref04_next.calls _ _ l0 x5_2 t105 t106 _ ?side1 ?side2 A14.out).mono ?_
               (case side1 => exact cs (Kd.C_below HR0.out HB.out))
               (case side2 => exact HC0.out)
               rintro e w20 ⟨rfl, hb⟩
               refine ⟨_, rfl, ?_⟩
               replace BK108 := kb BK108 hb
               replace HB := bz hb
               (try clear hb)
               refine hK.out _ _ ⟨(hc HB hw104_0), (hc HB hw104_1)⟩ (fun hHeld => ?_)
               clear hK K
               refine nm 36 ?_
               exact norm_ pa (hJ6_8 (gb108) _ ⟨hHeld, bk BK108, GW108.out, GE108.out, bh⟩)
              ·skip
               refine bxs 6 #[.int .i64 0, .int .i64 0] 41 ?_
               intro gb107 hg w20 hbox hb
               have BK107 := Aside0.mk (hbox)
               have GW107 := ga w hg
               have GE107 := GW107
               have NB108_107 := nb hg (kl BK108)
               have NB107_108 := bn NB108_107
               replace BK108 := kb BK108 hb
               replace HB := bz hb
               clear hb hbox hg
               refine hK.out _ _ ⟨(hc HB hw104_0), (hc HB hw104_1)⟩ (fun hHeld => ?_)
               clear hK K
               refine nm 6 ?_
               exact norm_ pa (hJ7_8 (gb107, gb108) _ ⟨hHeld, bk BK107, bk BK108, GW107.out, GE107.out, NB108_107.out, NB107_108.out, GW108.out, GE108.out, bh⟩)
            ·skip
             rintro gb107 w19 ⟨hS_, h0_, h1_, h2_, h3_⟩
             have BK107 := Aside0.mk h0_
             have GW107 := Aside0.mk h1_
             have GE107 := Aside0.mk h2_
             replace HB := Aside0.mk h3_
             clear h0_ h1_ h2_ h3_
             have hHeld := hS_
             refine nn ?_
             refine two_ (i := 6) (j := 8) (Ni := some 36) (Nj := some 7) #[T,T,T,T,T,T,T,T,N,N,N] #[T,T,T,T,T,T,N,T,T,N,N] rfl rfl rfl rfl (on2 HT_) (by decide) (by decide) (fun K hK => ?_) (fun K hK => ?_)
             ·skip
              refine goes_ Try.func58 (by kernel_rfl) rfl #[.slice (some ad104) l0.length c0, .int .i64 x5_2] (by rfl) rfl rfl sg ?_
              with_reducible refine (cracknelref04_next.calls _ _ l0 x5_2 t105 t106 _ ?side1 ?side2 A14.out).mono ?_
              (case side1 => exact cs (Kd.C_below HR0.out HB.out))
              (case side2 => exact HC0.out)
              rintro e w20 ⟨rfl, hb⟩
              refine ⟨_, rfl, ?_⟩
              replace BK107 := kb BK107 hb
              replace HB := bz hb
              (try clear hb)
              refine hK.out _ _ ⟨(hc HB hw104_0), (hc HB hw104_1)⟩ (fun hHeld => ?_)
              clear hK K
              refine nm 36 ?_
              exact norm_ pa (hJ6_7 (gb107) _ ⟨hHeld, bk BK107, GW107.out, GE107.out, bh⟩)
             ·skip
              refine bxs 7 #[.int .i64 0, .int .i64 0] 41 ?_
              intro gb108 hg w20 hbox hb
              have BK108 := Aside0.mk (hbox)
              have GW108 := ga w hg
              have GE108 := GW108
              have NB107_108 := nb hg (kl BK107)
              have NB108_107 := bn NB107_108
              replace BK107 := kb BK107 hb
              replace HB := bz hb
              clear hb hbox hg
              refine hK.out _ _ ⟨(hc HB hw104_0), (hc HB hw104_1)⟩ (fun hHeld => ?_)
              clear hK K
              refine nm 7 ?_
              exact norm_ pa (hJ7_8 (gb107, gb108) _ ⟨hHeld, bk BK107, bk BK108, GW107.out, GE107.out, NB108_107.out, NB107_108.out, GW108.out, GE108.out, bh⟩)
           ·skip
            rintro _ w19 ⟨hS_, h0_⟩
            replace HB := Aside0.mk h0_
            clear h0_
            have hHeld := hS_
            refine nn ?_
            refine two_ (i := 7) (j := 8) (Ni := some 6) (Nj := some 7) #[T,T,T,T,T,T,T,T,N,N,N] #[T,T,T,T,T,T,T,N,T,N,N] rfl rfl rfl rfl (on2 HT_) (by decide) (by decide) (fun K hK => ?_) (fun K hK => ?_)
            ·skip
             refine bxs 6 #[.int .i64 0, .int .i64 0] 41 ?_
             intro gb107 hg w20 hbox hb
             have BK107 := Aside0.mk (hbox)
             have GW107 := ga w hg
             have GE107 := GW107
             replace HB := bz hb
             clear hb hbox hg
             refine hK.out _ _ ⟨(hc HB hw104_0), (hc HB hw104_1)⟩ (fun hHeld => ?_)
             clear hK K
             refine nm 6 ?_
             exact norm_ pa (hJ6_7 (gb107) _ ⟨hHeld, bk BK107, GW107.out, GE107.out, bh⟩)
            ·skip
             refine bxs 7 #[.int .i64 0, .int .i64 0] 41 ?_
             intro gb108 hg w20 hbox hb
             have BK108 := Aside0.mk (hbox)
             have GW108 := ga w hg
             have GE108 := GW108
             replace HB := bz hb
             clear hb hbox hg
             refine hK.out _ _ ⟨(hc HB hw104_0), (hc HB hw104_1)⟩ (fun hHeld => ?_)
             clear hK K
             refine nm 7 ?_
             exact norm_ pa (hJ6_8 (gb108) _ ⟨hHeld, bk BK108, GW108.out, GE108.out, bh⟩)
          ·skip
           rintro ⟨gb107, gb108⟩ w20 ⟨hS_, h0_, h1_, h2_, h3_, h4_, h5_, h6_, h7_, h8_⟩
           have BK107 := Aside0.mk h0_
           have BK108 := Aside0.mk h1_
           have GW107 := Aside0.mk h2_
           have GE107 := Aside0.mk h3_
           have NB108_107 := Aside0.mk h4_
           have NB107_108 := Aside0.mk h5_
           have GW108 := Aside0.mk h6_
           have GE108 := Aside0.mk h7_
           replace HB := Aside0.mk h8_
           clear h0_ h1_ h2_ h3_ h4_ h5_ h6_ h7_ h8_
           have hHeld := hS_
           refine nn ?_
           refine one_ (i := 6) (N := some 36) #[T,T,T,T,T,T,T,T,T,N,N] rfl rfl (on1 HT_) (by decide) (fun K hK => ?_)
           refine goes_ Try.func58 (by kernel_rfl) rfl #[.slice (some ad104) l0.length c0, .int .i64 x5_2] (by rfl) rfl rfl sg ?_
           with_reducible refine (cracknelref04_next.calls _ _ l0 x5_2 t105 t106 _ ?side1 ?side2 A14.out).mono ?_
           (case side1 => exact cs (Kd.C_below HR0.out HB.out))
           (case side2 => exact HC0.out)
           rintro e w21 ⟨rfl, hb⟩
           refine ⟨_, rfl, ?_⟩
           replace BK107 := kb BK107 hb
           replace BK108 := kb BK108 hb
           replace HB := bz hb
           (try clear hb)
           refine hK.out _ _ ⟨(hc HB hw104_0), (hc HB hw104_1)⟩ (fun hHeld => ?_)
           clear hK K
           refine nm 36 ?_
           exact norm_ pa (hJ6_7_8 (gb107, gb108) _ ⟨hHeld, bk BK107, bk BK108, GW107.out, GE107.out, NB108_107.out, NB107_108.out, GW108.out, GE108.out, bh⟩)
         ·skip
          rintro gb108 w20 ⟨hS_, h0_, h1_, h2_, h3_⟩
          have BK108 := Aside0.mk h0_
          have GW108 := Aside0.mk h1_
          have GE108 := Aside0.mk h2_
          replace HB := Aside0.mk h3_
          clear h0_ h1_ h2_ h3_
          have hHeld := hS_
          refine nn ?_
          refine one_ (i := 7) (N := some 6) #[T,T,T,T,T,T,T,T,T,N,N] rfl rfl (on1 HT_) (by decide) (fun K hK => ?_)
          refine bxs 6 #[.int .i64 0, .int .i64 0] 41 ?_
          intro gb107 hg w21 hbox hb
          have BK107 := Aside0.mk (hbox)
          have GW107 := ga w hg
          have GE107 := GW107
          have NB108_107 := nb hg (kl BK108)
          have NB107_108 := bn NB108_107
          replace BK108 := kb BK108 hb
          replace HB := bz hb
          clear hb hbox hg
          refine hK.out _ _ ⟨(hc HB hw104_0), (hc HB hw104_1)⟩ (fun hHeld => ?_)
          clear hK K
          refine nm 6 ?_
          exact norm_ pa (hJ6_7_8 (gb107, gb108) _ ⟨hHeld, bk BK107, bk BK108, GW107.out, GE107.out, NB108_107.out, NB107_108.out, GW108.out, GE108.out, bh⟩)
        ·skip
         rintro gb107 w20 ⟨hS_, h0_, h1_, h2_, h3_⟩
         have BK107 := Aside0.mk h0_
         have GW107 := Aside0.mk h1_
         have GE107 := Aside0.mk h2_
         replace HB := Aside0.mk h3_
         clear h0_ h1_ h2_ h3_
         have hHeld := hS_
         refine nn ?_
         refine one_ (i := 8) (N := some 7) #[T,T,T,T,T,T,T,T,T,N,N] rfl rfl (on1 HT_) (by decide) (fun K hK => ?_)
         refine bxs 7 #[.int .i64 0, .int .i64 0] 41 ?_
         intro gb108 hg w21 hbox hb
         have BK108 := Aside0.mk (hbox)
         have GW108 := ga w hg
         have GE108 := GW108
         have NB107_108 := nb hg (kl BK107)
         have NB108_107 := bn NB107_108
         replace BK107 := kb BK107 hb
         replace HB := bz hb
         clear hb hbox hg
         refine hK.out _ _ ⟨(hc HB hw104_0), (hc HB hw104_1)⟩ (fun hHeld => ?_)
         clear hK K
         refine nm 7 ?_
         exact norm_ pa (hJ6_7_8 (gb107, gb108) _ ⟨hHeld, bk BK107, bk BK108, GW107.out, GE107.out, NB108_107.out, NB107_108.out, GW108.out, GE108.out, bh⟩)
       rintro ⟨gb107, gb108⟩ w21 ⟨hS_, h0_, h1_, h2_, h3_, h4_, h5_, h6_, h7_, h8_⟩
       have BK107 := Aside0.mk h0_
       have BK108 := Aside0.mk h1_
       have GW107 := Aside0.mk h2_
       have GE107 := Aside0.mk h3_
       have NB108_107 := Aside0.mk h4_
       have NB107_108 := Aside0.mk h5_
       have GW108 := Aside0.mk h6_
       have GE108 := Aside0.mk h7_
       replace HB := Aside0.mk h8_
       clear h0_ h1_ h2_ h3_ h4_ h5_ h6_ h7_ h8_
       have hHeld := hS_
       refine nn ?_
       refine one_ (i := 9) (N := none) #[T,T,T,T,T,T,T,T,T,T,N] rfl rfl (on1 HT_) (by decide) (fun K hK => ?_)
       have hs22 : w21.cell? ⟨gb107, 0, none⟩ = some (.int .i64 0) := bc BK107 0
       have hfs22 := blk_frozen BK107.out 0
       have hns22_1 := NB108_107.out
       have hms22_1 := NB107_108.out
       have hs23 : w21.cell? ⟨gb107, 1, none⟩ = some (.int .i64 0) := bc BK107 1
       have hfs23 := blk_frozen BK107.out 1
       have hns23_1 := NB108_107.out
       have hms23_1 := NB107_108.out
       refine skip_ (w1 := ?_) (by rfl) rfl ?_ ?_
       rotate_left
       ·go_simp
        rfl
       refine hK.out _ _ ⟨((cell_far (p := ⟨gb107, _, none⟩) (fr hw104_0 GW107) _).trans (((cell_far (p := ⟨gb107, _, none⟩) (fr hw104_0 GW107) _).trans (hHeld.1)))), ((cell_far (p := ⟨gb107, _, none⟩) (fr hw104_1 GW107) _).trans (((cell_far (p := ⟨gb107, _, none⟩) (fr hw104_1 GW107) _).trans (hHeld.2))))⟩ (fun hHeld => ?_)
       clear hK K
       refine one_ (i := 10) (N := none) #[T,T,T,T,T,T,T,T,T,T,T] rfl rfl (on1 HT_) (by decide) (fun K hK => ?_)
       have hs24 : w21.cell? ⟨gb108, 0, none⟩ = some (.int .i64 0) := bc BK108 0
       have hfs24 := blk_frozen BK108.out 0
       have hns24_0 := NB107_108.out
       have hms24_0 := NB108_107.out
       have hs25 : w21.cell? ⟨gb108, 1, none⟩ = some (.int .i64 0) := bc BK108 1
       have hfs25 := blk_frozen BK108.out 1
       have hns25_0 := NB107_108.out
       have hms25_0 := NB108_107.out
       refine skip_ (w1 := ?_) (by rfl) rfl ?_ ?_
       rotate_left
       ·go_simp
        rfl
       refine hK.out _ _ ⟨((cell_far (p := ⟨gb108, _, none⟩) (fr hw104_0 GW108) _).trans (((cell_far (p := ⟨gb108, _, none⟩) (fr hw104_0 GW108) _).trans (hHeld.1)))), ((cell_far (p := ⟨gb108, _, none⟩) (fr hw104_1 GW108) _).trans (((cell_far (p := ⟨gb108, _, none⟩) (fr hw104_1 GW108) _).trans (hHeld.2))))⟩ (fun hHeld => ?_)
       clear hK K
       refine done_ (done_of HT_.out (by kernel_rfl)) ?_
       go_upto_region 12 with (first | ((with_reducible refine gc 58 rfl ?_); refine goesL_ (some 40) rfl rfl Try.func58 (by kernel_rfl) rfl #[.slice (some ad104) l0.length c0, .int .i64 (wrap64 (x5_2 + 1))] rfl sg ?_; (with_reducible refine (cracknelref04_next.calls _ _ l0 (wrap64 (x5_2 + 1)) t109 t110 _ ?side1 ?side2 A15.out).mono ?_); (case side1 => exact Kd.C_below HR0.out bh); (case side2 => exact HC0.out); rintro e w26 ⟨rfl, hb⟩; refine ⟨_, rfl, ?_⟩; replace BK107 := Aside0.mk (blk_below (g := gb107) (o := .cells #[.int .i64 ((rd_T41 l0 x5_2).f0), .int .i64 ((rd_T41 l0 x5_2).f1)] 41 (0, 0)) (by refine bf NB107_108 ?_; refine bf NB107_108 ?_; refine bd ?_; refine blk_put (cs := #[.int .i64 ((rd_T41 l0 x5_2).f0), .int .i64 0]) ?_ 1 _ rfl; refine bd ?_; refine blk_put (cs := #[.int .i64 0, .int .i64 0]) ?_ 0 _ rfl; refine bd ?_; exact BK107.out) hb); replace BK108 := Aside0.mk (blk_below (g := gb108) (o := .cells #[.int .i64 t105, .int .i64 t106] 41 (0, 0)) (by refine bd ?_; refine blk_put (cs := #[.int .i64 t105, .int .i64 0]) ?_ 1 _ rfl; refine bd ?_; refine blk_put (cs := #[.int .i64 0, .int .i64 0]) ?_ 0 _ rfl; refine bf NB108_107 ?_; refine bf NB108_107 ?_; refine bd ?_; exact BK108.out) hb); replace HB := bz hb; (try clear hb)) | ((with_reducible refine gate_dst (N := 8) rfl ?_); refine bxe 8 #[.int .i64 0, .int .i64 0] 41 ?_; intro gb111 hg w27 hbox hb; have BK111 := Aside0.mk (hbox); have GW111 := ga w hg; have GE111 := GW111; have NB107_111 := nb hg (kl BK107); have NB111_107 := bn NB107_111; have NB108_111 := nb hg (kl BK108); have NB111_108 := bn NB108_111; replace BK107 := kb BK107 hb; replace BK108 := kb BK108 hb; replace HB := bz hb; clear hb hbox hg; have hnb28 := NB111_107.out; have hnc28 := NB107_111.out; have hnb29 := NB111_108.out; have hnc29 := NB108_111.out; obtain ⟨hcz30_0, hcz30_1, hfz30_0, hfz30_1⟩ := b2 BK111))
       (try simp only [Act.put, List.setIfInBounds_toArray, List.set_cons_zero, List.set_cons_succ])
       go_cut [50] (fun v50 wc => ∃ (kq : Nat) (x50_15 : Bool), v50 = .bool x50_15 ∧ Aside0 (cracknelref04_Simple.j2 kq l0 (l0.length : Int) x5_2 x50_15 ((rd_T41 l0 x5_2).f0) ((rd_T41 l0 x5_2).f1) t105 t106 = some r) ∧ Aside0 (kq ≤ k2) ∧ Aside0 (wc.heap[gb107]? = some (.cells #[.int .i64 ((rd_T41 l0 x5_2).f0), .int .i64 ((rd_T41 l0 x5_2).f1)] 41 (0, 0))) ∧ Aside0 (wc.heap[gb108]? = some (.cells #[.int .i64 t105, .int .i64 t106] 41 (0, 0))) ∧ Aside0 (wc.heap[gb111]? = some (.cells #[.int .i64 t109, .int .i64 t110] 41 (0, 0))) ∧ Aside0 (Below w.heap.size w wc))
       case first =>
        have H := HC16.out
        clear HC16
        replace H := Option.bind_eq_some_iff.mp H
        obtain ⟨t112, A310, H⟩ := H
        try dsimp only at H
        have A31 := Aside0.mk A310
        clear A310
        by_cases c32 : t112 = true
        ·subst c32
         rw [if_pos rfl] at H
         have H' := Aside0.mk H
         clear H
         have hnb33 := NB107_108.out
         have hnc33 := NB108_107.out
         have hnb34 := NB107_111.out
         have hnc34 := NB111_107.out
         obtain ⟨hcz35_0, hcz35_1, hfz35_0, hfz35_1⟩ := b2 BK107
         have hnb36 := NB108_111.out
         have hnc36 := NB111_108.out
         obtain ⟨hcz37_0, hcz37_1, hfz37_0, hfz37_1⟩ := b2 BK108
         obtain ⟨hcz38_0, hcz38_1, hfz38_0, hfz38_1⟩ := b2 BK111
         go_wp2_with (first | ((with_reducible refine gc 59 rfl ?_); refine goesL_ (some 44) rfl rfl Try.func59 (by kernel_rfl) rfl #[.agg #[.int .i64 ((rd_T41 l0 x5_2).f0), .int .i64 ((rd_T41 l0 x5_2).f1)], .agg #[.int .i64 t105, .int .i64 t106], .agg #[.int .i64 t109, .int .i64 t110]] rfl sg ?_; (with_reducible refine (cracknelref04_On.calls ((rd_T41 l0 x5_2).f0) ((rd_T41 l0 x5_2).f1) t105 t106 t109 t110 true _ A31.out).mono ?_); rintro e w39 ⟨rfl, hb⟩; refine ⟨_, rfl, ?_⟩; replace BK107 := Aside0.mk (blk_below (g := gb107) (o := .cells #[.int .i64 ((rd_T41 l0 x5_2).f0), .int .i64 ((rd_T41 l0 x5_2).f1)] 41 (0, 0)) (by refine bf NB107_111 ?_; refine bf NB107_111 ?_; refine bd ?_; exact BK107.out) hb); replace BK108 := Aside0.mk (blk_below (g := gb108) (o := .cells #[.int .i64 t105, .int .i64 t106] 41 (0, 0)) (by refine bf NB108_111 ?_; refine bf NB108_111 ?_; refine bd ?_; exact BK108.out) hb); replace BK111 := Aside0.mk (blk_below (g := gb111) (o := .cells #[.int .i64 t109, .int .i64 t110] 41 (0, 0)) (by refine bd ?_; refine blk_put (cs := #[.int .i64 t109, .int .i64 0]) ?_ 1 _ rfl; refine bd ?_; refine blk_put (cs := #[.int .i64 0, .int .i64 0]) ?_ 0 _ rfl; refine bd ?_; exact BK111.out) hb); replace HB := bz hb; (try clear hb)))
         go_meet
         case rel => exact ⟨_, (true), sd, H', ⟨by have := HK1.out; have := HK2.out; first | omega | exact Nat.le_refl _⟩, ⟨bk BK107⟩, ⟨bk BK108⟩, ⟨bk BK111⟩, ⟨bh⟩⟩
        ·replace c32 := Bool.eq_false_iff.mpr c32
         subst c32
         rw [if_neg (show ¬ (false = true) by decide)] at H
         replace H := Option.bind_eq_some_iff.mp H
         obtain ⟨t113, A400, H⟩ := H
         try dsimp only at H
         have A40 := Aside0.mk A400
         clear A400
         have H' := Aside0.mk H
         clear H
         have hnb41 := NB107_108.out
         have hnc41 := NB108_107.out
         have hnb42 := NB107_111.out
         have hnc42 := NB111_107.out
         obtain ⟨hcz43_0, hcz43_1, hfz43_0, hfz43_1⟩ := b2 BK107
         have hnb44 := NB108_111.out
         have hnc44 := NB111_108.out
         obtain ⟨hcz45_0, hcz45_1, hfz45_0, hfz45_1⟩ := b2 BK108
         obtain ⟨hcz46_0, hcz46_1, hfz46_0, hfz46_1⟩ := b2 BK111
         go_wp2_with (first | ((with_reducible refine gc 59 rfl ?_); refine goesL_ (some 44) rfl rfl Try.func59 (by kernel_rfl) rfl #[.agg #[.int .i64 ((rd_T41 l0 x5_2).f0), .int .i64 ((rd_T41 l0 x5_2).f1)], .agg #[.int .i64 t105, .int .i64 t106], .agg #[.int .i64 t109, .int .i64 t110]] rfl sg ?_; (with_reducible refine (cracknelref04_On.calls ((rd_T41 l0 x5_2).f0) ((rd_T41 l0 x5_2).f1) t105 t106 t109 t110 false _ A31.out).mono ?_); rintro e w47 ⟨rfl, hb⟩; refine ⟨_, rfl, ?_⟩; replace BK107 := Aside0.mk (blk_below (g := gb107) (o := .cells #[.int .i64 ((rd_T41 l0 x5_2).f0), .int .i64 ((rd_T41 l0 x5_2).f1)] 41 (0, 0)) (by refine bf NB107_111 ?_; refine bf NB107_111 ?_; refine bd ?_; exact BK107.out) hb); replace BK108 := Aside0.mk (blk_below (g := gb108) (o := .cells #[.int .i64 t105, .int .i64 t106] 41 (0, 0)) (by refine bf NB108_111 ?_; refine bf NB108_111 ?_; refine bd ?_; exact BK108.out) hb); replace BK111 := Aside0.mk (blk_below (g := gb111) (o := .cells #[.int .i64 t109, .int .i64 t110] 41 (0, 0)) (by refine bd ?_; refine blk_put (cs := #[.int .i64 t109, .int .i64 0]) ?_ 1 _ rfl; refine bd ?_; refine blk_put (cs := #[.int .i64 0, .int .i64 0]) ?_ 0 _ rfl; refine bd ?_; exact BK111.out) hb); replace HB := bz hb; (try clear hb); obtain ⟨hcz48_0, hcz48_1, hfz48_0, hfz48_1⟩ := b2 BK108; obtain ⟨hcz49_0, hcz49_1, hfz49_0, hfz49_1⟩ := b2 BK111; obtain ⟨hcz50_0, hcz50_1, hfz50_0, hfz50_1⟩ := b2 BK107) | (go_at_call 59; (with_reducible refine (cracknelref04_On.calls t105 t106 t109 t110 ((rd_T41 l0 x5_2).f0) ((rd_T41 l0 x5_2).f1) t113 _ A40.out).mono ?_); rintro e w51 ⟨rfl, hb⟩; replace BK107 := kb BK107 hb; replace BK108 := kb BK108 hb; replace BK111 := kb BK111 hb; replace HB := bz hb; (try clear hb)))
         go_meet
         case rel => exact ⟨_, (t113), sd, H', ⟨by have := HK1.out; have := HK2.out; first | omega | exact Nat.le_refl _⟩, ⟨bk BK107⟩, ⟨bk BK108⟩, ⟨bk BK111⟩, ⟨bh⟩⟩
       case rest =>
        clear HC16
        (try clear hcz30_0); (try clear hcz30_1); (try clear hfz30_0); (try clear hfz30_1)
        obtain ⟨kq, x50_15, rfl, HA, HJ15, BK107, BK108, BK111, HB⟩ := hcut
        cases kq with
        | zero => exact absurd HA.out (by simp [cracknelref04_Simple.j2])
        | succ kj15 =>
         have H := HA.out
         clear HA
         simp only [cracknelref04_Simple.j2] at H
         by_cases c52 : x50_15 = true
         ·subst c52
          rw [if_pos rfl] at H
          obtain rfl := Option.some.inj H
          go_wp2
          go_ret
          exact ⟨by exact er, bh⟩
         ·replace c52 := Bool.eq_false_iff.mpr c52
          subst c52
          rw [if_neg (show ¬ (false = true) by decide)] at H
          have H' := Aside0.mk H
          clear H
          go_wp2
          go_loopg [9] kj15 (fun kq v9 w' => ∃ (x9_4 : Int), v9 = .int .i64 x9_4 ∧ Aside0 (cracknelref04_Simple.l2 kq l0 (l0.length : Int) x5_2 x9_4 ((rd_T41 l0 x5_2).f0) ((rd_T41 l0 x5_2).f1) t105 t106 = some r) ∧ Aside0 (kq ≤ kj15) ∧ Aside0 (w'.heap[gb107]? = some (.cells #[.int .i64 ((rd_T41 l0 x5_2).f0), .int .i64 ((rd_T41 l0 x5_2).f1)] 41 (0, 0))) ∧ Aside0 (w'.heap[gb108]? = some (.cells #[.int .i64 t105, .int .i64 t106] 41 (0, 0))) ∧ Aside0 (w'.heap[gb111]? = some (.cells #[.int .i64 t109, .int .i64 t110] 41 (0, 0))) ∧ Aside0 (Below w.heap.size w w'))
          case atStart => exact ⟨(wrap64 (x5_2 + 2)), sd, H', ⟨Nat.le_refl _⟩, ⟨bk BK107⟩, ⟨bk BK108⟩, ⟨bk BK111⟩, ⟨bh⟩⟩
          case round =>
           clear H'
           (try clear c52)
           obtain ⟨x9_4, rfl, HA, HK4, BK107, BK108, BK111, HB⟩ := hrel
           cases gk with
           | zero => exact absurd HA.out (by simp [cracknelref04_Simple.l2])
           | succ k4 =>
            have H := HA.out
            clear HA
            simp only [cracknelref04_Simple.l2] at H
            by_cases c53 : x9_4 < (l0.length : Int)
            ·rw [if_pos c53] at H
             have c53b0 := decide_eq_true c53
             clear c53
             obtain ⟨c54, H⟩ := oj H
             have c54b0 : ((l0.length : Int) == 0) = false := beq_eq_false_iff_ne.mpr c54
             have c54b1 : ((l0.length : Int) != 0) = true := bne_iff_ne.mpr c54
             have c54b2 : ¬ (l0 = []) := fun h_ => c54 (by rw [h_]; rfl)
             by_cases c55 : (Int.tmod (wrap64 (x9_4 + 1)) (l0.length : Int)) = x5_2
             ·rw [if_pos c55] at H
              have c55b0 : ((Int.tmod (wrap64 (x9_4 + 1)) (l0.length : Int)) == x5_2) = true := beq_iff_eq.mpr c55
              have c55b1 : ((Int.tmod (wrap64 (x9_4 + 1)) (l0.length : Int)) != x5_2) = false := bne_eq_false_iff_eq.mpr c55
              clear c55
              have H' := Aside0.mk H
              clear H
              try go_wp2
              replace BK107 := Aside0.mk (blk_drew BK107.out)
              replace BK108 := Aside0.mk (blk_drew BK108.out)
              replace BK111 := Aside0.mk (blk_drew BK111.out)
              replace HB := Aside0.mk (below_drew1 HB.out)
              refine start_ (n := 18) (S := fun w' => True) (ds := []) #[N,N,N,N,N,N,N,N,N,N,N,N,N,N,N,N,N,N] (by kernel_rfl) rfl rfl trivial (fun hHeld => ?_); refine with_tabW cracknelref04_Simple.tab17 cracknelref04_Simple.bits17 (fun HT_ HW_ => ?_)
              generalize wr.drew = w56 at BK107 BK108 BK111 HB hHeld ⊢
              refine pu 0 58 HT_ ?_
              refine pu 1 59 HT_ ?_
              refine pu 2 60 HT_ ?_
              refine pu 3 61 HT_ ?_
              refine pu 4 62 HT_ ?_
              refine pu 5 63 HT_ ?_
              refine pu 6 64 HT_ ?_
              refine pz 7 65 HT_ ?_
              refine pz 8 66 HT_ ?_
              refine pz 9 67 HT_ ?_
              refine pz 10 68 HT_ ?_
              refine pz 11 69 HT_ ?_
              refine pz 12 70 HT_ ?_
              refine pz 13 71 HT_ ?_
              refine pz 14 72 HT_ ?_
              refine pz 15 73 HT_ ?_
              refine pz 16 74 HT_ ?_
              refine pu 17 75 HT_ ?_
              refine done_ (done_of HT_.out (by kernel_rfl)) ?_
              try go_wp2
              go_roundg k4
              case measure => have := HK1.out; have := HK2.out; have := HJ15.out; have := HK4.out; omega
              case rel => exact ⟨(wrap64 (x9_4 + 1)), sd, H', ⟨by have := HK1.out; have := HK2.out; have := HJ15.out; have := HK4.out; omega⟩, ⟨bk BK107⟩, ⟨bk BK108⟩, ⟨bk BK111⟩, ⟨bh⟩⟩
             ·rw [if_neg c55] at H
              have c55b0 : ((Int.tmod (wrap64 (x9_4 + 1)) (l0.length : Int)) == x5_2) = false := beq_eq_false_iff_ne.mpr c55
              have c55b1 : ((Int.tmod (wrap64 (x9_4 + 1)) (l0.length : Int)) != x5_2) = true := bne_iff_ne.mpr c55
              obtain ⟨c57, H⟩ := oi H
              have c57b0 := decide_eq_true c57
              clear c57
              obtain ⟨c58, H⟩ := oi H
              have c58b0 := decide_eq_true c58
              clear c58
              replace H := Option.bind_eq_some_iff.mp H
              obtain ⟨⟨t115, t116⟩, A590, H⟩ := H
              try dsimp only at H
              have A59 := Aside0.mk A590
              clear A590
              replace H := Option.bind_eq_some_iff.mp H
              obtain ⟨t117, A600, H⟩ := H
              try dsimp only at H
              have A60 := Aside0.mk A600
              clear A600
              by_cases c61 : t117 = true
              ·subst c61
               rw [if_pos rfl] at H
               obtain rfl := Option.some.inj H
               try go_wp2
               replace BK107 := Aside0.mk (blk_drew BK107.out)
               replace BK108 := Aside0.mk (blk_drew BK108.out)
               replace BK111 := Aside0.mk (blk_drew BK111.out)
               replace HB := Aside0.mk (below_drew1 HB.out)
               have p114 : 0 ≤ (x9_4 : Int) := dt
               have q114 : x9_4 < (l0.length : Int) := dt
               obtain ⟨ad114, e114, hx114_0, hx114_1⟩ := at_T41 HR0.out x9_4 p114 q114
               have hw114_1 := hx114_1
               have hw114_0 := hx114_0
               obtain rfl : ad104 = ad114 := (by injection e114)
               replace hx114_0 := hc HB hx114_0
               replace hx114_1 := hc HB hx114_1
               replace p114 := eq_true p114
               replace q114 := eq_true q114
               refine start_ (n := 18) (S := fun w' => w'.cell? ⟨gb107, 0, none⟩ = some (.int .i64 ((rd_T41 l0 x5_2).f0)) ∧ w'.cell? ⟨gb107, 1, none⟩ = some (.int .i64 ((rd_T41 l0 x5_2).f1)) ∧ w'.cell? ⟨gb108, 0, none⟩ = some (.int .i64 t105) ∧ w'.cell? ⟨gb108, 1, none⟩ = some (.int .i64 t106) ∧ w'.cell? (ad104.add ((x9_4).toNat * 2)) = some (.int .i64 ((rd_T41 l0 x9_4).f0)) ∧ w'.cell? ⟨(ad104.add ((x9_4).toNat * 2)).block, (ad104.add ((x9_4).toNat * 2)).off + 1, none⟩ = some (.int .i64 ((rd_T41 l0 x9_4).f1))) (ds := []) #[N,N,N,N,N,N,N,N,N,N,N,N,N,N,N,N,N,N] (by kernel_rfl) rfl rfl ⟨bc BK107 0, bc BK107 1, bc BK108 0, bc BK108 1, (hc HB hw114_0), (hc HB hw114_1)⟩ (fun hHeld => ?_); refine with_tabW cracknelref04_Simple.tab17 cracknelref04_Simple.bits17 (fun HT_ HW_ => ?_)
               generalize wr.drew = w62 at BK107 BK108 BK111 HB hx114_0 hx114_1 hHeld ⊢
               refine pu 0 58 HT_ ?_
               refine pu 1 59 HT_ ?_
               refine pu 2 60 HT_ ?_
               refine pu 3 61 HT_ ?_
               refine pu 4 62 HT_ ?_
               refine pu 5 63 HT_ ?_
               refine pu 6 64 HT_ ?_
               refine pu 9 67 HT_ ?_
               refine pu 10 68 HT_ ?_
               refine pu 11 69 HT_ ?_
               refine pu 13 71 HT_ ?_
               refine pu 14 72 HT_ ?_
               refine tk6 7 65 hHeld HT_ HW_ ?_
               refine tk6 8 66 hHeld HT_ HW_ ?_
               refine tk6 12 70 hHeld HT_ HW_ ?_
               refine one_ (i := 15) (N := some 73) #[T,T,T,T,T,T,T,T,T,T,T,T,T,T,T,T,N,N] rfl rfl (on1 HT_) (by decide) (fun K hK => ?_)
               refine goes_ Try.func58 (by kernel_rfl) rfl #[.slice (some ad104) l0.length c0, .int .i64 x9_4] (by rfl) rfl rfl sg ?_
               with_reducible refine (cracknelref04_next.calls _ _ l0 x9_4 t115 t116 _ ?side1 ?side2 A59.out).mono ?_
               (case side1 => exact cs (Kd.C_below HR0.out HB.out))
               (case side2 => exact HC0.out)
               rintro e w63 ⟨rfl, hb⟩
               refine ⟨_, rfl, ?_⟩
               replace BK107 := kb BK107 hb
               replace BK108 := kb BK108 hb
               replace BK111 := kb BK111 hb
               replace HB := bz hb
               (try clear hb)
               refine hK.out _ _ ⟨bc BK107 0, bc BK107 1, bc BK108 0, bc BK108 1, (hc HB hw114_0), (hc HB hw114_1)⟩ (fun hHeld => ?_)
               clear hK K
               refine nm 73 ?_
               refine one_ (i := 16) (N := some 74) #[T,T,T,T,T,T,T,T,T,T,T,T,T,T,T,T,T,N] rfl rfl (on1 HT_) (by decide) (fun K hK => ?_)
               refine goes_ Try.func60 (by kernel_rfl) rfl #[.agg #[.int .i64 ((rd_T41 l0 x5_2).f0), .int .i64 ((rd_T41 l0 x5_2).f1)], .agg #[.int .i64 t105, .int .i64 t106], .agg #[.int .i64 ((rd_T41 l0 x9_4).f0), .int .i64 ((rd_T41 l0 x9_4).f1)], .agg #[.int .i64 t115, .int .i64 t116]] (by rfl) rfl rfl sg ?_
               with_reducible refine (cracknelref04_Meet.calls k4 ((rd_T41 l0 x5_2).f0) ((rd_T41 l0 x5_2).f1) t105 t106 ((rd_T41 l0 x9_4).f0) ((rd_T41 l0 x9_4).f1) t115 t116 true _ A60.out).mono ?_
               rintro e w64 ⟨rfl, hb⟩
               refine ⟨_, rfl, ?_⟩
               replace BK107 := kb BK107 hb
               replace BK108 := kb BK108 hb
               replace BK111 := kb BK111 hb
               replace HB := bz hb
               (try clear hb)
               refine hK.out _ _ ⟨bc BK107 0, bc BK107 1, bc BK108 0, bc BK108 1, (hc HB hw114_0), (hc HB hw114_1)⟩ (fun hHeld => ?_)
               clear hK K
               refine nm 74 ?_
               refine pu 17 75 HT_ ?_
               refine done_ (done_of HT_.out (by kernel_rfl)) ?_
               try go_wp2
               go_ret
               exact ⟨by exact er, bh⟩
              ·replace c61 := Bool.eq_false_iff.mpr c61
               subst c61
               rw [if_neg (show ¬ (false = true) by decide)] at H
               have H' := Aside0.mk H
               clear H
               try go_wp2
               replace BK107 := Aside0.mk (blk_drew BK107.out)
               replace BK108 := Aside0.mk (blk_drew BK108.out)
               replace BK111 := Aside0.mk (blk_drew BK111.out)
               replace HB := Aside0.mk (below_drew1 HB.out)
               have p114 : 0 ≤ (x9_4 : Int) := dt
               have q114 : x9_4 < (l0.length : Int) := dt
               obtain ⟨ad114, e114, hx114_0, hx114_1⟩ := at_T41 HR0.out x9_4 p114 q114
               have hw114_1 := hx114_1
               have hw114_0 := hx114_0
               obtain rfl : ad104 = ad114 := (by injection e114)
               replace hx114_0 := hc HB hx114_0
               replace hx114_1 := hc HB hx114_1
               replace p114 := eq_true p114
               replace q114 := eq_true q114
               refine start_ (n := 18) (S := fun w' => w'.cell? ⟨gb107, 0, none⟩ = some (.int .i64 ((rd_T41 l0 x5_2).f0)) ∧ w'.cell? ⟨gb107, 1, none⟩ = some (.int .i64 ((rd_T41 l0 x5_2).f1)) ∧ w'.cell? ⟨gb108, 0, none⟩ = some (.int .i64 t105) ∧ w'.cell? ⟨gb108, 1, none⟩ = some (.int .i64 t106) ∧ w'.cell? (ad104.add ((x9_4).toNat * 2)) = some (.int .i64 ((rd_T41 l0 x9_4).f0)) ∧ w'.cell? ⟨(ad104.add ((x9_4).toNat * 2)).block, (ad104.add ((x9_4).toNat * 2)).off + 1, none⟩ = some (.int .i64 ((rd_T41 l0 x9_4).f1))) (ds := []) #[N,N,N,N,N,N,N,N,N,N,N,N,N,N,N,N,N,N] (by kernel_rfl) rfl rfl ⟨bc BK107 0, bc BK107 1, bc BK108 0, bc BK108 1, (hc HB hw114_0), (hc HB hw114_1)⟩ (fun hHeld => ?_); refine with_tabW cracknelref04_Simple.tab17 cracknelref04_Simple.bits17 (fun HT_ HW_ => ?_)
               generalize wr.drew = w65 at BK107 BK108 BK111 HB hx114_0 hx114_1 hHeld ⊢
               refine pu 0 58 HT_ ?_
               refine pu 1 59 HT_ ?_
               refine pu 2 60 HT_ ?_
               refine pu 3 61 HT_ ?_
               refine pu 4 62 HT_ ?_
               refine pu 5 63 HT_ ?_
               refine pu 6 64 HT_ ?_
               refine pu 9 67 HT_ ?_
               refine pu 10 68 HT_ ?_
               refine pu 11 69 HT_ ?_
               refine pu 13 71 HT_ ?_
               refine pu 14 72 HT_ ?_
               refine tk6 7 65 hHeld HT_ HW_ ?_
               refine tk6 8 66 hHeld HT_ HW_ ?_
               refine tk6 12 70 hHeld HT_ HW_ ?_
               refine one_ (i := 15) (N := some 73) #[T,T,T,T,T,T,T,T,T,T,T,T,T,T,T,T,N,N] rfl rfl (on1 HT_) (by decide) (fun K hK => ?_)
               refine goes_ Try.func58 (by kernel_rfl) rfl #[.slice (some ad104) l0.length c0, .int .i64 x9_4] (by rfl) rfl rfl sg ?_
               with_reducible refine (cracknelref04_next.calls _ _ l0 x9_4 t115 t116 _ ?side1 ?side2 A59.out).mono ?_
               (case side1 => exact cs (Kd.C_below HR0.out HB.out))
               (case side2 => exact HC0.out)
               rintro e w66 ⟨rfl, hb⟩
               refine ⟨_, rfl, ?_⟩
               replace BK107 := kb BK107 hb
               replace BK108 := kb BK108 hb
               replace BK111 := kb BK111 hb
               replace HB := bz hb
               (try clear hb)
               refine hK.out _ _ ⟨bc BK107 0, bc BK107 1, bc BK108 0, bc BK108 1, (hc HB hw114_0), (hc HB hw114_1)⟩ (fun hHeld => ?_)
               clear hK K
               refine nm 73 ?_
               refine one_ (i := 16) (N := some 74) #[T,T,T,T,T,T,T,T,T,T,T,T,T,T,T,T,T,N] rfl rfl (on1 HT_) (by decide) (fun K hK => ?_)
               refine goes_ Try.func60 (by kernel_rfl) rfl #[.agg #[.int .i64 ((rd_T41 l0 x5_2).f0), .int .i64 ((rd_T41 l0 x5_2).f1)], .agg #[.int .i64 t105, .int .i64 t106], .agg #[.int .i64 ((rd_T41 l0 x9_4).f0), .int .i64 ((rd_T41 l0 x9_4).f1)], .agg #[.int .i64 t115, .int .i64 t116]] (by rfl) rfl rfl sg ?_
               with_reducible refine (cracknelref04_Meet.calls k4 ((rd_T41 l0 x5_2).f0) ((rd_T41 l0 x5_2).f1) t105 t106 ((rd_T41 l0 x9_4).f0) ((rd_T41 l0 x9_4).f1) t115 t116 false _ A60.out).mono ?_
               rintro e w67 ⟨rfl, hb⟩
               refine ⟨_, rfl, ?_⟩
               replace BK107 := kb BK107 hb
               replace BK108 := kb BK108 hb
               replace BK111 := kb BK111 hb
               replace HB := bz hb
               (try clear hb)
               refine hK.out _ _ ⟨bc BK107 0, bc BK107 1, bc BK108 0, bc BK108 1, (hc HB hw114_0), (hc HB hw114_1)⟩ (fun hHeld => ?_)
               clear hK K
               refine nm 74 ?_
               refine pu 17 75 HT_ ?_
               refine done_ (done_of HT_.out (by kernel_rfl)) ?_
               try go_wp2
               go_roundg k4
               case measure => have := HK1.out; have := HK2.out; have := HJ15.out; have := HK4.out; omega
               case rel => exact ⟨(wrap64 (x9_4 + 1)), sd, H', ⟨by have := HK1.out; have := HK2.out; have := HJ15.out; have := HK4.out; omega⟩, ⟨bk BK107⟩, ⟨bk BK108⟩, ⟨bk BK111⟩, ⟨bh⟩⟩
            ·rw [if_neg c53] at H
             have c53b0 := decide_eq_false c53
             clear c53
             have H' := Aside0.mk H
             clear H
             go_wp2
             go_roundg k4
             case measure => have := HK1.out; have := HK2.out; have := HJ15.out; have := HK4.out; omega
             case rel => exact ⟨(wrap64 (x5_2 + 1)), sd, H', ⟨by have := HK1.out; have := HK2.out; have := HJ15.out; have := HK4.out; omega⟩, ⟨bh⟩⟩
      ·rw [if_neg c11] at H
       have c11b0 := decide_eq_false c11
       clear c11
       obtain rfl := Option.some.inj H
       go_wp2
       go_ret
       exact ⟨by exact er, bh⟩
/-! ### cracknelref04_Valid: function 86 -/
def cracknelref04_Valid.f (a0_0 : Int) (a0_1 : Int) (a1 : Int) : Option (Bool) := (cracknelref04_in.f a0_0 (wrap64 (-a1)) a1).bind fun t102 => (if t102 = true then ((cracknelref04_in.f a0_1 (wrap64 (-a1)) a1).bind fun t103 => (some t103)) else (some false))
set_option maxHeartbeats 8000000 in
set_option maxRecDepth 100000 in
theorem cracknelref04_Valid.calls (a0_0 : Int) (a0_1 : Int) (a1 : Int) (r : Bool) (w : World) (h : cracknelref04_Valid.f a0_0 a0_1 a1 = some r) :
  Calls Try.prog 86 #[.agg #[.int .i64 a0_0, .int .i64 a0_1], .int .i64 a1] w fun e w' => e = .returned (.bool r) ∧ Below w.heap.size w w' := by
 have hu41 := Try.underlying41
 have HB := Aside0.mk (Below.refl w.heap.size w)
 have H : ((cracknelref04_in.f a0_0 (wrap64 (-a1)) a1).bind fun t102 => (if t102 = true then ((cracknelref04_in.f a0_1 (wrap64 (-a1)) a1).bind fun t103 => (some t103)) else (some false))) = some r := h
 clear h
 replace H := Option.bind_eq_some_iff.mp H
 obtain ⟨t102, A30, H⟩ := H
 try dsimp only at H
 have A3 := Aside0.mk A30
 clear A30
 by_cases c4 : t102 = true
 ·subst c4
  rw [if_pos rfl] at H
  replace H := Option.bind_eq_some_iff.mp H
  obtain ⟨t103, A50, H⟩ := H
  try dsimp only at H
  have A5 := Aside0.mk A50
  clear A50
  obtain rfl := Option.some.inj H
  go_enter Try.func86, Try.ntmps86
  go_wp2_with (first | ((with_reducible refine gate_dst (N := 2) rfl ?_); refine bxe 2 #[.int .i64 a0_0, .int .i64 a0_1] 41 ?_; intro gb101 hg w6 hbox hb; have BK101 := Aside0.mk (hbox); have GW101 := ga w hg; have GE101 := GW101; replace HB := bz hb; clear hb hbox hg; obtain ⟨hcz7_0, hcz7_1, hfz7_0, hfz7_1⟩ := b2 BK101) | ((with_reducible refine gc 42 rfl ?_); refine goesL_ (some 10) rfl rfl Try.func42 (by kernel_rfl) rfl #[.int .i64 a0_0, .int .i64 (wrap64 (-a1)), .int .i64 a1] rfl sg ?_; (with_reducible refine (cracknelref04_in.calls a0_0 (wrap64 (-a1)) a1 true _ A3.out).mono ?_); rintro e w' ⟨rfl, ⟨nd, rfl⟩⟩; refine ⟨_, rfl, ?_⟩) | (go_at_call 42; (with_reducible refine (cracknelref04_in.calls a0_1 (wrap64 (-a1)) a1 t103 _ A5.out).mono ?_); rintro e w' ⟨rfl, ⟨nd, rfl⟩⟩))
  go_ret
  exact ⟨by exact er, bh⟩
 ·replace c4 := Bool.eq_false_iff.mpr c4
  subst c4
  rw [if_neg (show ¬ (false = true) by decide)] at H
  obtain rfl := Option.some.inj H
  go_enter Try.func86, Try.ntmps86
  go_wp2_with (first | ((with_reducible refine gate_dst (N := 2) rfl ?_); refine bxe 2 #[.int .i64 a0_0, .int .i64 a0_1] 41 ?_; intro gb101 hg w8 hbox hb; have BK101 := Aside0.mk (hbox); have GW101 := ga w hg; have GE101 := GW101; replace HB := bz hb; clear hb hbox hg; obtain ⟨hcz9_0, hcz9_1, hfz9_0, hfz9_1⟩ := b2 BK101) | ((with_reducible refine gc 42 rfl ?_); refine goesL_ (some 10) rfl rfl Try.func42 (by kernel_rfl) rfl #[.int .i64 a0_0, .int .i64 (wrap64 (-a1)), .int .i64 a1] rfl sg ?_; (with_reducible refine (cracknelref04_in.calls a0_0 (wrap64 (-a1)) a1 false _ A3.out).mono ?_); rintro e w' ⟨rfl, ⟨nd, rfl⟩⟩; refine ⟨_, rfl, ?_⟩))
  go_ret
  exact ⟨by exact er, bh⟩
/-! ### cracknelref04_Polygon: function 39 -/
def cracknelref04_Polygon.l0 : Nat → List (S41) → Int → Option (Bool)
 | 0, _, _ => none
 | k + 1, x0, x3 => if x3 < (x0.length : Int) then (if 0 ≤ x3 then ((cracknelref04_Valid.f ((rd_T41 x0 x3).f0) ((rd_T41 x0 x3).f1) 10000).bind fun t103 => (if t103 = true then (cracknelref04_Polygon.l0 k x0 (wrap64 (x3 + 1))) else (some false))) else (none)) else ((cracknelref04_in.f (x0.length : Int) 3 32).bind fun t101 => (some t101))
def cracknelref04_Polygon.f (k : Nat) (l0 : List (S41)) : Option (Bool) := cracknelref04_Polygon.l0 k l0 0
set_option maxHeartbeats 8000000 in
set_option maxRecDepth 100000 in
theorem cracknelref04_Polygon.calls (k : Nat) (A0 : Option Addr) (c0 : Nat) (l0 : List (S41)) (r : Bool) (w : World) (hr0 : Kd.C k41 w A0 l0.length l0) (hc0 : l0.length ≤ c0) (h : cracknelref04_Polygon.f k l0 = some r) :
  Calls Try.prog 39 #[.slice A0 l0.length c0] w fun e w' => e = .returned (.bool r) ∧ Below w.heap.size w w' := by
 have hu41 := Try.underlying41
 have HR0 := Aside0.mk hr0
 have HC0 := Aside0.mk hc0
 clear hr0 hc0
 have HB := Aside0.mk (Below.refl w.heap.size w)
 have H : (cracknelref04_Polygon.l0 k l0 0) = some r := h
 clear h
 have H' := Aside0.mk H
 clear H
 go_enter Try.func39, Try.ntmps39
 go_wp2
 go_loopg [3] k (fun kq v3 w' => ∃ (x3_1 : Int), v3 = .int .i64 x3_1 ∧ Aside0 (cracknelref04_Polygon.l0 kq l0 x3_1 = some r) ∧ Aside0 (kq ≤ k) ∧ Aside0 (Below w.heap.size w w'))
 case atStart => exact ⟨(0), sd, H', ⟨Nat.le_refl _⟩, ⟨bh⟩⟩
 case round =>
  clear H'
  obtain ⟨x3_1, rfl, HA, HK1, HB⟩ := hrel
  cases gk with
  | zero => exact absurd HA.out (by simp [cracknelref04_Polygon.l0])
  | succ k1 =>
   have H := HA.out
   clear HA
   simp only [cracknelref04_Polygon.l0] at H
   by_cases c2 : x3_1 < (l0.length : Int)
   ·rw [if_pos c2] at H
    have c2b0 := decide_eq_true c2
    clear c2
    obtain ⟨c3, H⟩ := oi H
    have c3b0 := decide_eq_true c3
    clear c3
    replace H := Option.bind_eq_some_iff.mp H
    obtain ⟨t103, A40, H⟩ := H
    try dsimp only at H
    have A4 := Aside0.mk A40
    clear A40
    by_cases c5 : t103 = true
    ·subst c5
     rw [if_pos rfl] at H
     have H' := Aside0.mk H
     clear H
     have p102 : 0 ≤ (x3_1 : Int) := dt
     have q102 : x3_1 < (l0.length : Int) := dt
     obtain ⟨ad102, e102, hx102_0, hx102_1⟩ := at_T41 HR0.out x3_1 p102 q102
     cases e102
     replace hx102_0 := hc HB hx102_0
     replace hx102_1 := hc HB hx102_1
     replace p102 := eq_true p102
     replace q102 := eq_true q102
     go_wp2_with (first | ((with_reducible refine gc 86 rfl ?_); refine goesL_ (some 14) rfl rfl Try.func86 (by kernel_rfl) rfl #[.agg #[.int .i64 ((rd_T41 l0 x3_1).f0), .int .i64 ((rd_T41 l0 x3_1).f1)], .int .i64 10000] rfl sg ?_; (with_reducible refine (cracknelref04_Valid.calls ((rd_T41 l0 x3_1).f0) ((rd_T41 l0 x3_1).f1) 10000 true _ A4.out).mono ?_); rintro e w6 ⟨rfl, hb⟩; refine ⟨_, rfl, ?_⟩; replace HB := bz hb; (try clear hb)))
     go_roundg k1
     case measure => have := HK1.out; omega
     case rel => exact ⟨(wrap64 (x3_1 + 1)), sd, H', ⟨by have := HK1.out; omega⟩, ⟨bh⟩⟩
    ·replace c5 := Bool.eq_false_iff.mpr c5
     subst c5
     rw [if_neg (show ¬ (false = true) by decide)] at H
     obtain rfl := Option.some.inj H
     have p102 : 0 ≤ (x3_1 : Int) := dt
     have q102 : x3_1 < (l0.length : Int) := dt
     obtain ⟨ad102, e102, hx102_0, hx102_1⟩ := at_T41 HR0.out x3_1 p102 q102
     cases e102
     replace hx102_0 := hc HB hx102_0
     replace hx102_1 := hc HB hx102_1
     replace p102 := eq_true p102
     replace q102 := eq_true q102
     go_wp2_with (first | ((with_reducible refine gc 86 rfl ?_); refine goesL_ (some 14) rfl rfl Try.func86 (by kernel_rfl) rfl #[.agg #[.int .i64 ((rd_T41 l0 x3_1).f0), .int .i64 ((rd_T41 l0 x3_1).f1)], .int .i64 10000] rfl sg ?_; (with_reducible refine (cracknelref04_Valid.calls ((rd_T41 l0 x3_1).f0) ((rd_T41 l0 x3_1).f1) 10000 false _ A4.out).mono ?_); rintro e w7 ⟨rfl, hb⟩; refine ⟨_, rfl, ?_⟩; replace HB := bz hb; (try clear hb)))
     go_ret
     exact ⟨by exact er, bh⟩
   ·rw [if_neg c2] at H
    have c2b0 := decide_eq_false c2
    clear c2
    replace H := Option.bind_eq_some_iff.mp H
    obtain ⟨t101, A80, H⟩ := H
    try dsimp only at H
    have A8 := Aside0.mk A80
    clear A80
    obtain rfl := Option.some.inj H
    go_wp2_with (first | ((with_reducible refine gc 42 rfl ?_); refine goesL_ (some 18) rfl rfl Try.func42 (by kernel_rfl) rfl #[.int .i64 (l0.length : Int), .int .i64 3, .int .i64 32] rfl sg ?_; (with_reducible refine (cracknelref04_in.calls (l0.length : Int) 3 32 t101 _ A8.out).mono ?_); rintro e w' ⟨rfl, ⟨nd, rfl⟩⟩; refine ⟨_, rfl, ?_⟩))
    go_ret
    exact ⟨by exact er, bh⟩
/-! ### cracknellaw04_simple: function 11 -/
def cracknellaw04_simple.f (k : Nat) (l0 : List (S41)) : Option (Int) := (cracknelref04_Polygon.f k l0).bind fun t101 => (if t101 = true then ((cracknelref04_Simple.f k l0).bind fun t102 => (if t102 = true then (some 0) else (some 2))) else (some 1))
set_option maxHeartbeats 8000000 in
set_option maxRecDepth 100000 in
theorem cracknellaw04_simple.calls (k : Nat) (A0 : Option Addr) (c0 : Nat) (l0 : List (S41)) (r : Int) (w : World) (hr0 : Kd.C k41 w A0 l0.length l0) (hc0 : l0.length ≤ c0) (h : cracknellaw04_simple.f k l0 = some r) :
  Calls Try.prog 11 #[.slice A0 l0.length c0] w fun e w' => e = .returned (.int .i64 r) ∧ Below w.heap.size w w' := by
 have HR0 := Aside0.mk hr0
 have HC0 := Aside0.mk hc0
 clear hr0 hc0
 have HB := Aside0.mk (Below.refl w.heap.size w)
 have H : ((cracknelref04_Polygon.f k l0).bind fun t101 => (if t101 = true then ((cracknelref04_Simple.f k l0).bind fun t102 => (if t102 = true then (some 0) else (some 2))) else (some 1))) = some r := h
 clear h
 replace H := Option.bind_eq_some_iff.mp H
 obtain ⟨t101, A20, H⟩ := H
 try dsimp only at H
 have A2 := Aside0.mk A20
 clear A20
 by_cases c3 : t101 = true
 ·subst c3
  rw [if_pos rfl] at H
  replace H := Option.bind_eq_some_iff.mp H
  obtain ⟨t102, A40, H⟩ := H
  try dsimp only at H
  have A4 := Aside0.mk A40
  clear A40
  by_cases c5 : t102 = true
  ·subst c5
   rw [if_pos rfl] at H
   obtain rfl := Option.some.inj H
   go_enter Try.func11, Try.ntmps11
   go_wp2_with (first | ((with_reducible refine gc 39 rfl ?_); refine goesL_ (some 4) rfl rfl Try.func39 (by kernel_rfl) rfl #[.slice A0 l0.length c0] rfl sg ?_; (with_reducible refine (cracknelref04_Polygon.calls k _ _ l0 true _ ?side1 ?side2 A2.out).mono ?_); (case side1 => exact cs HR0.out); (case side2 => exact HC0.out); rintro e w6 ⟨rfl, hb⟩; refine ⟨_, rfl, ?_⟩; replace HB := bz hb; (try clear hb)) | ((with_reducible refine gc 27 rfl ?_); refine goesL_ (some 7) rfl rfl Try.func27 (by kernel_rfl) rfl #[.slice A0 l0.length c0] rfl sg ?_; (with_reducible refine (cracknelref04_Simple.calls k _ _ l0 true _ ?side1 ?side2 A4.out).mono ?_); (case side1 => exact cs (Kd.C_below HR0.out HB.out)); (case side2 => exact HC0.out); rintro e w7 ⟨rfl, hb⟩; refine ⟨_, rfl, ?_⟩; replace HB := bz hb; (try clear hb)))
   go_ret
   exact ⟨by exact er, bh⟩
  ·replace c5 := Bool.eq_false_iff.mpr c5
   subst c5
   rw [if_neg (show ¬ (false = true) by decide)] at H
   obtain rfl := Option.some.inj H
   go_enter Try.func11, Try.ntmps11
   go_wp2_with (first | ((with_reducible refine gc 39 rfl ?_); refine goesL_ (some 4) rfl rfl Try.func39 (by kernel_rfl) rfl #[.slice A0 l0.length c0] rfl sg ?_; (with_reducible refine (cracknelref04_Polygon.calls k _ _ l0 true _ ?side1 ?side2 A2.out).mono ?_); (case side1 => exact cs HR0.out); (case side2 => exact HC0.out); rintro e w8 ⟨rfl, hb⟩; refine ⟨_, rfl, ?_⟩; replace HB := bz hb; (try clear hb)) | ((with_reducible refine gc 27 rfl ?_); refine goesL_ (some 7) rfl rfl Try.func27 (by kernel_rfl) rfl #[.slice A0 l0.length c0] rfl sg ?_; (with_reducible refine (cracknelref04_Simple.calls k _ _ l0 false _ ?side1 ?side2 A4.out).mono ?_); (case side1 => exact cs (Kd.C_below HR0.out HB.out)); (case side2 => exact HC0.out); rintro e w9 ⟨rfl, hb⟩; refine ⟨_, rfl, ?_⟩; replace HB := bz hb; (try clear hb)))
   go_ret
   exact ⟨by exact er, bh⟩
 ·replace c3 := Bool.eq_false_iff.mpr c3
  subst c3
  rw [if_neg (show ¬ (false = true) by decide)] at H
  obtain rfl := Option.some.inj H
  go_enter Try.func11, Try.ntmps11
  go_wp2_with (first | ((with_reducible refine gc 39 rfl ?_); refine goesL_ (some 4) rfl rfl Try.func39 (by kernel_rfl) rfl #[.slice A0 l0.length c0] rfl sg ?_; (with_reducible refine (cracknelref04_Polygon.calls k _ _ l0 false _ ?side1 ?side2 A2.out).mono ?_); (case side1 => exact cs HR0.out); (case side2 => exact HC0.out); rintro e w10 ⟨rfl, hb⟩; refine ⟨_, rfl, ?_⟩; replace HB := bz hb; (try clear hb)))
  go_ret
  exact ⟨by exact er, bh⟩
/-! ### cracknelref04_parts: function 52 -/
mutual
def cracknelref04_parts.l0 : Nat → List (S41) → List (S41) → Int → Option (Bool)
 | 0, _, _, _ => none
 | k + 1, x0, x1, x5 => if x5 < (x0.length : Int) then (cracknelref04_parts.l1 k x0 x1 x5 true 0) else (some false)
def cracknelref04_parts.l1 : Nat → List (S41) → List (S41) → Int → Bool → Int → Option (Bool)
 | 0, _, _, _, _, _ => none
 | k + 1, x0, x1, x5, x6, x7 => if x7 < (x1.length : Int) then (if x6 = true then (if 0 ≤ x5 then (if x5 < (x0.length : Int) then ((cracknelref04_next.f x0 x5).bind fun bt102 => (if 0 ≤ x7 then ((cracknelref04_Cross.f ((rd_T41 x0 x5).f0) ((rd_T41 x0 x5).f1) bt102.1 bt102.2 ((rd_T41 x1 x7).f0) ((rd_T41 x1 x7).f1)).bind fun t105 => (cracknelref04_parts.l1 k x0 x1 x5 (decide (t105 ≤ 0)) (wrap64 (x7 + 1)))) else (none))) else (none)) else (none)) else (cracknelref04_parts.l1 k x0 x1 x5 false (wrap64 (x7 + 1)))) else (if x6 = true then (some true) else (cracknelref04_parts.l0 k x0 x1 (wrap64 (x5 + 1))))
end
def cracknelref04_parts.f (k : Nat) (l0 : List (S41)) (l1 : List (S41)) : Option (Bool) := cracknelref04_parts.l0 k l0 l1 0
def cracknelref04_parts.T8 : Bool × List (List Nat × List Nat) := (true, [([], []), ([0], [0]), ([1], [1]), ([1], [1]), ([2, 3, 1], [1, 2, 3]), ([4, 1], [1, 4]), ([1], [1]), ([1], [1]), ([6, 7, 1, 1], [1, 6, 7]), ([1], [1]), ([1], [1]), ([9, 10, 1], [1, 9, 10]), ([11, 1], [1, 11]), ([5, 8, 12, 8, 1], [1, 5, 8, 12]), ([13, 1], [1, 13]), ([1, 14], [1, 14]), ([15, 13, 0, 1, 2, 3, 4, 5, 6, 7, 8, 9, 10, 11, 12, 13, 14, 15], [0, 15])])
def cracknelref04_parts.B8 : List Nat := [0, 1, 3, 3, 15, 31, 3, 3, 195, 3, 3, 1539, 3587, 8191, 16383, 32767, 65535]
theorem cracknelref04_parts.tab8 : rtab .any (opsOf Try.f52 8) = cracknelref04_parts.T8 := by kernel_rfl
theorem cracknelref04_parts.bits8 : waitsOk cracknelref04_parts.T8.2 cracknelref04_parts.B8 = true := by kernel_rfl
set_option maxHeartbeats 8000000 in
set_option maxRecDepth 100000 in
theorem cracknelref04_parts.calls (k : Nat) (A0 : Option Addr) (c0 : Nat) (l0 : List (S41)) (A1 : Option Addr) (c1 : Nat) (l1 : List (S41)) (r : Bool) (w : World) (hr0 : Kd.C k41 w A0 l0.length l0) (hc0 : l0.length ≤ c0) (hr1 : Kd.C k41 w A1 l1.length l1) (hc1 : l1.length ≤ c1) (h : cracknelref04_parts.f k l0 l1 = some r) :
  Calls Try.prog 52 #[.slice A0 l0.length c0, .slice A1 l1.length c1] w fun e w' => e = .returned (.bool r) ∧ Below w.heap.size w w' := by
 have hu41 := Try.underlying41
 have HR0 := Aside0.mk hr0
 have HC0 := Aside0.mk hc0
 clear hr0 hc0
 have HR1 := Aside0.mk hr1
 have HC1 := Aside0.mk hc1
 clear hr1 hc1
 have HB := Aside0.mk (Below.refl w.heap.size w)
 have H : (cracknelref04_parts.l0 k l0 l1 0) = some r := h
 clear h
 have H' := Aside0.mk H
 clear H
 go_enter Try.func52, Try.ntmps52
 go_wp2
 go_loopg [5] k (fun kq v5 w' => ∃ (x5_1 : Int), v5 = .int .i64 x5_1 ∧ Aside0 (cracknelref04_parts.l0 kq l0 l1 x5_1 = some r) ∧ Aside0 (kq ≤ k) ∧ Aside0 (Below w.heap.size w w'))
 case atStart => exact ⟨(0), sd, H', ⟨Nat.le_refl _⟩, ⟨bh⟩⟩
 case round =>
  clear H'
  (try clear c1)
  obtain ⟨x5_1, rfl, HA, HK1, HB⟩ := hrel
  cases gk with
  | zero => exact absurd HA.out (by simp [cracknelref04_parts.l0])
  | succ k1 =>
   have H := HA.out
   clear HA
   simp only [cracknelref04_parts.l0] at H
   by_cases c3 : x5_1 < (l0.length : Int)
   ·rw [if_pos c3] at H
    have c3b0 := decide_eq_true c3
    clear c3
    have H' := Aside0.mk H
    clear H
    go_wp2
    go_loopg [6, 7] k1 (fun kq v6 v7 w' => ∃ (x6_2 : Bool) (x7_2 : Int), v6 = .bool x6_2 ∧ v7 = .int .i64 x7_2 ∧ Aside0 (cracknelref04_parts.l1 kq l0 l1 x5_1 x6_2 x7_2 = some r) ∧ Aside0 (kq ≤ k1) ∧ Aside0 (Below w.heap.size w w'))
    case atStart => exact ⟨(true), (0), sd, sd, H', ⟨Nat.le_refl _⟩, ⟨bh⟩⟩
    case round =>
     clear H'
     (try clear c3b0)
     obtain ⟨x6_2, x7_2, rfl, rfl, HA, HK2, HB⟩ := hrel
     cases gk with
     | zero => exact absurd HA.out (by simp [cracknelref04_parts.l1])
     | succ k2 =>
      have H := HA.out
      clear HA
      simp only [cracknelref04_parts.l1] at H
      by_cases c4 : x7_2 < (l1.length : Int)
      ·rw [if_pos c4] at H
       have c4b0 := decide_eq_true c4
       clear c4
       by_cases c5 : x6_2 = true
       ·subst c5
        rw [if_pos rfl] at H
        obtain ⟨c6, H⟩ := oi H
        have c6b0 := decide_eq_true c6
        clear c6
        obtain ⟨c7, H⟩ := oi H
        have c7b0 := decide_eq_true c7
        clear c7
        replace H := Option.bind_eq_some_iff.mp H
        obtain ⟨⟨t102, t103⟩, A80, H⟩ := H
        try dsimp only at H
        have A8 := Aside0.mk A80
        clear A80
        obtain ⟨c9, H⟩ := oi H
        have c9b0 := decide_eq_true c9
        clear c9
        replace H := Option.bind_eq_some_iff.mp H
        obtain ⟨t105, A100, H⟩ := H
        try dsimp only at H
        have A10 := Aside0.mk A100
        clear A100
        have H' := Aside0.mk H
        clear H
        try go_wp2
        replace HB := Aside0.mk (below_drew1 HB.out)
        have p101 : 0 ≤ (x5_1 : Int) := dt
        have q101 : x5_1 < (l0.length : Int) := dt
        obtain ⟨ad101, e101, hx101_0, hx101_1⟩ := at_T41 HR0.out x5_1 p101 q101
        have hw101_1 := hx101_1
        have hw101_0 := hx101_0
        cases e101
        replace hx101_0 := hc HB hx101_0
        replace hx101_1 := hc HB hx101_1
        replace p101 := eq_true p101
        replace q101 := eq_true q101
        have p104 : 0 ≤ (x7_2 : Int) := dt
        have q104 : x7_2 < (l1.length : Int) := dt
        obtain ⟨ad104, e104, hx104_0, hx104_1⟩ := at_T41 HR1.out x7_2 p104 q104
        have hw104_1 := hx104_1
        have hw104_0 := hx104_0
        cases e104
        replace hx104_0 := hc HB hx104_0
        replace hx104_1 := hc HB hx104_1
        replace p104 := eq_true p104
        replace q104 := eq_true q104
        refine start_ (n := 17) (S := fun w' => w'.cell? (ad101.add ((x5_1).toNat * 2)) = some (.int .i64 ((rd_T41 l0 x5_1).f0)) ∧ w'.cell? ⟨(ad101.add ((x5_1).toNat * 2)).block, (ad101.add ((x5_1).toNat * 2)).off + 1, none⟩ = some (.int .i64 ((rd_T41 l0 x5_1).f1)) ∧ w'.cell? (ad104.add ((x7_2).toNat * 2)) = some (.int .i64 ((rd_T41 l1 x7_2).f0)) ∧ w'.cell? ⟨(ad104.add ((x7_2).toNat * 2)).block, (ad104.add ((x7_2).toNat * 2)).off + 1, none⟩ = some (.int .i64 ((rd_T41 l1 x7_2).f1))) (ds := []) #[N,N,N,N,N,N,N,N,N,N,N,N,N,N,N,N,N] (by kernel_rfl) rfl rfl ⟨(hc HB hw101_0), (hc HB hw101_1), (hc HB hw104_0), (hc HB hw104_1)⟩ (fun hHeld => ?_); refine with_tabW cracknelref04_parts.tab8 cracknelref04_parts.bits8 (fun HT_ HW_ => ?_)
        generalize wr.drew = w11 at HB hx101_0 hx101_1 hx104_0 hx104_1 hHeld ⊢
        refine pu 0 20 HT_ ?_
        refine pu 1 21 HT_ ?_
        refine pu 2 22 HT_ ?_
        refine pu 3 23 HT_ ?_
        refine pu 4 24 HT_ ?_
        refine pu 6 26 HT_ ?_
        refine pu 7 27 HT_ ?_
        refine pu 9 29 HT_ ?_
        refine pu 10 30 HT_ ?_
        refine pu 11 31 HT_ ?_
        refine tk4 5 25 hHeld HT_ HW_ ?_
        refine tk4 12 32 hHeld HT_ HW_ ?_
        refine one_ (i := 8) (N := some 28) #[T,T,T,T,T,T,T,T,T,T,T,T,T,N,N,N,N] rfl rfl (on1 HT_) (by decide) (fun K hK => ?_)
        refine goes_ Try.func58 (by kernel_rfl) rfl #[.slice (some ad101) l0.length c0, .int .i64 x5_1] (by rfl) rfl rfl sg ?_
        with_reducible refine (cracknelref04_next.calls _ _ l0 x5_1 t102 t103 _ ?side1 ?side2 A8.out).mono ?_
        (case side1 => exact cs (Kd.C_below HR0.out HB.out))
        (case side2 => exact HC0.out)
        rintro e w12 ⟨rfl, hb⟩
        refine ⟨_, rfl, ?_⟩
        replace HB := bz hb
        (try clear hb)
        refine hK.out _ _ ⟨(hc HB hw101_0), (hc HB hw101_1), (hc HB hw104_0), (hc HB hw104_1)⟩ (fun hHeld => ?_)
        clear hK K
        refine nm 28 ?_
        refine one_ (i := 13) (N := some 33) #[T,T,T,T,T,T,T,T,T,T,T,T,T,T,N,N,N] rfl rfl (on1 HT_) (by decide) (fun K hK => ?_)
        refine goes_ Try.func31 (by kernel_rfl) rfl #[.agg #[.int .i64 ((rd_T41 l0 x5_1).f0), .int .i64 ((rd_T41 l0 x5_1).f1)], .agg #[.int .i64 t102, .int .i64 t103], .agg #[.int .i64 ((rd_T41 l1 x7_2).f0), .int .i64 ((rd_T41 l1 x7_2).f1)]] (by rfl) rfl rfl sg ?_
        with_reducible refine (cracknelref04_Cross.calls ((rd_T41 l0 x5_1).f0) ((rd_T41 l0 x5_1).f1) t102 t103 ((rd_T41 l1 x7_2).f0) ((rd_T41 l1 x7_2).f1) t105 _ A10.out).mono ?_
        rintro e w13 ⟨rfl, hb⟩
        refine ⟨_, rfl, ?_⟩
        replace HB := bz hb
        (try clear hb)
        refine hK.out _ _ ⟨(hc HB hw101_0), (hc HB hw101_1), (hc HB hw104_0), (hc HB hw104_1)⟩ (fun hHeld => ?_)
        clear hK K
        refine nm 33 ?_
        refine pu 14 34 HT_ ?_
        refine pu 15 35 HT_ ?_
        refine pu 16 6 HT_ ?_
        refine done_ (done_of HT_.out (by kernel_rfl)) ?_
        try go_wp2
        go_roundg k2
        case measure => have := HK1.out; have := HK2.out; omega
        case rel => exact ⟨(decide (t105 ≤ 0)), (wrap64 (x7_2 + 1)), sd, sd, H', ⟨by have := HK1.out; have := HK2.out; omega⟩, ⟨bh⟩⟩
       ·replace c5 := Bool.eq_false_iff.mpr c5
        subst c5
        rw [if_neg (show ¬ (false = true) by decide)] at H
        have H' := Aside0.mk H
        clear H
        try go_wp2
        replace HB := Aside0.mk (below_drew1 HB.out)
        refine start_ (n := 17) (S := fun w' => True) (ds := []) #[N,N,N,N,N,N,N,N,N,N,N,N,N,N,N,N,N] (by kernel_rfl) rfl rfl trivial (fun hHeld => ?_); refine with_tabW cracknelref04_parts.tab8 cracknelref04_parts.bits8 (fun HT_ HW_ => ?_)
        generalize wr.drew = w14 at HB hHeld ⊢
        refine pu 0 20 HT_ ?_
        refine pu 1 21 HT_ ?_
        refine pz 2 22 HT_ ?_
        refine pz 3 23 HT_ ?_
        refine pz 4 24 HT_ ?_
        refine pz 5 25 HT_ ?_
        refine pz 6 26 HT_ ?_
        refine pz 7 27 HT_ ?_
        refine pz 8 28 HT_ ?_
        refine pz 9 29 HT_ ?_
        refine pz 10 30 HT_ ?_
        refine pz 11 31 HT_ ?_
        refine pz 12 32 HT_ ?_
        refine pz 13 33 HT_ ?_
        refine pz 14 34 HT_ ?_
        refine pu 15 35 HT_ ?_
        refine pu 16 6 HT_ ?_
        refine done_ (done_of HT_.out (by kernel_rfl)) ?_
        try go_wp2
        go_roundg k2
        case measure => have := HK1.out; have := HK2.out; omega
        case rel => exact ⟨(false), (wrap64 (x7_2 + 1)), sd, sd, H', ⟨by have := HK1.out; have := HK2.out; omega⟩, ⟨bh⟩⟩
      ·rw [if_neg c4] at H
       have c4b0 := decide_eq_false c4
       clear c4
       by_cases c15 : x6_2 = true
       ·subst c15
        rw [if_pos rfl] at H
        obtain rfl := Option.some.inj H
        go_wp2
        go_ret
        exact ⟨by exact er, bh⟩
       ·replace c15 := Bool.eq_false_iff.mpr c15
        subst c15
        rw [if_neg (show ¬ (false = true) by decide)] at H
        have H' := Aside0.mk H
        clear H
        go_wp2
        go_roundg k2
        case measure => have := HK1.out; have := HK2.out; omega
        case rel => exact ⟨(wrap64 (x5_1 + 1)), sd, H', ⟨by have := HK1.out; have := HK2.out; omega⟩, ⟨bh⟩⟩
   ·rw [if_neg c3] at H
    have c3b0 := decide_eq_false c3
    clear c3
    obtain rfl := Option.some.inj H
    go_wp2
    go_ret
    exact ⟨by exact er, bh⟩
/-! ### cracknelref04_Apart: function 22 -/
def cracknelref04_Apart.f (k : Nat) (l0 : List (S41)) (l1 : List (S41)) : Option (Bool) := (cracknelref04_parts.f k l0 l1).bind fun t101 => (if t101 = true then (some true) else ((cracknelref04_parts.f k l1 l0).bind fun t102 => (some t102)))
set_option maxHeartbeats 8000000 in
set_option maxRecDepth 100000 in
theorem cracknelref04_Apart.calls (k : Nat) (A0 : Option Addr) (c0 : Nat) (l0 : List (S41)) (A1 : Option Addr) (c1 : Nat) (l1 : List (S41)) (r : Bool) (w : World) (hr0 : Kd.C k41 w A0 l0.length l0) (hc0 : l0.length ≤ c0) (hr1 : Kd.C k41 w A1 l1.length l1) (hc1 : l1.length ≤ c1) (h : cracknelref04_Apart.f k l0 l1 = some r) :
  Calls Try.prog 22 #[.slice A0 l0.length c0, .slice A1 l1.length c1] w fun e w' => e = .returned (.bool r) ∧ Below w.heap.size w w' := by
 have HR0 := Aside0.mk hr0
 have HC0 := Aside0.mk hc0
 clear hr0 hc0
 have HR1 := Aside0.mk hr1
 have HC1 := Aside0.mk hc1
 clear hr1 hc1
 have HB := Aside0.mk (Below.refl w.heap.size w)
 have H : ((cracknelref04_parts.f k l0 l1).bind fun t101 => (if t101 = true then (some true) else ((cracknelref04_parts.f k l1 l0).bind fun t102 => (some t102)))) = some r := h
 clear h
 replace H := Option.bind_eq_some_iff.mp H
 obtain ⟨t101, A30, H⟩ := H
 try dsimp only at H
 have A3 := Aside0.mk A30
 clear A30
 by_cases c4 : t101 = true
 ·subst c4
  rw [if_pos rfl] at H
  obtain rfl := Option.some.inj H
  go_enter Try.func22, Try.ntmps22
  go_wp2_with (first | ((with_reducible refine gc 52 rfl ?_); refine goesL_ (some 7) rfl rfl Try.func52 (by kernel_rfl) rfl #[.slice A0 l0.length c0, .slice A1 l1.length c1] rfl sg ?_; (with_reducible refine (cracknelref04_parts.calls k _ _ l0 _ _ l1 true _ ?side1 ?side2 ?side3 ?side4 A3.out).mono ?_); (case side1 => exact cs HR0.out); (case side2 => exact HC0.out); (case side3 => exact cs HR1.out); (case side4 => exact HC1.out); rintro e w5 ⟨rfl, hb⟩; refine ⟨_, rfl, ?_⟩; replace HB := bz hb; (try clear hb)))
  go_ret
  exact ⟨by exact er, bh⟩
 ·replace c4 := Bool.eq_false_iff.mpr c4
  subst c4
  rw [if_neg (show ¬ (false = true) by decide)] at H
  replace H := Option.bind_eq_some_iff.mp H
  obtain ⟨t102, A60, H⟩ := H
  try dsimp only at H
  have A6 := Aside0.mk A60
  clear A60
  obtain rfl := Option.some.inj H
  go_enter Try.func22, Try.ntmps22
  go_wp2_with (first | ((with_reducible refine gc 52 rfl ?_); refine goesL_ (some 7) rfl rfl Try.func52 (by kernel_rfl) rfl #[.slice A0 l0.length c0, .slice A1 l1.length c1] rfl sg ?_; (with_reducible refine (cracknelref04_parts.calls k _ _ l0 _ _ l1 false _ ?side1 ?side2 ?side3 ?side4 A3.out).mono ?_); (case side1 => exact cs HR0.out); (case side2 => exact HC0.out); (case side3 => exact cs HR1.out); (case side4 => exact HC1.out); rintro e w7 ⟨rfl, hb⟩; refine ⟨_, rfl, ?_⟩; replace HB := bz hb; (try clear hb)) | (go_at_call 52; (with_reducible refine (cracknelref04_parts.calls k _ _ l1 _ _ l0 t102 _ ?side1 ?side2 ?side3 ?side4 A6.out).mono ?_); (case side1 => exact cs (Kd.C_below HR1.out HB.out)); (case side2 => exact HC1.out); (case side3 => exact cs (Kd.C_below HR0.out HB.out)); (case side4 => exact HC0.out); rintro e w8 ⟨rfl, hb⟩; replace HB := bz hb; (try clear hb)))
  go_ret
  exact ⟨by exact er, bh⟩
/-! ### cracknelref04_ccw: function 43 -/
def cracknelref04_ccw.f (l0 : List (S41)) : Option ((List (S41))) := if 0 < (l0.length : Int) then (if 1 < (l0.length : Int) then (if 2 < (l0.length : Int) then ((cracknelref04_Cross.f ((rd_T41 l0 0).f0) ((rd_T41 l0 0).f1) ((rd_T41 l0 1).f0) ((rd_T41 l0 1).f1) ((rd_T41 l0 2).f0) ((rd_T41 l0 2).f1)).bind fun t104 => (if t104 < 0 then (some (([(⟨(rd_T41 l0 0).f0, (rd_T41 l0 0).f1⟩ : S41), (⟨(rd_T41 l0 2).f0, (rd_T41 l0 2).f1⟩ : S41), (⟨(rd_T41 l0 1).f0, (rd_T41 l0 1).f1⟩ : S41)] : List (S41)))) else (some l0))) else (none)) else (none)) else (none)
def cracknelref04_ccw.T1 : Bool × List (List Nat × List Nat) := (true, [([], []), ([0], [0]), ([1], [1]), ([], []), ([3], [3]), ([4], [4]), ([], []), ([6], [6]), ([7], [7]), ([2, 5, 8], [2, 5, 8]), ([9], [9])])
def cracknelref04_ccw.B1 : List Nat := [0, 1, 3, 0, 8, 24, 0, 64, 192, 511, 1023]
theorem cracknelref04_ccw.tab1 : rtab .any (opsOf Try.f43 1) = cracknelref04_ccw.T1 := by kernel_rfl
theorem cracknelref04_ccw.bits1 : waitsOk cracknelref04_ccw.T1.2 cracknelref04_ccw.B1 = true := by kernel_rfl
def cracknelref04_ccw.T2 : Bool × List (List Nat × List Nat) := (true, [([], []), ([0], [0]), ([1], [1]), ([], []), ([3], [3]), ([4], [4]), ([], []), ([6], [6]), ([7], [7]), ([2, 5, 8], [2, 5, 8]), ([9, 0, 1, 2, 3, 4, 5, 6, 7, 8, 9], [9])])
def cracknelref04_ccw.B2 : List Nat := [0, 1, 3, 0, 8, 24, 0, 64, 192, 511, 1023]
theorem cracknelref04_ccw.tab2 : rtab .any (opsOf Try.f43 2) = cracknelref04_ccw.T2 := by kernel_rfl
theorem cracknelref04_ccw.bits2 : waitsOk cracknelref04_ccw.T2.2 cracknelref04_ccw.B2 = true := by kernel_rfl
set_option maxHeartbeats 8000000 in
set_option maxRecDepth 100000 in
theorem cracknelref04_ccw.calls (P0_ : Nat → Prop) (u9000_ : Value) (l0 : List (S41)) (r : List (S41)) (w0 w : World) (hB : Below w0.heap.size w0 w) (ho0 : Kd.R k41 41 w w0.heap.size P0_ u9000_ l0) (h : cracknelref04_ccw.f l0 = some r) :
  Calls Try.prog 43 #[u9000_] w fun e w' => ∃ v0_ : Value, e = .returned (v0_) ∧ Kd.R k41 41 w' w0.heap.size (fun k_ => (P0_ k_ ∨ w.heap.size ≤ k_)) v0_ r ∧ Below w0.heap.size w0 w' ∧ Kept w w' (fun k_ => P0_ k_) := by
 have hu41 := Try.underlying41
 have HO0 := Aside0.mk (show Kd.R k41 41 w w0.heap.size (fun k_ => (P0_ k_ ∨ w.heap.size ≤ k_)) u9000_ l0 from Kd.R_mono ho0 (fun k_ hk => (.inl hk)))
 have HK := Aside0.mk (Kept.refl w (fun k_ => P0_ k_))
 have HW0 := Aside0.mk hB.size
 have HB := Aside0.mk hB
 clear hB
 have H : (if 0 < (l0.length : Int) then (if 1 < (l0.length : Int) then (if 2 < (l0.length : Int) then ((cracknelref04_Cross.f ((rd_T41 l0 0).f0) ((rd_T41 l0 0).f1) ((rd_T41 l0 1).f0) ((rd_T41 l0 1).f1) ((rd_T41 l0 2).f0) ((rd_T41 l0 2).f1)).bind fun t104 => (if t104 < 0 then (some (([(⟨(rd_T41 l0 0).f0, (rd_T41 l0 0).f1⟩ : S41), (⟨(rd_T41 l0 2).f0, (rd_T41 l0 2).f1⟩ : S41), (⟨(rd_T41 l0 1).f0, (rd_T41 l0 1).f1⟩ : S41)] : List (S41)))) else (some l0))) else (none)) else (none)) else (none)) = some r := h
 clear h
 obtain ⟨c2, H⟩ := oi H
 have c2b0 := decide_eq_true c2
 have c2b1 : decide (0 < l0.length) = true := decide_eq_true (by omega)
 clear c2
 obtain ⟨c3, H⟩ := oi H
 have c3b0 := decide_eq_true c3
 have c3b1 : decide (1 < l0.length) = true := decide_eq_true (by omega)
 clear c3
 obtain ⟨c4, H⟩ := oi H
 have c4b0 := decide_eq_true c4
 have c4b1 : decide (2 < l0.length) = true := decide_eq_true (by omega)
 clear c4
 replace H := Option.bind_eq_some_iff.mp H
 obtain ⟨t104, A50, H⟩ := H
 try dsimp only at H
 have A5 := Aside0.mk A50
 clear A50
 by_cases c6 : t104 < 0
 ·rw [if_pos c6] at H
  have c6b0 := decide_eq_true c6
  clear c6
  obtain ⟨y108, hy108⟩ : ∃ y_ : List (S41), y_ = (([(⟨(rd_T41 l0 0).f0, (rd_T41 l0 0).f1⟩ : S41), (⟨(rd_T41 l0 2).f0, (rd_T41 l0 2).f1⟩ : S41), (⟨(rd_T41 l0 1).f0, (rd_T41 l0 1).f1⟩ : S41)] : List (S41))) := ⟨_, rfl⟩
  replace H : (some y108) = some r := by first | (rw [hy108]; with_reducible exact H) | (have H2_ := (Option.bind_some _ _).symm.trans H; rw [hy108]; with_reducible exact H2_) | (have H2_ := (Option.bind_some _ _).symm.trans H; with_reducible exact H2_) | with_reducible exact H | (rw [hy108]; exact H) | exact H
  have Ny108 := Aside0.mk hy108
  clear hy108
  obtain rfl := Option.some.inj H
  go_enter Try.func43, Try.ntmps43
  try go_wp2
  replace HO0 := Aside0.mk (Kd.R_drew HO0.out)
  replace HK := Aside0.mk (Kept.drew HK.out)
  replace HB := Aside0.mk (below_drew1 HB.out)
  obtain ⟨Ao8, co8, eo8⟩ := Kd.R_slice HO0.out
  (first | subst eo8 | (injection eo8 with f1_ f2_ f3_; have f4_ := f1_.symm; have f5_ := f3_.symm; clear f1_ f2_ f3_; subst f4_; subst f5_))
  have p101 : 0 ≤ (0 : Int) := (by omega)
  have q101 : 0 < (l0.length : Int) := dt
  obtain ⟨ad101, e101, hx101_0, hx101_1⟩ := at_T41 (Kd.R_reads' HO0.out).2.2 0 p101 q101
  cases e101
  have qi101 : (0 < l0.length) = True := eq_true (by omega)
  (try rw [show ((0 : Int)).toNat = 0 from rfl] at hx101_0)
  (try rw [show 0 * 2 = 0 from rfl] at hx101_0)
  (try rw [Addr.add_zero'] at hx101_0)
  (try rw [show ((0 : Int)).toNat = 0 from rfl] at hx101_1)
  (try rw [show 0 * 2 = 0 from rfl] at hx101_1)
  (try rw [Addr.add_zero'] at hx101_1)
  replace p101 := eq_true p101
  replace q101 := eq_true q101
  have p102 : 0 ≤ (1 : Int) := (by omega)
  have q102 : 1 < (l0.length : Int) := dt
  obtain ⟨ad102, e102, hx102_0, hx102_1⟩ := at_T41 (Kd.R_reads' HO0.out).2.2 1 p102 q102
  obtain rfl : ad101 = ad102 := (by injection e102)
  (try simp only [show (1 : Int).toNat = 1 from rfl, Nat.reduceMul, Nat.reduceEqDiff, Go.Addr.add, ↓reduceIte] at hx102_0)
  (try simp only [show (1 : Int).toNat = 1 from rfl, Nat.reduceMul, Nat.reduceEqDiff, Go.Addr.add, ↓reduceIte] at hx102_1)
  have qi102 : (1 < l0.length) = True := eq_true (by omega)
  (try rw [show ((1 : Int)).toNat = 1 from rfl] at hx102_0)
  (try rw [show 1 * 2 = 2 from rfl] at hx102_0)
  (try rw [show ((1 : Int)).toNat = 1 from rfl] at hx102_1)
  (try rw [show 1 * 2 = 2 from rfl] at hx102_1)
  replace p102 := eq_true p102
  replace q102 := eq_true q102
  have p103 : 0 ≤ (2 : Int) := (by omega)
  have q103 : 2 < (l0.length : Int) := dt
  obtain ⟨ad103, e103, hx103_0, hx103_1⟩ := at_T41 (Kd.R_reads' HO0.out).2.2 2 p103 q103
  obtain rfl : ad101 = ad103 := (by injection e103)
  (try simp only [show (2 : Int).toNat = 2 from rfl, Nat.reduceMul, Nat.reduceEqDiff, Go.Addr.add, ↓reduceIte] at hx103_0)
  (try simp only [show (2 : Int).toNat = 2 from rfl, Nat.reduceMul, Nat.reduceEqDiff, Go.Addr.add, ↓reduceIte] at hx103_1)
  have qi103 : (2 < l0.length) = True := eq_true (by omega)
  (try rw [show ((2 : Int)).toNat = 2 from rfl] at hx103_0)
  (try rw [show 2 * 2 = 4 from rfl] at hx103_0)
  (try rw [show ((2 : Int)).toNat = 2 from rfl] at hx103_1)
  (try rw [show 2 * 2 = 4 from rfl] at hx103_1)
  replace p103 := eq_true p103
  replace q103 := eq_true q103
  refine start_ (n := 11) (S := fun w' => w'.cell? ad101 = some (.int .i64 ((rd_T41 l0 0).f0)) ∧ w'.cell? ⟨ad101.block, ad101.off + 1, none⟩ = some (.int .i64 ((rd_T41 l0 0).f1)) ∧ w'.cell? ⟨ad101.block, ad101.off + 2, none⟩ = some (.int .i64 ((rd_T41 l0 1).f0)) ∧ w'.cell? ⟨ad101.block, ad101.off + 2 + 1, none⟩ = some (.int .i64 ((rd_T41 l0 1).f1)) ∧ w'.cell? ⟨ad101.block, ad101.off + 4, none⟩ = some (.int .i64 ((rd_T41 l0 2).f0)) ∧ w'.cell? ⟨ad101.block, ad101.off + 4 + 1, none⟩ = some (.int .i64 ((rd_T41 l0 2).f1))) (ds := []) #[N,N,N,N,N,N,N,N,N,N,N] (by kernel_rfl) rfl rfl ⟨hx101_0, hx101_1, hx102_0, hx102_1, hx103_0, hx103_1⟩ (fun hHeld => ?_); refine with_tabW cracknelref04_ccw.tab1 cracknelref04_ccw.bits1 (fun HT_ HW_ => ?_)
  generalize w.drew = w7 at HO0 HK HB hx101_0 hx101_1 hx102_0 hx102_1 hx103_0 hx103_1 hHeld ⊢
  refine pu 0 3 HT_ ?_
  refine pu 1 4 HT_ ?_
  refine pu 3 6 HT_ ?_
  refine pu 4 7 HT_ ?_
  refine pu 6 9 HT_ ?_
  refine pu 7 10 HT_ ?_
  refine tk6 2 5 hHeld HT_ HW_ ?_
  refine tk6 5 8 hHeld HT_ HW_ ?_
  refine tk6 8 11 hHeld HT_ HW_ ?_
  refine one_ (i := 9) (N := some 12) #[T,T,T,T,T,T,T,T,T,T,N] rfl rfl (on1 HT_) (by decide) (fun K hK => ?_)
  refine goes_ Try.func31 (by kernel_rfl) rfl #[.agg #[.int .i64 ((rd_T41 l0 0).f0), .int .i64 ((rd_T41 l0 0).f1)], .agg #[.int .i64 ((rd_T41 l0 1).f0), .int .i64 ((rd_T41 l0 1).f1)], .agg #[.int .i64 ((rd_T41 l0 2).f0), .int .i64 ((rd_T41 l0 2).f1)]] (by rfl) rfl rfl sg ?_
  with_reducible refine (cracknelref04_Cross.calls ((rd_T41 l0 0).f0) ((rd_T41 l0 0).f1) ((rd_T41 l0 1).f0) ((rd_T41 l0 1).f1) ((rd_T41 l0 2).f0) ((rd_T41 l0 2).f1) t104 _ A5.out).mono ?_
  rintro e w9 ⟨rfl, hb⟩
  have HS0_ := (hb.cell (World.block_lt_of_cell? _ _ (hHeld.1))).trans (hHeld.1)
  have HS1_ := (hb.cell (World.block_lt_of_cell? _ _ (hHeld.2.1))).trans (hHeld.2.1)
  have HS2_ := (hb.cell (World.block_lt_of_cell? _ _ (hHeld.2.2.1))).trans (hHeld.2.2.1)
  have HS3_ := (hb.cell (World.block_lt_of_cell? _ _ (hHeld.2.2.2.1))).trans (hHeld.2.2.2.1)
  have HS4_ := (hb.cell (World.block_lt_of_cell? _ _ (hHeld.2.2.2.2.1))).trans (hHeld.2.2.2.2.1)
  have HS5_ := (hb.cell (World.block_lt_of_cell? _ _ (hHeld.2.2.2.2.2))).trans (hHeld.2.2.2.2.2)
  refine ⟨_, rfl, ?_⟩
  replace HO0 := Aside0.mk (Kd.R_below (ro HO0) hb)
  replace HK := Aside0.mk (Kept.below (S := (fun k_ => P0_ k_)) (by repeat (first | (with_reducible first | exact HK.out | apply Kept.alloc | apply Kept.drewN | apply Kept.drew) | exact HK.out)) hb)
  replace HB := bz hb
  (try clear hb)
  refine hK.out _ _ ⟨HS0_, HS1_, HS2_, HS3_, HS4_, HS5_⟩ (fun hHeld => ?_)
  clear hK K
  refine nm 12 ?_
  refine pu 10 13 HT_ ?_
  refine done_ (done_of HT_.out (by kernel_rfl)) ?_
  try go_wp2
  replace HO0 := Aside0.mk (Kd.R_drew HO0.out)
  replace HK := Aside0.mk (Kept.drew HK.out)
  replace HB := Aside0.mk (below_drew1 HB.out)
  have p105 : 0 ≤ (0 : Int) := (by omega)
  have q105 : 0 < (l0.length : Int) := dt
  obtain ⟨ad105, e105, hx105_0, hx105_1⟩ := at_T41 (Kd.R_reads' HO0.out).2.2 0 p105 q105
  obtain rfl : ad101 = ad105 := (by injection e105)
  have qi105 : (0 < l0.length) = True := eq_true (by omega)
  (try rw [show ((0 : Int)).toNat = 0 from rfl] at hx105_0)
  (try rw [show 0 * 2 = 0 from rfl] at hx105_0)
  (try rw [Addr.add_zero'] at hx105_0)
  (try rw [show ((0 : Int)).toNat = 0 from rfl] at hx105_1)
  (try rw [show 0 * 2 = 0 from rfl] at hx105_1)
  (try rw [Addr.add_zero'] at hx105_1)
  replace p105 := eq_true p105
  replace q105 := eq_true q105
  have p106 : 0 ≤ (2 : Int) := (by omega)
  have q106 : 2 < (l0.length : Int) := dt
  obtain ⟨ad106, e106, hx106_0, hx106_1⟩ := at_T41 (Kd.R_reads' HO0.out).2.2 2 p106 q106
  obtain rfl : ad101 = ad106 := (by injection e106)
  (try simp only [show (2 : Int).toNat = 2 from rfl, Nat.reduceMul, Nat.reduceEqDiff, Go.Addr.add, ↓reduceIte] at hx106_0)
  (try simp only [show (2 : Int).toNat = 2 from rfl, Nat.reduceMul, Nat.reduceEqDiff, Go.Addr.add, ↓reduceIte] at hx106_1)
  have qi106 : (2 < l0.length) = True := eq_true (by omega)
  (try rw [show ((2 : Int)).toNat = 2 from rfl] at hx106_0)
  (try rw [show 2 * 2 = 4 from rfl] at hx106_0)
  (try rw [show ((2 : Int)).toNat = 2 from rfl] at hx106_1)
  (try rw [show 2 * 2 = 4 from rfl] at hx106_1)
  replace p106 := eq_true p106
  replace q106 := eq_true q106
  have p107 : 0 ≤ (1 : Int) := (by omega)
  have q107 : 1 < (l0.length : Int) := dt
  obtain ⟨ad107, e107, hx107_0, hx107_1⟩ := at_T41 (Kd.R_reads' HO0.out).2.2 1 p107 q107
  obtain rfl : ad101 = ad107 := (by injection e107)
  (try simp only [show (1 : Int).toNat = 1 from rfl, Nat.reduceMul, Nat.reduceEqDiff, Go.Addr.add, ↓reduceIte] at hx107_0)
  (try simp only [show (1 : Int).toNat = 1 from rfl, Nat.reduceMul, Nat.reduceEqDiff, Go.Addr.add, ↓reduceIte] at hx107_1)
  have qi107 : (1 < l0.length) = True := eq_true (by omega)
  (try rw [show ((1 : Int)).toNat = 1 from rfl] at hx107_0)
  (try rw [show 1 * 2 = 2 from rfl] at hx107_0)
  (try rw [show ((1 : Int)).toNat = 1 from rfl] at hx107_1)
  (try rw [show 1 * 2 = 2 from rfl] at hx107_1)
  replace p107 := eq_true p107
  replace q107 := eq_true q107
  refine start_ (n := 11) (S := fun w' => w'.cell? ad101 = some (.int .i64 ((rd_T41 l0 0).f0)) ∧ w'.cell? ⟨ad101.block, ad101.off + 1, none⟩ = some (.int .i64 ((rd_T41 l0 0).f1)) ∧ w'.cell? ⟨ad101.block, ad101.off + 4, none⟩ = some (.int .i64 ((rd_T41 l0 2).f0)) ∧ w'.cell? ⟨ad101.block, ad101.off + 4 + 1, none⟩ = some (.int .i64 ((rd_T41 l0 2).f1)) ∧ w'.cell? ⟨ad101.block, ad101.off + 2, none⟩ = some (.int .i64 ((rd_T41 l0 1).f0)) ∧ w'.cell? ⟨ad101.block, ad101.off + 2 + 1, none⟩ = some (.int .i64 ((rd_T41 l0 1).f1))) (ds := []) #[N,N,N,N,N,N,N,N,N,N,N] (by kernel_rfl) rfl rfl ⟨hx105_0, hx105_1, hx106_0, hx106_1, hx107_0, hx107_1⟩ (fun hHeld => ?_); refine with_tabW cracknelref04_ccw.tab2 cracknelref04_ccw.bits2 (fun HT_ HW_ => ?_)
  generalize w9.drew = w10 at HO0 HK HB hx105_0 hx105_1 hx106_0 hx106_1 hx107_0 hx107_1 hHeld ⊢
  refine pu 0 14 HT_ ?_
  refine pu 1 15 HT_ ?_
  refine pu 3 17 HT_ ?_
  refine pu 4 18 HT_ ?_
  refine pu 6 20 HT_ ?_
  refine pu 7 21 HT_ ?_
  refine tk6 2 16 hHeld HT_ HW_ ?_
  refine tk6 5 19 hHeld HT_ HW_ ?_
  refine tk6 8 22 hHeld HT_ HW_ ?_
  refine one_ (i := 9) (N := some 23) #[T,T,T,T,T,T,T,T,T,T,N] rfl rfl (on1 HT_) (by decide) (fun K hK => ?_)
  refine Kd.R_lit_step k41 _ 41 ?hg (N := 23) ?hd (xs := ([(⟨(rd_T41 l0 0).f0, (rd_T41 l0 0).f1⟩ : S41), (⟨(rd_T41 l0 2).f0, (rd_T41 l0 2).f1⟩ : S41), (⟨(rd_T41 l0 1).f0, (rd_T41 l0 1).f1⟩ : S41)] : List (S41))) (inner := [.int .i64 ((rd_T41 l0 0).f0), .int .i64 ((rd_T41 l0 0).f1), .int .i64 ((rd_T41 l0 2).f0), .int .i64 ((rd_T41 l0 2).f1), .int .i64 ((rd_T41 l0 1).f0), .int .i64 ((rd_T41 l0 1).f1)]) (ok := fun _ => True) (okp := fun _ => True) ?hr ?hp (fun _ hk => hk) trivial (Below.refl _ _) (Nat.le_refl _) (by simp) ?_; (case hd => rfl); (case hg => rfl); (case hr => first | (go_simp; done) | (go_simp; rfl)); (case hp => exact (Reps.c2 (show Kd.M k41 _ _ _ (⟨(rd_T41 l0 0).f0, (rd_T41 l0 0).f1⟩ : S41) [.int .i64 ((rd_T41 l0 0).f0), .int .i64 ((rd_T41 l0 0).f1)] from (k41_mkM _ _ _ (⟨(rd_T41 l0 0).f0, (rd_T41 l0 0).f1⟩ : S41) )) (Reps.c2 (show Kd.M k41 _ _ _ (⟨(rd_T41 l0 2).f0, (rd_T41 l0 2).f1⟩ : S41) [.int .i64 ((rd_T41 l0 2).f0), .int .i64 ((rd_T41 l0 2).f1)] from (k41_mkM _ _ _ (⟨(rd_T41 l0 2).f0, (rd_T41 l0 2).f1⟩ : S41) )) (Reps.c2 (show Kd.M k41 _ _ _ (⟨(rd_T41 l0 1).f0, (rd_T41 l0 1).f1⟩ : S41) [.int .i64 ((rd_T41 l0 1).f0), .int .i64 ((rd_T41 l0 1).f1)] from (k41_mkM _ _ _ (⟨(rd_T41 l0 1).f0, (rd_T41 l0 1).f1⟩ : S41) )) (Reps.none _ _)))))
  intro v109 w11 ho12 hb hg_ hnew_
  have HS0_ := (hb.cell (World.block_lt_of_cell? _ _ (hHeld.1))).trans (hHeld.1)
  have HS1_ := (hb.cell (World.block_lt_of_cell? _ _ (hHeld.2.1))).trans (hHeld.2.1)
  have HS2_ := (hb.cell (World.block_lt_of_cell? _ _ (hHeld.2.2.1))).trans (hHeld.2.2.1)
  have HS3_ := (hb.cell (World.block_lt_of_cell? _ _ (hHeld.2.2.2.1))).trans (hHeld.2.2.2.1)
  have HS4_ := (hb.cell (World.block_lt_of_cell? _ _ (hHeld.2.2.2.2.1))).trans (hHeld.2.2.2.2.1)
  have HS5_ := (hb.cell (World.block_lt_of_cell? _ _ (hHeld.2.2.2.2.2))).trans (hHeld.2.2.2.2.2)
  clear hg_ hnew_
  (first | rw [← Ny108.out] at ho12 | (simp only [Int.reduceToNat] at ho12; rw [← Ny108.out] at ho12))
  have HO110 := Aside0.mk (Kd.R_lower (Kd.R_new' (Kd.R_newM (M := fun k_ => (P0_ k_ ∨ w.heap.size ≤ k_)) ho12 (by first | exact HK.out.1 | exact (show Kept w _ (fun k_ => P0_ k_) from by repeat (first | (with_reducible first | exact HK.out | apply Kept.alloc | apply Kept.drewN | apply Kept.drew) | exact HK.out)).1) (fun k_ h_ => .inr h_)) (Kd.R_lt (ro HO0))) (below_size bh))
  replace HO0 := Aside0.mk (Kd.R_elder' (ro HO0) (Kd.R_base ho12) hb)
  replace HK := Aside0.mk (Kept.below (S := (fun k_ => P0_ k_)) (by repeat (first | (with_reducible first | exact HK.out | apply Kept.alloc | apply Kept.drewN | apply Kept.drew) | exact HK.out)) hb)
  replace HB := bz hb
  clear hb ho12
  refine hK.out _ _ ⟨HS0_, HS1_, HS2_, HS3_, HS4_, HS5_⟩ (fun hHeld => ?_)
  clear hK K
  refine nm 23 ?_
  refine pu 10 2 HT_ ?_
  refine done_ (done_of HT_.out (by kernel_rfl)) ?_
  try go_wp2
  go_ret
  exact ⟨_, by exact er, by (with_reducible repeat (first | apply Kd.R_alloc | apply Kd.R_drewN | apply Kd.R_drew)); exact Kd.R_mono HO110.out (fun _ hk => hk.1.1), by repeat (first | (with_reducible first | exact HB.out | apply below_alloc | apply pw_below_drewN | apply below_drew1) | exact HB.out), by repeat (first | (with_reducible first | exact HK.out | apply Kept.alloc | apply Kept.drewN | apply Kept.drew) | exact HK.out)⟩
 ·rw [if_neg c6] at H
  have c6b0 := decide_eq_false c6
  clear c6
  obtain rfl := Option.some.inj H
  go_enter Try.func43, Try.ntmps43
  try go_wp2
  replace HO0 := Aside0.mk (Kd.R_drew HO0.out)
  replace HK := Aside0.mk (Kept.drew HK.out)
  replace HB := Aside0.mk (below_drew1 HB.out)
  obtain ⟨Ao14, co14, eo14⟩ := Kd.R_slice HO0.out
  (first | subst eo14 | (injection eo14 with f1_ f2_ f3_; have f4_ := f1_.symm; have f5_ := f3_.symm; clear f1_ f2_ f3_; subst f4_; subst f5_))
  have p101 : 0 ≤ (0 : Int) := (by omega)
  have q101 : 0 < (l0.length : Int) := dt
  obtain ⟨ad101, e101, hx101_0, hx101_1⟩ := at_T41 (Kd.R_reads' HO0.out).2.2 0 p101 q101
  cases e101
  have qi101 : (0 < l0.length) = True := eq_true (by omega)
  (try rw [show ((0 : Int)).toNat = 0 from rfl] at hx101_0)
  (try rw [show 0 * 2 = 0 from rfl] at hx101_0)
  (try rw [Addr.add_zero'] at hx101_0)
  (try rw [show ((0 : Int)).toNat = 0 from rfl] at hx101_1)
  (try rw [show 0 * 2 = 0 from rfl] at hx101_1)
  (try rw [Addr.add_zero'] at hx101_1)
  replace p101 := eq_true p101
  replace q101 := eq_true q101
  have p102 : 0 ≤ (1 : Int) := (by omega)
  have q102 : 1 < (l0.length : Int) := dt
  obtain ⟨ad102, e102, hx102_0, hx102_1⟩ := at_T41 (Kd.R_reads' HO0.out).2.2 1 p102 q102
  obtain rfl : ad101 = ad102 := (by injection e102)
  (try simp only [show (1 : Int).toNat = 1 from rfl, Nat.reduceMul, Nat.reduceEqDiff, Go.Addr.add, ↓reduceIte] at hx102_0)
  (try simp only [show (1 : Int).toNat = 1 from rfl, Nat.reduceMul, Nat.reduceEqDiff, Go.Addr.add, ↓reduceIte] at hx102_1)
  have qi102 : (1 < l0.length) = True := eq_true (by omega)
  (try rw [show ((1 : Int)).toNat = 1 from rfl] at hx102_0)
  (try rw [show 1 * 2 = 2 from rfl] at hx102_0)
  (try rw [show ((1 : Int)).toNat = 1 from rfl] at hx102_1)
  (try rw [show 1 * 2 = 2 from rfl] at hx102_1)
  replace p102 := eq_true p102
  replace q102 := eq_true q102
  have p103 : 0 ≤ (2 : Int) := (by omega)
  have q103 : 2 < (l0.length : Int) := dt
  obtain ⟨ad103, e103, hx103_0, hx103_1⟩ := at_T41 (Kd.R_reads' HO0.out).2.2 2 p103 q103
  obtain rfl : ad101 = ad103 := (by injection e103)
  (try simp only [show (2 : Int).toNat = 2 from rfl, Nat.reduceMul, Nat.reduceEqDiff, Go.Addr.add, ↓reduceIte] at hx103_0)
  (try simp only [show (2 : Int).toNat = 2 from rfl, Nat.reduceMul, Nat.reduceEqDiff, Go.Addr.add, ↓reduceIte] at hx103_1)
  have qi103 : (2 < l0.length) = True := eq_true (by omega)
  (try rw [show ((2 : Int)).toNat = 2 from rfl] at hx103_0)
  (try rw [show 2 * 2 = 4 from rfl] at hx103_0)
  (try rw [show ((2 : Int)).toNat = 2 from rfl] at hx103_1)
  (try rw [show 2 * 2 = 4 from rfl] at hx103_1)
  replace p103 := eq_true p103
  replace q103 := eq_true q103
  refine start_ (n := 11) (S := fun w' => w'.cell? ad101 = some (.int .i64 ((rd_T41 l0 0).f0)) ∧ w'.cell? ⟨ad101.block, ad101.off + 1, none⟩ = some (.int .i64 ((rd_T41 l0 0).f1)) ∧ w'.cell? ⟨ad101.block, ad101.off + 2, none⟩ = some (.int .i64 ((rd_T41 l0 1).f0)) ∧ w'.cell? ⟨ad101.block, ad101.off + 2 + 1, none⟩ = some (.int .i64 ((rd_T41 l0 1).f1)) ∧ w'.cell? ⟨ad101.block, ad101.off + 4, none⟩ = some (.int .i64 ((rd_T41 l0 2).f0)) ∧ w'.cell? ⟨ad101.block, ad101.off + 4 + 1, none⟩ = some (.int .i64 ((rd_T41 l0 2).f1))) (ds := []) #[N,N,N,N,N,N,N,N,N,N,N] (by kernel_rfl) rfl rfl ⟨hx101_0, hx101_1, hx102_0, hx102_1, hx103_0, hx103_1⟩ (fun hHeld => ?_); refine with_tabW cracknelref04_ccw.tab1 cracknelref04_ccw.bits1 (fun HT_ HW_ => ?_)
  generalize w.drew = w13 at HO0 HK HB hx101_0 hx101_1 hx102_0 hx102_1 hx103_0 hx103_1 hHeld ⊢
  refine pu 0 3 HT_ ?_
  refine pu 1 4 HT_ ?_
  refine pu 3 6 HT_ ?_
  refine pu 4 7 HT_ ?_
  refine pu 6 9 HT_ ?_
  refine pu 7 10 HT_ ?_
  refine tk6 2 5 hHeld HT_ HW_ ?_
  refine tk6 5 8 hHeld HT_ HW_ ?_
  refine tk6 8 11 hHeld HT_ HW_ ?_
  refine one_ (i := 9) (N := some 12) #[T,T,T,T,T,T,T,T,T,T,N] rfl rfl (on1 HT_) (by decide) (fun K hK => ?_)
  refine goes_ Try.func31 (by kernel_rfl) rfl #[.agg #[.int .i64 ((rd_T41 l0 0).f0), .int .i64 ((rd_T41 l0 0).f1)], .agg #[.int .i64 ((rd_T41 l0 1).f0), .int .i64 ((rd_T41 l0 1).f1)], .agg #[.int .i64 ((rd_T41 l0 2).f0), .int .i64 ((rd_T41 l0 2).f1)]] (by rfl) rfl rfl sg ?_
  with_reducible refine (cracknelref04_Cross.calls ((rd_T41 l0 0).f0) ((rd_T41 l0 0).f1) ((rd_T41 l0 1).f0) ((rd_T41 l0 1).f1) ((rd_T41 l0 2).f0) ((rd_T41 l0 2).f1) t104 _ A5.out).mono ?_
  rintro e w15 ⟨rfl, hb⟩
  have HS0_ := (hb.cell (World.block_lt_of_cell? _ _ (hHeld.1))).trans (hHeld.1)
  have HS1_ := (hb.cell (World.block_lt_of_cell? _ _ (hHeld.2.1))).trans (hHeld.2.1)
  have HS2_ := (hb.cell (World.block_lt_of_cell? _ _ (hHeld.2.2.1))).trans (hHeld.2.2.1)
  have HS3_ := (hb.cell (World.block_lt_of_cell? _ _ (hHeld.2.2.2.1))).trans (hHeld.2.2.2.1)
  have HS4_ := (hb.cell (World.block_lt_of_cell? _ _ (hHeld.2.2.2.2.1))).trans (hHeld.2.2.2.2.1)
  have HS5_ := (hb.cell (World.block_lt_of_cell? _ _ (hHeld.2.2.2.2.2))).trans (hHeld.2.2.2.2.2)
  refine ⟨_, rfl, ?_⟩
  replace HO0 := Aside0.mk (Kd.R_below (ro HO0) hb)
  replace HK := Aside0.mk (Kept.below (S := (fun k_ => P0_ k_)) (by repeat (first | (with_reducible first | exact HK.out | apply Kept.alloc | apply Kept.drewN | apply Kept.drew) | exact HK.out)) hb)
  replace HB := bz hb
  (try clear hb)
  refine hK.out _ _ ⟨HS0_, HS1_, HS2_, HS3_, HS4_, HS5_⟩ (fun hHeld => ?_)
  clear hK K
  refine nm 12 ?_
  refine pu 10 13 HT_ ?_
  refine done_ (done_of HT_.out (by kernel_rfl)) ?_
  try go_wp2
  go_ret
  exact ⟨_, by exact er, by (with_reducible repeat (first | apply Kd.R_alloc | apply Kd.R_drewN | apply Kd.R_drew)); exact HO0.out, by repeat (first | (with_reducible first | exact HB.out | apply below_alloc | apply pw_below_drewN | apply below_drew1) | exact HB.out), by repeat (first | (with_reducible first | exact HK.out | apply Kept.alloc | apply Kept.drewN | apply Kept.drew) | exact HK.out)⟩
/-! ### cracknelref04_Where: function 56 -/
mutual
def cracknelref04_Where.l0 : Nat → List (S41) → Bool → Int → Int → Int → Option (Int)
 | 0, _, _, _, _, _ => none
 | k + 1, x0, x5, x6, x102000, x102001 => if x6 < (x0.length : Int) then (if 0 ≤ x6 then ((cracknelref04_next.f x0 x6).bind fun bt103 => ((cracknelref04_On.f ((rd_T41 x0 x6).f0) ((rd_T41 x0 x6).f1) bt103.1 bt103.2 x102000 x102001).bind fun t107 => (if t107 = true then (some 0) else (if ((decide (((rd_T41 x0 x6).f1) > x102001)) != (decide (bt103.2 > x102001))) = true then ((cracknelref04_Cross.f ((rd_T41 x0 x6).f0) ((rd_T41 x0 x6).f1) bt103.1 bt103.2 x102000 x102001).bind fun t108 => (if bt103.2 < ((rd_T41 x0 x6).f1) then (cracknelref04_Where.j1 k x0 x5 x6 (wrap64 (-t108)) x102000 x102001) else (cracknelref04_Where.j1 k x0 x5 x6 t108 x102000 x102001))) else (cracknelref04_Where.l0 k x0 x5 (wrap64 (x6 + 1)) x102000 x102001))))) else (none)) else (if x5 = true then (some 1) else (some (-1)))
def cracknelref04_Where.j1 : Nat → List (S41) → Bool → Int → Int → Int → Int → Option (Int)
 | 0, _, _, _, _, _, _ => none
 | k + 1, x0, x5, x6, x9, x102000, x102001 => if x9 > 0 then (cracknelref04_Where.l0 k x0 (!x5) (wrap64 (x6 + 1)) x102000 x102001) else (cracknelref04_Where.l0 k x0 x5 (wrap64 (x6 + 1)) x102000 x102001)
end
def cracknelref04_Where.f (k : Nat) (l0 : List (S41)) (a1_0 : Int) (a1_1 : Int) : Option (Int) := cracknelref04_Where.l0 k l0 false 0 a1_0 a1_1
def cracknelref04_Where.T5 : Bool × List (List Nat × List Nat) := (true, [([], []), ([], []), ([0, 1], [0, 1]), ([2], [2]), ([], []), ([], []), ([4, 5], [4, 5]), ([], []), ([], []), ([7, 3, 6, 0, 1, 2, 3, 7, 8], [3, 7]), ([8, 6, 9, 0, 1, 2, 3, 4, 5, 6, 7, 8, 9], [6, 8])])
def cracknelref04_Where.B5 : List Nat := [0, 0, 3, 7, 0, 0, 48, 0, 0, 511, 1023]
theorem cracknelref04_Where.tab5 : rtab .any (opsOf Try.f56 5) = cracknelref04_Where.T5 := by kernel_rfl
theorem cracknelref04_Where.bits5 : waitsOk cracknelref04_Where.T5.2 cracknelref04_Where.B5 = true := by kernel_rfl
set_option maxHeartbeats 8000000 in
set_option maxRecDepth 100000 in
theorem cracknelref04_Where.calls (k : Nat) (A0 : Option Addr) (c0 : Nat) (l0 : List (S41)) (a1_0 : Int) (a1_1 : Int) (r : Int) (w : World) (hr0 : Kd.C k41 w A0 l0.length l0) (hc0 : l0.length ≤ c0) (h : cracknelref04_Where.f k l0 a1_0 a1_1 = some r) :
  Calls Try.prog 56 #[.slice A0 l0.length c0, .agg #[.int .i64 a1_0, .int .i64 a1_1]] w fun e w' => e = .returned (.int .i64 r) ∧ Below w.heap.size w w' := by
 have hu41 := Try.underlying41
 have HR0 := Aside0.mk hr0
 have HC0 := Aside0.mk hc0
 clear hr0 hc0
 have HB := Aside0.mk (Below.refl w.heap.size w)
 have H : (cracknelref04_Where.l0 k l0 false 0 a1_0 a1_1) = some r := h
 clear h
 have H' := Aside0.mk H
 clear H
 go_enter Try.func56, Try.ntmps56
 go_wp2_with (first | ((with_reducible refine gate_dst (N := 3) rfl ?_); refine bxe 3 #[.int .i64 a1_0, .int .i64 a1_1] 41 ?_; intro gb101 hg w3 hbox hb; have BK101 := Aside0.mk (hbox); have GW101 := ga w hg; have GE101 := GW101; replace HB := bz hb; clear hb hbox hg))
 go_loopg [5, 6] k (fun kq v5 v6 w' => ∃ (x5_1 : Bool) (x6_1 : Int), v5 = .bool x5_1 ∧ v6 = .int .i64 x6_1 ∧ Aside0 (cracknelref04_Where.l0 kq l0 x5_1 x6_1 a1_0 a1_1 = some r) ∧ Aside0 (kq ≤ k) ∧ Aside0 (w'.heap[gb101]? = some (.cells #[.int .i64 a1_0, .int .i64 a1_1] 41 (0, 0))) ∧ Aside0 (Below w.heap.size w w'))
 case atStart => exact ⟨(false), (0), sd, sd, H', ⟨Nat.le_refl _⟩, ⟨bk BK101⟩, ⟨bh⟩⟩
 case round =>
  clear H'
  skip
  obtain ⟨x5_1, x6_1, rfl, rfl, HA, HK1, BK101, HB⟩ := hrel
  cases gk with
  | zero => exact absurd HA.out (by simp [cracknelref04_Where.l0])
  | succ k1 =>
   have H := HA.out
   clear HA
   simp only [cracknelref04_Where.l0] at H
   by_cases c4 : x6_1 < (l0.length : Int)
   ·rw [if_pos c4] at H
    have c4b0 := decide_eq_true c4
    clear c4
    obtain ⟨c5, H⟩ := oi H
    have c5b0 := decide_eq_true c5
    clear c5
    replace H := Option.bind_eq_some_iff.mp H
    obtain ⟨⟨t103, t104⟩, A60, H⟩ := H
    try dsimp only at H
    have A6 := Aside0.mk A60
    clear A60
    replace H := Option.bind_eq_some_iff.mp H
    obtain ⟨t107, A70, H⟩ := H
    try dsimp only at H
    have A7 := Aside0.mk A70
    clear A70
    by_cases c8 : t107 = true
    ·subst c8
     rw [if_pos rfl] at H
     obtain rfl := Option.some.inj H
     try go_wp2
     replace BK101 := Aside0.mk (blk_drew BK101.out)
     replace HB := Aside0.mk (below_drew1 HB.out)
     have p102 : 0 ≤ (x6_1 : Int) := dt
     have q102 : x6_1 < (l0.length : Int) := dt
     obtain ⟨ad102, e102, hx102_0, hx102_1⟩ := at_T41 HR0.out x6_1 p102 q102
     have hw102_1 := hx102_1
     have hw102_0 := hx102_0
     cases e102
     replace hx102_0 := hc HB hx102_0
     replace hx102_1 := hc HB hx102_1
     replace p102 := eq_true p102
     replace q102 := eq_true q102
     refine start_ (n := 11) (S := fun w' => w'.cell? (ad102.add ((x6_1).toNat * 2)) = some (.int .i64 ((rd_T41 l0 x6_1).f0)) ∧ w'.cell? ⟨(ad102.add ((x6_1).toNat * 2)).block, (ad102.add ((x6_1).toNat * 2)).off + 1, none⟩ = some (.int .i64 ((rd_T41 l0 x6_1).f1))) (ds := []) #[N,N,N,N,N,N,N,N,N,N,N] (by kernel_rfl) rfl rfl ⟨(hc HB hw102_0), (hc HB hw102_1)⟩ (fun hHeld => ?_); refine with_tabW cracknelref04_Where.tab5 cracknelref04_Where.bits5 (fun HT_ HW_ => ?_)
     generalize wr.drew = w9 at BK101 HB hx102_0 hx102_1 hHeld ⊢
     refine pu 0 16 HT_ ?_
     refine pu 1 17 HT_ ?_
     refine pu 2 18 HT_ ?_
     refine pu 4 20 HT_ ?_
     refine pu 5 21 HT_ ?_
     refine tk2 3 19 hHeld HT_ HW_ ?_
     refine join_ (σ := Nat × Nat) 2 #[T,T,T,T,T,T,T,T,T,N,N] (fun s_ => [(22, .agg #[.int .i64 t103, .int .i64 t104]), (7, .pointer (some ⟨s_.1, 0, none⟩)), (8, .pointer (some ⟨s_.2, 0, none⟩))]) (fun s_ w' => (w'.cell? (ad102.add ((x6_1).toNat * 2)) = some (.int .i64 ((rd_T41 l0 x6_1).f0)) ∧ w'.cell? ⟨(ad102.add ((x6_1).toNat * 2)).block, (ad102.add ((x6_1).toNat * 2)).off + 1, none⟩ = some (.int .i64 ((rd_T41 l0 x6_1).f1))) ∧ (w'.heap[gb101]? = some (.cells #[.int .i64 a1_0, .int .i64 a1_1] 41 (0, 0))) ∧ (w'.heap[s_.1]? = some (.cells #[.int .i64 0, .int .i64 0] 41 (0, 0))) ∧ (w'.heap[s_.2]? = some (.cells #[.int .i64 0, .int .i64 0] 41 (0, 0))) ∧ (w.heap.size ≤ s_.1) ∧ (w.heap.size ≤ s_.1) ∧ (gb101 ≠ s_.1) ∧ (s_.1 ≠ gb101) ∧ (s_.2 ≠ s_.1) ∧ (s_.1 ≠ s_.2) ∧ (w.heap.size ≤ s_.2) ∧ (w.heap.size ≤ s_.2) ∧ (gb101 ≠ s_.2) ∧ (s_.2 ≠ gb101) ∧ (Below w.heap.size w w')) ?_ ?_
     rotate_left
     ·intro hJ6_7_8
      refine join_ (σ := Nat) 3 #[T,T,T,T,T,T,T,T,N,N,N] (fun s_ => [(22, .agg #[.int .i64 t103, .int .i64 t104]), (7, .pointer (some ⟨s_, 0, none⟩))]) (fun s_ w' => (w'.cell? (ad102.add ((x6_1).toNat * 2)) = some (.int .i64 ((rd_T41 l0 x6_1).f0)) ∧ w'.cell? ⟨(ad102.add ((x6_1).toNat * 2)).block, (ad102.add ((x6_1).toNat * 2)).off + 1, none⟩ = some (.int .i64 ((rd_T41 l0 x6_1).f1))) ∧ (w'.heap[gb101]? = some (.cells #[.int .i64 a1_0, .int .i64 a1_1] 41 (0, 0))) ∧ (w'.heap[s_]? = some (.cells #[.int .i64 0, .int .i64 0] 41 (0, 0))) ∧ (w.heap.size ≤ s_) ∧ (w.heap.size ≤ s_) ∧ (gb101 ≠ s_) ∧ (s_ ≠ gb101) ∧ (Below w.heap.size w w')) ?_ ?_
      rotate_left
      ·intro hJ6_7
       refine join_ (σ := Nat) 3 #[T,T,T,T,T,T,T,N,T,N,N] (fun s_ => [(22, .agg #[.int .i64 t103, .int .i64 t104]), (8, .pointer (some ⟨s_, 0, none⟩))]) (fun s_ w' => (w'.cell? (ad102.add ((x6_1).toNat * 2)) = some (.int .i64 ((rd_T41 l0 x6_1).f0)) ∧ w'.cell? ⟨(ad102.add ((x6_1).toNat * 2)).block, (ad102.add ((x6_1).toNat * 2)).off + 1, none⟩ = some (.int .i64 ((rd_T41 l0 x6_1).f1))) ∧ (w'.heap[gb101]? = some (.cells #[.int .i64 a1_0, .int .i64 a1_1] 41 (0, 0))) ∧ (w'.heap[s_]? = some (.cells #[.int .i64 0, .int .i64 0] 41 (0, 0))) ∧ (w.heap.size ≤ s_) ∧ (w.heap.size ≤ s_) ∧ (gb101 ≠ s_) ∧ (s_ ≠ gb101) ∧ (Below w.heap.size w w')) ?_ ?_
       rotate_left
       ·intro hJ6_8
        refine join_ (σ := Nat × Nat) 3 #[T,T,T,T,T,T,N,T,T,N,N] (fun s_ => [(7, .pointer (some ⟨s_.1, 0, none⟩)), (8, .pointer (some ⟨s_.2, 0, none⟩))]) (fun s_ w' => (w'.cell? (ad102.add ((x6_1).toNat * 2)) = some (.int .i64 ((rd_T41 l0 x6_1).f0)) ∧ w'.cell? ⟨(ad102.add ((x6_1).toNat * 2)).block, (ad102.add ((x6_1).toNat * 2)).off + 1, none⟩ = some (.int .i64 ((rd_T41 l0 x6_1).f1))) ∧ (w'.heap[gb101]? = some (.cells #[.int .i64 a1_0, .int .i64 a1_1] 41 (0, 0))) ∧ (w'.heap[s_.1]? = some (.cells #[.int .i64 0, .int .i64 0] 41 (0, 0))) ∧ (w'.heap[s_.2]? = some (.cells #[.int .i64 0, .int .i64 0] 41 (0, 0))) ∧ (w.heap.size ≤ s_.1) ∧ (w.heap.size ≤ s_.1) ∧ (gb101 ≠ s_.1) ∧ (s_.1 ≠ gb101) ∧ (s_.2 ≠ s_.1) ∧ (s_.1 ≠ s_.2) ∧ (w.heap.size ≤ s_.2) ∧ (w.heap.size ≤ s_.2) ∧ (gb101 ≠ s_.2) ∧ (s_.2 ≠ gb101) ∧ (Below w.heap.size w w')) ?_ ?_
        rotate_left
        ·intro hJ7_8
         refine join_ (σ := Unit) 4 #[T,T,T,T,T,T,T,N,N,N,N] (fun s_ => [(22, .agg #[.int .i64 t103, .int .i64 t104])]) (fun s_ w' => (w'.cell? (ad102.add ((x6_1).toNat * 2)) = some (.int .i64 ((rd_T41 l0 x6_1).f0)) ∧ w'.cell? ⟨(ad102.add ((x6_1).toNat * 2)).block, (ad102.add ((x6_1).toNat * 2)).off + 1, none⟩ = some (.int .i64 ((rd_T41 l0 x6_1).f1))) ∧ (w'.heap[gb101]? = some (.cells #[.int .i64 a1_0, .int .i64 a1_1] 41 (0, 0))) ∧ (Below w.heap.size w w')) ?_ ?_
         rotate_left
         ·intro hJ6
          refine join_ (σ := Nat) 4 #[T,T,T,T,T,T,N,T,N,N,N] (fun s_ => [(7, .pointer (some ⟨s_, 0, none⟩))]) (fun s_ w' => (w'.cell? (ad102.add ((x6_1).toNat * 2)) = some (.int .i64 ((rd_T41 l0 x6_1).f0)) ∧ w'.cell? ⟨(ad102.add ((x6_1).toNat * 2)).block, (ad102.add ((x6_1).toNat * 2)).off + 1, none⟩ = some (.int .i64 ((rd_T41 l0 x6_1).f1))) ∧ (w'.heap[gb101]? = some (.cells #[.int .i64 a1_0, .int .i64 a1_1] 41 (0, 0))) ∧ (w'.heap[s_]? = some (.cells #[.int .i64 0, .int .i64 0] 41 (0, 0))) ∧ (w.heap.size ≤ s_) ∧ (w.heap.size ≤ s_) ∧ (gb101 ≠ s_) ∧ (s_ ≠ gb101) ∧ (Below w.heap.size w w')) ?_ ?_
          rotate_left
          ·intro hJ7
           refine join_ (σ := Nat) 4 #[T,T,T,T,T,T,N,N,T,N,N] (fun s_ => [(8, .pointer (some ⟨s_, 0, none⟩))]) (fun s_ w' => (w'.cell? (ad102.add ((x6_1).toNat * 2)) = some (.int .i64 ((rd_T41 l0 x6_1).f0)) ∧ w'.cell? ⟨(ad102.add ((x6_1).toNat * 2)).block, (ad102.add ((x6_1).toNat * 2)).off + 1, none⟩ = some (.int .i64 ((rd_T41 l0 x6_1).f1))) ∧ (w'.heap[gb101]? = some (.cells #[.int .i64 a1_0, .int .i64 a1_1] 41 (0, 0))) ∧ (w'.heap[s_]? = some (.cells #[.int .i64 0, .int .i64 0] 41 (0, 0))) ∧ (w.heap.size ≤ s_) ∧ (w.heap.size ≤ s_) ∧ (gb101 ≠ s_) ∧ (s_ ≠ gb101) ∧ (Below w.heap.size w w')) ?_ ?_
           rotate_left
           ·intro hJ8
            refine three_ (i := 6) (j := 7) (k := 8) (Ni := some 22) (Nj := some 7) (Nk := some 8) #[T,T,T,T,T,T,T,N,N,N,N] #[T,T,T,T,T,T,N,T,N,N,N] #[T,T,T,T,T,T,N,N,T,N,N] rfl rfl rfl rfl rfl rfl (on3 HT_) (by decide) (by decide) (by decide) (fun K hK => ?_) (fun K hK => ?_) (fun K hK => ?_)
            ·skip
             refine goes_ Try.func58 (by kernel_rfl) rfl #[.slice (some ad102) l0.length c0, .int .i64 x6_1] (by rfl) rfl rfl sg ?_
             with_reducible refine (cracknelref04_next.calls _ _ l0 x6_1 t103 t104 _ ?side1 ?side2 A6.out).mono ?_
             (case side1 => exact cs (Kd.C_below HR0.out HB.out))
             (case side2 => exact HC0.out)
             rintro e w10 ⟨rfl, hb⟩
             refine ⟨_, rfl, ?_⟩
             replace BK101 := kb BK101 hb
             replace HB := bz hb
             (try clear hb)
             refine hK.out _ _ ⟨(hc HB hw102_0), (hc HB hw102_1)⟩ (fun hHeld => ?_)
             clear hK K
             refine nm 22 ?_
             exact norm_ pa (hJ6 () _ ⟨hHeld, bk BK101, bh⟩)
            ·skip
             refine bxs 7 #[.int .i64 0, .int .i64 0] 41 ?_
             intro gb105 hg w10 hbox hb
             have BK105 := Aside0.mk (hbox)
             have GW105 := ga w hg
             have GE105 := GW105
             have NB101_105 := nb hg (kl BK101)
             have NB105_101 := bn NB101_105
             replace BK101 := kb BK101 hb
             replace HB := bz hb
             clear hb hbox hg
             refine hK.out _ _ ⟨(hc HB hw102_0), (hc HB hw102_1)⟩ (fun hHeld => ?_)
             clear hK K
             refine nm 7 ?_
             exact norm_ pa (hJ7 (gb105) _ ⟨hHeld, bk BK101, bk BK105, GW105.out, GE105.out, NB101_105.out, NB105_101.out, bh⟩)
            ·skip
             refine bxs 8 #[.int .i64 0, .int .i64 0] 41 ?_
             intro gb106 hg w10 hbox hb
             have BK106 := Aside0.mk (hbox)
             have GW106 := ga w hg
             have GE106 := GW106
             have NB101_106 := nb hg (kl BK101)
             have NB106_101 := bn NB101_106
             replace BK101 := kb BK101 hb
             replace HB := bz hb
             clear hb hbox hg
             refine hK.out _ _ ⟨(hc HB hw102_0), (hc HB hw102_1)⟩ (fun hHeld => ?_)
             clear hK K
             refine nm 8 ?_
             exact norm_ pa (hJ8 (gb106) _ ⟨hHeld, bk BK101, bk BK106, GW106.out, GE106.out, NB101_106.out, NB106_101.out, bh⟩)
           ·skip
            rintro gb106 w11 ⟨hS_, h0_, h1_, h2_, h3_, h4_, h5_, h6_⟩
            have BK106 := Aside0.mk h1_
            have GW106 := Aside0.mk h2_
            have GE106 := Aside0.mk h3_
            have NB101_106 := Aside0.mk h4_
            have NB106_101 := Aside0.mk h5_
            replace BK101 := Aside0.mk h0_
            replace HB := Aside0.mk h6_
            clear h0_ h1_ h2_ h3_ h4_ h5_ h6_
            have hHeld := hS_
            refine nn ?_
            refine two_ (i := 6) (j := 7) (Ni := some 22) (Nj := some 7) #[T,T,T,T,T,T,T,N,T,N,N] #[T,T,T,T,T,T,N,T,T,N,N] rfl rfl rfl rfl (on2 HT_) (by decide) (by decide) (fun K hK => ?_) (fun K hK => ?_)
            ·skip
             refine goes_ Try.func58 (by kernel_rfl) rfl #[.slice (some ad102) l0.length c0, .int .i64 x6_1] (by rfl) rfl rfl sg ?_
             with_reducible refine (cracknelref04_next.calls _ _ l0 x6_1 t103 t104 _ ?side1 ?side2 A6.out).mono ?_
             (case side1 => exact cs (Kd.C_below HR0.out HB.out))
             (case side2 => exact HC0.out)
             rintro e w12 ⟨rfl, hb⟩
             refine ⟨_, rfl, ?_⟩
             replace BK101 := kb BK101 hb
             replace BK106 := kb BK106 hb
             replace HB := bz hb
             (try clear hb)
             refine hK.out _ _ ⟨(hc HB hw102_0), (hc HB hw102_1)⟩ (fun hHeld => ?_)
             clear hK K
             refine nm 22 ?_
             exact norm_ pa (hJ6_8 (gb106) _ ⟨hHeld, bk BK101, bk BK106, GW106.out, GE106.out, NB101_106.out, NB106_101.out, bh⟩)
            ·skip
             refine bxs 7 #[.int .i64 0, .int .i64 0] 41 ?_
             intro gb105 hg w12 hbox hb
             have BK105 := Aside0.mk (hbox)
             have GW105 := ga w hg
             have GE105 := GW105
             have NB101_105 := nb hg (kl BK101)
             have NB105_101 := bn NB101_105
             have NB106_105 := nb hg (kl BK106)
             have NB105_106 := bn NB106_105
             replace BK101 := kb BK101 hb
             replace BK106 := kb BK106 hb
             replace HB := bz hb
             clear hb hbox hg
             refine hK.out _ _ ⟨(hc HB hw102_0), (hc HB hw102_1)⟩ (fun hHeld => ?_)
             clear hK K
             refine nm 7 ?_
             exact norm_ pa (hJ7_8 (gb105, gb106) _ ⟨hHeld, bk BK101, bk BK105, bk BK106, GW105.out, GE105.out, NB101_105.out, NB105_101.out, NB106_105.out, NB105_106.out, GW106.out, GE106.out, NB101_106.out, NB106_101.out, bh⟩)
          ·skip
           rintro gb105 w11 ⟨hS_, h0_, h1_, h2_, h3_, h4_, h5_, h6_⟩
           have BK105 := Aside0.mk h1_
           have GW105 := Aside0.mk h2_
           have GE105 := Aside0.mk h3_
           have NB101_105 := Aside0.mk h4_
           have NB105_101 := Aside0.mk h5_
           replace BK101 := Aside0.mk h0_
           replace HB := Aside0.mk h6_
           clear h0_ h1_ h2_ h3_ h4_ h5_ h6_
           have hHeld := hS_
           refine nn ?_
           refine two_ (i := 6) (j := 8) (Ni := some 22) (Nj := some 8) #[T,T,T,T,T,T,T,T,N,N,N] #[T,T,T,T,T,T,N,T,T,N,N] rfl rfl rfl rfl (on2 HT_) (by decide) (by decide) (fun K hK => ?_) (fun K hK => ?_)
           ·skip
            refine goes_ Try.func58 (by kernel_rfl) rfl #[.slice (some ad102) l0.length c0, .int .i64 x6_1] (by rfl) rfl rfl sg ?_
            with_reducible refine (cracknelref04_next.calls _ _ l0 x6_1 t103 t104 _ ?side1 ?side2 A6.out).mono ?_
            (case side1 => exact cs (Kd.C_below HR0.out HB.out))
            (case side2 => exact HC0.out)
            rintro e w12 ⟨rfl, hb⟩
            refine ⟨_, rfl, ?_⟩
            replace BK101 := kb BK101 hb
            replace BK105 := kb BK105 hb
            replace HB := bz hb
            (try clear hb)
            refine hK.out _ _ ⟨(hc HB hw102_0), (hc HB hw102_1)⟩ (fun hHeld => ?_)
            clear hK K
            refine nm 22 ?_
            exact norm_ pa (hJ6_7 (gb105) _ ⟨hHeld, bk BK101, bk BK105, GW105.out, GE105.out, NB101_105.out, NB105_101.out, bh⟩)
           ·skip
            refine bxs 8 #[.int .i64 0, .int .i64 0] 41 ?_
            intro gb106 hg w12 hbox hb
            have BK106 := Aside0.mk (hbox)
            have GW106 := ga w hg
            have GE106 := GW106
            have NB101_106 := nb hg (kl BK101)
            have NB106_101 := bn NB101_106
            have NB105_106 := nb hg (kl BK105)
            have NB106_105 := bn NB105_106
            replace BK101 := kb BK101 hb
            replace BK105 := kb BK105 hb
            replace HB := bz hb
            clear hb hbox hg
            refine hK.out _ _ ⟨(hc HB hw102_0), (hc HB hw102_1)⟩ (fun hHeld => ?_)
            clear hK K
            refine nm 8 ?_
            exact norm_ pa (hJ7_8 (gb105, gb106) _ ⟨hHeld, bk BK101, bk BK105, bk BK106, GW105.out, GE105.out, NB101_105.out, NB105_101.out, NB106_105.out, NB105_106.out, GW106.out, GE106.out, NB101_106.out, NB106_101.out, bh⟩)
         ·skip
          rintro _ w11 ⟨hS_, h0_, h1_⟩
          replace BK101 := Aside0.mk h0_
          replace HB := Aside0.mk h1_
          clear h0_ h1_
          have hHeld := hS_
          refine nn ?_
          refine two_ (i := 7) (j := 8) (Ni := some 7) (Nj := some 8) #[T,T,T,T,T,T,T,T,N,N,N] #[T,T,T,T,T,T,T,N,T,N,N] rfl rfl rfl rfl (on2 HT_) (by decide) (by decide) (fun K hK => ?_) (fun K hK => ?_)
          ·skip
           refine bxs 7 #[.int .i64 0, .int .i64 0] 41 ?_
           intro gb105 hg w12 hbox hb
           have BK105 := Aside0.mk (hbox)
           have GW105 := ga w hg
           have GE105 := GW105
           have NB101_105 := nb hg (kl BK101)
           have NB105_101 := bn NB101_105
           replace BK101 := kb BK101 hb
           replace HB := bz hb
           clear hb hbox hg
           refine hK.out _ _ ⟨(hc HB hw102_0), (hc HB hw102_1)⟩ (fun hHeld => ?_)
           clear hK K
           refine nm 7 ?_
           exact norm_ pa (hJ6_7 (gb105) _ ⟨hHeld, bk BK101, bk BK105, GW105.out, GE105.out, NB101_105.out, NB105_101.out, bh⟩)
          ·skip
           refine bxs 8 #[.int .i64 0, .int .i64 0] 41 ?_
           intro gb106 hg w12 hbox hb
           have BK106 := Aside0.mk (hbox)
           have GW106 := ga w hg
           have GE106 := GW106
           have NB101_106 := nb hg (kl BK101)
           have NB106_101 := bn NB101_106
           replace BK101 := kb BK101 hb
           replace HB := bz hb
           clear hb hbox hg
           refine hK.out _ _ ⟨(hc HB hw102_0), (hc HB hw102_1)⟩ (fun hHeld => ?_)
           clear hK K
           refine nm 8 ?_
           exact norm_ pa (hJ6_8 (gb106) _ ⟨hHeld, bk BK101, bk BK106, GW106.out, GE106.out, NB101_106.out, NB106_101.out, bh⟩)
        ·skip
         rintro ⟨gb105, gb106⟩ w12 ⟨hS_, h0_, h1_, h2_, h3_, h4_, h5_, h6_, h7_, h8_, h9_, h10_, h11_, h12_, h13_⟩
         have BK105 := Aside0.mk h1_
         have BK106 := Aside0.mk h2_
         have GW105 := Aside0.mk h3_
         have GE105 := Aside0.mk h4_
         have NB101_105 := Aside0.mk h5_
         have NB105_101 := Aside0.mk h6_
         have NB106_105 := Aside0.mk h7_
         have NB105_106 := Aside0.mk h8_
         have GW106 := Aside0.mk h9_
         have GE106 := Aside0.mk h10_
         have NB101_106 := Aside0.mk h11_
         have NB106_101 := Aside0.mk h12_
         replace BK101 := Aside0.mk h0_
         replace HB := Aside0.mk h13_
         clear h0_ h1_ h2_ h3_ h4_ h5_ h6_ h7_ h8_ h9_ h10_ h11_ h12_ h13_
         have hHeld := hS_
         refine nn ?_
         refine one_ (i := 6) (N := some 22) #[T,T,T,T,T,T,T,T,T,N,N] rfl rfl (on1 HT_) (by decide) (fun K hK => ?_)
         refine goes_ Try.func58 (by kernel_rfl) rfl #[.slice (some ad102) l0.length c0, .int .i64 x6_1] (by rfl) rfl rfl sg ?_
         with_reducible refine (cracknelref04_next.calls _ _ l0 x6_1 t103 t104 _ ?side1 ?side2 A6.out).mono ?_
         (case side1 => exact cs (Kd.C_below HR0.out HB.out))
         (case side2 => exact HC0.out)
         rintro e w13 ⟨rfl, hb⟩
         refine ⟨_, rfl, ?_⟩
         replace BK101 := kb BK101 hb
         replace BK105 := kb BK105 hb
         replace BK106 := kb BK106 hb
         replace HB := bz hb
         (try clear hb)
         refine hK.out _ _ ⟨(hc HB hw102_0), (hc HB hw102_1)⟩ (fun hHeld => ?_)
         clear hK K
         refine nm 22 ?_
         exact norm_ pa (hJ6_7_8 (gb105, gb106) _ ⟨hHeld, bk BK101, bk BK105, bk BK106, GW105.out, GE105.out, NB101_105.out, NB105_101.out, NB106_105.out, NB105_106.out, GW106.out, GE106.out, NB101_106.out, NB106_101.out, bh⟩)
       ·skip
        rintro gb106 w12 ⟨hS_, h0_, h1_, h2_, h3_, h4_, h5_, h6_⟩
        have BK106 := Aside0.mk h1_
        have GW106 := Aside0.mk h2_
        have GE106 := Aside0.mk h3_
        have NB101_106 := Aside0.mk h4_
        have NB106_101 := Aside0.mk h5_
        replace BK101 := Aside0.mk h0_
        replace HB := Aside0.mk h6_
        clear h0_ h1_ h2_ h3_ h4_ h5_ h6_
        have hHeld := hS_
        refine nn ?_
        refine one_ (i := 7) (N := some 7) #[T,T,T,T,T,T,T,T,T,N,N] rfl rfl (on1 HT_) (by decide) (fun K hK => ?_)
        refine bxs 7 #[.int .i64 0, .int .i64 0] 41 ?_
        intro gb105 hg w13 hbox hb
        have BK105 := Aside0.mk (hbox)
        have GW105 := ga w hg
        have GE105 := GW105
        have NB101_105 := nb hg (kl BK101)
        have NB105_101 := bn NB101_105
        have NB106_105 := nb hg (kl BK106)
        have NB105_106 := bn NB106_105
        replace BK101 := kb BK101 hb
        replace BK106 := kb BK106 hb
        replace HB := bz hb
        clear hb hbox hg
        refine hK.out _ _ ⟨(hc HB hw102_0), (hc HB hw102_1)⟩ (fun hHeld => ?_)
        clear hK K
        refine nm 7 ?_
        exact norm_ pa (hJ6_7_8 (gb105, gb106) _ ⟨hHeld, bk BK101, bk BK105, bk BK106, GW105.out, GE105.out, NB101_105.out, NB105_101.out, NB106_105.out, NB105_106.out, GW106.out, GE106.out, NB101_106.out, NB106_101.out, bh⟩)
      ·skip
       rintro gb105 w12 ⟨hS_, h0_, h1_, h2_, h3_, h4_, h5_, h6_⟩
       have BK105 := Aside0.mk h1_
       have GW105 := Aside0.mk h2_
       have GE105 := Aside0.mk h3_
       have NB101_105 := Aside0.mk h4_
       have NB105_101 := Aside0.mk h5_
       replace BK101 := Aside0.mk h0_
       replace HB := Aside0.mk h6_
       clear h0_ h1_ h2_ h3_ h4_ h5_ h6_
       have hHeld := hS_
       refine nn ?_
       refine one_ (i := 8) (N := some 8) #[T,T,T,T,T,T,T,T,T,N,N] rfl rfl (on1 HT_) (by decide) (fun K hK => ?_)
       refine bxs 8 #[.int .i64 0, .int .i64 0] 41 ?_
       intro gb106 hg w13 hbox hb
       have BK106 := Aside0.mk (hbox)
       have GW106 := ga w hg
       have GE106 := GW106
       have NB101_106 := nb hg (kl BK101)
       have NB106_101 := bn NB101_106
       have NB105_106 := nb hg (kl BK105)
       have NB106_105 := bn NB105_106
       replace BK101 := kb BK101 hb
       replace BK105 := kb BK105 hb
       replace HB := bz hb
       clear hb hbox hg
       refine hK.out _ _ ⟨(hc HB hw102_0), (hc HB hw102_1)⟩ (fun hHeld => ?_)
       clear hK K
       refine nm 8 ?_
       exact norm_ pa (hJ6_7_8 (gb105, gb106) _ ⟨hHeld, bk BK101, bk BK105, bk BK106, GW105.out, GE105.out, NB101_105.out, NB105_101.out, NB106_105.out, NB105_106.out, GW106.out, GE106.out, NB101_106.out, NB106_101.out, bh⟩)
     rintro ⟨gb105, gb106⟩ w13 ⟨hS_, h0_, h1_, h2_, h3_, h4_, h5_, h6_, h7_, h8_, h9_, h10_, h11_, h12_, h13_⟩
     have BK105 := Aside0.mk h1_
     have BK106 := Aside0.mk h2_
     have GW105 := Aside0.mk h3_
     have GE105 := Aside0.mk h4_
     have NB101_105 := Aside0.mk h5_
     have NB105_101 := Aside0.mk h6_
     have NB106_105 := Aside0.mk h7_
     have NB105_106 := Aside0.mk h8_
     have GW106 := Aside0.mk h9_
     have GE106 := Aside0.mk h10_
     have NB101_106 := Aside0.mk h11_
     have NB106_101 := Aside0.mk h12_
     replace BK101 := Aside0.mk h0_
     replace HB := Aside0.mk h13_
     clear h0_ h1_ h2_ h3_ h4_ h5_ h6_ h7_ h8_ h9_ h10_ h11_ h12_ h13_
     have hHeld := hS_
     refine nn ?_
     refine one_ (i := 9) (N := none) #[T,T,T,T,T,T,T,T,T,T,N] rfl rfl (on1 HT_) (by decide) (fun K hK => ?_)
     have hs14 : w13.cell? ⟨gb105, 0, none⟩ = some (.int .i64 0) := bc BK105 0
     have hfs14 := blk_frozen BK105.out 0
     have hns14_0 := NB101_105.out
     have hns14_2 := NB106_105.out
     have hms14_0 := NB105_101.out
     have hms14_2 := NB105_106.out
     have hs15 : w13.cell? ⟨gb105, 1, none⟩ = some (.int .i64 0) := bc BK105 1
     have hfs15 := blk_frozen BK105.out 1
     have hns15_0 := NB101_105.out
     have hns15_2 := NB106_105.out
     have hms15_0 := NB105_101.out
     have hms15_2 := NB105_106.out
     refine skip_ (w1 := ?_) (by rfl) rfl ?_ ?_
     rotate_left
     ·go_simp
      rfl
     refine hK.out _ _ ⟨((cell_far (p := ⟨gb105, _, none⟩) (fr hw102_0 GW105) _).trans (((cell_far (p := ⟨gb105, _, none⟩) (fr hw102_0 GW105) _).trans (hHeld.1)))), ((cell_far (p := ⟨gb105, _, none⟩) (fr hw102_1 GW105) _).trans (((cell_far (p := ⟨gb105, _, none⟩) (fr hw102_1 GW105) _).trans (hHeld.2))))⟩ (fun hHeld => ?_)
     clear hK K
     refine one_ (i := 10) (N := none) #[T,T,T,T,T,T,T,T,T,T,T] rfl rfl (on1 HT_) (by decide) (fun K hK => ?_)
     have hs16 : w13.cell? ⟨gb106, 0, none⟩ = some (.int .i64 0) := bc BK106 0
     have hfs16 := blk_frozen BK106.out 0
     have hns16_0 := NB101_106.out
     have hns16_1 := NB105_106.out
     have hms16_0 := NB106_101.out
     have hms16_1 := NB106_105.out
     have hs17 : w13.cell? ⟨gb106, 1, none⟩ = some (.int .i64 0) := bc BK106 1
     have hfs17 := blk_frozen BK106.out 1
     have hns17_0 := NB101_106.out
     have hns17_1 := NB105_106.out
     have hms17_0 := NB106_101.out
     have hms17_1 := NB106_105.out
     refine skip_ (w1 := ?_) (by rfl) rfl ?_ ?_
     rotate_left
     ·go_simp
      rfl
     refine hK.out _ _ ⟨((cell_far (p := ⟨gb106, _, none⟩) (fr hw102_0 GW106) _).trans (((cell_far (p := ⟨gb106, _, none⟩) (fr hw102_0 GW106) _).trans (hHeld.1)))), ((cell_far (p := ⟨gb106, _, none⟩) (fr hw102_1 GW106) _).trans (((cell_far (p := ⟨gb106, _, none⟩) (fr hw102_1 GW106) _).trans (hHeld.2))))⟩ (fun hHeld => ?_)
     clear hK K
     refine done_ (done_of HT_.out (by kernel_rfl)) ?_
     have hnb18 := NB105_101.out
     have hnc18 := NB101_105.out
     have hnb19 := NB105_106.out
     have hnc19 := NB106_105.out
     obtain ⟨hcz20_0, hcz20_1, hfz20_0, hfz20_1⟩ := b2 BK105
     have hnb21 := NB106_101.out
     have hnc21 := NB101_106.out
     obtain ⟨hcz22_0, hcz22_1, hfz22_0, hfz22_1⟩ := b2 BK106
     obtain ⟨hcz23_0, hcz23_1, hfz23_0, hfz23_1⟩ := b2 BK101
     try go_wp2_with (first | ((with_reducible refine gc 59 rfl ?_); refine goesL_ (some 26) rfl rfl Try.func59 (by kernel_rfl) rfl #[.agg #[.int .i64 ((rd_T41 l0 x6_1).f0), .int .i64 ((rd_T41 l0 x6_1).f1)], .agg #[.int .i64 t103, .int .i64 t104], .agg #[.int .i64 a1_0, .int .i64 a1_1]] rfl sg ?_; (with_reducible refine (cracknelref04_On.calls ((rd_T41 l0 x6_1).f0) ((rd_T41 l0 x6_1).f1) t103 t104 a1_0 a1_1 true _ A7.out).mono ?_); rintro e w24 ⟨rfl, hb⟩; refine ⟨_, rfl, ?_⟩; replace BK101 := Aside0.mk (blk_below (g := gb101) (o := .cells #[.int .i64 a1_0, .int .i64 a1_1] 41 (0, 0)) (by refine bf NB101_106 ?_; refine bf NB101_106 ?_; refine bf NB101_105 ?_; refine bf NB101_105 ?_; refine bd ?_; exact BK101.out) hb); replace BK105 := Aside0.mk (blk_below (g := gb105) (o := .cells #[.int .i64 ((rd_T41 l0 x6_1).f0), .int .i64 ((rd_T41 l0 x6_1).f1)] 41 (0, 0)) (by refine bf NB105_106 ?_; refine bf NB105_106 ?_; refine bd ?_; refine blk_put (cs := #[.int .i64 ((rd_T41 l0 x6_1).f0), .int .i64 0]) ?_ 1 _ rfl; refine bd ?_; refine blk_put (cs := #[.int .i64 0, .int .i64 0]) ?_ 0 _ rfl; refine bd ?_; exact BK105.out) hb); replace BK106 := Aside0.mk (blk_below (g := gb106) (o := .cells #[.int .i64 t103, .int .i64 t104] 41 (0, 0)) (by refine bd ?_; refine blk_put (cs := #[.int .i64 t103, .int .i64 0]) ?_ 1 _ rfl; refine bd ?_; refine blk_put (cs := #[.int .i64 0, .int .i64 0]) ?_ 0 _ rfl; refine bf NB106_105 ?_; refine bf NB106_105 ?_; refine bd ?_; exact BK106.out) hb); replace HB := bz hb; (try clear hb)))
     go_ret
     exact ⟨by exact er, bh⟩
    ·replace c8 := Bool.eq_false_iff.mpr c8
     subst c8
     rw [if_neg (show ¬ (false = true) by decide)] at H
     by_cases c25 : ((decide (((rd_T41 l0 x6_1).f1) > a1_1)) != (decide (t104 > a1_1))) = true
     ·rw [if_pos c25] at H
      have c25b0 : ((decide (((rd_T41 l0 x6_1).f1) > a1_1)) != (decide (t104 > a1_1))) = true := c25
      (try (have c25b1 : decide ((decide (((rd_T41 l0 x6_1).f1) > a1_1)) = (decide (t104 > a1_1))) = false := by simpa using c25))
      (try (have c25b2 : ((decide (((rd_T41 l0 x6_1).f1) > a1_1)) == (decide (t104 > a1_1))) = false := by simpa using c25))
      (try (have c25b3 : ¬ ((decide (((rd_T41 l0 x6_1).f1) > a1_1)) = (decide (t104 > a1_1))) := by simpa using c25))
      clear c25
      replace H := Option.bind_eq_some_iff.mp H
      obtain ⟨t108, A260, H⟩ := H
      try dsimp only at H
      have A26 := Aside0.mk A260
      clear A260
      have HC27 := Aside0.mk H
      clear H
      try go_wp2
      replace BK101 := Aside0.mk (blk_drew BK101.out)
      replace HB := Aside0.mk (below_drew1 HB.out)
      have p102 : 0 ≤ (x6_1 : Int) := dt
      have q102 : x6_1 < (l0.length : Int) := dt
      obtain ⟨ad102, e102, hx102_0, hx102_1⟩ := at_T41 HR0.out x6_1 p102 q102
      have hw102_1 := hx102_1
      have hw102_0 := hx102_0
      cases e102
      replace hx102_0 := hc HB hx102_0
      replace hx102_1 := hc HB hx102_1
      replace p102 := eq_true p102
      replace q102 := eq_true q102
      refine start_ (n := 11) (S := fun w' => w'.cell? (ad102.add ((x6_1).toNat * 2)) = some (.int .i64 ((rd_T41 l0 x6_1).f0)) ∧ w'.cell? ⟨(ad102.add ((x6_1).toNat * 2)).block, (ad102.add ((x6_1).toNat * 2)).off + 1, none⟩ = some (.int .i64 ((rd_T41 l0 x6_1).f1))) (ds := []) #[N,N,N,N,N,N,N,N,N,N,N] (by kernel_rfl) rfl rfl ⟨(hc HB hw102_0), (hc HB hw102_1)⟩ (fun hHeld => ?_); refine with_tabW cracknelref04_Where.tab5 cracknelref04_Where.bits5 (fun HT_ HW_ => ?_)
      generalize wr.drew = w28 at BK101 HB hx102_0 hx102_1 hHeld ⊢
      refine pu 0 16 HT_ ?_
      refine pu 1 17 HT_ ?_
      refine pu 2 18 HT_ ?_
      refine pu 4 20 HT_ ?_
      refine pu 5 21 HT_ ?_
      refine tk2 3 19 hHeld HT_ HW_ ?_
      refine join_ (σ := Nat × Nat) 2 #[T,T,T,T,T,T,T,T,T,N,N] (fun s_ => [(22, .agg #[.int .i64 t103, .int .i64 t104]), (7, .pointer (some ⟨s_.1, 0, none⟩)), (8, .pointer (some ⟨s_.2, 0, none⟩))]) (fun s_ w' => (w'.cell? (ad102.add ((x6_1).toNat * 2)) = some (.int .i64 ((rd_T41 l0 x6_1).f0)) ∧ w'.cell? ⟨(ad102.add ((x6_1).toNat * 2)).block, (ad102.add ((x6_1).toNat * 2)).off + 1, none⟩ = some (.int .i64 ((rd_T41 l0 x6_1).f1))) ∧ (w'.heap[gb101]? = some (.cells #[.int .i64 a1_0, .int .i64 a1_1] 41 (0, 0))) ∧ (w'.heap[s_.1]? = some (.cells #[.int .i64 0, .int .i64 0] 41 (0, 0))) ∧ (w'.heap[s_.2]? = some (.cells #[.int .i64 0, .int .i64 0] 41 (0, 0))) ∧ (w.heap.size ≤ s_.1) ∧ (w.heap.size ≤ s_.1) ∧ (gb101 ≠ s_.1) ∧ (s_.1 ≠ gb101) ∧ (s_.2 ≠ s_.1) ∧ (s_.1 ≠ s_.2) ∧ (w.heap.size ≤ s_.2) ∧ (w.heap.size ≤ s_.2) ∧ (gb101 ≠ s_.2) ∧ (s_.2 ≠ gb101) ∧ (Below w.heap.size w w')) ?_ ?_
      rotate_left
      ·intro hJ6_7_8
       refine join_ (σ := Nat) 3 #[T,T,T,T,T,T,T,T,N,N,N] (fun s_ => [(22, .agg #[.int .i64 t103, .int .i64 t104]), (7, .pointer (some ⟨s_, 0, none⟩))]) (fun s_ w' => (w'.cell? (ad102.add ((x6_1).toNat * 2)) = some (.int .i64 ((rd_T41 l0 x6_1).f0)) ∧ w'.cell? ⟨(ad102.add ((x6_1).toNat * 2)).block, (ad102.add ((x6_1).toNat * 2)).off + 1, none⟩ = some (.int .i64 ((rd_T41 l0 x6_1).f1))) ∧ (w'.heap[gb101]? = some (.cells #[.int .i64 a1_0, .int .i64 a1_1] 41 (0, 0))) ∧ (w'.heap[s_]? = some (.cells #[.int .i64 0, .int .i64 0] 41 (0, 0))) ∧ (w.heap.size ≤ s_) ∧ (w.heap.size ≤ s_) ∧ (gb101 ≠ s_) ∧ (s_ ≠ gb101) ∧ (Below w.heap.size w w')) ?_ ?_
       rotate_left
       ·intro hJ6_7
        refine join_ (σ := Nat) 3 #[T,T,T,T,T,T,T,N,T,N,N] (fun s_ => [(22, .agg #[.int .i64 t103, .int .i64 t104]), (8, .pointer (some ⟨s_, 0, none⟩))]) (fun s_ w' => (w'.cell? (ad102.add ((x6_1).toNat * 2)) = some (.int .i64 ((rd_T41 l0 x6_1).f0)) ∧ w'.cell? ⟨(ad102.add ((x6_1).toNat * 2)).block, (ad102.add ((x6_1).toNat * 2)).off + 1, none⟩ = some (.int .i64 ((rd_T41 l0 x6_1).f1))) ∧ (w'.heap[gb101]? = some (.cells #[.int .i64 a1_0, .int .i64 a1_1] 41 (0, 0))) ∧ (w'.heap[s_]? = some (.cells #[.int .i64 0, .int .i64 0] 41 (0, 0))) ∧ (w.heap.size ≤ s_) ∧ (w.heap.size ≤ s_) ∧ (gb101 ≠ s_) ∧ (s_ ≠ gb101) ∧ (Below w.heap.size w w')) ?_ ?_
        rotate_left
        ·intro hJ6_8
         refine join_ (σ := Nat × Nat) 3 #[T,T,T,T,T,T,N,T,T,N,N] (fun s_ => [(7, .pointer (some ⟨s_.1, 0, none⟩)), (8, .pointer (some ⟨s_.2, 0, none⟩))]) (fun s_ w' => (w'.cell? (ad102.add ((x6_1).toNat * 2)) = some (.int .i64 ((rd_T41 l0 x6_1).f0)) ∧ w'.cell? ⟨(ad102.add ((x6_1).toNat * 2)).block, (ad102.add ((x6_1).toNat * 2)).off + 1, none⟩ = some (.int .i64 ((rd_T41 l0 x6_1).f1))) ∧ (w'.heap[gb101]? = some (.cells #[.int .i64 a1_0, .int .i64 a1_1] 41 (0, 0))) ∧ (w'.heap[s_.1]? = some (.cells #[.int .i64 0, .int .i64 0] 41 (0, 0))) ∧ (w'.heap[s_.2]? = some (.cells #[.int .i64 0, .int .i64 0] 41 (0, 0))) ∧ (w.heap.size ≤ s_.1) ∧ (w.heap.size ≤ s_.1) ∧ (gb101 ≠ s_.1) ∧ (s_.1 ≠ gb101) ∧ (s_.2 ≠ s_.1) ∧ (s_.1 ≠ s_.2) ∧ (w.heap.size ≤ s_.2) ∧ (w.heap.size ≤ s_.2) ∧ (gb101 ≠ s_.2) ∧ (s_.2 ≠ gb101) ∧ (Below w.heap.size w w')) ?_ ?_
         rotate_left
         ·intro hJ7_8
          refine join_ (σ := Unit) 4 #[T,T,T,T,T,T,T,N,N,N,N] (fun s_ => [(22, .agg #[.int .i64 t103, .int .i64 t104])]) (fun s_ w' => (w'.cell? (ad102.add ((x6_1).toNat * 2)) = some (.int .i64 ((rd_T41 l0 x6_1).f0)) ∧ w'.cell? ⟨(ad102.add ((x6_1).toNat * 2)).block, (ad102.add ((x6_1).toNat * 2)).off + 1, none⟩ = some (.int .i64 ((rd_T41 l0 x6_1).f1))) ∧ (w'.heap[gb101]? = some (.cells #[.int .i64 a1_0, .int .i64 a1_1] 41 (0, 0))) ∧ (Below w.heap.size w w')) ?_ ?_
          rotate_left
          ·intro hJ6
           refine join_ (σ := Nat) 4 #[T,T,T,T,T,T,N,T,N,N,N] (fun s_ => [(7, .pointer (some ⟨s_, 0, none⟩))]) (fun s_ w' => (w'.cell? (ad102.add ((x6_1).toNat * 2)) = some (.int .i64 ((rd_T41 l0 x6_1).f0)) ∧ w'.cell? ⟨(ad102.add ((x6_1).toNat * 2)).block, (ad102.add ((x6_1).toNat * 2)).off + 1, none⟩ = some (.int .i64 ((rd_T41 l0 x6_1).f1))) ∧ (w'.heap[gb101]? = some (.cells #[.int .i64 a1_0, .int .i64 a1_1] 41 (0, 0))) ∧ (w'.heap[s_]? = some (.cells #[.int .i64 0, .int .i64 0] 41 (0, 0))) ∧ (w.heap.size ≤ s_) ∧ (w.heap.size ≤ s_) ∧ (gb101 ≠ s_) ∧ (s_ ≠ gb101) ∧ (Below w.heap.size w w')) ?_ ?_
           rotate_left
           ·intro hJ7
            refine join_ (σ := Nat) 4 #[T,T,T,T,T,T,N,N,T,N,N] (fun s_ => [(8, .pointer (some ⟨s_, 0, none⟩))]) (fun s_ w' => (w'.cell? (ad102.add ((x6_1).toNat * 2)) = some (.int .i64 ((rd_T41 l0 x6_1).f0)) ∧ w'.cell? ⟨(ad102.add ((x6_1).toNat * 2)).block, (ad102.add ((x6_1).toNat * 2)).off + 1, none⟩ = some (.int .i64 ((rd_T41 l0 x6_1).f1))) ∧ (w'.heap[gb101]? = some (.cells #[.int .i64 a1_0, .int .i64 a1_1] 41 (0, 0))) ∧ (w'.heap[s_]? = some (.cells #[.int .i64 0, .int .i64 0] 41 (0, 0))) ∧ (w.heap.size ≤ s_) ∧ (w.heap.size ≤ s_) ∧ (gb101 ≠ s_) ∧ (s_ ≠ gb101) ∧ (Below w.heap.size w w')) ?_ ?_
            rotate_left
            ·intro hJ8
             refine three_ (i := 6) (j := 7) (k := 8) (Ni := some 22) (Nj := some 7) (Nk := some 8) #[T,T,T,T,T,T,T,N,N,N,N] #[T,T,T,T,T,T,N,T,N,N,N] #[T,T,T,T,T,T,N,N,T,N,N] rfl rfl rfl rfl rfl rfl (on3 HT_) (by decide) (by decide) (by decide) (fun K hK => ?_) (fun K hK => ?_) (fun K hK => ?_)
             ·skip
              refine goes_ Try.func58 (by kernel_rfl) rfl #[.slice (some ad102) l0.length c0, .int .i64 x6_1] (by rfl) rfl rfl sg ?_
              with_reducible refine (cracknelref04_next.calls _ _ l0 x6_1 t103 t104 _ ?side1 ?side2 A6.out).mono ?_
              (case side1 => exact cs (Kd.C_below HR0.out HB.out))
              (case side2 => exact HC0.out)
              rintro e w29 ⟨rfl, hb⟩
              refine ⟨_, rfl, ?_⟩
              replace BK101 := kb BK101 hb
              replace HB := bz hb
              (try clear hb)
              refine hK.out _ _ ⟨(hc HB hw102_0), (hc HB hw102_1)⟩ (fun hHeld => ?_)
              clear hK K
              refine nm 22 ?_
              exact norm_ pa (hJ6 () _ ⟨hHeld, bk BK101, bh⟩)
             ·skip
              refine bxs 7 #[.int .i64 0, .int .i64 0] 41 ?_
              intro gb105 hg w29 hbox hb
              have BK105 := Aside0.mk (hbox)
              have GW105 := ga w hg
              have GE105 := GW105
              have NB101_105 := nb hg (kl BK101)
              have NB105_101 := bn NB101_105
              replace BK101 := kb BK101 hb
              replace HB := bz hb
              clear hb hbox hg
              refine hK.out _ _ ⟨(hc HB hw102_0), (hc HB hw102_1)⟩ (fun hHeld => ?_)
              clear hK K
              refine nm 7 ?_
              exact norm_ pa (hJ7 (gb105) _ ⟨hHeld, bk BK101, bk BK105, GW105.out, GE105.out, NB101_105.out, NB105_101.out, bh⟩)
             ·skip
              refine bxs 8 #[.int .i64 0, .int .i64 0] 41 ?_
              intro gb106 hg w29 hbox hb
              have BK106 := Aside0.mk (hbox)
              have GW106 := ga w hg
              have GE106 := GW106
              have NB101_106 := nb hg (kl BK101)
              have NB106_101 := bn NB101_106
              replace BK101 := kb BK101 hb
              replace HB := bz hb
              clear hb hbox hg
              refine hK.out _ _ ⟨(hc HB hw102_0), (hc HB hw102_1)⟩ (fun hHeld => ?_)
              clear hK K
              refine nm 8 ?_
              exact norm_ pa (hJ8 (gb106) _ ⟨hHeld, bk BK101, bk BK106, GW106.out, GE106.out, NB101_106.out, NB106_101.out, bh⟩)
            ·skip
             rintro gb106 w30 ⟨hS_, h0_, h1_, h2_, h3_, h4_, h5_, h6_⟩
             have BK106 := Aside0.mk h1_
             have GW106 := Aside0.mk h2_
             have GE106 := Aside0.mk h3_
             have NB101_106 := Aside0.mk h4_
             have NB106_101 := Aside0.mk h5_
             replace BK101 := Aside0.mk h0_
             replace HB := Aside0.mk h6_
             clear h0_ h1_ h2_ h3_ h4_ h5_ h6_
             have hHeld := hS_
             refine nn ?_
             refine two_ (i := 6) (j := 7) (Ni := some 22) (Nj := some 7) #[T,T,T,T,T,T,T,N,T,N,N] #[T,T,T,T,T,T,N,T,T,N,N] rfl rfl rfl rfl (on2 HT_) (by decide) (by decide) (fun K hK => ?_) (fun K hK => ?_)
             ·skip
              refine goes_ Try.func58 (by kernel_rfl) rfl #[.slice (some ad102) l0.length c0, .int .i64 x6_1] (by rfl) rfl rfl sg ?_
              with_reducible refine (cracknelref04_next.calls _ _ l0 x6_1 t103 t104 _ ?side1 ?side2 A6.out).mono ?_
              (case side1 => exact cs (Kd.C_below HR0.out HB.out))
              (case side2 => exact HC0.out)
              rintro e w31 ⟨rfl, hb⟩
              refine ⟨_, rfl, ?_⟩
              replace BK101 := kb BK101 hb
              replace BK106 := kb BK106 hb
              replace HB := bz hb
              (try clear hb)
              refine hK.out _ _ ⟨(hc HB hw102_0), (hc HB hw102_1)⟩ (fun hHeld => ?_)
              clear hK K
              refine nm 22 ?_
              exact norm_ pa (hJ6_8 (gb106) _ ⟨hHeld, bk BK101, bk BK106, GW106.out, GE106.out, NB101_106.out, NB106_101.out, bh⟩)
             ·skip
              refine bxs 7 #[.int .i64 0, .int .i64 0] 41 ?_
              intro gb105 hg w31 hbox hb
              have BK105 := Aside0.mk (hbox)
              have GW105 := ga w hg
              have GE105 := GW105
              have NB101_105 := nb hg (kl BK101)
              have NB105_101 := bn NB101_105
              have NB106_105 := nb hg (kl BK106)
              have NB105_106 := bn NB106_105
              replace BK101 := kb BK101 hb
              replace BK106 := kb BK106 hb
              replace HB := bz hb
              clear hb hbox hg
              refine hK.out _ _ ⟨(hc HB hw102_0), (hc HB hw102_1)⟩ (fun hHeld => ?_)
              clear hK K
              refine nm 7 ?_
              exact norm_ pa (hJ7_8 (gb105, gb106) _ ⟨hHeld, bk BK101, bk BK105, bk BK106, GW105.out, GE105.out, NB101_105.out, NB105_101.out, NB106_105.out, NB105_106.out, GW106.out, GE106.out, NB101_106.out, NB106_101.out, bh⟩)
           ·skip
            rintro gb105 w30 ⟨hS_, h0_, h1_, h2_, h3_, h4_, h5_, h6_⟩
            have BK105 := Aside0.mk h1_
            have GW105 := Aside0.mk h2_
            have GE105 := Aside0.mk h3_
            have NB101_105 := Aside0.mk h4_
            have NB105_101 := Aside0.mk h5_
            replace BK101 := Aside0.mk h0_
            replace HB := Aside0.mk h6_
            clear h0_ h1_ h2_ h3_ h4_ h5_ h6_
            have hHeld := hS_
            refine nn ?_
            refine two_ (i := 6) (j := 8) (Ni := some 22) (Nj := some 8) #[T,T,T,T,T,T,T,T,N,N,N] #[T,T,T,T,T,T,N,T,T,N,N] rfl rfl rfl rfl (on2 HT_) (by decide) (by decide) (fun K hK => ?_) (fun K hK => ?_)
            ·skip
             refine goes_ Try.func58 (by kernel_rfl) rfl #[.slice (some ad102) l0.length c0, .int .i64 x6_1] (by rfl) rfl rfl sg ?_
             with_reducible refine (cracknelref04_next.calls _ _ l0 x6_1 t103 t104 _ ?side1 ?side2 A6.out).mono ?_
             (case side1 => exact cs (Kd.C_below HR0.out HB.out))
             (case side2 => exact HC0.out)
             rintro e w31 ⟨rfl, hb⟩
             refine ⟨_, rfl, ?_⟩
             replace BK101 := kb BK101 hb
             replace BK105 := kb BK105 hb
             replace HB := bz hb
             (try clear hb)
             refine hK.out _ _ ⟨(hc HB hw102_0), (hc HB hw102_1)⟩ (fun hHeld => ?_)
             clear hK K
             refine nm 22 ?_
             exact norm_ pa (hJ6_7 (gb105) _ ⟨hHeld, bk BK101, bk BK105, GW105.out, GE105.out, NB101_105.out, NB105_101.out, bh⟩)
            ·skip
             refine bxs 8 #[.int .i64 0, .int .i64 0] 41 ?_
             intro gb106 hg w31 hbox hb
             have BK106 := Aside0.mk (hbox)
             have GW106 := ga w hg
             have GE106 := GW106
             have NB101_106 := nb hg (kl BK101)
             have NB106_101 := bn NB101_106
             have NB105_106 := nb hg (kl BK105)
             have NB106_105 := bn NB105_106
             replace BK101 := kb BK101 hb
             replace BK105 := kb BK105 hb
             replace HB := bz hb
             clear hb hbox hg
             refine hK.out _ _ ⟨(hc HB hw102_0), (hc HB hw102_1)⟩ (fun hHeld => ?_)
             clear hK K
             refine nm 8 ?_
             exact norm_ pa (hJ7_8 (gb105, gb106) _ ⟨hHeld, bk BK101, bk BK105, bk BK106, GW105.out, GE105.out, NB101_105.out, NB105_101.out, NB106_105.out, NB105_106.out, GW106.out, GE106.out, NB101_106.out, NB106_101.out, bh⟩)
          ·skip
           rintro _ w30 ⟨hS_, h0_, h1_⟩
           replace BK101 := Aside0.mk h0_
           replace HB := Aside0.mk h1_
           clear h0_ h1_
           have hHeld := hS_
           refine nn ?_
           refine two_ (i := 7) (j := 8) (Ni := some 7) (Nj := some 8) #[T,T,T,T,T,T,T,T,N,N,N] #[T,T,T,T,T,T,T,N,T,N,N] rfl rfl rfl rfl (on2 HT_) (by decide) (by decide) (fun K hK => ?_) (fun K hK => ?_)
           ·skip
            refine bxs 7 #[.int .i64 0, .int .i64 0] 41 ?_
            intro gb105 hg w31 hbox hb
            have BK105 := Aside0.mk (hbox)
            have GW105 := ga w hg
            have GE105 := GW105
            have NB101_105 := nb hg (kl BK101)
            have NB105_101 := bn NB101_105
            replace BK101 := kb BK101 hb
            replace HB := bz hb
            clear hb hbox hg
            refine hK.out _ _ ⟨(hc HB hw102_0), (hc HB hw102_1)⟩ (fun hHeld => ?_)
            clear hK K
            refine nm 7 ?_
            exact norm_ pa (hJ6_7 (gb105) _ ⟨hHeld, bk BK101, bk BK105, GW105.out, GE105.out, NB101_105.out, NB105_101.out, bh⟩)
           ·skip
            refine bxs 8 #[.int .i64 0, .int .i64 0] 41 ?_
            intro gb106 hg w31 hbox hb
            have BK106 := Aside0.mk (hbox)
            have GW106 := ga w hg
            have GE106 := GW106
            have NB101_106 := nb hg (kl BK101)
            have NB106_101 := bn NB101_106
            replace BK101 := kb BK101 hb
            replace HB := bz hb
            clear hb hbox hg
            refine hK.out _ _ ⟨(hc HB hw102_0), (hc HB hw102_1)⟩ (fun hHeld => ?_)
            clear hK K
            refine nm 8 ?_
            exact norm_ pa (hJ6_8 (gb106) _ ⟨hHeld, bk BK101, bk BK106, GW106.out, GE106.out, NB101_106.out, NB106_101.out, bh⟩)
         ·skip
          rintro ⟨gb105, gb106⟩ w31 ⟨hS_, h0_, h1_, h2_, h3_, h4_, h5_, h6_, h7_, h8_, h9_, h10_, h11_, h12_, h13_⟩
          have BK105 := Aside0.mk h1_
          have BK106 := Aside0.mk h2_
          have GW105 := Aside0.mk h3_
          have GE105 := Aside0.mk h4_
          have NB101_105 := Aside0.mk h5_
          have NB105_101 := Aside0.mk h6_
          have NB106_105 := Aside0.mk h7_
          have NB105_106 := Aside0.mk h8_
          have GW106 := Aside0.mk h9_
          have GE106 := Aside0.mk h10_
          have NB101_106 := Aside0.mk h11_
          have NB106_101 := Aside0.mk h12_
          replace BK101 := Aside0.mk h0_
          replace HB := Aside0.mk h13_
          clear h0_ h1_ h2_ h3_ h4_ h5_ h6_ h7_ h8_ h9_ h10_ h11_ h12_ h13_
          have hHeld := hS_
          refine nn ?_
          refine one_ (i := 6) (N := some 22) #[T,T,T,T,T,T,T,T,T,N,N] rfl rfl (on1 HT_) (by decide) (fun K hK => ?_)
          refine goes_ Try.func58 (by kernel_rfl) rfl #[.slice (some ad102) l0.length c0, .int .i64 x6_1] (by rfl) rfl rfl sg ?_
          with_reducible refine (cracknelref04_next.calls _ _ l0 x6_1 t103 t104 _ ?side1 ?side2 A6.out).mono ?_
          (case side1 => exact cs (Kd.C_below HR0.out HB.out))
          (case side2 => exact HC0.out)
          rintro e w32 ⟨rfl, hb⟩
          refine ⟨_, rfl, ?_⟩
          replace BK101 := kb BK101 hb
          replace BK105 := kb BK105 hb
          replace BK106 := kb BK106 hb
          replace HB := bz hb
          (try clear hb)
          refine hK.out _ _ ⟨(hc HB hw102_0), (hc HB hw102_1)⟩ (fun hHeld => ?_)
          clear hK K
          refine nm 22 ?_
          exact norm_ pa (hJ6_7_8 (gb105, gb106) _ ⟨hHeld, bk BK101, bk BK105, bk BK106, GW105.out, GE105.out, NB101_105.out, NB105_101.out, NB106_105.out, NB105_106.out, GW106.out, GE106.out, NB101_106.out, NB106_101.out, bh⟩)
        ·skip
         rintro gb106 w31 ⟨hS_, h0_, h1_, h2_, h3_, h4_, h5_, h6_⟩
         have BK106 := Aside0.mk h1_
         have GW106 := Aside0.mk h2_
         have GE106 := Aside0.mk h3_
         have NB101_106 := Aside0.mk h4_
         have NB106_101 := Aside0.mk h5_
         replace BK101 := Aside0.mk h0_
         replace HB := Aside0.mk h6_
         clear h0_ h1_ h2_ h3_ h4_ h5_ h6_
         have hHeld := hS_
         refine nn ?_
         refine one_ (i := 7) (N := some 7) #[T,T,T,T,T,T,T,T,T,N,N] rfl rfl (on1 HT_) (by decide) (fun K hK => ?_)
         refine bxs 7 #[.int .i64 0, .int .i64 0] 41 ?_
         intro gb105 hg w32 hbox hb
         have BK105 := Aside0.mk (hbox)
         have GW105 := ga w hg
         have GE105 := GW105
         have NB101_105 := nb hg (kl BK101)
         have NB105_101 := bn NB101_105
         have NB106_105 := nb hg (kl BK106)
         have NB105_106 := bn NB106_105
         replace BK101 := kb BK101 hb
         replace BK106 := kb BK106 hb
         replace HB := bz hb
         clear hb hbox hg
         refine hK.out _ _ ⟨(hc HB hw102_0), (hc HB hw102_1)⟩ (fun hHeld => ?_)
         clear hK K
         refine nm 7 ?_
         exact norm_ pa (hJ6_7_8 (gb105, gb106) _ ⟨hHeld, bk BK101, bk BK105, bk BK106, GW105.out, GE105.out, NB101_105.out, NB105_101.out, NB106_105.out, NB105_106.out, GW106.out, GE106.out, NB101_106.out, NB106_101.out, bh⟩)
       ·skip
        rintro gb105 w31 ⟨hS_, h0_, h1_, h2_, h3_, h4_, h5_, h6_⟩
        have BK105 := Aside0.mk h1_
        have GW105 := Aside0.mk h2_
        have GE105 := Aside0.mk h3_
        have NB101_105 := Aside0.mk h4_
        have NB105_101 := Aside0.mk h5_
        replace BK101 := Aside0.mk h0_
        replace HB := Aside0.mk h6_
        clear h0_ h1_ h2_ h3_ h4_ h5_ h6_
        have hHeld := hS_
        refine nn ?_
        refine one_ (i := 8) (N := some 8) #[T,T,T,T,T,T,T,T,T,N,N] rfl rfl (on1 HT_) (by decide) (fun K hK => ?_)
        refine bxs 8 #[.int .i64 0, .int .i64 0] 41 ?_
        intro gb106 hg w32 hbox hb
        have BK106 := Aside0.mk (hbox)
        have GW106 := ga w hg
        have GE106 := GW106
        have NB101_106 := nb hg (kl BK101)
        have NB106_101 := bn NB101_106
        have NB105_106 := nb hg (kl BK105)
        have NB106_105 := bn NB105_106
        replace BK101 := kb BK101 hb
        replace BK105 := kb BK105 hb
        replace HB := bz hb
        clear hb hbox hg
        refine hK.out _ _ ⟨(hc HB hw102_0), (hc HB hw102_1)⟩ (fun hHeld => ?_)
        clear hK K
        refine nm 8 ?_
        exact norm_ pa (hJ6_7_8 (gb105, gb106) _ ⟨hHeld, bk BK101, bk BK105, bk BK106, GW105.out, GE105.out, NB101_105.out, NB105_101.out, NB106_105.out, NB105_106.out, GW106.out, GE106.out, NB101_106.out, NB106_101.out, bh⟩)
      rintro ⟨gb105, gb106⟩ w32 ⟨hS_, h0_, h1_, h2_, h3_, h4_, h5_, h6_, h7_, h8_, h9_, h10_, h11_, h12_, h13_⟩
      have BK105 := Aside0.mk h1_
      have BK106 := Aside0.mk h2_
      have GW105 := Aside0.mk h3_
      have GE105 := Aside0.mk h4_
      have NB101_105 := Aside0.mk h5_
      have NB105_101 := Aside0.mk h6_
      have NB106_105 := Aside0.mk h7_
      have NB105_106 := Aside0.mk h8_
      have GW106 := Aside0.mk h9_
      have GE106 := Aside0.mk h10_
      have NB101_106 := Aside0.mk h11_
      have NB106_101 := Aside0.mk h12_
      replace BK101 := Aside0.mk h0_
      replace HB := Aside0.mk h13_
      clear h0_ h1_ h2_ h3_ h4_ h5_ h6_ h7_ h8_ h9_ h10_ h11_ h12_ h13_
      have hHeld := hS_
      refine nn ?_
      refine one_ (i := 9) (N := none) #[T,T,T,T,T,T,T,T,T,T,N] rfl rfl (on1 HT_) (by decide) (fun K hK => ?_)
      have hs33 : w32.cell? ⟨gb105, 0, none⟩ = some (.int .i64 0) := bc BK105 0
      have hfs33 := blk_frozen BK105.out 0
      have hns33_0 := NB101_105.out
      have hns33_2 := NB106_105.out
      have hms33_0 := NB105_101.out
      have hms33_2 := NB105_106.out
      have hs34 : w32.cell? ⟨gb105, 1, none⟩ = some (.int .i64 0) := bc BK105 1
      have hfs34 := blk_frozen BK105.out 1
      have hns34_0 := NB101_105.out
      have hns34_2 := NB106_105.out
      have hms34_0 := NB105_101.out
      have hms34_2 := NB105_106.out
      refine skip_ (w1 := ?_) (by rfl) rfl ?_ ?_
      rotate_left
      ·go_simp
       rfl
      refine hK.out _ _ ⟨((cell_far (p := ⟨gb105, _, none⟩) (fr hw102_0 GW105) _).trans (((cell_far (p := ⟨gb105, _, none⟩) (fr hw102_0 GW105) _).trans (hHeld.1)))), ((cell_far (p := ⟨gb105, _, none⟩) (fr hw102_1 GW105) _).trans (((cell_far (p := ⟨gb105, _, none⟩) (fr hw102_1 GW105) _).trans (hHeld.2))))⟩ (fun hHeld => ?_)
      clear hK K
      refine one_ (i := 10) (N := none) #[T,T,T,T,T,T,T,T,T,T,T] rfl rfl (on1 HT_) (by decide) (fun K hK => ?_)
      have hs35 : w32.cell? ⟨gb106, 0, none⟩ = some (.int .i64 0) := bc BK106 0
      have hfs35 := blk_frozen BK106.out 0
      have hns35_0 := NB101_106.out
      have hns35_1 := NB105_106.out
      have hms35_0 := NB106_101.out
      have hms35_1 := NB106_105.out
      have hs36 : w32.cell? ⟨gb106, 1, none⟩ = some (.int .i64 0) := bc BK106 1
      have hfs36 := blk_frozen BK106.out 1
      have hns36_0 := NB101_106.out
      have hns36_1 := NB105_106.out
      have hms36_0 := NB106_101.out
      have hms36_1 := NB106_105.out
      refine skip_ (w1 := ?_) (by rfl) rfl ?_ ?_
      rotate_left
      ·go_simp
       rfl
      refine hK.out _ _ ⟨((cell_far (p := ⟨gb106, _, none⟩) (fr hw102_0 GW106) _).trans (((cell_far (p := ⟨gb106, _, none⟩) (fr hw102_0 GW106) _).trans (hHeld.1)))), ((cell_far (p := ⟨gb106, _, none⟩) (fr hw102_1 GW106) _).trans (((cell_far (p := ⟨gb106, _, none⟩) (fr hw102_1 GW106) _).trans (hHeld.2))))⟩ (fun hHeld => ?_)
      clear hK K
      refine done_ (done_of HT_.out (by kernel_rfl)) ?_
      have hnb37 := NB105_101.out
      have hnc37 := NB101_105.out
      have hnb38 := NB105_106.out
      have hnc38 := NB106_105.out
      obtain ⟨hcz39_0, hcz39_1, hfz39_0, hfz39_1⟩ := b2 BK105
      have hnb40 := NB106_101.out
      have hnc40 := NB101_106.out
      obtain ⟨hcz41_0, hcz41_1, hfz41_0, hfz41_1⟩ := b2 BK106
      obtain ⟨hcz42_0, hcz42_1, hfz42_0, hfz42_1⟩ := b2 BK101
      go_upto_if 46 with (first | ((with_reducible refine gc 59 rfl ?_); refine goesL_ (some 26) rfl rfl Try.func59 (by kernel_rfl) rfl #[.agg #[.int .i64 ((rd_T41 l0 x6_1).f0), .int .i64 ((rd_T41 l0 x6_1).f1)], .agg #[.int .i64 t103, .int .i64 t104], .agg #[.int .i64 a1_0, .int .i64 a1_1]] rfl sg ?_; (with_reducible refine (cracknelref04_On.calls ((rd_T41 l0 x6_1).f0) ((rd_T41 l0 x6_1).f1) t103 t104 a1_0 a1_1 false _ A7.out).mono ?_); rintro e w43 ⟨rfl, hb⟩; refine ⟨_, rfl, ?_⟩; replace BK101 := Aside0.mk (blk_below (g := gb101) (o := .cells #[.int .i64 a1_0, .int .i64 a1_1] 41 (0, 0)) (by refine bf NB101_106 ?_; refine bf NB101_106 ?_; refine bf NB101_105 ?_; refine bf NB101_105 ?_; refine bd ?_; exact BK101.out) hb); replace BK105 := Aside0.mk (blk_below (g := gb105) (o := .cells #[.int .i64 ((rd_T41 l0 x6_1).f0), .int .i64 ((rd_T41 l0 x6_1).f1)] 41 (0, 0)) (by refine bf NB105_106 ?_; refine bf NB105_106 ?_; refine bd ?_; refine blk_put (cs := #[.int .i64 ((rd_T41 l0 x6_1).f0), .int .i64 0]) ?_ 1 _ rfl; refine bd ?_; refine blk_put (cs := #[.int .i64 0, .int .i64 0]) ?_ 0 _ rfl; refine bd ?_; exact BK105.out) hb); replace BK106 := Aside0.mk (blk_below (g := gb106) (o := .cells #[.int .i64 t103, .int .i64 t104] 41 (0, 0)) (by refine bd ?_; refine blk_put (cs := #[.int .i64 t103, .int .i64 0]) ?_ 1 _ rfl; refine bd ?_; refine blk_put (cs := #[.int .i64 0, .int .i64 0]) ?_ 0 _ rfl; refine bf NB106_105 ?_; refine bf NB106_105 ?_; refine bd ?_; exact BK106.out) hb); replace HB := bz hb; (try clear hb); obtain ⟨hcz44_0, hcz44_1, hfz44_0, hfz44_1⟩ := b2 BK105; obtain ⟨hcz45_0, hcz45_1, hfz45_0, hfz45_1⟩ := b2 BK101; obtain ⟨hcz46_0, hcz46_1, hfz46_0, hfz46_1⟩ := b2 BK106) | ((with_reducible refine gc 31 rfl ?_); refine goesL_ (some 41) rfl rfl Try.func31 (by kernel_rfl) rfl #[.agg #[.int .i64 ((rd_T41 l0 x6_1).f0), .int .i64 ((rd_T41 l0 x6_1).f1)], .agg #[.int .i64 t103, .int .i64 t104], .agg #[.int .i64 a1_0, .int .i64 a1_1]] rfl sg ?_; (with_reducible refine (cracknelref04_Cross.calls ((rd_T41 l0 x6_1).f0) ((rd_T41 l0 x6_1).f1) t103 t104 a1_0 a1_1 t108 _ A26.out).mono ?_); rintro e w47 ⟨rfl, hb⟩; refine ⟨_, rfl, ?_⟩; replace BK101 := kb BK101 hb; replace BK105 := kb BK105 hb; replace BK106 := kb BK106 hb; replace HB := bz hb; (try clear hb); obtain ⟨hcz48_0, hcz48_1, hfz48_0, hfz48_1⟩ := b2 BK106; obtain ⟨hcz49_0, hcz49_1, hfz49_0, hfz49_1⟩ := b2 BK105))
      (try simp only [Act.put, List.setIfInBounds_toArray, List.set_cons_zero, List.set_cons_succ])
      go_cut [9] (fun v9 wc => ∃ (kq : Nat) (x9_26 : Int), v9 = .int .i64 x9_26 ∧ Aside0 (cracknelref04_Where.j1 kq l0 x5_1 x6_1 x9_26 a1_0 a1_1 = some r) ∧ Aside0 (kq ≤ k1) ∧ Aside0 (wc.heap[gb101]? = some (.cells #[.int .i64 a1_0, .int .i64 a1_1] 41 (0, 0))) ∧ Aside0 (wc.heap[gb105]? = some (.cells #[.int .i64 ((rd_T41 l0 x6_1).f0), .int .i64 ((rd_T41 l0 x6_1).f1)] 41 (0, 0))) ∧ Aside0 (wc.heap[gb106]? = some (.cells #[.int .i64 t103, .int .i64 t104] 41 (0, 0))) ∧ Aside0 (Below w.heap.size w wc))
      case first =>
       have H := HC27.out
       clear HC27
       by_cases c50 : t104 < ((rd_T41 l0 x6_1).f1)
       ·rw [if_pos c50] at H
        have c50b0 := decide_eq_true c50
        clear c50
        (first | rw [c50b0] | (simp only [i64_w, i32_w]; rw [c50b0]) | skip)
        have H' := Aside0.mk H
        clear H
        go_wp2
        go_meet
        case rel => exact ⟨_, (wrap64 (-t108)), sd, H', ⟨by have := HK1.out; first | omega | exact Nat.le_refl _⟩, ⟨bk BK101⟩, ⟨bk BK105⟩, ⟨bk BK106⟩, ⟨bh⟩⟩
       ·rw [if_neg c50] at H
        have c50b0 := decide_eq_false c50
        clear c50
        (first | rw [c50b0] | (simp only [i64_w, i32_w]; rw [c50b0]) | skip)
        have H' := Aside0.mk H
        clear H
        go_wp2
        go_meet
        case rel => exact ⟨_, (t108), sd, H', ⟨by have := HK1.out; first | omega | exact Nat.le_refl _⟩, ⟨bk BK101⟩, ⟨bk BK105⟩, ⟨bk BK106⟩, ⟨bh⟩⟩
      case rest =>
       clear HC27
       (try clear hcz39_0); (try clear hcz39_1); (try clear hcz41_0); (try clear hcz41_1); (try clear hcz42_0); (try clear hcz42_1); (try clear hcz44_0); (try clear hcz44_1); (try clear hcz45_0); (try clear hcz45_1); (try clear hcz46_0); (try clear hcz46_1); (try clear hcz48_0); (try clear hcz48_1); (try clear hcz49_0); (try clear hcz49_1); (try clear hfz39_0); (try clear hfz39_1); (try clear hfz41_0); (try clear hfz41_1); (try clear hfz42_0); (try clear hfz42_1); (try clear hfz44_0); (try clear hfz44_1); (try clear hfz45_0); (try clear hfz45_1); (try clear hfz46_0); (try clear hfz46_1); (try clear hfz48_0); (try clear hfz48_1); (try clear hfz49_0); (try clear hfz49_1)
       obtain ⟨kq, x9_26, rfl, HA, HJ26, BK101, BK105, BK106, HB⟩ := hcut
       cases kq with
       | zero => exact absurd HA.out (by simp [cracknelref04_Where.j1])
       | succ kj26 =>
        have H := HA.out
        clear HA
        simp only [cracknelref04_Where.j1] at H
        by_cases c51 : x9_26 > 0
        ·rw [if_pos c51] at H
         have c51b0 := decide_eq_true c51
         clear c51
         have H' := Aside0.mk H
         clear H
         go_wp2
         go_roundg kj26
         case measure => have := HK1.out; have := HJ26.out; omega
         case rel => exact ⟨(!x5_1), (wrap64 (x6_1 + 1)), sd, sd, H', ⟨by have := HK1.out; have := HJ26.out; omega⟩, ⟨bk BK101⟩, ⟨bh⟩⟩
        ·rw [if_neg c51] at H
         have c51b0 := decide_eq_false c51
         clear c51
         have H' := Aside0.mk H
         clear H
         go_wp2
         go_roundg kj26
         case measure => have := HK1.out; have := HJ26.out; omega
         case rel => exact ⟨(x5_1), (wrap64 (x6_1 + 1)), sd, sd, H', ⟨by have := HK1.out; have := HJ26.out; omega⟩, ⟨bk BK101⟩, ⟨bh⟩⟩
     ·rw [if_neg c25] at H
      have c25b0 : ((decide (((rd_T41 l0 x6_1).f1) > a1_1)) != (decide (t104 > a1_1))) = false := by simpa using c25
      (try (have c25b1 : decide ((decide (((rd_T41 l0 x6_1).f1) > a1_1)) = (decide (t104 > a1_1))) = true := by simpa using c25))
      (try (have c25b2 : ((decide (((rd_T41 l0 x6_1).f1) > a1_1)) == (decide (t104 > a1_1))) = true := by simpa using c25))
      clear c25
      have H' := Aside0.mk H
      clear H
      try go_wp2
      replace BK101 := Aside0.mk (blk_drew BK101.out)
      replace HB := Aside0.mk (below_drew1 HB.out)
      have p102 : 0 ≤ (x6_1 : Int) := dt
      have q102 : x6_1 < (l0.length : Int) := dt
      obtain ⟨ad102, e102, hx102_0, hx102_1⟩ := at_T41 HR0.out x6_1 p102 q102
      have hw102_1 := hx102_1
      have hw102_0 := hx102_0
      cases e102
      replace hx102_0 := hc HB hx102_0
      replace hx102_1 := hc HB hx102_1
      replace p102 := eq_true p102
      replace q102 := eq_true q102
      refine start_ (n := 11) (S := fun w' => w'.cell? (ad102.add ((x6_1).toNat * 2)) = some (.int .i64 ((rd_T41 l0 x6_1).f0)) ∧ w'.cell? ⟨(ad102.add ((x6_1).toNat * 2)).block, (ad102.add ((x6_1).toNat * 2)).off + 1, none⟩ = some (.int .i64 ((rd_T41 l0 x6_1).f1))) (ds := []) #[N,N,N,N,N,N,N,N,N,N,N] (by kernel_rfl) rfl rfl ⟨(hc HB hw102_0), (hc HB hw102_1)⟩ (fun hHeld => ?_); refine with_tabW cracknelref04_Where.tab5 cracknelref04_Where.bits5 (fun HT_ HW_ => ?_)
      generalize wr.drew = w52 at BK101 HB hx102_0 hx102_1 hHeld ⊢
      refine pu 0 16 HT_ ?_
      refine pu 1 17 HT_ ?_
      refine pu 2 18 HT_ ?_
      refine pu 4 20 HT_ ?_
      refine pu 5 21 HT_ ?_
      refine tk2 3 19 hHeld HT_ HW_ ?_
      refine join_ (σ := Nat × Nat) 2 #[T,T,T,T,T,T,T,T,T,N,N] (fun s_ => [(22, .agg #[.int .i64 t103, .int .i64 t104]), (7, .pointer (some ⟨s_.1, 0, none⟩)), (8, .pointer (some ⟨s_.2, 0, none⟩))]) (fun s_ w' => (w'.cell? (ad102.add ((x6_1).toNat * 2)) = some (.int .i64 ((rd_T41 l0 x6_1).f0)) ∧ w'.cell? ⟨(ad102.add ((x6_1).toNat * 2)).block, (ad102.add ((x6_1).toNat * 2)).off + 1, none⟩ = some (.int .i64 ((rd_T41 l0 x6_1).f1))) ∧ (w'.heap[gb101]? = some (.cells #[.int .i64 a1_0, .int .i64 a1_1] 41 (0, 0))) ∧ (w'.heap[s_.1]? = some (.cells #[.int .i64 0, .int .i64 0] 41 (0, 0))) ∧ (w'.heap[s_.2]? = some (.cells #[.int .i64 0, .int .i64 0] 41 (0, 0))) ∧ (w.heap.size ≤ s_.1) ∧ (w.heap.size ≤ s_.1) ∧ (gb101 ≠ s_.1) ∧ (s_.1 ≠ gb101) ∧ (s_.2 ≠ s_.1) ∧ (s_.1 ≠ s_.2) ∧ (w.heap.size ≤ s_.2) ∧ (w.heap.size ≤ s_.2) ∧ (gb101 ≠ s_.2) ∧ (s_.2 ≠ gb101) ∧ (Below w.heap.size w w')) ?_ ?_
      rotate_left
      ·intro hJ6_7_8
       refine join_ (σ := Nat) 3 #[T,T,T,T,T,T,T,T,N,N,N] (fun s_ => [(22, .agg #[.int .i64 t103, .int .i64 t104]), (7, .pointer (some ⟨s_, 0, none⟩))]) (fun s_ w' => (w'.cell? (ad102.add ((x6_1).toNat * 2)) = some (.int .i64 ((rd_T41 l0 x6_1).f0)) ∧ w'.cell? ⟨(ad102.add ((x6_1).toNat * 2)).block, (ad102.add ((x6_1).toNat * 2)).off + 1, none⟩ = some (.int .i64 ((rd_T41 l0 x6_1).f1))) ∧ (w'.heap[gb101]? = some (.cells #[.int .i64 a1_0, .int .i64 a1_1] 41 (0, 0))) ∧ (w'.heap[s_]? = some (.cells #[.int .i64 0, .int .i64 0] 41 (0, 0))) ∧ (w.heap.size ≤ s_) ∧ (w.heap.size ≤ s_) ∧ (gb101 ≠ s_) ∧ (s_ ≠ gb101) ∧ (Below w.heap.size w w')) ?_ ?_
       rotate_left
       ·intro hJ6_7
        refine join_ (σ := Nat) 3 #[T,T,T,T,T,T,T,N,T,N,N] (fun s_ => [(22, .agg #[.int .i64 t103, .int .i64 t104]), (8, .pointer (some ⟨s_, 0, none⟩))]) (fun s_ w' => (w'.cell? (ad102.add ((x6_1).toNat * 2)) = some (.int .i64 ((rd_T41 l0 x6_1).f0)) ∧ w'.cell? ⟨(ad102.add ((x6_1).toNat * 2)).block, (ad102.add ((x6_1).toNat * 2)).off + 1, none⟩ = some (.int .i64 ((rd_T41 l0 x6_1).f1))) ∧ (w'.heap[gb101]? = some (.cells #[.int .i64 a1_0, .int .i64 a1_1] 41 (0, 0))) ∧ (w'.heap[s_]? = some (.cells #[.int .i64 0, .int .i64 0] 41 (0, 0))) ∧ (w.heap.size ≤ s_) ∧ (w.heap.size ≤ s_) ∧ (gb101 ≠ s_) ∧ (s_ ≠ gb101) ∧ (Below w.heap.size w w')) ?_ ?_
        rotate_left
        ·intro hJ6_8
         refine join_ (σ := Nat × Nat) 3 #[T,T,T,T,T,T,N,T,T,N,N] (fun s_ => [(7, .pointer (some ⟨s_.1, 0, none⟩)), (8, .pointer (some ⟨s_.2, 0, none⟩))]) (fun s_ w' => (w'.cell? (ad102.add ((x6_1).toNat * 2)) = some (.int .i64 ((rd_T41 l0 x6_1).f0)) ∧ w'.cell? ⟨(ad102.add ((x6_1).toNat * 2)).block, (ad102.add ((x6_1).toNat * 2)).off + 1, none⟩ = some (.int .i64 ((rd_T41 l0 x6_1).f1))) ∧ (w'.heap[gb101]? = some (.cells #[.int .i64 a1_0, .int .i64 a1_1] 41 (0, 0))) ∧ (w'.heap[s_.1]? = some (.cells #[.int .i64 0, .int .i64 0] 41 (0, 0))) ∧ (w'.heap[s_.2]? = some (.cells #[.int .i64 0, .int .i64 0] 41 (0, 0))) ∧ (w.heap.size ≤ s_.1) ∧ (w.heap.size ≤ s_.1) ∧ (gb101 ≠ s_.1) ∧ (s_.1 ≠ gb101) ∧ (s_.2 ≠ s_.1) ∧ (s_.1 ≠ s_.2) ∧ (w.heap.size ≤ s_.2) ∧ (w.heap.size ≤ s_.2) ∧ (gb101 ≠ s_.2) ∧ (s_.2 ≠ gb101) ∧ (Below w.heap.size w w')) ?_ ?_
         rotate_left
         ·intro hJ7_8
          refine join_ (σ := Unit) 4 #[T,T,T,T,T,T,T,N,N,N,N] (fun s_ => [(22, .agg #[.int .i64 t103, .int .i64 t104])]) (fun s_ w' => (w'.cell? (ad102.add ((x6_1).toNat * 2)) = some (.int .i64 ((rd_T41 l0 x6_1).f0)) ∧ w'.cell? ⟨(ad102.add ((x6_1).toNat * 2)).block, (ad102.add ((x6_1).toNat * 2)).off + 1, none⟩ = some (.int .i64 ((rd_T41 l0 x6_1).f1))) ∧ (w'.heap[gb101]? = some (.cells #[.int .i64 a1_0, .int .i64 a1_1] 41 (0, 0))) ∧ (Below w.heap.size w w')) ?_ ?_
          rotate_left
          ·intro hJ6
           refine join_ (σ := Nat) 4 #[T,T,T,T,T,T,N,T,N,N,N] (fun s_ => [(7, .pointer (some ⟨s_, 0, none⟩))]) (fun s_ w' => (w'.cell? (ad102.add ((x6_1).toNat * 2)) = some (.int .i64 ((rd_T41 l0 x6_1).f0)) ∧ w'.cell? ⟨(ad102.add ((x6_1).toNat * 2)).block, (ad102.add ((x6_1).toNat * 2)).off + 1, none⟩ = some (.int .i64 ((rd_T41 l0 x6_1).f1))) ∧ (w'.heap[gb101]? = some (.cells #[.int .i64 a1_0, .int .i64 a1_1] 41 (0, 0))) ∧ (w'.heap[s_]? = some (.cells #[.int .i64 0, .int .i64 0] 41 (0, 0))) ∧ (w.heap.size ≤ s_) ∧ (w.heap.size ≤ s_) ∧ (gb101 ≠ s_) ∧ (s_ ≠ gb101) ∧ (Below w.heap.size w w')) ?_ ?_
           rotate_left
           ·intro hJ7
            refine join_ (σ := Nat) 4 #[T,T,T,T,T,T,N,N,T,N,N] (fun s_ => [(8, .pointer (some ⟨s_, 0, none⟩))]) (fun s_ w' => (w'.cell? (ad102.add ((x6_1).toNat * 2)) = some (.int .i64 ((rd_T41 l0 x6_1).f0)) ∧ w'.cell? ⟨(ad102.add ((x6_1).toNat * 2)).block, (ad102.add ((x6_1).toNat * 2)).off + 1, none⟩ = some (.int .i64 ((rd_T41 l0 x6_1).f1))) ∧ (w'.heap[gb101]? = some (.cells #[.int .i64 a1_0, .int .i64 a1_1] 41 (0, 0))) ∧ (w'.heap[s_]? = some (.cells #[.int .i64 0, .int .i64 0] 41 (0, 0))) ∧ (w.heap.size ≤ s_) ∧ (w.heap.size ≤ s_) ∧ (gb101 ≠ s_) ∧ (s_ ≠ gb101) ∧ (Below w.heap.size w w')) ?_ ?_
            rotate_left
            ·intro hJ8
             refine three_ (i := 6) (j := 7) (k := 8) (Ni := some 22) (Nj := some 7) (Nk := some 8) #[T,T,T,T,T,T,T,N,N,N,N] #[T,T,T,T,T,T,N,T,N,N,N] #[T,T,T,T,T,T,N,N,T,N,N] rfl rfl rfl rfl rfl rfl (on3 HT_) (by decide) (by decide) (by decide) (fun K hK => ?_) (fun K hK => ?_) (fun K hK => ?_)
             ·skip
              refine goes_ Try.func58 (by kernel_rfl) rfl #[.slice (some ad102) l0.length c0, .int .i64 x6_1] (by rfl) rfl rfl sg ?_
              with_reducible refine (cracknelref04_next.calls _ _ l0 x6_1 t103 t104 _ ?side1 ?side2 A6.out).mono ?_
              (case side1 => exact cs (Kd.C_below HR0.out HB.out))
              (case side2 => exact HC0.out)
              rintro e w53 ⟨rfl, hb⟩
              refine ⟨_, rfl, ?_⟩
              replace BK101 := kb BK101 hb
              replace HB := bz hb
              (try clear hb)
              refine hK.out _ _ ⟨(hc HB hw102_0), (hc HB hw102_1)⟩ (fun hHeld => ?_)
              clear hK K
              refine nm 22 ?_
              exact norm_ pa (hJ6 () _ ⟨hHeld, bk BK101, bh⟩)
             ·skip
              refine bxs 7 #[.int .i64 0, .int .i64 0] 41 ?_
              intro gb105 hg w53 hbox hb
              have BK105 := Aside0.mk (hbox)
              have GW105 := ga w hg
              have GE105 := GW105
              have NB101_105 := nb hg (kl BK101)
              have NB105_101 := bn NB101_105
              replace BK101 := kb BK101 hb
              replace HB := bz hb
              clear hb hbox hg
              refine hK.out _ _ ⟨(hc HB hw102_0), (hc HB hw102_1)⟩ (fun hHeld => ?_)
              clear hK K
              refine nm 7 ?_
              exact norm_ pa (hJ7 (gb105) _ ⟨hHeld, bk BK101, bk BK105, GW105.out, GE105.out, NB101_105.out, NB105_101.out, bh⟩)
             ·skip
              refine bxs 8 #[.int .i64 0, .int .i64 0] 41 ?_
              intro gb106 hg w53 hbox hb
              have BK106 := Aside0.mk (hbox)
              have GW106 := ga w hg
              have GE106 := GW106
              have NB101_106 := nb hg (kl BK101)
              have NB106_101 := bn NB101_106
              replace BK101 := kb BK101 hb
              replace HB := bz hb
              clear hb hbox hg
              refine hK.out _ _ ⟨(hc HB hw102_0), (hc HB hw102_1)⟩ (fun hHeld => ?_)
              clear hK K
              refine nm 8 ?_
              exact norm_ pa (hJ8 (gb106) _ ⟨hHeld, bk BK101, bk BK106, GW106.out, GE106.out, NB101_106.out, NB106_101.out, bh⟩)
            ·skip
             rintro gb106 w54 ⟨hS_, h0_, h1_, h2_, h3_, h4_, h5_, h6_⟩
             have BK106 := Aside0.mk h1_
             have GW106 := Aside0.mk h2_
             have GE106 := Aside0.mk h3_
             have NB101_106 := Aside0.mk h4_
             have NB106_101 := Aside0.mk h5_
             replace BK101 := Aside0.mk h0_
             replace HB := Aside0.mk h6_
             clear h0_ h1_ h2_ h3_ h4_ h5_ h6_
             have hHeld := hS_
             refine nn ?_
             refine two_ (i := 6) (j := 7) (Ni := some 22) (Nj := some 7) #[T,T,T,T,T,T,T,N,T,N,N] #[T,T,T,T,T,T,N,T,T,N,N] rfl rfl rfl rfl (on2 HT_) (by decide) (by decide) (fun K hK => ?_) (fun K hK => ?_)
             ·skip
              refine goes_ Try.func58 (by kernel_rfl) rfl #[.slice (some ad102) l0.length c0, .int .i64 x6_1] (by rfl) rfl rfl sg ?_
              with_reducible refine (cracknelref04_next.calls _ _ l0 x6_1 t103 t104 _ ?side1 ?side2 A6.out).mono ?_
              (case side1 => exact cs (Kd.C_below HR0.out HB.out))
              (case side2 => exact HC0.out)
              rintro e w55 ⟨rfl, hb⟩
              refine ⟨_, rfl, ?_⟩
              replace BK101 := kb BK101 hb
              replace BK106 := kb BK106 hb
              replace HB := bz hb
              (try clear hb)
              refine hK.out _ _ ⟨(hc HB hw102_0), (hc HB hw102_1)⟩ (fun hHeld => ?_)
              clear hK K
              refine nm 22 ?_
              exact norm_ pa (hJ6_8 (gb106) _ ⟨hHeld, bk BK101, bk BK106, GW106.out, GE106.out, NB101_106.out, NB106_101.out, bh⟩)
             ·skip
              refine bxs 7 #[.int .i64 0, .int .i64 0] 41 ?_
              intro gb105 hg w55 hbox hb
              have BK105 := Aside0.mk (hbox)
              have GW105 := ga w hg
              have GE105 := GW105
              have NB101_105 := nb hg (kl BK101)
              have NB105_101 := bn NB101_105
              have NB106_105 := nb hg (kl BK106)
              have NB105_106 := bn NB106_105
              replace BK101 := kb BK101 hb
              replace BK106 := kb BK106 hb
              replace HB := bz hb
              clear hb hbox hg
              refine hK.out _ _ ⟨(hc HB hw102_0), (hc HB hw102_1)⟩ (fun hHeld => ?_)
              clear hK K
              refine nm 7 ?_
              exact norm_ pa (hJ7_8 (gb105, gb106) _ ⟨hHeld, bk BK101, bk BK105, bk BK106, GW105.out, GE105.out, NB101_105.out, NB105_101.out, NB106_105.out, NB105_106.out, GW106.out, GE106.out, NB101_106.out, NB106_101.out, bh⟩)
           ·skip
            rintro gb105 w54 ⟨hS_, h0_, h1_, h2_, h3_, h4_, h5_, h6_⟩
            have BK105 := Aside0.mk h1_
            have GW105 := Aside0.mk h2_
            have GE105 := Aside0.mk h3_
            have NB101_105 := Aside0.mk h4_
            have NB105_101 := Aside0.mk h5_
            replace BK101 := Aside0.mk h0_
            replace HB := Aside0.mk h6_
            clear h0_ h1_ h2_ h3_ h4_ h5_ h6_
            have hHeld := hS_
            refine nn ?_
            refine two_ (i := 6) (j := 8) (Ni := some 22) (Nj := some 8) #[T,T,T,T,T,T,T,T,N,N,N] #[T,T,T,T,T,T,N,T,T,N,N] rfl rfl rfl rfl (on2 HT_) (by decide) (by decide) (fun K hK => ?_) (fun K hK => ?_)
            ·skip
             refine goes_ Try.func58 (by kernel_rfl) rfl #[.slice (some ad102) l0.length c0, .int .i64 x6_1] (by rfl) rfl rfl sg ?_
             with_reducible refine (cracknelref04_next.calls _ _ l0 x6_1 t103 t104 _ ?side1 ?side2 A6.out).mono ?_
             (case side1 => exact cs (Kd.C_below HR0.out HB.out))
             (case side2 => exact HC0.out)
             rintro e w55 ⟨rfl, hb⟩
             refine ⟨_, rfl, ?_⟩
             replace BK101 := kb BK101 hb
             replace BK105 := kb BK105 hb
             replace HB := bz hb
             (try clear hb)
             refine hK.out _ _ ⟨(hc HB hw102_0), (hc HB hw102_1)⟩ (fun hHeld => ?_)
             clear hK K
             refine nm 22 ?_
             exact norm_ pa (hJ6_7 (gb105) _ ⟨hHeld, bk BK101, bk BK105, GW105.out, GE105.out, NB101_105.out, NB105_101.out, bh⟩)
            ·skip
             refine bxs 8 #[.int .i64 0, .int .i64 0] 41 ?_
             intro gb106 hg w55 hbox hb
             have BK106 := Aside0.mk (hbox)
             have GW106 := ga w hg
             have GE106 := GW106
             have NB101_106 := nb hg (kl BK101)
             have NB106_101 := bn NB101_106
             have NB105_106 := nb hg (kl BK105)
             have NB106_105 := bn NB105_106
             replace BK101 := kb BK101 hb
             replace BK105 := kb BK105 hb
             replace HB := bz hb
             clear hb hbox hg
             refine hK.out _ _ ⟨(hc HB hw102_0), (hc HB hw102_1)⟩ (fun hHeld => ?_)
             clear hK K
             refine nm 8 ?_
             exact norm_ pa (hJ7_8 (gb105, gb106) _ ⟨hHeld, bk BK101, bk BK105, bk BK106, GW105.out, GE105.out, NB101_105.out, NB105_101.out, NB106_105.out, NB105_106.out, GW106.out, GE106.out, NB101_106.out, NB106_101.out, bh⟩)
          ·skip
           rintro _ w54 ⟨hS_, h0_, h1_⟩
           replace BK101 := Aside0.mk h0_
           replace HB := Aside0.mk h1_
           clear h0_ h1_
           have hHeld := hS_
           refine nn ?_
           refine two_ (i := 7) (j := 8) (Ni := some 7) (Nj := some 8) #[T,T,T,T,T,T,T,T,N,N,N] #[T,T,T,T,T,T,T,N,T,N,N] rfl rfl rfl rfl (on2 HT_) (by decide) (by decide) (fun K hK => ?_) (fun K hK => ?_)
           ·skip
            refine bxs 7 #[.int .i64 0, .int .i64 0] 41 ?_
            intro gb105 hg w55 hbox hb
            have BK105 := Aside0.mk (hbox)
            have GW105 := ga w hg
            have GE105 := GW105
            have NB101_105 := nb hg (kl BK101)
            have NB105_101 := bn NB101_105
            replace BK101 := kb BK101 hb
            replace HB := bz hb
            clear hb hbox hg
            refine hK.out _ _ ⟨(hc HB hw102_0), (hc HB hw102_1)⟩ (fun hHeld => ?_)
            clear hK K
            refine nm 7 ?_
            exact norm_ pa (hJ6_7 (gb105) _ ⟨hHeld, bk BK101, bk BK105, GW105.out, GE105.out, NB101_105.out, NB105_101.out, bh⟩)
           ·skip
            refine bxs 8 #[.int .i64 0, .int .i64 0] 41 ?_
            intro gb106 hg w55 hbox hb
            have BK106 := Aside0.mk (hbox)
            have GW106 := ga w hg
            have GE106 := GW106
            have NB101_106 := nb hg (kl BK101)
            have NB106_101 := bn NB101_106
            replace BK101 := kb BK101 hb
            replace HB := bz hb
            clear hb hbox hg
            refine hK.out _ _ ⟨(hc HB hw102_0), (hc HB hw102_1)⟩ (fun hHeld => ?_)
            clear hK K
            refine nm 8 ?_
            exact norm_ pa (hJ6_8 (gb106) _ ⟨hHeld, bk BK101, bk BK106, GW106.out, GE106.out, NB101_106.out, NB106_101.out, bh⟩)
         ·skip
          rintro ⟨gb105, gb106⟩ w55 ⟨hS_, h0_, h1_, h2_, h3_, h4_, h5_, h6_, h7_, h8_, h9_, h10_, h11_, h12_, h13_⟩
          have BK105 := Aside0.mk h1_
          have BK106 := Aside0.mk h2_
          have GW105 := Aside0.mk h3_
          have GE105 := Aside0.mk h4_
          have NB101_105 := Aside0.mk h5_
          have NB105_101 := Aside0.mk h6_
          have NB106_105 := Aside0.mk h7_
          have NB105_106 := Aside0.mk h8_
          have GW106 := Aside0.mk h9_
          have GE106 := Aside0.mk h10_
          have NB101_106 := Aside0.mk h11_
          have NB106_101 := Aside0.mk h12_
          replace BK101 := Aside0.mk h0_
          replace HB := Aside0.mk h13_
          clear h0_ h1_ h2_ h3_ h4_ h5_ h6_ h7_ h8_ h9_ h10_ h11_ h12_ h13_
          have hHeld := hS_
          refine nn ?_
          refine one_ (i := 6) (N := some 22) #[T,T,T,T,T,T,T,T,T,N,N] rfl rfl (on1 HT_) (by decide) (fun K hK => ?_)
          refine goes_ Try.func58 (by kernel_rfl) rfl #[.slice (some ad102) l0.length c0, .int .i64 x6_1] (by rfl) rfl rfl sg ?_
          with_reducible refine (cracknelref04_next.calls _ _ l0 x6_1 t103 t104 _ ?side1 ?side2 A6.out).mono ?_
          (case side1 => exact cs (Kd.C_below HR0.out HB.out))
          (case side2 => exact HC0.out)
          rintro e w56 ⟨rfl, hb⟩
          refine ⟨_, rfl, ?_⟩
          replace BK101 := kb BK101 hb
          replace BK105 := kb BK105 hb
          replace BK106 := kb BK106 hb
          replace HB := bz hb
          (try clear hb)
          refine hK.out _ _ ⟨(hc HB hw102_0), (hc HB hw102_1)⟩ (fun hHeld => ?_)
          clear hK K
          refine nm 22 ?_
          exact norm_ pa (hJ6_7_8 (gb105, gb106) _ ⟨hHeld, bk BK101, bk BK105, bk BK106, GW105.out, GE105.out, NB101_105.out, NB105_101.out, NB106_105.out, NB105_106.out, GW106.out, GE106.out, NB101_106.out, NB106_101.out, bh⟩)
        ·skip
         rintro gb106 w55 ⟨hS_, h0_, h1_, h2_, h3_, h4_, h5_, h6_⟩
         have BK106 := Aside0.mk h1_
         have GW106 := Aside0.mk h2_
         have GE106 := Aside0.mk h3_
         have NB101_106 := Aside0.mk h4_
         have NB106_101 := Aside0.mk h5_
         replace BK101 := Aside0.mk h0_
         replace HB := Aside0.mk h6_
         clear h0_ h1_ h2_ h3_ h4_ h5_ h6_
         have hHeld := hS_
         refine nn ?_
         refine one_ (i := 7) (N := some 7) #[T,T,T,T,T,T,T,T,T,N,N] rfl rfl (on1 HT_) (by decide) (fun K hK => ?_)
         refine bxs 7 #[.int .i64 0, .int .i64 0] 41 ?_
         intro gb105 hg w56 hbox hb
         have BK105 := Aside0.mk (hbox)
         have GW105 := ga w hg
         have GE105 := GW105
         have NB101_105 := nb hg (kl BK101)
         have NB105_101 := bn NB101_105
         have NB106_105 := nb hg (kl BK106)
         have NB105_106 := bn NB106_105
         replace BK101 := kb BK101 hb
         replace BK106 := kb BK106 hb
         replace HB := bz hb
         clear hb hbox hg
         refine hK.out _ _ ⟨(hc HB hw102_0), (hc HB hw102_1)⟩ (fun hHeld => ?_)
         clear hK K
         refine nm 7 ?_
         exact norm_ pa (hJ6_7_8 (gb105, gb106) _ ⟨hHeld, bk BK101, bk BK105, bk BK106, GW105.out, GE105.out, NB101_105.out, NB105_101.out, NB106_105.out, NB105_106.out, GW106.out, GE106.out, NB101_106.out, NB106_101.out, bh⟩)
       ·skip
        rintro gb105 w55 ⟨hS_, h0_, h1_, h2_, h3_, h4_, h5_, h6_⟩
        have BK105 := Aside0.mk h1_
        have GW105 := Aside0.mk h2_
        have GE105 := Aside0.mk h3_
        have NB101_105 := Aside0.mk h4_
        have NB105_101 := Aside0.mk h5_
        replace BK101 := Aside0.mk h0_
        replace HB := Aside0.mk h6_
        clear h0_ h1_ h2_ h3_ h4_ h5_ h6_
        have hHeld := hS_
        refine nn ?_
        refine one_ (i := 8) (N := some 8) #[T,T,T,T,T,T,T,T,T,N,N] rfl rfl (on1 HT_) (by decide) (fun K hK => ?_)
        refine bxs 8 #[.int .i64 0, .int .i64 0] 41 ?_
        intro gb106 hg w56 hbox hb
        have BK106 := Aside0.mk (hbox)
        have GW106 := ga w hg
        have GE106 := GW106
        have NB101_106 := nb hg (kl BK101)
        have NB106_101 := bn NB101_106
        have NB105_106 := nb hg (kl BK105)
        have NB106_105 := bn NB105_106
        replace BK101 := kb BK101 hb
        replace BK105 := kb BK105 hb
        replace HB := bz hb
        clear hb hbox hg
        refine hK.out _ _ ⟨(hc HB hw102_0), (hc HB hw102_1)⟩ (fun hHeld => ?_)
        clear hK K
        refine nm 8 ?_
        exact norm_ pa (hJ6_7_8 (gb105, gb106) _ ⟨hHeld, bk BK101, bk BK105, bk BK106, GW105.out, GE105.out, NB101_105.out, NB105_101.out, NB106_105.out, NB105_106.out, GW106.out, GE106.out, NB101_106.out, NB106_101.out, bh⟩)
      rintro ⟨gb105, gb106⟩ w56 ⟨hS_, h0_, h1_, h2_, h3_, h4_, h5_, h6_, h7_, h8_, h9_, h10_, h11_, h12_, h13_⟩
      have BK105 := Aside0.mk h1_
      have BK106 := Aside0.mk h2_
      have GW105 := Aside0.mk h3_
      have GE105 := Aside0.mk h4_
      have NB101_105 := Aside0.mk h5_
      have NB105_101 := Aside0.mk h6_
      have NB106_105 := Aside0.mk h7_
      have NB105_106 := Aside0.mk h8_
      have GW106 := Aside0.mk h9_
      have GE106 := Aside0.mk h10_
      have NB101_106 := Aside0.mk h11_
      have NB106_101 := Aside0.mk h12_
      replace BK101 := Aside0.mk h0_
      replace HB := Aside0.mk h13_
      clear h0_ h1_ h2_ h3_ h4_ h5_ h6_ h7_ h8_ h9_ h10_ h11_ h12_ h13_
      have hHeld := hS_
      refine nn ?_
      refine one_ (i := 9) (N := none) #[T,T,T,T,T,T,T,T,T,T,N] rfl rfl (on1 HT_) (by decide) (fun K hK => ?_)
      have hs57 : w56.cell? ⟨gb105, 0, none⟩ = some (.int .i64 0) := bc BK105 0
      have hfs57 := blk_frozen BK105.out 0
      have hns57_0 := NB101_105.out
      have hns57_2 := NB106_105.out
      have hms57_0 := NB105_101.out
      have hms57_2 := NB105_106.out
      have hs58 : w56.cell? ⟨gb105, 1, none⟩ = some (.int .i64 0) := bc BK105 1
      have hfs58 := blk_frozen BK105.out 1
      have hns58_0 := NB101_105.out
      have hns58_2 := NB106_105.out
      have hms58_0 := NB105_101.out
      have hms58_2 := NB105_106.out
      refine skip_ (w1 := ?_) (by rfl) rfl ?_ ?_
      rotate_left
      ·go_simp
       rfl
      refine hK.out _ _ ⟨((cell_far (p := ⟨gb105, _, none⟩) (fr hw102_0 GW105) _).trans (((cell_far (p := ⟨gb105, _, none⟩) (fr hw102_0 GW105) _).trans (hHeld.1)))), ((cell_far (p := ⟨gb105, _, none⟩) (fr hw102_1 GW105) _).trans (((cell_far (p := ⟨gb105, _, none⟩) (fr hw102_1 GW105) _).trans (hHeld.2))))⟩ (fun hHeld => ?_)
      clear hK K
      refine one_ (i := 10) (N := none) #[T,T,T,T,T,T,T,T,T,T,T] rfl rfl (on1 HT_) (by decide) (fun K hK => ?_)
      have hs59 : w56.cell? ⟨gb106, 0, none⟩ = some (.int .i64 0) := bc BK106 0
      have hfs59 := blk_frozen BK106.out 0
      have hns59_0 := NB101_106.out
      have hns59_1 := NB105_106.out
      have hms59_0 := NB106_101.out
      have hms59_1 := NB106_105.out
      have hs60 : w56.cell? ⟨gb106, 1, none⟩ = some (.int .i64 0) := bc BK106 1
      have hfs60 := blk_frozen BK106.out 1
      have hns60_0 := NB101_106.out
      have hns60_1 := NB105_106.out
      have hms60_0 := NB106_101.out
      have hms60_1 := NB106_105.out
      refine skip_ (w1 := ?_) (by rfl) rfl ?_ ?_
      rotate_left
      ·go_simp
       rfl
      refine hK.out _ _ ⟨((cell_far (p := ⟨gb106, _, none⟩) (fr hw102_0 GW106) _).trans (((cell_far (p := ⟨gb106, _, none⟩) (fr hw102_0 GW106) _).trans (hHeld.1)))), ((cell_far (p := ⟨gb106, _, none⟩) (fr hw102_1 GW106) _).trans (((cell_far (p := ⟨gb106, _, none⟩) (fr hw102_1 GW106) _).trans (hHeld.2))))⟩ (fun hHeld => ?_)
      clear hK K
      refine done_ (done_of HT_.out (by kernel_rfl)) ?_
      have hnb61 := NB105_101.out
      have hnc61 := NB101_105.out
      have hnb62 := NB105_106.out
      have hnc62 := NB106_105.out
      obtain ⟨hcz63_0, hcz63_1, hfz63_0, hfz63_1⟩ := b2 BK105
      have hnb64 := NB106_101.out
      have hnc64 := NB101_106.out
      obtain ⟨hcz65_0, hcz65_1, hfz65_0, hfz65_1⟩ := b2 BK106
      obtain ⟨hcz66_0, hcz66_1, hfz66_0, hfz66_1⟩ := b2 BK101
      try go_wp2_with (first | ((with_reducible refine gc 59 rfl ?_); refine goesL_ (some 26) rfl rfl Try.func59 (by kernel_rfl) rfl #[.agg #[.int .i64 ((rd_T41 l0 x6_1).f0), .int .i64 ((rd_T41 l0 x6_1).f1)], .agg #[.int .i64 t103, .int .i64 t104], .agg #[.int .i64 a1_0, .int .i64 a1_1]] rfl sg ?_; (with_reducible refine (cracknelref04_On.calls ((rd_T41 l0 x6_1).f0) ((rd_T41 l0 x6_1).f1) t103 t104 a1_0 a1_1 false _ A7.out).mono ?_); rintro e w67 ⟨rfl, hb⟩; refine ⟨_, rfl, ?_⟩; replace BK101 := Aside0.mk (blk_below (g := gb101) (o := .cells #[.int .i64 a1_0, .int .i64 a1_1] 41 (0, 0)) (by refine bf NB101_106 ?_; refine bf NB101_106 ?_; refine bf NB101_105 ?_; refine bf NB101_105 ?_; refine bd ?_; exact BK101.out) hb); replace BK105 := Aside0.mk (blk_below (g := gb105) (o := .cells #[.int .i64 ((rd_T41 l0 x6_1).f0), .int .i64 ((rd_T41 l0 x6_1).f1)] 41 (0, 0)) (by refine bf NB105_106 ?_; refine bf NB105_106 ?_; refine bd ?_; refine blk_put (cs := #[.int .i64 ((rd_T41 l0 x6_1).f0), .int .i64 0]) ?_ 1 _ rfl; refine bd ?_; refine blk_put (cs := #[.int .i64 0, .int .i64 0]) ?_ 0 _ rfl; refine bd ?_; exact BK105.out) hb); replace BK106 := Aside0.mk (blk_below (g := gb106) (o := .cells #[.int .i64 t103, .int .i64 t104] 41 (0, 0)) (by refine bd ?_; refine blk_put (cs := #[.int .i64 t103, .int .i64 0]) ?_ 1 _ rfl; refine bd ?_; refine blk_put (cs := #[.int .i64 0, .int .i64 0]) ?_ 0 _ rfl; refine bf NB106_105 ?_; refine bf NB106_105 ?_; refine bd ?_; exact BK106.out) hb); replace HB := bz hb; (try clear hb); obtain ⟨hcz68_0, hcz68_1, hfz68_0, hfz68_1⟩ := b2 BK105; obtain ⟨hcz69_0, hcz69_1, hfz69_0, hfz69_1⟩ := b2 BK101; obtain ⟨hcz70_0, hcz70_1, hfz70_0, hfz70_1⟩ := b2 BK106))
      go_roundg k1
      case measure => have := HK1.out; omega
      case rel => exact ⟨(x5_1), (wrap64 (x6_1 + 1)), sd, sd, H', ⟨by have := HK1.out; omega⟩, ⟨bk BK101⟩, ⟨bh⟩⟩
   ·rw [if_neg c4] at H
    have c4b0 := decide_eq_false c4
    clear c4
    by_cases c71 : x5_1 = true
    ·subst c71
     rw [if_pos rfl] at H
     obtain rfl := Option.some.inj H
     go_wp2
     go_ret
     exact ⟨by exact er, bh⟩
    ·replace c71 := Bool.eq_false_iff.mpr c71
     subst c71
     rw [if_neg (show ¬ (false = true) by decide)] at H
     obtain rfl := Option.some.inj H
     go_wp2
     go_ret
     exact ⟨by exact er, bh⟩
/-! ### cracknelref04_cuts: function 97 -/
mutual
def cracknelref04_cuts.l0 : Nat → List (S41) → Int → Int → Int → Int → Int → Int → Int → Int → Int → Option (Bool)
 | 0, _, _, _, _, _, _, _, _, _, _ => none
 | k + 1, x0, x7, x8, x9, x10, x11, x102000, x102001, x103000, x103001 => if x11 < 3 then (if 0 ≤ x11 then (if x11 < (x0.length : Int) then ((cracknelref04_next.f x0 x11).bind fun bt104 => ((cracknelref04_Cross.f ((rd_T41 x0 x11).f0) ((rd_T41 x0 x11).f1) bt104.1 bt104.2 x102000 x102001).bind fun t106 => ((cracknelref04_next.f x0 x11).bind fun bt108 => ((cracknelref04_Cross.f ((rd_T41 x0 x11).f0) ((rd_T41 x0 x11).f1) bt108.1 bt108.2 x103000 x103001).bind fun t110 => (if t106 ≤ 0 then (cracknelref04_cuts.j1 k x0 x7 x8 x9 x10 x11 t106 t110 (decide (t110 ≤ 0)) x102000 x102001 x103000 x103001) else (cracknelref04_cuts.j1 k x0 x7 x8 x9 x10 x11 t106 t110 false x102000 x102001 x103000 x103001)))))) else (none)) else (none)) else (some (decide ((wrap64 (x7 * x10)) < (wrap64 (x9 * x8)))))
def cracknelref04_cuts.j1 : Nat → List (S41) → Int → Int → Int → Int → Int → Int → Int → Bool → Int → Int → Int → Int → Option (Bool)
 | 0, _, _, _, _, _, _, _, _, _, _, _, _, _ => none
 | k + 1, x0, x7, x8, x9, x10, x11, x12, x13, x43, x102000, x102001, x103000, x103001 => if x43 = true then (some false) else (if x12 > 0 then (if x13 ≥ 0 then (cracknelref04_cuts.j2 k x0 x7 x8 x9 x10 x11 x12 x13 true x102000 x102001 x103000 x103001) else (if x12 ≥ 0 then (cracknelref04_cuts.j2 k x0 x7 x8 x9 x10 x11 x12 x13 (decide (x13 > 0)) x102000 x102001 x103000 x103001) else (cracknelref04_cuts.j2 k x0 x7 x8 x9 x10 x11 x12 x13 false x102000 x102001 x103000 x103001))) else (if x12 ≥ 0 then (cracknelref04_cuts.j2 k x0 x7 x8 x9 x10 x11 x12 x13 (decide (x13 > 0)) x102000 x102001 x103000 x103001) else (cracknelref04_cuts.j2 k x0 x7 x8 x9 x10 x11 x12 x13 false x102000 x102001 x103000 x103001)))
def cracknelref04_cuts.j2 : Nat → List (S41) → Int → Int → Int → Int → Int → Int → Int → Bool → Int → Int → Int → Int → Option (Bool)
 | 0, _, _, _, _, _, _, _, _, _, _, _, _, _ => none
 | k + 1, x0, x7, x8, x9, x10, x11, x12, x13, x57, x102000, x102001, x103000, x103001 => if x57 = true then (cracknelref04_cuts.l0 k x0 x7 x8 x9 x10 (wrap64 (x11 + 1)) x102000 x102001 x103000 x103001) else (if x12 < 0 then (if (wrap64 ((wrap64 (-x12)) * x8)) > (wrap64 (x7 * (wrap64 (x13 - x12)))) then (cracknelref04_cuts.l0 k x0 (wrap64 (-x12)) (wrap64 (x13 - x12)) x9 x10 (wrap64 (x11 + 1)) x102000 x102001 x103000 x103001) else (cracknelref04_cuts.l0 k x0 x7 x8 x9 x10 (wrap64 (x11 + 1)) x102000 x102001 x103000 x103001)) else (if (wrap64 (x12 * x10)) < (wrap64 (x9 * (wrap64 (x12 - x13)))) then (cracknelref04_cuts.l0 k x0 x7 x8 x12 (wrap64 (x12 - x13)) (wrap64 (x11 + 1)) x102000 x102001 x103000 x103001) else (cracknelref04_cuts.l0 k x0 x7 x8 x9 x10 (wrap64 (x11 + 1)) x102000 x102001 x103000 x103001)))
end
def cracknelref04_cuts.f (k : Nat) (l0 : List (S41)) (a1_0 : Int) (a1_1 : Int) (a2_0 : Int) (a2_1 : Int) : Option (Bool) := cracknelref04_cuts.l0 k l0 0 1 1 1 0 a1_0 a1_1 a2_0 a2_1
def cracknelref04_cuts.T5 : Bool × List (List Nat × List Nat) := (true, [([], []), ([], []), ([0, 1], [0, 1]), ([2], [2]), ([], []), ([], []), ([4, 5], [4, 5]), ([], []), ([3, 6, 7, 6], [3, 6, 7]), ([], []), ([], []), ([9, 10], [9, 10]), ([11], [11]), ([], []), ([], []), ([13, 14, 8], [13, 14]), ([], []), ([12, 15, 16, 15], [12, 15, 16]), ([8, 17, 0, 1, 2, 3, 4, 5, 6, 7, 8], [8]), ([17, 18, 0, 1, 2, 3, 4, 5, 6, 7, 8, 9, 10, 11, 12, 13, 14, 15, 16, 17, 18], [17])])
def cracknelref04_cuts.B5 : List Nat := [0, 0, 3, 7, 0, 0, 48, 0, 255, 0, 0, 1536, 3584, 0, 0, 25087, 0, 131071, 262143, 524287]
theorem cracknelref04_cuts.tab5 : rtab .any (opsOf Try.f97 5) = cracknelref04_cuts.T5 := by kernel_rfl
theorem cracknelref04_cuts.bits5 : waitsOk cracknelref04_cuts.T5.2 cracknelref04_cuts.B5 = true := by kernel_rfl
set_option maxHeartbeats 8000000 in
set_option maxRecDepth 100000 in
theorem cracknelref04_cuts.calls (k : Nat) (A0 : Option Addr) (c0 : Nat) (l0 : List (S41)) (a1_0 : Int) (a1_1 : Int) (a2_0 : Int) (a2_1 : Int) (r : Bool) (w : World) (hr0 : Kd.C k41 w A0 l0.length l0) (hc0 : l0.length ≤ c0) (h : cracknelref04_cuts.f k l0 a1_0 a1_1 a2_0 a2_1 = some r) :
  Calls Try.prog 97 #[.slice A0 l0.length c0, .agg #[.int .i64 a1_0, .int .i64 a1_1], .agg #[.int .i64 a2_0, .int .i64 a2_1]] w fun e w' => e = .returned (.bool r) ∧ Below w.heap.size w w' := by
 have hu41 := Try.underlying41
 have HR0 := Aside0.mk hr0
 have HC0 := Aside0.mk hc0
 clear hr0 hc0
 have HB := Aside0.mk (Below.refl w.heap.size w)
 have H : (cracknelref04_cuts.l0 k l0 0 1 1 1 0 a1_0 a1_1 a2_0 a2_1) = some r := h
 clear h
 have H' := Aside0.mk H
 clear H
 go_enter Try.func97, Try.ntmps97
 go_wp2_with (first | ((with_reducible refine gate_dst (N := 4) rfl ?_); refine bxe 4 #[.int .i64 a1_0, .int .i64 a1_1] 41 ?_; intro gb101 hg w4 hbox hb; have BK101 := Aside0.mk (hbox); have GW101 := ga w hg; have GE101 := GW101; replace HB := bz hb; clear hb hbox hg) | ((with_reducible refine gate_dst (N := 5) rfl ?_); refine bxe 5 #[.int .i64 a2_0, .int .i64 a2_1] 41 ?_; intro gb102 hg w5 hbox hb; have BK102 := Aside0.mk (hbox); have GW102 := ga w hg; have GE102 := GW102; have NB101_102 := nb hg (kl BK101); have NB102_101 := bn NB101_102; replace BK101 := kb BK101 hb; replace HB := bz hb; clear hb hbox hg))
 go_loopg [7, 8, 9, 10, 11] k (fun kq v7 v8 v9 v10 v11 w' => ∃ (x7_1 : Int) (x8_1 : Int) (x9_1 : Int) (x10_1 : Int) (x11_1 : Int), v7 = .int .i64 x7_1 ∧ v8 = .int .i64 x8_1 ∧ v9 = .int .i64 x9_1 ∧ v10 = .int .i64 x10_1 ∧ v11 = .int .i64 x11_1 ∧ Aside0 (cracknelref04_cuts.l0 kq l0 x7_1 x8_1 x9_1 x10_1 x11_1 a1_0 a1_1 a2_0 a2_1 = some r) ∧ Aside0 (kq ≤ k) ∧ Aside0 (w'.heap[gb101]? = some (.cells #[.int .i64 a1_0, .int .i64 a1_1] 41 (0, 0))) ∧ Aside0 (w'.heap[gb102]? = some (.cells #[.int .i64 a2_0, .int .i64 a2_1] 41 (0, 0))) ∧ Aside0 (Below w.heap.size w w'))
 case atStart => exact ⟨(0), (1), (1), (1), (0), sd, sd, sd, sd, sd, H', ⟨Nat.le_refl _⟩, ⟨bk BK101⟩, ⟨bk BK102⟩, ⟨bh⟩⟩
 case round =>
  clear H'
  skip
  obtain ⟨x7_1, x8_1, x9_1, x10_1, x11_1, rfl, rfl, rfl, rfl, rfl, HA, HK1, BK101, BK102, HB⟩ := hrel
  cases gk with
  | zero => exact absurd HA.out (by simp [cracknelref04_cuts.l0])
  | succ k1 =>
   have H := HA.out
   clear HA
   simp only [cracknelref04_cuts.l0] at H
   by_cases c6 : x11_1 < 3
   ·rw [if_pos c6] at H
    have c6b0 := decide_eq_true c6
    clear c6
    obtain ⟨c7, H⟩ := oi H
    have c7b0 := decide_eq_true c7
    clear c7
    obtain ⟨c8, H⟩ := oi H
    have c8b0 := decide_eq_true c8
    clear c8
    replace H := Option.bind_eq_some_iff.mp H
    obtain ⟨⟨t104, t105⟩, A90, H⟩ := H
    try dsimp only at H
    have A9 := Aside0.mk A90
    clear A90
    replace H := Option.bind_eq_some_iff.mp H
    obtain ⟨t106, A100, H⟩ := H
    try dsimp only at H
    have A10 := Aside0.mk A100
    clear A100
    replace H := Option.bind_eq_some_iff.mp H
    obtain ⟨⟨t108, t109⟩, A110, H⟩ := H
    try dsimp only at H
    have A11 := Aside0.mk A110
    clear A110
    replace H := Option.bind_eq_some_iff.mp H
    obtain ⟨t110, A120, H⟩ := H
    try dsimp only at H
    have A12 := Aside0.mk A120
    clear A120
    have HC13 := Aside0.mk H
    clear H
    try go_wp2
    replace BK101 := Aside0.mk (blk_drew BK101.out)
    replace BK102 := Aside0.mk (blk_drew BK102.out)
    replace HB := Aside0.mk (below_drew1 HB.out)
    have p103 : 0 ≤ (x11_1 : Int) := dt
    have q103 : x11_1 < (l0.length : Int) := dt
    obtain ⟨ad103, e103, hx103_0, hx103_1⟩ := at_T41 HR0.out x11_1 p103 q103
    have hw103_1 := hx103_1
    have hw103_0 := hx103_0
    cases e103
    replace hx103_0 := hc HB hx103_0
    replace hx103_1 := hc HB hx103_1
    replace p103 := eq_true p103
    replace q103 := eq_true q103
    have p107 : 0 ≤ (x11_1 : Int) := dt
    have q107 : x11_1 < (l0.length : Int) := dt
    obtain ⟨ad107, e107, hx107_0, hx107_1⟩ := at_T41 HR0.out x11_1 p107 q107
    have hw107_1 := hx107_1
    have hw107_0 := hx107_0
    obtain rfl : ad103 = ad107 := (by injection e107)
    replace hx107_0 := hc HB hx107_0
    replace hx107_1 := hc HB hx107_1
    replace p107 := eq_true p107
    replace q107 := eq_true q107
    refine start_ (n := 20) (S := fun w' => w'.cell? ⟨gb101, 0, none⟩ = some (.int .i64 a1_0) ∧ w'.cell? ⟨gb101, 1, none⟩ = some (.int .i64 a1_1) ∧ w'.cell? ⟨gb102, 0, none⟩ = some (.int .i64 a2_0) ∧ w'.cell? ⟨gb102, 1, none⟩ = some (.int .i64 a2_1) ∧ w'.cell? (ad103.add ((x11_1).toNat * 2)) = some (.int .i64 ((rd_T41 l0 x11_1).f0)) ∧ w'.cell? ⟨(ad103.add ((x11_1).toNat * 2)).block, (ad103.add ((x11_1).toNat * 2)).off + 1, none⟩ = some (.int .i64 ((rd_T41 l0 x11_1).f1)) ∧ w'.cell? (ad103.add ((x11_1).toNat * 2)) = some (.int .i64 ((rd_T41 l0 x11_1).f0)) ∧ w'.cell? ⟨(ad103.add ((x11_1).toNat * 2)).block, (ad103.add ((x11_1).toNat * 2)).off + 1, none⟩ = some (.int .i64 ((rd_T41 l0 x11_1).f1))) (ds := []) #[N,N,N,N,N,N,N,N,N,N,N,N,N,N,N,N,N,N,N,N] (by kernel_rfl) rfl rfl ⟨bc BK101 0, bc BK101 1, bc BK102 0, bc BK102 1, (hc HB hw103_0), (hc HB hw103_1), (hc HB hw107_0), (hc HB hw107_1)⟩ (fun hHeld => ?_); refine with_tabW cracknelref04_cuts.tab5 cracknelref04_cuts.bits5 (fun HT_ HW_ => ?_)
    generalize wr.drew = w14 at BK101 BK102 HB hx103_0 hx103_1 hx107_0 hx107_1 hHeld ⊢
    refine pu 0 20 HT_ ?_
    refine pu 1 21 HT_ ?_
    refine pu 2 22 HT_ ?_
    refine pu 4 24 HT_ ?_
    refine pu 5 25 HT_ ?_
    refine pu 9 29 HT_ ?_
    refine pu 10 30 HT_ ?_
    refine pu 11 31 HT_ ?_
    refine pu 13 33 HT_ ?_
    refine pu 14 34 HT_ ?_
    refine tk8 3 23 hHeld HT_ HW_ ?_
    refine tk8 7 27 hHeld HT_ HW_ ?_
    refine tk8 12 32 hHeld HT_ HW_ ?_
    refine tk8 16 36 hHeld HT_ HW_ ?_
    refine one_ (i := 6) (N := some 26) #[T,T,T,T,T,T,T,T,N,T,T,T,T,T,T,N,T,N,N,N] rfl rfl (on1 HT_) (by decide) (fun K hK => ?_)
    refine goes_ Try.func58 (by kernel_rfl) rfl #[.slice (some ad103) l0.length c0, .int .i64 x11_1] (by rfl) rfl rfl sg ?_
    with_reducible refine (cracknelref04_next.calls _ _ l0 x11_1 t104 t105 _ ?side1 ?side2 A9.out).mono ?_
    (case side1 => exact cs (Kd.C_below HR0.out HB.out))
    (case side2 => exact HC0.out)
    rintro e w15 ⟨rfl, hb⟩
    refine ⟨_, rfl, ?_⟩
    replace BK101 := kb BK101 hb
    replace BK102 := kb BK102 hb
    replace HB := bz hb
    (try clear hb)
    refine hK.out _ _ ⟨bc BK101 0, bc BK101 1, bc BK102 0, bc BK102 1, (hc HB hw103_0), (hc HB hw103_1), (hc HB hw107_0), (hc HB hw107_1)⟩ (fun hHeld => ?_)
    clear hK K
    refine nm 26 ?_
    refine one_ (i := 8) (N := some 28) #[T,T,T,T,T,T,T,T,T,T,T,T,T,T,T,N,T,N,N,N] rfl rfl (on1 HT_) (by decide) (fun K hK => ?_)
    refine goes_ Try.func31 (by kernel_rfl) rfl #[.agg #[.int .i64 ((rd_T41 l0 x11_1).f0), .int .i64 ((rd_T41 l0 x11_1).f1)], .agg #[.int .i64 t104, .int .i64 t105], .agg #[.int .i64 a1_0, .int .i64 a1_1]] (by rfl) rfl rfl sg ?_
    with_reducible refine (cracknelref04_Cross.calls ((rd_T41 l0 x11_1).f0) ((rd_T41 l0 x11_1).f1) t104 t105 a1_0 a1_1 t106 _ A10.out).mono ?_
    rintro e w16 ⟨rfl, hb⟩
    refine ⟨_, rfl, ?_⟩
    replace BK101 := kb BK101 hb
    replace BK102 := kb BK102 hb
    replace HB := bz hb
    (try clear hb)
    refine hK.out _ _ ⟨bc BK101 0, bc BK101 1, bc BK102 0, bc BK102 1, (hc HB hw103_0), (hc HB hw103_1), (hc HB hw107_0), (hc HB hw107_1)⟩ (fun hHeld => ?_)
    clear hK K
    refine nm 28 ?_
    refine one_ (i := 15) (N := some 35) #[T,T,T,T,T,T,T,T,T,T,T,T,T,T,T,T,T,N,N,N] rfl rfl (on1 HT_) (by decide) (fun K hK => ?_)
    refine goes_ Try.func58 (by kernel_rfl) rfl #[.slice (some ad103) l0.length c0, .int .i64 x11_1] (by rfl) rfl rfl sg ?_
    with_reducible refine (cracknelref04_next.calls _ _ l0 x11_1 t108 t109 _ ?side1 ?side2 A11.out).mono ?_
    (case side1 => exact cs (Kd.C_below HR0.out HB.out))
    (case side2 => exact HC0.out)
    rintro e w17 ⟨rfl, hb⟩
    refine ⟨_, rfl, ?_⟩
    replace BK101 := kb BK101 hb
    replace BK102 := kb BK102 hb
    replace HB := bz hb
    (try clear hb)
    refine hK.out _ _ ⟨bc BK101 0, bc BK101 1, bc BK102 0, bc BK102 1, (hc HB hw103_0), (hc HB hw103_1), (hc HB hw107_0), (hc HB hw107_1)⟩ (fun hHeld => ?_)
    clear hK K
    refine nm 35 ?_
    refine one_ (i := 17) (N := some 37) #[T,T,T,T,T,T,T,T,T,T,T,T,T,T,T,T,T,T,N,N] rfl rfl (on1 HT_) (by decide) (fun K hK => ?_)
    refine goes_ Try.func31 (by kernel_rfl) rfl #[.agg #[.int .i64 ((rd_T41 l0 x11_1).f0), .int .i64 ((rd_T41 l0 x11_1).f1)], .agg #[.int .i64 t108, .int .i64 t109], .agg #[.int .i64 a2_0, .int .i64 a2_1]] (by rfl) rfl rfl sg ?_
    with_reducible refine (cracknelref04_Cross.calls ((rd_T41 l0 x11_1).f0) ((rd_T41 l0 x11_1).f1) t108 t109 a2_0 a2_1 t110 _ A12.out).mono ?_
    rintro e w18 ⟨rfl, hb⟩
    refine ⟨_, rfl, ?_⟩
    replace BK101 := kb BK101 hb
    replace BK102 := kb BK102 hb
    replace HB := bz hb
    (try clear hb)
    refine hK.out _ _ ⟨bc BK101 0, bc BK101 1, bc BK102 0, bc BK102 1, (hc HB hw103_0), (hc HB hw103_1), (hc HB hw107_0), (hc HB hw107_1)⟩ (fun hHeld => ?_)
    clear hK K
    refine nm 37 ?_
    refine pu 18 12 HT_ ?_
    refine pu 19 13 HT_ ?_
    refine done_ (done_of HT_.out (by kernel_rfl)) ?_
    go_upto_region 6 with (fail)
    go_cut [43] (fun v43 wc => ∃ (kq : Nat) (x43_12 : Bool), v43 = .bool x43_12 ∧ Aside0 (cracknelref04_cuts.j1 kq l0 x7_1 x8_1 x9_1 x10_1 x11_1 t106 t110 x43_12 a1_0 a1_1 a2_0 a2_1 = some r) ∧ Aside0 (kq ≤ k1) ∧ Aside0 (wc.heap[gb101]? = some (.cells #[.int .i64 a1_0, .int .i64 a1_1] 41 (0, 0))) ∧ Aside0 (wc.heap[gb102]? = some (.cells #[.int .i64 a2_0, .int .i64 a2_1] 41 (0, 0))) ∧ Aside0 (Below w.heap.size w wc))
    case first =>
     have H := HC13.out
     clear HC13
     by_cases c19 : t106 ≤ 0
     ·rw [if_pos c19] at H
      have c19b0 := decide_eq_true c19
      clear c19
      (first | rw [c19b0] | (simp only [i64_w, i32_w]; rw [c19b0]) | skip)
      have H' := Aside0.mk H
      clear H
      go_wp2
      go_meet
      case rel => exact ⟨_, (decide (t110 ≤ 0)), sd, H', ⟨by have := HK1.out; first | omega | exact Nat.le_refl _⟩, ⟨bk BK101⟩, ⟨bk BK102⟩, ⟨bh⟩⟩
     ·rw [if_neg c19] at H
      have c19b0 := decide_eq_false c19
      clear c19
      (first | rw [c19b0] | (simp only [i64_w, i32_w]; rw [c19b0]) | skip)
      have H' := Aside0.mk H
      clear H
      go_wp2
      go_meet
      case rel => exact ⟨_, (false), sd, H', ⟨by have := HK1.out; first | omega | exact Nat.le_refl _⟩, ⟨bk BK101⟩, ⟨bk BK102⟩, ⟨bh⟩⟩
    case rest =>
     clear HC13
     (try clear c6b0); (try clear c7b0); (try clear c8b0); (try clear hx103_0); (try clear hx103_1); (try clear hx107_0); (try clear hx107_1); (try clear p103); (try clear p107); (try clear q103); (try clear q107)
     obtain ⟨kq, x43_12, rfl, HA, HJ12, BK101, BK102, HB⟩ := hcut
     cases kq with
     | zero => exact absurd HA.out (by simp [cracknelref04_cuts.j1])
     | succ kj12 =>
      have H := HA.out
      clear HA
      simp only [cracknelref04_cuts.j1] at H
      by_cases c20 : x43_12 = true
      ·subst c20
       rw [if_pos rfl] at H
       obtain rfl := Option.some.inj H
       go_wp2
       go_ret
       exact ⟨by exact er, bh⟩
      ·replace c20 := Bool.eq_false_iff.mpr c20
       subst c20
       rw [if_neg (show ¬ (false = true) by decide)] at H
       have HC21 := Aside0.mk H
       clear H
       go_upto_region 8 with (fail)
       go_cut [57] (fun v57 wc => ∃ (kq : Nat) (x57_20 : Bool), v57 = .bool x57_20 ∧ Aside0 (cracknelref04_cuts.j2 kq l0 x7_1 x8_1 x9_1 x10_1 x11_1 t106 t110 x57_20 a1_0 a1_1 a2_0 a2_1 = some r) ∧ Aside0 (kq ≤ kj12) ∧ Aside0 (wc.heap[gb101]? = some (.cells #[.int .i64 a1_0, .int .i64 a1_1] 41 (0, 0))) ∧ Aside0 (wc.heap[gb102]? = some (.cells #[.int .i64 a2_0, .int .i64 a2_1] 41 (0, 0))) ∧ Aside0 (Below w.heap.size w wc))
       case first =>
        have H := HC21.out
        clear HC21
        by_cases c22 : t106 > 0
        ·rw [if_pos c22] at H
         have c22b0 := decide_eq_true c22
         clear c22
         (first | rw [c22b0] | (simp only [i64_w, i32_w]; rw [c22b0]) | skip)
         by_cases c23 : t110 ≥ 0
         ·rw [if_pos c23] at H
          have c23b0 := decide_eq_true c23
          clear c23
          have H' := Aside0.mk H
          clear H
          go_wp2
          go_meet
          case rel => exact ⟨_, (true), sd, H', ⟨by have := HK1.out; have := HJ12.out; first | omega | exact Nat.le_refl _⟩, ⟨bk BK101⟩, ⟨bk BK102⟩, ⟨bh⟩⟩
         ·rw [if_neg c23] at H
          have c23b0 := decide_eq_false c23
          clear c23
          by_cases c24 : t106 ≥ 0
          ·rw [if_pos c24] at H
           have c24b0 := decide_eq_true c24
           clear c24
           have H' := Aside0.mk H
           clear H
           go_wp2
           go_meet
           case rel => exact ⟨_, (decide (t110 > 0)), sd, H', ⟨by have := HK1.out; have := HJ12.out; first | omega | exact Nat.le_refl _⟩, ⟨bk BK101⟩, ⟨bk BK102⟩, ⟨bh⟩⟩
          ·rw [if_neg c24] at H
           have c24b0 := decide_eq_false c24
           clear c24
           have H' := Aside0.mk H
           clear H
           go_wp2
           go_meet
           case rel => exact ⟨_, (false), sd, H', ⟨by have := HK1.out; have := HJ12.out; first | omega | exact Nat.le_refl _⟩, ⟨bk BK101⟩, ⟨bk BK102⟩, ⟨bh⟩⟩
        ·rw [if_neg c22] at H
         have c22b0 := decide_eq_false c22
         clear c22
         (first | rw [c22b0] | (simp only [i64_w, i32_w]; rw [c22b0]) | skip)
         by_cases c25 : t106 ≥ 0
         ·rw [if_pos c25] at H
          have c25b0 := decide_eq_true c25
          clear c25
          have H' := Aside0.mk H
          clear H
          go_wp2
          go_meet
          case rel => exact ⟨_, (decide (t110 > 0)), sd, H', ⟨by have := HK1.out; have := HJ12.out; first | omega | exact Nat.le_refl _⟩, ⟨bk BK101⟩, ⟨bk BK102⟩, ⟨bh⟩⟩
         ·rw [if_neg c25] at H
          have c25b0 := decide_eq_false c25
          clear c25
          have H' := Aside0.mk H
          clear H
          go_wp2
          go_meet
          case rel => exact ⟨_, (false), sd, H', ⟨by have := HK1.out; have := HJ12.out; first | omega | exact Nat.le_refl _⟩, ⟨bk BK101⟩, ⟨bk BK102⟩, ⟨bh⟩⟩
       case rest =>
        clear HC21
        (try clear c20)
        obtain ⟨kq, x57_20, rfl, HA, HJ20, BK101, BK102, HB⟩ := hcut
        cases kq with
        | zero => exact absurd HA.out (by simp [cracknelref04_cuts.j2])
        | succ kj20 =>
         have H := HA.out
         clear HA
         simp only [cracknelref04_cuts.j2] at H
         by_cases c26 : x57_20 = true
         ·subst c26
          rw [if_pos rfl] at H
          have H' := Aside0.mk H
          clear H
          go_wp2
          go_roundg kj20
          case measure => have := HK1.out; have := HJ12.out; have := HJ20.out; omega
          case rel => exact ⟨(x7_1), (x8_1), (x9_1), (x10_1), (wrap64 (x11_1 + 1)), sd, sd, sd, sd, sd, H', ⟨by have := HK1.out; have := HJ12.out; have := HJ20.out; omega⟩, ⟨bk BK101⟩, ⟨bk BK102⟩, ⟨bh⟩⟩
         ·replace c26 := Bool.eq_false_iff.mpr c26
          subst c26
          rw [if_neg (show ¬ (false = true) by decide)] at H
          by_cases c27 : t106 < 0
          ·rw [if_pos c27] at H
           have c27b0 := decide_eq_true c27
           clear c27
           by_cases c28 : (wrap64 ((wrap64 (-t106)) * x8_1)) > (wrap64 (x7_1 * (wrap64 (t110 - t106))))
           ·rw [if_pos c28] at H
            have c28b0 := decide_eq_true c28
            clear c28
            have H' := Aside0.mk H
            clear H
            go_wp2
            go_roundg kj20
            case measure => have := HK1.out; have := HJ12.out; have := HJ20.out; omega
            case rel => exact ⟨(wrap64 (-t106)), (wrap64 (t110 - t106)), (x9_1), (x10_1), (wrap64 (x11_1 + 1)), sd, sd, sd, sd, sd, H', ⟨by have := HK1.out; have := HJ12.out; have := HJ20.out; omega⟩, ⟨bk BK101⟩, ⟨bk BK102⟩, ⟨bh⟩⟩
           ·rw [if_neg c28] at H
            have c28b0 := decide_eq_false c28
            clear c28
            have H' := Aside0.mk H
            clear H
            go_wp2
            go_roundg kj20
            case measure => have := HK1.out; have := HJ12.out; have := HJ20.out; omega
            case rel => exact ⟨(x7_1), (x8_1), (x9_1), (x10_1), (wrap64 (x11_1 + 1)), sd, sd, sd, sd, sd, H', ⟨by have := HK1.out; have := HJ12.out; have := HJ20.out; omega⟩, ⟨bk BK101⟩, ⟨bk BK102⟩, ⟨bh⟩⟩
          ·rw [if_neg c27] at H
           have c27b0 := decide_eq_false c27
           clear c27
           by_cases c29 : (wrap64 (t106 * x10_1)) < (wrap64 (x9_1 * (wrap64 (t106 - t110))))
           ·rw [if_pos c29] at H
            have c29b0 := decide_eq_true c29
            clear c29
            have H' := Aside0.mk H
            clear H
            go_wp2
            go_roundg kj20
            case measure => have := HK1.out; have := HJ12.out; have := HJ20.out; omega
            case rel => exact ⟨(x7_1), (x8_1), (t106), (wrap64 (t106 - t110)), (wrap64 (x11_1 + 1)), sd, sd, sd, sd, sd, H', ⟨by have := HK1.out; have := HJ12.out; have := HJ20.out; omega⟩, ⟨bk BK101⟩, ⟨bk BK102⟩, ⟨bh⟩⟩
           ·rw [if_neg c29] at H
            have c29b0 := decide_eq_false c29
            clear c29
            have H' := Aside0.mk H
            clear H
            go_wp2
            go_roundg kj20
            case measure => have := HK1.out; have := HJ12.out; have := HJ20.out; omega
            case rel => exact ⟨(x7_1), (x8_1), (x9_1), (x10_1), (wrap64 (x11_1 + 1)), sd, sd, sd, sd, sd, H', ⟨by have := HK1.out; have := HJ12.out; have := HJ20.out; omega⟩, ⟨bk BK101⟩, ⟨bk BK102⟩, ⟨bh⟩⟩
   ·rw [if_neg c6] at H
    have c6b0 := decide_eq_false c6
    clear c6
    obtain rfl := Option.some.inj H
    go_wp2
    go_ret
    exact ⟨by exact er, bh⟩
end Go.Proofs.Ythehmkpcddafnaa.PG
end
