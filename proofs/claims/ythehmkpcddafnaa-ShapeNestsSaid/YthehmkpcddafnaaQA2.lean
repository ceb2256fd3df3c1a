/- Parts of the proof of YthehmkpcddafnaaLawShapeNests: printed walks, their words, and plain laws. -/
import Derived.Test.YthehmkpcddafnaaQA1
import Derived.Shelf.Abstract
section
namespace Go.Proofs.Ythehmkpcddafnaa.PG
open Go.RowKit Go.Proofs.YthehmkpcddafnaaW.PrintWords Go.Proofs.YthehmkpcddafnaaW.PrintLast Go.Proofs.YthehmkpcddafnaaW.PrintMore
attribute [local go_sem] max2_int min2_int max_two min_two max_three min_three max_four min_four
set_option linter.unusedVariables false
set_option linter.unusedSimpArgs false
/-! ### cracknelref04_Meet: function 60 -/
def cracknelref04_Meet.j0 : Nat → Bool → Int → Int → Int → Int → Int → Int → Int → Int → Option (Bool)
 | 0, _, _, _, _, _, _, _, _, _ => none
 | k + 1, x30, x102000, x102001, x103000, x103001, x104000, x104001, x105000, x105001 => if x30 = true then (some true) else ((cracknelref04_Cross.f x102000 x102001 x103000 x103001 x104000 x104001).bind fun t109 => ((cracknelref04_sign.f t109).bind fun t110 => ((cracknelref04_Cross.f x102000 x102001 x103000 x103001 x105000 x105001).bind fun t111 => ((cracknelref04_sign.f t111).bind fun t112 => (if (wrap64 (t110 * t112)) < 0 then ((cracknelref04_Cross.f x104000 x104001 x105000 x105001 x102000 x102001).bind fun t113 => ((cracknelref04_sign.f t113).bind fun t114 => ((cracknelref04_Cross.f x104000 x104001 x105000 x105001 x103000 x103001).bind fun t115 => ((cracknelref04_sign.f t115).bind fun t116 => (some (decide ((wrap64 (t114 * t116)) < 0))))))) else (some false))))))
def cracknelref04_Meet.f (k : Nat) (a0_0 : Int) (a0_1 : Int) (a1_0 : Int) (a1_1 : Int) (a2_0 : Int) (a2_1 : Int) (a3_0 : Int) (a3_1 : Int) : Option (Bool) := (cracknelref04_On.f a0_0 a0_1 a1_0 a1_1 a2_0 a2_1).bind fun t105 => (if t105 = true then (cracknelref04_Meet.j0 k true a0_0 a0_1 a1_0 a1_1 a2_0 a2_1 a3_0 a3_1) else ((cracknelref04_On.f a0_0 a0_1 a1_0 a1_1 a3_0 a3_1).bind fun t106 => (if t106 = true then (cracknelref04_Meet.j0 k true a0_0 a0_1 a1_0 a1_1 a2_0 a2_1 a3_0 a3_1) else ((cracknelref04_On.f a2_0 a2_1 a3_0 a3_1 a0_0 a0_1).bind fun t107 => (if t107 = true then (cracknelref04_Meet.j0 k true a0_0 a0_1 a1_0 a1_1 a2_0 a2_1 a3_0 a3_1) else ((cracknelref04_On.f a2_0 a2_1 a3_0 a3_1 a1_0 a1_1).bind fun t108 => (cracknelref04_Meet.j0 k t108 a0_0 a0_1 a1_0 a1_1 a2_0 a2_1 a3_0 a3_1)))))))
def cracknelref04_Meet.T3 : Bool × List (List Nat × List Nat) := (true, [([], []), ([], []), ([], []), ([0, 1, 2], [0, 1, 2]), ([3, 3], [3]), ([], []), ([], []), ([], []), ([5, 6, 7, 4], [5, 6, 7]), ([8, 8], [8]), ([4, 9], [4, 9]), ([10], [10]), ([11, 9], [11]), ([12], [12]), ([12], [12]), ([12], [12]), ([13, 14, 15, 12, 12], [12, 13, 14, 15]), ([16, 16, 12], [12, 16]), ([12], [12]), ([12], [12]), ([12], [12]), ([18, 19, 20, 17, 12], [12, 18, 19, 20]), ([21, 21, 12], [12, 21]), ([17, 22, 12], [12, 17, 22]), ([23, 12], [12, 23]), ([12, 24], [12, 24]), ([25, 22, 0, 1, 2, 3, 4, 5, 6, 7, 8, 9, 10, 11, 12, 13, 14, 15, 16, 17, 18, 19, 20, 21, 22, 23, 24, 25], [25])])
def cracknelref04_Meet.B3 : List Nat := [0, 0, 0, 7, 15, 0, 0, 0, 255, 511, 1023, 2047, 4095, 8191, 8191, 8191, 65535, 131071, 8191, 8191, 8191, 2097151, 4194303, 8388607, 16777215, 33554431, 67108863]
theorem cracknelref04_Meet.tab3 : rtab .any (opsOf Try.f60 3) = cracknelref04_Meet.T3 := by kernel_rfl
theorem cracknelref04_Meet.bits3 : waitsOk cracknelref04_Meet.T3.2 cracknelref04_Meet.B3 = true := by kernel_rfl
set_option maxHeartbeats 8000000 in
set_option maxRecDepth 100000 in
theorem cracknelref04_Meet.calls (k : Nat) (a0_0 : Int) (a0_1 : Int) (a1_0 : Int) (a1_1 : Int) (a2_0 : Int) (a2_1 : Int) (a3_0 : Int) (a3_1 : Int) (r : Bool) (w : World) (h : cracknelref04_Meet.f k a0_0 a0_1 a1_0 a1_1 a2_0 a2_1 a3_0 a3_1 = some r) :
  Calls Try.prog 60 #[.agg #[.int .i64 a0_0, .int .i64 a0_1], .agg #[.int .i64 a1_0, .int .i64 a1_1], .agg #[.int .i64 a2_0, .int .i64 a2_1], .agg #[.int .i64 a3_0, .int .i64 a3_1]] w fun e w' => e = .returned (.bool r) ∧ Below w.heap.size w w' := by
 have hu41 := Try.underlying41
 have HB := Aside0.mk (Below.refl w.heap.size w)
 have H : ((cracknelref04_On.f a0_0 a0_1 a1_0 a1_1 a2_0 a2_1).bind fun t105 => (if t105 = true then (cracknelref04_Meet.j0 k true a0_0 a0_1 a1_0 a1_1 a2_0 a2_1 a3_0 a3_1) else ((cracknelref04_On.f a0_0 a0_1 a1_0 a1_1 a3_0 a3_1).bind fun t106 => (if t106 = true then (cracknelref04_Meet.j0 k true a0_0 a0_1 a1_0 a1_1 a2_0 a2_1 a3_0 a3_1) else ((cracknelref04_On.f a2_0 a2_1 a3_0 a3_1 a0_0 a0_1).bind fun t107 => (if t107 = true then (cracknelref04_Meet.j0 k true a0_0 a0_1 a1_0 a1_1 a2_0 a2_1 a3_0 a3_1) else ((cracknelref04_On.f a2_0 a2_1 a3_0 a3_1 a1_0 a1_1).bind fun t108 => (cracknelref04_Meet.j0 k t108 a0_0 a0_1 a1_0 a1_1 a2_0 a2_1 a3_0 a3_1)))))))) = some r := h
 clear h
 have HC5 := Aside0.mk H
 clear H
 go_enter Try.func60, Try.ntmps60
 go_upto_region 1 with (first | ((with_reducible refine gate_dst (N := 4) rfl ?_); refine bxe 4 #[.int .i64 a0_0, .int .i64 a0_1] 41 ?_; intro gb101 hg w6 hbox hb; have BK101 := Aside0.mk (hbox); have GW101 := ga w hg; have GE101 := GW101; replace HB := bz hb; clear hb hbox hg) | ((with_reducible refine gate_dst (N := 5) rfl ?_); refine bxe 5 #[.int .i64 a1_0, .int .i64 a1_1] 41 ?_; intro gb102 hg w7 hbox hb; have BK102 := Aside0.mk (hbox); have GW102 := ga w hg; have GE102 := GW102; have NB101_102 := nb hg (kl BK101); have NB102_101 := bn NB101_102; replace BK101 := kb BK101 hb; replace HB := bz hb; clear hb hbox hg) | ((with_reducible refine gate_dst (N := 6) rfl ?_); refine bxe 6 #[.int .i64 a2_0, .int .i64 a2_1] 41 ?_; intro gb103 hg w8 hbox hb; have BK103 := Aside0.mk (hbox); have GW103 := ga w hg; have GE103 := GW103; have NB101_103 := nb hg (kl BK101); have NB103_101 := bn NB101_103; have NB102_103 := nb hg (kl BK102); have NB103_102 := bn NB102_103; replace BK101 := kb BK101 hb; replace BK102 := kb BK102 hb; replace HB := bz hb; clear hb hbox hg) | ((with_reducible refine gate_dst (N := 7) rfl ?_); refine bxe 7 #[.int .i64 a3_0, .int .i64 a3_1] 41 ?_; intro gb104 hg w9 hbox hb; have BK104 := Aside0.mk (hbox); have GW104 := ga w hg; have GE104 := GW104; have NB101_104 := nb hg (kl BK101); have NB104_101 := bn NB101_104; have NB102_104 := nb hg (kl BK102); have NB104_102 := bn NB102_104; have NB103_104 := nb hg (kl BK103); have NB104_103 := bn NB103_104; replace BK101 := kb BK101 hb; replace BK102 := kb BK102 hb; replace BK103 := kb BK103 hb; replace HB := bz hb; clear hb hbox hg))
 (try simp only [Act.put, List.setIfInBounds_toArray, List.set_cons_zero, List.set_cons_succ])
 go_cut [30] (fun v30 wc => ∃ (kq : Nat) (x30_4 : Bool), v30 = .bool x30_4 ∧ Aside0 (cracknelref04_Meet.j0 kq x30_4 a0_0 a0_1 a1_0 a1_1 a2_0 a2_1 a3_0 a3_1 = some r) ∧ Aside0 (kq ≤ k) ∧ Aside0 (wc.heap[gb101]? = some (.cells #[.int .i64 a0_0, .int .i64 a0_1] 41 (0, 0))) ∧ Aside0 (wc.heap[gb102]? = some (.cells #[.int .i64 a1_0, .int .i64 a1_1] 41 (0, 0))) ∧ Aside0 (wc.heap[gb103]? = some (.cells #[.int .i64 a2_0, .int .i64 a2_1] 41 (0, 0))) ∧ Aside0 (wc.heap[gb104]? = some (.cells #[.int .i64 a3_0, .int .i64 a3_1] 41 (0, 0))) ∧ Aside0 (Below w.heap.size w wc))
 case first =>
  have H := HC5.out
  clear HC5
  replace H := Option.bind_eq_some_iff.mp H
  obtain ⟨t105, A100, H⟩ := H
  try dsimp only at H
  have A10 := Aside0.mk A100
  clear A100
  by_cases c11 : t105 = true
  ·subst c11
   rw [if_pos rfl] at H
   have H' := Aside0.mk H
   clear H
   have hnb12 := NB101_102.out
   have hnc12 := NB102_101.out
   have hnb13 := NB101_103.out
   have hnc13 := NB103_101.out
   have hnb14 := NB101_104.out
   have hnc14 := NB104_101.out
   obtain ⟨hcz15_0, hcz15_1, hfz15_0, hfz15_1⟩ := b2 BK101
   have hnb16 := NB102_103.out
   have hnc16 := NB103_102.out
   have hnb17 := NB102_104.out
   have hnc17 := NB104_102.out
   obtain ⟨hcz18_0, hcz18_1, hfz18_0, hfz18_1⟩ := b2 BK102
   have hnb19 := NB103_104.out
   have hnc19 := NB104_103.out
   obtain ⟨hcz20_0, hcz20_1, hfz20_0, hfz20_1⟩ := b2 BK103
   go_wp2_with (first | ((with_reducible refine gc 59 rfl ?_); refine goesL_ (some 12) rfl rfl Try.func59 (by kernel_rfl) rfl #[.agg #[.int .i64 a0_0, .int .i64 a0_1], .agg #[.int .i64 a1_0, .int .i64 a1_1], .agg #[.int .i64 a2_0, .int .i64 a2_1]] rfl sg ?_; (with_reducible refine (cracknelref04_On.calls a0_0 a0_1 a1_0 a1_1 a2_0 a2_1 true _ A10.out).mono ?_); rintro e w21 ⟨rfl, hb⟩; refine ⟨_, rfl, ?_⟩; replace BK101 := kb BK101 hb; replace BK102 := kb BK102 hb; replace BK103 := kb BK103 hb; replace BK104 := kb BK104 hb; replace HB := bz hb; (try clear hb)))
   go_meet
   case rel => exact ⟨_, (true), sd, H', ⟨om⟩, ⟨bk BK101⟩, ⟨bk BK102⟩, ⟨bk BK103⟩, ⟨bk BK104⟩, ⟨bh⟩⟩
  ·replace c11 := Bool.eq_false_iff.mpr c11
   subst c11
   rw [if_neg (show ¬ (false = true) by decide)] at H
   replace H := Option.bind_eq_some_iff.mp H
   obtain ⟨t106, A220, H⟩ := H
   try dsimp only at H
   have A22 := Aside0.mk A220
   clear A220
   by_cases c23 : t106 = true
   ·subst c23
    rw [if_pos rfl] at H
    have H' := Aside0.mk H
    clear H
    have hnb24 := NB101_102.out
    have hnc24 := NB102_101.out
    have hnb25 := NB101_103.out
    have hnc25 := NB103_101.out
    have hnb26 := NB101_104.out
    have hnc26 := NB104_101.out
    obtain ⟨hcz27_0, hcz27_1, hfz27_0, hfz27_1⟩ := b2 BK101
    have hnb28 := NB102_103.out
    have hnc28 := NB103_102.out
    have hnb29 := NB102_104.out
    have hnc29 := NB104_102.out
    obtain ⟨hcz30_0, hcz30_1, hfz30_0, hfz30_1⟩ := b2 BK102
    have hnb31 := NB103_104.out
    have hnc31 := NB104_103.out
    obtain ⟨hcz32_0, hcz32_1, hfz32_0, hfz32_1⟩ := b2 BK103
    go_wp2_with (first | ((with_reducible refine gc 59 rfl ?_); refine goesL_ (some 12) rfl rfl Try.func59 (by kernel_rfl) rfl #[.agg #[.int .i64 a0_0, .int .i64 a0_1], .agg #[.int .i64 a1_0, .int .i64 a1_1], .agg #[.int .i64 a2_0, .int .i64 a2_1]] rfl sg ?_; (with_reducible refine (cracknelref04_On.calls a0_0 a0_1 a1_0 a1_1 a2_0 a2_1 false _ A10.out).mono ?_); rintro e w33 ⟨rfl, hb⟩; refine ⟨_, rfl, ?_⟩; replace BK101 := kb BK101 hb; replace BK102 := kb BK102 hb; replace BK103 := kb BK103 hb; replace BK104 := kb BK104 hb; replace HB := bz hb; (try clear hb); obtain ⟨hcz34_0, hcz34_1, hfz34_0, hfz34_1⟩ := b2 BK101; obtain ⟨hcz35_0, hcz35_1, hfz35_0, hfz35_1⟩ := b2 BK102; obtain ⟨hcz36_0, hcz36_1, hfz36_0, hfz36_1⟩ := b2 BK104) | (go_at_call 59; (with_reducible refine (cracknelref04_On.calls a0_0 a0_1 a1_0 a1_1 a3_0 a3_1 true _ A22.out).mono ?_); rintro e w37 ⟨rfl, hb⟩; replace BK101 := kb BK101 hb; replace BK102 := kb BK102 hb; replace BK103 := kb BK103 hb; replace BK104 := kb BK104 hb; replace HB := bz hb; (try clear hb)))
    go_meet
    case rel => exact ⟨_, (true), sd, H', ⟨om⟩, ⟨bk BK101⟩, ⟨bk BK102⟩, ⟨bk BK103⟩, ⟨bk BK104⟩, ⟨bh⟩⟩
   ·replace c23 := Bool.eq_false_iff.mpr c23
    subst c23
    rw [if_neg (show ¬ (false = true) by decide)] at H
    replace H := Option.bind_eq_some_iff.mp H
    obtain ⟨t107, A380, H⟩ := H
    try dsimp only at H
    have A38 := Aside0.mk A380
    clear A380
    by_cases c39 : t107 = true
    ·subst c39
     rw [if_pos rfl] at H
     have H' := Aside0.mk H
     clear H
     have hnb40 := NB101_102.out
     have hnc40 := NB102_101.out
     have hnb41 := NB101_103.out
     have hnc41 := NB103_101.out
     have hnb42 := NB101_104.out
     have hnc42 := NB104_101.out
     obtain ⟨hcz43_0, hcz43_1, hfz43_0, hfz43_1⟩ := b2 BK101
     have hnb44 := NB102_103.out
     have hnc44 := NB103_102.out
     have hnb45 := NB102_104.out
     have hnc45 := NB104_102.out
     obtain ⟨hcz46_0, hcz46_1, hfz46_0, hfz46_1⟩ := b2 BK102
     have hnb47 := NB103_104.out
     have hnc47 := NB104_103.out
     obtain ⟨hcz48_0, hcz48_1, hfz48_0, hfz48_1⟩ := b2 BK103
     go_wp2_with (first | ((with_reducible refine gc 59 rfl ?_); refine goesL_ (some 12) rfl rfl Try.func59 (by kernel_rfl) rfl #[.agg #[.int .i64 a0_0, .int .i64 a0_1], .agg #[.int .i64 a1_0, .int .i64 a1_1], .agg #[.int .i64 a2_0, .int .i64 a2_1]] rfl sg ?_; (with_reducible refine (cracknelref04_On.calls a0_0 a0_1 a1_0 a1_1 a2_0 a2_1 false _ A10.out).mono ?_); rintro e w49 ⟨rfl, hb⟩; refine ⟨_, rfl, ?_⟩; replace BK101 := kb BK101 hb; replace BK102 := kb BK102 hb; replace BK103 := kb BK103 hb; replace BK104 := kb BK104 hb; replace HB := bz hb; (try clear hb); obtain ⟨hcz50_0, hcz50_1, hfz50_0, hfz50_1⟩ := b2 BK101; obtain ⟨hcz51_0, hcz51_1, hfz51_0, hfz51_1⟩ := b2 BK102; obtain ⟨hcz52_0, hcz52_1, hfz52_0, hfz52_1⟩ := b2 BK104) | (go_at_call 59; (with_reducible refine (cracknelref04_On.calls a0_0 a0_1 a1_0 a1_1 a3_0 a3_1 false _ A22.out).mono ?_); rintro e w53 ⟨rfl, hb⟩; replace BK101 := kb BK101 hb; replace BK102 := kb BK102 hb; replace BK103 := kb BK103 hb; replace BK104 := kb BK104 hb; replace HB := bz hb; (try clear hb); obtain ⟨hcz54_0, hcz54_1, hfz54_0, hfz54_1⟩ := b2 BK103; obtain ⟨hcz55_0, hcz55_1, hfz55_0, hfz55_1⟩ := b2 BK104; obtain ⟨hcz56_0, hcz56_1, hfz56_0, hfz56_1⟩ := b2 BK101) | (go_at_call 59; (with_reducible refine (cracknelref04_On.calls a2_0 a2_1 a3_0 a3_1 a0_0 a0_1 true _ A38.out).mono ?_); rintro e w57 ⟨rfl, hb⟩; replace BK101 := kb BK101 hb; replace BK102 := kb BK102 hb; replace BK103 := kb BK103 hb; replace BK104 := kb BK104 hb; replace HB := bz hb; (try clear hb)))
     go_meet
     case rel => exact ⟨_, (true), sd, H', ⟨om⟩, ⟨bk BK101⟩, ⟨bk BK102⟩, ⟨bk BK103⟩, ⟨bk BK104⟩, ⟨bh⟩⟩
    ·replace c39 := Bool.eq_false_iff.mpr c39
     subst c39
     rw [if_neg (show ¬ (false = true) by decide)] at H
     replace H := Option.bind_eq_some_iff.mp H
     obtain ⟨t108, A580, H⟩ := H
     try dsimp only at H
     have A58 := Aside0.mk A580
     clear A580
     have H' := Aside0.mk H
     clear H
     have hnb59 := NB101_102.out
     have hnc59 := NB102_101.out
     have hnb60 := NB101_103.out
     have hnc60 := NB103_101.out
     have hnb61 := NB101_104.out
     have hnc61 := NB104_101.out
     obtain ⟨hcz62_0, hcz62_1, hfz62_0, hfz62_1⟩ := b2 BK101
     have hnb63 := NB102_103.out
     have hnc63 := NB103_102.out
     have hnb64 := NB102_104.out
     have hnc64 := NB104_102.out
     obtain ⟨hcz65_0, hcz65_1, hfz65_0, hfz65_1⟩ := b2 BK102
     have hnb66 := NB103_104.out
     have hnc66 := NB104_103.out
     obtain ⟨hcz67_0, hcz67_1, hfz67_0, hfz67_1⟩ := b2 BK103
     go_wp2_with (first | ((with_reducible refine gc 59 rfl ?_); refine goesL_ (some 12) rfl rfl Try.func59 (by kernel_rfl) rfl #[.agg #[.int .i64 a0_0, .int .i64 a0_1], .agg #[.int .i64 a1_0, .int .i64 a1_1], .agg #[.int .i64 a2_0, .int .i64 a2_1]] rfl sg ?_; (with_reducible refine (cracknelref04_On.calls a0_0 a0_1 a1_0 a1_1 a2_0 a2_1 false _ A10.out).mono ?_); rintro e w68 ⟨rfl, hb⟩; refine ⟨_, rfl, ?_⟩; replace BK101 := kb BK101 hb; replace BK102 := kb BK102 hb; replace BK103 := kb BK103 hb; replace BK104 := kb BK104 hb; replace HB := bz hb; (try clear hb); obtain ⟨hcz69_0, hcz69_1, hfz69_0, hfz69_1⟩ := b2 BK101; obtain ⟨hcz70_0, hcz70_1, hfz70_0, hfz70_1⟩ := b2 BK102; obtain ⟨hcz71_0, hcz71_1, hfz71_0, hfz71_1⟩ := b2 BK104) | (go_at_call 59; (with_reducible refine (cracknelref04_On.calls a0_0 a0_1 a1_0 a1_1 a3_0 a3_1 false _ A22.out).mono ?_); rintro e w72 ⟨rfl, hb⟩; replace BK101 := kb BK101 hb; replace BK102 := kb BK102 hb; replace BK103 := kb BK103 hb; replace BK104 := kb BK104 hb; replace HB := bz hb; (try clear hb); obtain ⟨hcz73_0, hcz73_1, hfz73_0, hfz73_1⟩ := b2 BK103; obtain ⟨hcz74_0, hcz74_1, hfz74_0, hfz74_1⟩ := b2 BK104; obtain ⟨hcz75_0, hcz75_1, hfz75_0, hfz75_1⟩ := b2 BK101) | (go_at_call 59; (with_reducible refine (cracknelref04_On.calls a2_0 a2_1 a3_0 a3_1 a0_0 a0_1 false _ A38.out).mono ?_); rintro e w76 ⟨rfl, hb⟩; replace BK101 := kb BK101 hb; replace BK102 := kb BK102 hb; replace BK103 := kb BK103 hb; replace BK104 := kb BK104 hb; replace HB := bz hb; (try clear hb); obtain ⟨hcz77_0, hcz77_1, hfz77_0, hfz77_1⟩ := b2 BK103; obtain ⟨hcz78_0, hcz78_1, hfz78_0, hfz78_1⟩ := b2 BK104; obtain ⟨hcz79_0, hcz79_1, hfz79_0, hfz79_1⟩ := b2 BK102) | (go_at_call 59; (with_reducible refine (cracknelref04_On.calls a2_0 a2_1 a3_0 a3_1 a1_0 a1_1 t108 _ A58.out).mono ?_); rintro e w80 ⟨rfl, hb⟩; replace BK101 := kb BK101 hb; replace BK102 := kb BK102 hb; replace BK103 := kb BK103 hb; replace BK104 := kb BK104 hb; replace HB := bz hb; (try clear hb)))
     go_meet
     case rel => exact ⟨_, (t108), sd, H', ⟨om⟩, ⟨bk BK101⟩, ⟨bk BK102⟩, ⟨bk BK103⟩, ⟨bk BK104⟩, ⟨bh⟩⟩
 case rest =>
  clear HC5
  skip
  obtain ⟨kq, x30_4, rfl, HA, HJ4, BK101, BK102, BK103, BK104, HB⟩ := hcut
  cases kq with
  | zero => exact absurd HA.out (by simp [cracknelref04_Meet.j0])
  | succ kj4 =>
   have H := HA.out
   clear HA
   simp only [cracknelref04_Meet.j0] at H
   by_cases c81 : x30_4 = true
   ·subst c81
    rw [if_pos rfl] at H
    obtain rfl := Option.some.inj H
    go_wp2
    go_ret
    exact ⟨by exact er, bh⟩
   ·replace c81 := Bool.eq_false_iff.mpr c81
    subst c81
    rw [if_neg (show ¬ (false = true) by decide)] at H
    replace H := Option.bind_eq_some_iff.mp H
    obtain ⟨t109, A820, H⟩ := H
    try dsimp only at H
    have A82 := Aside0.mk A820
    clear A820
    replace H := Option.bind_eq_some_iff.mp H
    obtain ⟨t110, A830, H⟩ := H
    try dsimp only at H
    have A83 := Aside0.mk A830
    clear A830
    replace H := Option.bind_eq_some_iff.mp H
    obtain ⟨t111, A840, H⟩ := H
    try dsimp only at H
    have A84 := Aside0.mk A840
    clear A840
    replace H := Option.bind_eq_some_iff.mp H
    obtain ⟨t112, A850, H⟩ := H
    try dsimp only at H
    have A85 := Aside0.mk A850
    clear A850
    by_cases c86 : (wrap64 (t110 * t112)) < 0
    ·rw [if_pos c86] at H
     have c86b0 := decide_eq_true c86
     clear c86
     replace H := Option.bind_eq_some_iff.mp H
     obtain ⟨t113, A870, H⟩ := H
     try dsimp only at H
     have A87 := Aside0.mk A870
     clear A870
     replace H := Option.bind_eq_some_iff.mp H
     obtain ⟨t114, A880, H⟩ := H
     try dsimp only at H
     have A88 := Aside0.mk A880
     clear A880
     replace H := Option.bind_eq_some_iff.mp H
     obtain ⟨t115, A890, H⟩ := H
     try dsimp only at H
     have A89 := Aside0.mk A890
     clear A890
     replace H := Option.bind_eq_some_iff.mp H
     obtain ⟨t116, A900, H⟩ := H
     try dsimp only at H
     have A90 := Aside0.mk A900
     clear A900
     obtain rfl := Option.some.inj H
     try go_wp2
     replace BK101 := Aside0.mk (blk_drew BK101.out)
     replace BK102 := Aside0.mk (blk_drew BK102.out)
     replace BK103 := Aside0.mk (blk_drew BK103.out)
     replace BK104 := Aside0.mk (blk_drew BK104.out)
     replace HB := Aside0.mk (below_drew1 HB.out)
     refine start_ (n := 27) (S := fun w' => w'.cell? ⟨gb101, 0, none⟩ = some (.int .i64 a0_0) ∧ w'.cell? ⟨gb101, 1, none⟩ = some (.int .i64 a0_1) ∧ w'.cell? ⟨gb102, 0, none⟩ = some (.int .i64 a1_0) ∧ w'.cell? ⟨gb102, 1, none⟩ = some (.int .i64 a1_1) ∧ w'.cell? ⟨gb103, 0, none⟩ = some (.int .i64 a2_0) ∧ w'.cell? ⟨gb103, 1, none⟩ = some (.int .i64 a2_1) ∧ w'.cell? ⟨gb104, 0, none⟩ = some (.int .i64 a3_0) ∧ w'.cell? ⟨gb104, 1, none⟩ = some (.int .i64 a3_1)) (ds := []) #[N,N,N,N,N,N,N,N,N,N,N,N,N,N,N,N,N,N,N,N,N,N,N,N,N,N,N] (by kernel_rfl) rfl rfl ⟨bc BK101 0, bc BK101 1, bc BK102 0, bc BK102 1, bc BK103 0, bc BK103 1, bc BK104 0, bc BK104 1⟩ (fun hHeld => ?_); refine with_tabW cracknelref04_Meet.tab3 cracknelref04_Meet.bits3 (fun HT_ HW_ => ?_)
     generalize wc.drew = w91 at BK101 BK102 BK103 BK104 HB hHeld ⊢
     refine tk8 0 31 hHeld HT_ HW_ ?_
     refine tk8 1 32 hHeld HT_ HW_ ?_
     refine tk8 2 33 hHeld HT_ HW_ ?_
     refine tk8 5 36 hHeld HT_ HW_ ?_
     refine tk8 6 37 hHeld HT_ HW_ ?_
     refine tk8 7 38 hHeld HT_ HW_ ?_
     refine one_ (i := 3) (N := some 34) #[T,T,T,T,N,T,T,T,N,N,N,N,N,N,N,N,N,N,N,N,N,N,N,N,N,N,N] rfl rfl (on1 HT_) (by decide) (fun K hK => ?_)
     refine goes_ Try.func31 (by kernel_rfl) rfl #[.agg #[.int .i64 a0_0, .int .i64 a0_1], .agg #[.int .i64 a1_0, .int .i64 a1_1], .agg #[.int .i64 a2_0, .int .i64 a2_1]] (by rfl) rfl rfl sg ?_
     with_reducible refine (cracknelref04_Cross.calls a0_0 a0_1 a1_0 a1_1 a2_0 a2_1 t109 _ A82.out).mono ?_
     rintro e w92 ⟨rfl, hb⟩
     refine ⟨_, rfl, ?_⟩
     replace BK101 := kb BK101 hb
     replace BK102 := kb BK102 hb
     replace BK103 := kb BK103 hb
     replace BK104 := kb BK104 hb
     replace HB := bz hb
     (try clear hb)
     refine hK.out _ _ ⟨bc BK101 0, bc BK101 1, bc BK102 0, bc BK102 1, bc BK103 0, bc BK103 1, bc BK104 0, bc BK104 1⟩ (fun hHeld => ?_)
     clear hK K
     refine nm 34 ?_
     refine one_ (i := 4) (N := some 35) #[T,T,T,T,T,T,T,T,N,N,N,N,N,N,N,N,N,N,N,N,N,N,N,N,N,N,N] rfl rfl (on1 HT_) (by decide) (fun K hK => ?_)
     refine goes_ Try.func105 (by kernel_rfl) rfl #[.int .i64 t109] (by rfl) rfl rfl sg ?_
     with_reducible refine (cracknelref04_sign.calls t109 t110 _ A83.out).mono ?_
     rintro e w' ⟨rfl, ⟨nd, rfl⟩⟩
     refine ⟨_, rfl, ?_⟩
     refine hK.out _ _ ⟨bc BK101 0, bc BK101 1, bc BK102 0, bc BK102 1, bc BK103 0, bc BK103 1, bc BK104 0, bc BK104 1⟩ (fun hHeld => ?_)
     clear hK K
     refine nm 35 ?_
     refine one_ (i := 8) (N := some 39) #[T,T,T,T,T,T,T,T,T,N,N,N,N,N,N,N,N,N,N,N,N,N,N,N,N,N,N] rfl rfl (on1 HT_) (by decide) (fun K hK => ?_)
     refine goes_ Try.func31 (by kernel_rfl) rfl #[.agg #[.int .i64 a0_0, .int .i64 a0_1], .agg #[.int .i64 a1_0, .int .i64 a1_1], .agg #[.int .i64 a3_0, .int .i64 a3_1]] (by rfl) rfl rfl sg ?_
     with_reducible refine (cracknelref04_Cross.calls a0_0 a0_1 a1_0 a1_1 a3_0 a3_1 t111 _ A84.out).mono ?_
     rintro e w93 ⟨rfl, hb⟩
     refine ⟨_, rfl, ?_⟩
     replace BK101 := kb BK101 hb
     replace BK102 := kb BK102 hb
     replace BK103 := kb BK103 hb
     replace BK104 := kb BK104 hb
     replace HB := bz hb
     (try clear hb)
     refine hK.out _ _ ⟨bc BK101 0, bc BK101 1, bc BK102 0, bc BK102 1, bc BK103 0, bc BK103 1, bc BK104 0, bc BK104 1⟩ (fun hHeld => ?_)
     clear hK K
     refine nm 39 ?_
     refine one_ (i := 9) (N := some 40) #[T,T,T,T,T,T,T,T,T,T,N,N,N,N,N,N,N,N,N,N,N,N,N,N,N,N,N] rfl rfl (on1 HT_) (by decide) (fun K hK => ?_)
     refine goes_ Try.func105 (by kernel_rfl) rfl #[.int .i64 t111] (by rfl) rfl rfl sg ?_
     with_reducible refine (cracknelref04_sign.calls t111 t112 _ A85.out).mono ?_
     rintro e w' ⟨rfl, ⟨nd, rfl⟩⟩
     refine ⟨_, rfl, ?_⟩
     refine hK.out _ _ ⟨bc BK101 0, bc BK101 1, bc BK102 0, bc BK102 1, bc BK103 0, bc BK103 1, bc BK104 0, bc BK104 1⟩ (fun hHeld => ?_)
     clear hK K
     refine nm 40 ?_
     refine pu 10 41 HT_ ?_
     refine pu 11 42 HT_ ?_
     refine pu 12 43 HT_ ?_
     refine tk8 13 44 hHeld HT_ HW_ ?_
     refine tk8 14 45 hHeld HT_ HW_ ?_
     refine tk8 15 46 hHeld HT_ HW_ ?_
     refine tk8 18 49 hHeld HT_ HW_ ?_
     refine tk8 19 50 hHeld HT_ HW_ ?_
     refine tk8 20 51 hHeld HT_ HW_ ?_
     refine one_ (i := 16) (N := some 47) #[T,T,T,T,T,T,T,T,T,T,T,T,T,T,T,T,T,N,T,T,T,N,N,N,N,N,N] rfl rfl (on1 HT_) (by decide) (fun K hK => ?_)
     refine goes_ Try.func31 (by kernel_rfl) rfl #[.agg #[.int .i64 a2_0, .int .i64 a2_1], .agg #[.int .i64 a3_0, .int .i64 a3_1], .agg #[.int .i64 a0_0, .int .i64 a0_1]] (by rfl) rfl rfl sg ?_
     with_reducible refine (cracknelref04_Cross.calls a2_0 a2_1 a3_0 a3_1 a0_0 a0_1 t113 _ A87.out).mono ?_
     rintro e w94 ⟨rfl, hb⟩
     refine ⟨_, rfl, ?_⟩
     replace BK101 := kb BK101 hb
     replace BK102 := kb BK102 hb
     replace BK103 := kb BK103 hb
     replace BK104 := kb BK104 hb
     replace HB := bz hb
     (try clear hb)
     refine hK.out _ _ ⟨bc BK101 0, bc BK101 1, bc BK102 0, bc BK102 1, bc BK103 0, bc BK103 1, bc BK104 0, bc BK104 1⟩ (fun hHeld => ?_)
     clear hK K
     refine nm 47 ?_
     refine one_ (i := 17) (N := some 48) #[T,T,T,T,T,T,T,T,T,T,T,T,T,T,T,T,T,T,T,T,T,N,N,N,N,N,N] rfl rfl (on1 HT_) (by decide) (fun K hK => ?_)
     refine goes_ Try.func105 (by kernel_rfl) rfl #[.int .i64 t113] (by rfl) rfl rfl sg ?_
     with_reducible refine (cracknelref04_sign.calls t113 t114 _ A88.out).mono ?_
     rintro e w' ⟨rfl, ⟨nd, rfl⟩⟩
     refine ⟨_, rfl, ?_⟩
     refine hK.out _ _ ⟨bc BK101 0, bc BK101 1, bc BK102 0, bc BK102 1, bc BK103 0, bc BK103 1, bc BK104 0, bc BK104 1⟩ (fun hHeld => ?_)
     clear hK K
     refine nm 48 ?_
     refine one_ (i := 21) (N := some 52) #[T,T,T,T,T,T,T,T,T,T,T,T,T,T,T,T,T,T,T,T,T,T,N,N,N,N,N] rfl rfl (on1 HT_) (by decide) (fun K hK => ?_)
     refine goes_ Try.func31 (by kernel_rfl) rfl #[.agg #[.int .i64 a2_0, .int .i64 a2_1], .agg #[.int .i64 a3_0, .int .i64 a3_1], .agg #[.int .i64 a1_0, .int .i64 a1_1]] (by rfl) rfl rfl sg ?_
     with_reducible refine (cracknelref04_Cross.calls a2_0 a2_1 a3_0 a3_1 a1_0 a1_1 t115 _ A89.out).mono ?_
     rintro e w95 ⟨rfl, hb⟩
     refine ⟨_, rfl, ?_⟩
     replace BK101 := kb BK101 hb
     replace BK102 := kb BK102 hb
     replace BK103 := kb BK103 hb
     replace BK104 := kb BK104 hb
     replace HB := bz hb
     (try clear hb)
     refine hK.out _ _ ⟨bc BK101 0, bc BK101 1, bc BK102 0, bc BK102 1, bc BK103 0, bc BK103 1, bc BK104 0, bc BK104 1⟩ (fun hHeld => ?_)
     clear hK K
     refine nm 52 ?_
     refine one_ (i := 22) (N := some 53) #[T,T,T,T,T,T,T,T,T,T,T,T,T,T,T,T,T,T,T,T,T,T,T,N,N,N,N] rfl rfl (on1 HT_) (by decide) (fun K hK => ?_)
     refine goes_ Try.func105 (by kernel_rfl) rfl #[.int .i64 t115] (by rfl) rfl rfl sg ?_
     with_reducible refine (cracknelref04_sign.calls t115 t116 _ A90.out).mono ?_
     rintro e w' ⟨rfl, ⟨nd, rfl⟩⟩
     refine ⟨_, rfl, ?_⟩
     refine hK.out _ _ ⟨bc BK101 0, bc BK101 1, bc BK102 0, bc BK102 1, bc BK103 0, bc BK103 1, bc BK104 0, bc BK104 1⟩ (fun hHeld => ?_)
     clear hK K
     refine nm 53 ?_
     refine pu 23 54 HT_ ?_
     refine pu 24 55 HT_ ?_
     refine pu 25 56 HT_ ?_
     refine pu 26 8 HT_ ?_
     refine done_ (done_of HT_.out (by kernel_rfl)) ?_
     try go_wp2
     go_ret
     exact ⟨by exact er, bh⟩
    ·rw [if_neg c86] at H
     have c86b0 := decide_eq_false c86
     clear c86
     obtain rfl := Option.some.inj H
     try go_wp2
     replace BK101 := Aside0.mk (blk_drew BK101.out)
     replace BK102 := Aside0.mk (blk_drew BK102.out)
     replace BK103 := Aside0.mk (blk_drew BK103.out)
     replace BK104 := Aside0.mk (blk_drew BK104.out)
     replace HB := Aside0.mk (below_drew1 HB.out)
     refine start_ (n := 27) (S := fun w' => w'.cell? ⟨gb101, 0, none⟩ = some (.int .i64 a0_0) ∧ w'.cell? ⟨gb101, 1, none⟩ = some (.int .i64 a0_1) ∧ w'.cell? ⟨gb102, 0, none⟩ = some (.int .i64 a1_0) ∧ w'.cell? ⟨gb102, 1, none⟩ = some (.int .i64 a1_1) ∧ w'.cell? ⟨gb103, 0, none⟩ = some (.int .i64 a2_0) ∧ w'.cell? ⟨gb103, 1, none⟩ = some (.int .i64 a2_1) ∧ w'.cell? ⟨gb104, 0, none⟩ = some (.int .i64 a3_0) ∧ w'.cell? ⟨gb104, 1, none⟩ = some (.int .i64 a3_1)) (ds := []) #[N,N,N,N,N,N,N,N,N,N,N,N,N,N,N,N,N,N,N,N,N,N,N,N,N,N,N] (by kernel_rfl) rfl rfl ⟨bc BK101 0, bc BK101 1, bc BK102 0, bc BK102 1, bc BK103 0, bc BK103 1, bc BK104 0, bc BK104 1⟩ (fun hHeld => ?_); refine with_tabW cracknelref04_Meet.tab3 cracknelref04_Meet.bits3 (fun HT_ HW_ => ?_)
     generalize wc.drew = w96 at BK101 BK102 BK103 BK104 HB hHeld ⊢
     refine tk8 0 31 hHeld HT_ HW_ ?_
     refine tk8 1 32 hHeld HT_ HW_ ?_
     refine tk8 2 33 hHeld HT_ HW_ ?_
     refine tk8 5 36 hHeld HT_ HW_ ?_
     refine tk8 6 37 hHeld HT_ HW_ ?_
     refine tk8 7 38 hHeld HT_ HW_ ?_
     refine one_ (i := 3) (N := some 34) #[T,T,T,T,N,T,T,T,N,N,N,N,N,N,N,N,N,N,N,N,N,N,N,N,N,N,N] rfl rfl (on1 HT_) (by decide) (fun K hK => ?_)
     refine goes_ Try.func31 (by kernel_rfl) rfl #[.agg #[.int .i64 a0_0, .int .i64 a0_1], .agg #[.int .i64 a1_0, .int .i64 a1_1], .agg #[.int .i64 a2_0, .int .i64 a2_1]] (by rfl) rfl rfl sg ?_
     with_reducible refine (cracknelref04_Cross.calls a0_0 a0_1 a1_0 a1_1 a2_0 a2_1 t109 _ A82.out).mono ?_
     rintro e w97 ⟨rfl, hb⟩
     refine ⟨_, rfl, ?_⟩
     replace BK101 := kb BK101 hb
     replace BK102 := kb BK102 hb
     replace BK103 := kb BK103 hb
     replace BK104 := kb BK104 hb
     replace HB := bz hb
     (try clear hb)
     refine hK.out _ _ ⟨bc BK101 0, bc BK101 1, bc BK102 0, bc BK102 1, bc BK103 0, bc BK103 1, bc BK104 0, bc BK104 1⟩ (fun hHeld => ?_)
     clear hK K
     refine nm 34 ?_
     refine one_ (i := 4) (N := some 35) #[T,T,T,T,T,T,T,T,N,N,N,N,N,N,N,N,N,N,N,N,N,N,N,N,N,N,N] rfl rfl (on1 HT_) (by decide) (fun K hK => ?_)
     refine goes_ Try.func105 (by kernel_rfl) rfl #[.int .i64 t109] (by rfl) rfl rfl sg ?_
     with_reducible refine (cracknelref04_sign.calls t109 t110 _ A83.out).mono ?_
     rintro e w' ⟨rfl, ⟨nd, rfl⟩⟩
     refine ⟨_, rfl, ?_⟩
     refine hK.out _ _ ⟨bc BK101 0, bc BK101 1, bc BK102 0, bc BK102 1, bc BK103 0, bc BK103 1, bc BK104 0, bc BK104 1⟩ (fun hHeld => ?_)
     clear hK K
     refine nm 35 ?_
     refine one_ (i := 8) (N := some 39) #[T,T,T,T,T,T,T,T,T,N,N,N,N,N,N,N,N,N,N,N,N,N,N,N,N,N,N] rfl rfl (on1 HT_) (by decide) (fun K hK => ?_)
     refine goes_ Try.func31 (by kernel_rfl) rfl #[.agg #[.int .i64 a0_0, .int .i64 a0_1], .agg #[.int .i64 a1_0, .int .i64 a1_1], .agg #[.int .i64 a3_0, .int .i64 a3_1]] (by rfl) rfl rfl sg ?_
     with_reducible refine (cracknelref04_Cross.calls a0_0 a0_1 a1_0 a1_1 a3_0 a3_1 t111 _ A84.out).mono ?_
     rintro e w98 ⟨rfl, hb⟩
     refine ⟨_, rfl, ?_⟩
     replace BK101 := kb BK101 hb
     replace BK102 := kb BK102 hb
     replace BK103 := kb BK103 hb
     replace BK104 := kb BK104 hb
     replace HB := bz hb
     (try clear hb)
     refine hK.out _ _ ⟨bc BK101 0, bc BK101 1, bc BK102 0, bc BK102 1, bc BK103 0, bc BK103 1, bc BK104 0, bc BK104 1⟩ (fun hHeld => ?_)
     clear hK K
     refine nm 39 ?_
     refine one_ (i := 9) (N := some 40) #[T,T,T,T,T,T,T,T,T,T,N,N,N,N,N,N,N,N,N,N,N,N,N,N,N,N,N] rfl rfl (on1 HT_) (by decide) (fun K hK => ?_)
     refine goes_ Try.func105 (by kernel_rfl) rfl #[.int .i64 t111] (by rfl) rfl rfl sg ?_
     with_reducible refine (cracknelref04_sign.calls t111 t112 _ A85.out).mono ?_
     rintro e w' ⟨rfl, ⟨nd, rfl⟩⟩
     refine ⟨_, rfl, ?_⟩
     refine hK.out _ _ ⟨bc BK101 0, bc BK101 1, bc BK102 0, bc BK102 1, bc BK103 0, bc BK103 1, bc BK104 0, bc BK104 1⟩ (fun hHeld => ?_)
     clear hK K
     refine nm 40 ?_
     refine pu 10 41 HT_ ?_
     refine pu 11 42 HT_ ?_
     refine pu 12 43 HT_ ?_
     refine pz 13 44 HT_ ?_
     refine pz 14 45 HT_ ?_
     refine pz 15 46 HT_ ?_
     refine pz 16 47 HT_ ?_
     refine pz 17 48 HT_ ?_
     refine pz 18 49 HT_ ?_
     refine pz 19 50 HT_ ?_
     refine pz 20 51 HT_ ?_
     refine pz 21 52 HT_ ?_
     refine pz 22 53 HT_ ?_
     refine pz 23 54 HT_ ?_
     refine pz 24 55 HT_ ?_
     refine pu 25 56 HT_ ?_
     refine pu 26 8 HT_ ?_
     refine done_ (done_of HT_.out (by kernel_rfl)) ?_
     try go_wp2
     go_ret
     exact ⟨by exact er, bh⟩
attribute [local go_sem high] eqA41
/-! ### cracknelref04_Simple: function 27 -/
mutual
def cracknelref04_Simple.l0 : Nat → List (S41) → Int → Int → Option (Bool)
 | 0, _, _, _ => none
 | k + 1, x0, x3, x4 => if x4 < x3 then (if 0 ≤ x4 then (if x4 < (x0.length : Int) then ((cracknelref04_next.f x0 x4).bind fun bt102 => (if (((rd_T41 x0 x4).f0) == bt102.1 && (((rd_T41 x0 x4).f1) == bt102.2)) = true then (some false) else (cracknelref04_Simple.l0 k x0 x3 (wrap64 (x4 + 1))))) else (none)) else (none)) else (cracknelref04_Simple.l1 k x0 x3 0)
def cracknelref04_Simple.l1 : Nat → List (S41) → Int → Int → Option (Bool)
 | 0, _, _, _ => none
 | k + 1, x0, x3, x5 => if x5 < x3 then (if 0 ≤ x5 then (if x5 < (x0.length : Int) then ((cracknelref04_next.f x0 x5).bind fun bt105 => ((cracknelref04_next.f x0 (wrap64 (x5 + 1))).bind fun bt109 => ((cracknelref04_On.f ((rd_T41 x0 x5).f0) ((rd_T41 x0 x5).f1) bt105.1 bt105.2 bt109.1 bt109.2).bind fun t112 => (if t112 = true then (cracknelref04_Simple.j2 k x0 x3 x5 true ((rd_T41 x0 x5).f0) ((rd_T41 x0 x5).f1) bt105.1 bt105.2) else ((cracknelref04_On.f bt105.1 bt105.2 bt109.1 bt109.2 ((rd_T41 x0 x5).f0) ((rd_T41 x0 x5).f1)).bind fun t113 => (cracknelref04_Simple.j2 k x0 x3 x5 t113 ((rd_T41 x0 x5).f0) ((rd_T41 x0 x5).f1) bt105.1 bt105.2)))))) else (none)) else (none)) else (some true)
def cracknelref04_Simple.j2 : Nat → List (S41) → Int → Int → Bool → Int → Int → Int → Int → Option (Bool)
 | 0, _, _, _, _, _, _, _, _ => none
 | k + 1, x0, x3, x5, x50, x108000, x108001, x109000, x109001 => if x50 = true then (some false) else (cracknelref04_Simple.l2 k x0 x3 x5 (wrap64 (x5 + 2)) x108000 x108001 x109000 x109001)
def cracknelref04_Simple.l2 : Nat → List (S41) → Int → Int → Int → Int → Int → Int → Int → Option (Bool)
 | 0, _, _, _, _, _, _, _, _ => none
 | k + 1, x0, x3, x5, x9, x108000, x108001, x109000, x109001 => if x9 < x3 then (if x3 = 0 then (none) else (if (Int.tmod (wrap64 (x9 + 1)) x3) = x5 then (cracknelref04_Simple.l2 k x0 x3 x5 (wrap64 (x9 + 1)) x108000 x108001 x109000 x109001) else (if 0 ≤ x9 then (if x9 < (x0.length : Int) then ((cracknelref04_next.f x0 x9).bind fun bt115 => ((cracknelref04_Meet.f k x108000 x108001 x109000 x109001 ((rd_T41 x0 x9).f0) ((rd_T41 x0 x9).f1) bt115.1 bt115.2).bind fun t117 => (if t117 = true then (some false) else (cracknelref04_Simple.l2 k x0 x3 x5 (wrap64 (x9 + 1)) x108000 x108001 x109000 x109001)))) else (none)) else (none)))) else (cracknelref04_Simple.l1 k x0 x3 (wrap64 (x5 + 1)))
end
def cracknelref04_Simple.f (k : Nat) (l0 : List (S41)) : Option (Bool) := cracknelref04_Simple.l0 k l0 (l0.length : Int) 0
def cracknelref04_Simple.T5 : Bool × List (List Nat × List Nat) := (true, [([], []), ([], []), ([0, 1], [0, 1]), ([2], [2]), ([], []), ([], []), ([4, 5], [4, 5]), ([3, 6], [3, 6])])
def cracknelref04_Simple.B5 : List Nat := [0, 0, 3, 7, 0, 0, 48, 127]
theorem cracknelref04_Simple.tab5 : rtab .any (opsOf Try.f27 5) = cracknelref04_Simple.T5 := by kernel_rfl
theorem cracknelref04_Simple.bits5 : waitsOk cracknelref04_Simple.T5.2 cracknelref04_Simple.B5 = true := by kernel_rfl
def cracknelref04_Simple.T10 : Bool × List (List Nat × List Nat) := (true, [([], []), ([], []), ([0, 1], [0, 1]), ([2], [2]), ([], []), ([], []), ([4, 5], [4, 5]), ([], []), ([], []), ([7, 3, 6, 0, 1, 2, 3, 7, 8], [3, 7]), ([8, 6, 9, 0, 1, 2, 3, 4, 5, 6, 7, 8, 9], [6, 8])])
def cracknelref04_Simple.B10 : List Nat := [0, 0, 3, 7, 0, 0, 48, 0, 0, 511, 1023]
theorem cracknelref04_Simple.tab10 : rtab .any (opsOf Try.f27 10) = cracknelref04_Simple.T10 := by kernel_rfl
theorem cracknelref04_Simple.bits10 : waitsOk cracknelref04_Simple.T10.2 cracknelref04_Simple.B10 = true := by kernel_rfl
def cracknelref04_Simple.T17 : Bool × List (List Nat × List Nat) := (true, [([], []), ([0], [0]), ([], []), ([1, 2], [1, 2]), ([], []), ([3, 4], [3, 4]), ([5], [5]), ([6], [6]), ([6], [6]), ([6], [6]), ([6], [6]), ([9, 10, 6], [6, 9, 10]), ([11, 6], [6, 11]), ([6], [6]), ([6], [6]), ([13, 14, 6, 6], [6, 13, 14]), ([7, 8, 12, 15, 15, 6], [6, 7, 8, 12, 15]), ([6, 16], [6, 16])])
def cracknelref04_Simple.B17 : List Nat := [0, 1, 0, 7, 0, 31, 63, 127, 127, 127, 127, 1663, 3711, 127, 127, 24703, 65535, 131071]
theorem cracknelref04_Simple.tab17 : rtab .any (opsOf Try.f27 17) = cracknelref04_Simple.T17 := by kernel_rfl
theorem cracknelref04_Simple.bits17 : waitsOk cracknelref04_Simple.T17.2 cracknelref04_Simple.B17 = true := by kernel_rfl
set_option maxHeartbeats 8000000 in
set_option maxRecDepth 100000 in
theorem cracknelref04_Simple.calls (k : Nat) (A0 : Option Addr) (c0 : Nat) (l0 : List (S41)) (r : Bool) (w : World) (hr0 : Kd.C k41 w A0 l0.length l0) (hc0 : l0.length ≤ c0) (h : cracknelref04_Simple.f k l0 = some r) :
  Calls Try.prog 27 #[.slice A0 l0.length c0] w fun e w' => e = .returned (.bool r) ∧ Below w.heap.size w w' := by
 have hu41 := Try.underlying41
 have HR0 := Aside0.mk hr0
 have HC0 := Aside0.mk hc0
 clear hr0 hc0
 have HB := Aside0.mk (Below.refl w.heap.size w)
 have H : (cracknelref04_Simple.l0 k l0 (l0.length : Int) 0) = some r := h
 clear h
 have H' := Aside0.mk H
 clear H
 go_enter Try.func27, Try.ntmps27
 go_wp2
 go_loopg [4] k (fun kq v4 w' => ∃ (x4_1 : Int), v4 = .int .i64 x4_1 ∧ Aside0 (cracknelref04_Simple.l0 kq l0 (l0.length : Int) x4_1 = some r) ∧ Aside0 (kq ≤ k) ∧ Aside0 (Below w.heap.size w w'))
 case atStart => exact ⟨(0), sd, H', ⟨Nat.le_refl _⟩, ⟨bh⟩⟩
 case round =>
  clear H'
  obtain ⟨x4_1, rfl, HA, HK1, HB⟩ := hrel
  cases gk with
  | zero => exact absurd HA.out (by simp [cracknelref04_Simple.l0])
  | succ k1 =>
   have H := HA.out
   clear HA
   simp only [cracknelref04_Simple.l0] at H
   by_cases c2 : x4_1 < (l0.length : Int)
   ·rw [if_pos c2] at H
    have c2b0 := decide_eq_true c2
    clear c2
    obtain ⟨c3, H⟩ := oi H
    have c3b0 := decide_eq_true c3
    clear c3
    obtain ⟨c4, H⟩ := oi H
    have c4b0 := decide_eq_true c4
    clear c4
    replace H := Option.bind_eq_some_iff.mp H
    obtain ⟨⟨t102, t103⟩, A50, H⟩ := H
    try dsimp only at H
    have A5 := Aside0.mk A50
    clear A50
    by_cases c6 : (((rd_T41 l0 x4_1).f0) == t102 && (((rd_T41 l0 x4_1).f1) == t103)) = true
    ·rw [if_pos c6] at H
     have c6b0 : (((rd_T41 l0 x4_1).f0) == t102 && (((rd_T41 l0 x4_1).f1) == t103)) = true := c6
     (try (have c6b1 : decide (((rd_T41 l0 x4_1).f0) = t102 && (((rd_T41 l0 x4_1).f1) == t103)) = true := by simpa using c6))
     (try (have c6b2 : (((rd_T41 l0 x4_1).f0) == t102 && (((rd_T41 l0 x4_1).f1) == t103)) = true := by simpa using c6))
     clear c6
     obtain rfl := Option.some.inj H
     try go_wp2
     replace HB := Aside0.mk (below_drew1 HB.out)
     have p101 : 0 ≤ (x4_1 : Int) := dt
     have q101 : x4_1 < (l0.length : Int) := dt
     obtain ⟨ad101, e101, hx101_0, hx101_1⟩ := at_T41 HR0.out x4_1 p101 q101
     have hw101_1 := hx101_1
     have hw101_0 := hx101_0
     cases e101
     replace hx101_0 := hc HB hx101_0
     replace hx101_1 := hc HB hx101_1
     replace p101 := eq_true p101
     replace q101 := eq_true q101
     refine start_ (n := 8) (S := fun w' => w'.cell? (ad101.add ((x4_1).toNat * 2)) = some (.int .i64 ((rd_T41 l0 x4_1).f0)) ∧ w'.cell? ⟨(ad101.add ((x4_1).toNat * 2)).block, (ad101.add ((x4_1).toNat * 2)).off + 1, none⟩ = some (.int .i64 ((rd_T41 l0 x4_1).f1))) (ds := []) #[N,N,N,N,N,N,N,N] (by kernel_rfl) rfl rfl ⟨(hc HB hw101_0), (hc HB hw101_1)⟩ (fun hHeld => ?_); refine with_tabW cracknelref04_Simple.tab5 cracknelref04_Simple.bits5 (fun HT_ HW_ => ?_)
     generalize wr.drew = w7 at HB hx101_0 hx101_1 hHeld ⊢
     refine pu 0 17 HT_ ?_
     refine pu 1 18 HT_ ?_
     refine pu 2 19 HT_ ?_
     refine pu 4 21 HT_ ?_
     refine pu 5 22 HT_ ?_
     refine tk2 3 20 hHeld HT_ HW_ ?_
     refine one_ (i := 6) (N := some 23) #[T,T,T,T,T,T,T,N] rfl rfl (on1 HT_) (by decide) (fun K hK => ?_)
     refine goes_ Try.func58 (by kernel_rfl) rfl #[.slice (some ad101) l0.length c0, .int .i64 x4_1] (by rfl) rfl rfl sg ?_
     with_reducible refine (cracknelref04_next.calls _ _ l0 x4_1 t102 t103 _ ?side1 ?side2 A5.out).mono ?_
     (case side1 => exact cs (Kd.C_below HR0.out HB.out))
     (case side2 => exact HC0.out)
     rintro e w8 ⟨rfl, hb⟩
     refine ⟨_, rfl, ?_⟩
     replace HB := bz hb
     (try clear hb)
     refine hK.out _ _ ⟨(hc HB hw101_0), (hc HB hw101_1)⟩ (fun hHeld => ?_)
     clear hK K
     refine nm 23 ?_
     refine pu 7 24 HT_ ?_
     refine done_ (done_of HT_.out (by kernel_rfl)) ?_
     try go_wp2
     go_ret
     exact ⟨by exact er, bh⟩
    ·rw [if_neg c6] at H
     have c6b0 : (((rd_T41 l0 x4_1).f0) == t102 && (((rd_T41 l0 x4_1).f1) == t103)) = false := by simpa using c6
     (try (have c6b1 : decide (((rd_T41 l0 x4_1).f0) = t102 && (((rd_T41 l0 x4_1).f1) == t103)) = false := by simpa using c6))
     (try (have c6b2 : (((rd_T41 l0 x4_1).f0) == t102 && (((rd_T41 l0 x4_1).f1) == t103)) = false := by simpa using c6))
     (try (have c6b3 : ¬ (((rd_T41 l0 x4_1).f0) = t102 && (((rd_T41 l0 x4_1).f1) == t103)) := by simpa using c6))
     clear c6
     have H' := Aside0.mk H
     clear H
     try go_wp2
     replace HB := Aside0.mk (below_drew1 HB.out)
     have p101 : 0 ≤ (x4_1 : Int) := dt
     have q101 : x4_1 < (l0.length : Int) := dt
     obtain ⟨ad101, e101, hx101_0, hx101_1⟩ := at_T41 HR0.out x4_1 p101 q101
     have hw101_1 := hx101_1
     have hw101_0 := hx101_0
     cases e101
     replace hx101_0 := hc HB hx101_0
     replace hx101_1 := hc HB hx101_1
     replace p101 := eq_true p101
     replace q101 := eq_true q101
     refine start_ (n := 8) (S := fun w' => w'.cell? (ad101.add ((x4_1).toNat * 2)) = some (.int .i64 ((rd_T41 l0 x4_1).f0)) ∧ w'.cell? ⟨(ad101.add ((x4_1).toNat * 2)).block, (ad101.add ((x4_1).toNat * 2)).off + 1, none⟩ = some (.int .i64 ((rd_T41 l0 x4_1).f1))) (ds := []) #[N,N,N,N,N,N,N,N] (by kernel_rfl) rfl rfl ⟨(hc HB hw101_0), (hc HB hw101_1)⟩ (fun hHeld => ?_); refine with_tabW cracknelref04_Simple.tab5 cracknelref04_Simple.bits5 (fun HT_ HW_ => ?_)
     generalize wr.drew = w9 at HB hx101_0 hx101_1 hHeld ⊢
     refine pu 0 17 HT_ ?_
     refine pu 1 18 HT_ ?_
     refine pu 2 19 HT_ ?_
     refine pu 4 21 HT_ ?_
     refine pu 5 22 HT_ ?_
     refine tk2 3 20 hHeld HT_ HW_ ?_
     refine one_ (i := 6) (N := some 23) #[T,T,T,T,T,T,T,N] rfl rfl (on1 HT_) (by decide) (fun K hK => ?_)
     refine goes_ Try.func58 (by kernel_rfl) rfl #[.slice (some ad101) l0.length c0, .int .i64 x4_1] (by rfl) rfl rfl sg ?_
     with_reducible refine (cracknelref04_next.calls _ _ l0 x4_1 t102 t103 _ ?side1 ?side2 A5.out).mono ?_
     (case side1 => exact cs (Kd.C_below HR0.out HB.out))
     (case side2 => exact HC0.out)
     rintro e w10 ⟨rfl, hb⟩
     refine ⟨_, rfl, ?_⟩
     replace HB := bz hb
     (try clear hb)
     refine hK.out _ _ ⟨(hc HB hw101_0), (hc HB hw101_1)⟩ (fun hHeld => ?_)
     clear hK K
     refine nm 23 ?_
     refine pu 7 24 HT_ ?_
     refine done_ (done_of HT_.out (by kernel_rfl)) ?_
     try go_wp2
     go_roundg k1
     case measure => have := HK1.out; omega
     case rel => exact ⟨(wrap64 (x4_1 + 1)), sd, H', ⟨by have := HK1.out; omega⟩, ⟨bh⟩⟩
   ·rw [if_neg c2] at H
    have c2b0 := decide_eq_false c2
    clear c2
    have H' := Aside0.mk H
    clear H
    go_wp2
    go_loopg [5] k1 (fun kq v5 w' => ∃ (x5_2 : Int), v5 = .int .i64 x5_2 ∧ Aside0 (cracknelref04_Simple.l1 kq l0 (l0.length : Int) x5_2 = some r) ∧ Aside0 (kq ≤ k1) ∧ Aside0 (Below w.heap.size w w'))
    case atStart => exact ⟨(0), sd, H', ⟨Nat.le_refl _⟩, ⟨bh⟩⟩
    case round =>
     clear H'
     (try clear c2b0)
     obtain ⟨x5_2, rfl, HA, HK2, HB⟩ := hrel
     cases gk with
     | zero => exact absurd HA.out (by simp [cracknelref04_Simple.l1])
     | succ k2 =>
      have H := HA.out
      clear HA
      simp only [cracknelref04_Simple.l1] at H
      by_cases c11 : x5_2 < (l0.length : Int)
      ·rw [if_pos c11] at H
       have c11b0 := decide_eq_true c11
       clear c11
       obtain ⟨c12, H⟩ := oi H
       have c12b0 := decide_eq_true c12
       clear c12
       obtain ⟨c13, H⟩ := oi H
       have c13b0 := decide_eq_true c13
       clear c13
       replace H := Option.bind_eq_some_iff.mp H
       obtain ⟨⟨t105, t106⟩, A140, H⟩ := H
       try dsimp only at H
       have A14 := Aside0.mk A140
       clear A140
       replace H := Option.bind_eq_some_iff.mp H
       obtain ⟨⟨t109, t110⟩, A150, H⟩ := H
       try dsimp only at H
       have A15 := Aside0.mk A150
       clear A150
       have HC16 := Aside0.mk H
       clear H
       try go_wp2
       replace HB := Aside0.mk (below_drew1 HB.out)
       have p104 : 0 ≤ (x5_2 : Int) := dt
       have q104 : x5_2 < (l0.length : Int) := dt
       obtain ⟨ad104, e104, hx104_0, hx104_1⟩ := at_T41 HR0.out x5_2 p104 q104
       have hw104_1 := hx104_1
       have hw104_0 := hx104_0
       cases e104
       replace hx104_0 := hc HB hx104_0
       replace hx104_1 := hc HB hx104_1
       replace p104 := eq_true p104
       replace q104 := eq_true q104
       refine start_ (n := 11) (S := fun w' => w'.cell? (ad104.add ((x5_2).toNat * 2)) = some (.int .i64 ((rd_T41 l0 x5_2).f0)) ∧ w'.cell? ⟨(ad104.add ((x5_2).toNat * 2)).block, (ad104.add ((x5_2).toNat * 2)).off + 1, none⟩ = some (.int .i64 ((rd_T41 l0 x5_2).f1))) (ds := []) #[N,N,N,N,N,N,N,N,N,N,N] (by kernel_rfl) rfl rfl ⟨(hc HB hw104_0), (hc HB hw104_1)⟩ (fun hHeld => ?_); refine with_tabW cracknelref04_Simple.tab10 cracknelref04_Simple.bits10 (fun HT_ HW_ => ?_)
       generalize wr.drew = w17 at HB hx104_0 hx104_1 hHeld ⊢
       refine pu 0 30 HT_ ?_
       refine pu 1 31 HT_ ?_
       refine pu 2 32 HT_ ?_
       refine pu 4 34 HT_ ?_
       refine pu 5 35 HT_ ?_
       refine tk2 3 33 hHeld HT_ HW_ ?_
       refine join_ (σ := Nat × Nat) 2 #[T,T,T,T,T,T,T,T,T,N,N] (fun s_ => [(36, .agg #[.int .i64 t105, .int .i64 t106]), (6, .pointer (some ⟨s_.1, 0, none⟩)), (7, .pointer (some ⟨s_.2, 0, none⟩))]) (fun s_ w' => (w'.cell? (ad104.add ((x5_2).toNat * 2)) = some (.int .i64 ((rd_T41 l0 x5_2).f0)) ∧ w'.cell? ⟨(ad104.add ((x5_2).toNat * 2)).block, (ad104.add ((x5_2).toNat * 2)).off + 1, none⟩ = some (.int .i64 ((rd_T41 l0 x5_2).f1))) ∧ (w'.heap[s_.1]? = some (.cells #[.int .i64 0, .int .i64 0] 41 (0, 0))) ∧ (w'.heap[s_.2]? = some (.cells #[.int .i64 0, .int .i64 0] 41 (0, 0))) ∧ (w.heap.size ≤ s_.1) ∧ (w.heap.size ≤ s_.1) ∧ (s_.2 ≠ s_.1) ∧ (s_.1 ≠ s_.2) ∧ (w.heap.size ≤ s_.2) ∧ (w.heap.size ≤ s_.2) ∧ (Below w.heap.size w w')) ?_ ?_
       rotate_left
       ·intro hJ6_7_8
        refine join_ (σ := Nat) 3 #[T,T,T,T,T,T,T,T,N,N,N] (fun s_ => [(36, .agg #[.int .i64 t105, .int .i64 t106]), (6, .pointer (some ⟨s_, 0, none⟩))]) (fun s_ w' => (w'.cell? (ad104.add ((x5_2).toNat * 2)) = some (.int .i64 ((rd_T41 l0 x5_2).f0)) ∧ w'.cell? ⟨(ad104.add ((x5_2).toNat * 2)).block, (ad104.add ((x5_2).toNat * 2)).off + 1, none⟩ = some (.int .i64 ((rd_T41 l0 x5_2).f1))) ∧ (w'.heap[s_]? = some (.cells #[.int .i64 0, .int .i64 0] 41 (0, 0))) ∧ (w.heap.size ≤ s_) ∧ (w.heap.size ≤ s_) ∧ (Below w.heap.size w w')) ?_ ?_
        rotate_left
        ·intro hJ6_7
         refine join_ (σ := Nat) 3 #[T,T,T,T,T,T,T,N,T,N,N] (fun s_ => [(36, .agg #[.int .i64 t105, .int .i64 t106]), (7, .pointer (some ⟨s_, 0, none⟩))]) (fun s_ w' => (w'.cell? (ad104.add ((x5_2).toNat * 2)) = some (.int .i64 ((rd_T41 l0 x5_2).f0)) ∧ w'.cell? ⟨(ad104.add ((x5_2).toNat * 2)).block, (ad104.add ((x5_2).toNat * 2)).off + 1, none⟩ = some (.int .i64 ((rd_T41 l0 x5_2).f1))) ∧ (w'.heap[s_]? = some (.cells #[.int .i64 0, .int .i64 0] 41 (0, 0))) ∧ (w.heap.size ≤ s_) ∧ (w.heap.size ≤ s_) ∧ (Below w.heap.size w w')) ?_ ?_
         rotate_left
         ·intro hJ6_8
          refine join_ (σ := Nat × Nat) 3 #[T,T,T,T,T,T,N,T,T,N,N] (fun s_ => [(6, .pointer (some ⟨s_.1, 0, none⟩)), (7, .pointer (some ⟨s_.2, 0, none⟩))]) (fun s_ w' => (w'.cell? (ad104.add ((x5_2).toNat * 2)) = some (.int .i64 ((rd_T41 l0 x5_2).f0)) ∧ w'.cell? ⟨(ad104.add ((x5_2).toNat * 2)).block, (ad104.add ((x5_2).toNat * 2)).off + 1, none⟩ = some (.int .i64 ((rd_T41 l0 x5_2).f1))) ∧ (w'.heap[s_.1]? = some (.cells #[.int .i64 0, .int .i64 0] 41 (0, 0))) ∧ (w'.heap[s_.2]? = some (.cells #[.int .i64 0, .int .i64 0] 41 (0, 0))) ∧ (w.heap.size ≤ s_.1) ∧ (w.heap.size ≤ s_.1) ∧ (s_.2 ≠ s_.1) ∧ (s_.1 ≠ s_.2) ∧ (w.heap.size ≤ s_.2) ∧ (w.heap.size ≤ s_.2) ∧ (Below w.heap.size w w')) ?_ ?_
          rotate_left
          ·intro hJ7_8
           refine join_ (σ := Unit) 4 #[T,T,T,T,T,T,T,N,N,N,N] (fun s_ => [(36, .agg #[.int .i64 t105, .int .i64 t106])]) (fun s_ w' => (w'.cell? (ad104.add ((x5_2).toNat * 2)) = some (.int .i64 ((rd_T41 l0 x5_2).f0)) ∧ w'.cell? ⟨(ad104.add ((x5_2).toNat * 2)).block, (ad104.add ((x5_2).toNat * 2)).off + 1, none⟩ = some (.int .i64 ((rd_T41 l0 x5_2).f1))) ∧ (Below w.heap.size w w')) ?_ ?_
           rotate_left
           ·intro hJ6
            refine join_ (σ := Nat) 4 #[T,T,T,T,T,T,N,T,N,N,N] (fun s_ => [(6, .pointer (some ⟨s_, 0, none⟩))]) (fun s_ w' => (w'.cell? (ad104.add ((x5_2).toNat * 2)) = some (.int .i64 ((rd_T41 l0 x5_2).f0)) ∧ w'.cell? ⟨(ad104.add ((x5_2).toNat * 2)).block, (ad104.add ((x5_2).toNat * 2)).off + 1, none⟩ = some (.int .i64 ((rd_T41 l0 x5_2).f1))) ∧ (w'.heap[s_]? = some (.cells #[.int .i64 0, .int .i64 0] 41 (0, 0))) ∧ (w.heap.size ≤ s_) ∧ (w.heap.size ≤ s_) ∧ (Below w.heap.size w w')) ?_ ?_
            rotate_left
            ·intro hJ7
             refine join_ (σ := Nat) 4 #[T,T,T,T,T,T,N,N,T,N,N] (fun s_ => [(7, .pointer (some ⟨s_, 0, none⟩))]) (fun s_ w' => (w'.cell? (ad104.add ((x5_2).toNat * 2)) = some (.int .i64 ((rd_T41 l0 x5_2).f0)) ∧ w'.cell? ⟨(ad104.add ((x5_2).toNat * 2)).block, (ad104.add ((x5_2).toNat * 2)).off + 1, none⟩ = some (.int .i64 ((rd_T41 l0 x5_2).f1))) ∧ (w'.heap[s_]? = some (.cells #[.int .i64 0, .int .i64 0] 41 (0, 0))) ∧ (w.heap.size ≤ s_) ∧ (w.heap.size ≤ s_) ∧ (Below w.heap.size w w')) ?_ ?_
             rotate_left
             ·intro hJ8
              refine three_ (i := 6) (j := 7) (k := 8) (Ni := some 36) (Nj := some 6) (Nk := some 7) #[T,T,T,T,T,T,T,N,N,N,N] #[T,T,T,T,T,T,N,T,N,N,N] #[T,T,T,T,T,T,N,N,T,N,N] rfl rfl rfl rfl rfl rfl (on3 HT_) (by decide) (by decide) (by decide) (fun K hK => ?_) (fun K hK => ?_) (fun K hK => ?_)
              ·skip
               refine goes_ Try.func58 (by kernel_rfl) rfl #[.slice (some ad104) l0.length c0, .int .i64 x5_2] (by rfl) rfl rfl sg ?_
               with_reducible refine (cracknelref04_next.calls _ _ l0 x5_2 t105 t106 _ ?side1 ?side2 A14.out).mono ?_
               (case side1 => exact cs (Kd.C_below HR0.out HB.out))
               (case side2 => exact HC0.out)
               rintro e w18 ⟨rfl, hb⟩
               refine ⟨_, rfl, ?_⟩
               replace HB := bz hb
               (try clear hb)
               refine hK.out _ _ ⟨(hc HB hw104_0), (hc HB hw104_1)⟩ (fun hHeld => ?_)
               clear hK K
               refine nm 36 ?_
               exact norm_ pa (hJ6 () _ ⟨hHeld, bh⟩)
              ·skip
               refine bxs 6 #[.int .i64 0, .int .i64 0] 41 ?_
               intro gb107 hg w18 hbox hb
               have BK107 := Aside0.mk (hbox)
               have GW107 := ga w hg
               have GE107 := GW107
               replace HB := bz hb
               clear hb hbox hg
               refine hK.out _ _ ⟨(hc HB hw104_0), (hc HB hw104_1)⟩ (fun hHeld => ?_)
               clear hK K
               refine nm 6 ?_
               exact norm_ pa (hJ7 (gb107) _ ⟨hHeld, bk BK107, GW107.out, GE107.out, bh⟩)
              ·skip
               refine bxs 7 #[.int .i64 0, .int .i64 0] 41 ?_
               intro gb108 hg w18 hbox hb
               have BK108 := Aside0.mk (hbox)
               have GW108 := ga w hg
               have GE108 := GW108
               replace HB := bz hb
               clear hb hbox hg
               refine hK.out _ _ ⟨(hc HB hw104_0), (hc HB hw104_1)⟩ (fun hHeld => ?_)
               clear hK K
               refine nm 7 ?_
               exact norm_ pa (hJ8 (gb108) _ ⟨hHeld, bk BK108, GW108.out, GE108.out, bh⟩)
             ·skip
              rintro gb108 w19 ⟨hS_, h0_, h1_, h2_, h3_⟩
              have BK108 := Aside0.mk h0_
              have GW108 := Aside0.mk h1_
              have GE108 := Aside0.mk h2_
              replace HB := Aside0.mk h3_
              clear h0_ h1_ h2_ h3_
              have hHeld := hS_
              refine nn ?_
              refine two_ (i := 6) (j := 7) (Ni := some 36) (Nj := some 6) #[T,T,T,T,T,T,T,N,T,N,N] #[T,T,T,T,T,T,N,T,T,N,N] rfl rfl rfl rfl (on2 HT_) (by decide) (by decide) (fun K hK => ?_) (fun K hK => ?_)
              ·skip
               refine goes_ Try.func58 (by kernel_rfl) rfl #[.slice (some ad104) l0.length c0, .int .i64 x5_2] (by rfl) rfl rfl sg ?_
               with_reducible refine (cracknelref04_next.calls _ _ l0 x5_2 t105 t106 _ ?side1 ?side2 A14.out).mono ?_
               (case side1 => exact cs (Kd.C_below HR0.out HB.out))
               (case side2 => exact HC0.out)
               rintro e w20 ⟨rfl, hb⟩
               refine ⟨_, rfl, ?_⟩
               replace BK108 := kb BK108 hb
               replace HB := bz hb
               (try clear hb)
               refine hK.out _ _ ⟨(hc HB hw104_0), (hc HB hw104_1)⟩ (fun hHeld => ?_)
               clear hK K
               refine nm 36 ?_
               exact norm_ pa (hJ6_8 (gb108) _ ⟨hHeld, bk BK108, GW108.out, GE108.out, bh⟩)
              ·skip
               refine bxs 6 #[.int .i64 0, .int .i64 0] 41 ?_
               intro gb107 hg w20 hbox hb
               have BK107 := Aside0.mk (hbox)
               have GW107 := ga w hg
               have GE107 := GW107
               have NB108_107 := nb hg (kl BK108)
               have NB107_108 := bn NB108_107
               replace BK108 := kb BK108 hb
               replace HB := bz hb
               clear hb hbox hg
               refine hK.out _ _ ⟨(hc HB hw104_0), (hc HB hw104_1)⟩ (fun hHeld => ?_)
               clear hK K
               refine nm 6 ?_
               exact norm_ pa (hJ7_8 (gb107, gb108) _ ⟨hHeld, bk BK107, bk BK108, GW107.out, GE107.out, NB108_107.out, NB107_108.out, GW108.out, GE108.out, bh⟩)
            ·skip
             rintro gb107 w19 ⟨hS_, h0_, h1_, h2_, h3_⟩
             have BK107 := Aside0.mk h0_
             have GW107 := Aside0.mk h1_
             have GE107 := Aside0.mk h2_
             replace HB := Aside0.mk h3_
             clear h0_ h1_ h2_ h3_
             have hHeld := hS_
             refine nn ?_
             refine two_ (i := 6) (j := 8) (Ni := some 36) (Nj := some 7) #[T,T,T,T,T,T,T,T,N,N,N] #[T,T,T,T,T,T,N,T,T,N,N] rfl rfl rfl rfl (on2 HT_) (by decide) (by decide) (fun K hK => ?_) (fun K hK => ?_)
             ·skip
              refine goes_ Try.func58 (by kernel_rfl) rfl #[.slice (some ad104) l0.length c0, .int .i64 x5_2] (by rfl) rfl rfl sg ?_
              with_reducible refine (cracknelref04_next.calls _ _ l0 x5_2 t105 t106 _ ?side1 ?side2 A14.out).mono ?_
              (case side1 => exact cs (Kd.C_below HR0.out HB.out))
              (case side2 => exact HC0.out)
              rintro e w20 ⟨rfl, hb⟩
              refine ⟨_, rfl, ?_⟩
              replace BK107 := kb BK107 hb
              replace HB := bz hb
              (try clear hb)
              refine hK.out _ _ ⟨(hc HB hw104_0), (hc HB hw104_1)⟩ (fun hHeld => ?_)
              clear hK K
              refine nm 36 ?_
              exact norm_ pa (hJ6_7 (gb107) _ ⟨hHeld, bk BK107, GW107.out, GE107.out, bh⟩)
             ·skip
              refine bxs 7 #[.int .i64 0, .int .i64 0] 41 ?_
              intro gb108 hg w20 hbox hb
              have BK108 := Aside0.mk (hbox)
              have GW108 := ga w hg
              have GE108 := GW108
              have NB107_108 := nb hg (kl BK107)
              have NB108_107 := bn NB107_108
              replace BK107 := kb BK107 hb
              replace HB := bz hb
              clear hb hbox hg
              refine hK.out _ _ ⟨(hc HB hw104_0), (hc HB hw104_1)⟩ (fun hHeld => ?_)
              clear hK K
              refine nm 7 ?_
              exact norm_ pa (hJ7_8 (gb107, gb108) _ ⟨hHeld, bk BK107, bk BK108, GW107.out, GE107.out, NB108_107.out, NB107_108.out, GW108.out, GE108.out, bh⟩)
           ·skip
            rintro _ w19 ⟨hS_, h0_⟩
            replace HB := Aside0.mk h0_
            clear h0_
            have hHeld := hS_
            refine nn ?_
            refine two_ (i := 7) (j := 8) (Ni := some 6) (Nj := some 7) #[T,T,T,T,T,T,T,T,N,N,N] #[T,T,T,T,T,T,T,N,T,N,N] rfl rfl rfl rfl (on2 HT_) (by decide) (by decide) (fun K hK => ?_) (fun K hK => ?_)
            ·skip
             refine bxs 6 #[.int .i64 0, .int .i64 0] 41 ?_
             intro gb107 hg w20 hbox hb
             have BK107 := Aside0.mk (hbox)
             have GW107 := ga w hg
             have GE107 := GW107
             replace HB := bz hb
             clear hb hbox hg
             refine hK.out _ _ ⟨(hc HB hw104_0), (hc HB hw104_1)⟩ (fun hHeld => ?_)
             clear hK K
             refine nm 6 ?_
             exact norm_ pa (hJ6_7 (gb107) _ ⟨hHeld, bk BK107, GW107.out, GE107.out, bh⟩)
            ·skip
             refine bxs 7 #[.int .i64 0, .int .i64 0] 41 ?_
             intro gb108 hg w20 hbox hb
             have BK108 := Aside0.mk (hbox)
             have GW108 := ga w hg
             have GE108 := GW108
             replace HB := bz hb
             clear hb hbox hg
             refine hK.out _ _ ⟨(hc HB hw104_0), (hc HB hw104_1)⟩ (fun hHeld => ?_)
             clear hK K
             refine nm 7 ?_
             exact norm_ pa (hJ6_8 (gb108) _ ⟨hHeld, bk BK108, GW108.out, GE108.out, bh⟩)
          ·skip
           rintro ⟨gb107, gb108⟩ w20 ⟨hS_, h0_, h1_, h2_, h3_, h4_, h5_, h6_, h7_, h8_⟩
           have BK107 := Aside0.mk h0_
           have BK108 := Aside0.mk h1_
           have GW107 := Aside0.mk h2_
           have GE107 := Aside0.mk h3_
           have NB108_107 := Aside0.mk h4_
           have NB107_108 := Aside0.mk h5_
           have GW108 := Aside0.mk h6_
           have GE108 := Aside0.mk h7_
           replace HB := Aside0.mk h8_
           clear h0_ h1_ h2_ h3_ h4_ h5_ h6_ h7_ h8_
           have hHeld := hS_
           refine nn ?_
           refine one_ (i := 6) (N := some 36) #[T,T,T,T,T,T,T,T,T,N,N] rfl rfl (on1 HT_) (by decide) (fun K hK => ?_)
           refine goes_ Try.func58 (by kernel_rfl) rfl #[.slice (some ad104) l0.length c0, .int .i64 x5_2] (by rfl) rfl rfl sg ?_
           with_reducible refine (cracknelref04_next.calls _ _ l0 x5_2 t105 t106 _ ?side1 ?side2 A14.out).mono ?_
           (case side1 => exact cs (Kd.C_below HR0.out HB.out))
           (case side2 => exact HC0.out)
           rintro e w21 ⟨rfl, hb⟩
           refine ⟨_, rfl, ?_⟩
           replace BK107 := kb BK107 hb
           replace BK108 := kb BK108 hb
           replace HB := bz hb
           (try clear hb)
           refine hK.out _ _ ⟨(hc HB hw104_0), (hc HB hw104_1)⟩ (fun hHeld => ?_)
           clear hK K
           refine nm 36 ?_
           exact norm_ pa (hJ6_7_8 (gb107, gb108) _ ⟨hHeld, bk BK107, bk BK108, GW107.out, GE107.out, NB108_107.out, NB107_108.out, GW108.out, GE108.out, bh⟩)
         ·skip
          rintro gb108 w20 ⟨hS_, h0_, h1_, h2_, h3_⟩
          have BK108 := Aside0.mk h0_
          have GW108 := Aside0.mk h1_
          have GE108 := Aside0.mk h2_
          replace HB := Aside0.mk h3_
          clear h0_ h1_ h2_ h3_
          have hHeld := hS_
          refine nn ?_
          refine one_ (i := 7) (N := some 6) #[T,T,T,T,T,T,T,T,T,N,N] rfl rfl (on1 HT_) (by decide) (fun K hK => ?_)
          refine bxs 6 #[.int .i64 0, .int .i64 0] 41 ?_
          intro gb107 hg w21 hbox hb
          have BK107 := Aside0.mk (hbox)
          have GW107 := ga w hg
          have GE107 := GW107
          have NB108_107 := nb hg (kl BK108)
          have NB107_108 := bn NB108_107
          replace BK108 := kb BK108 hb
          replace HB := bz hb
          clear hb hbox hg
          refine hK.out _ _ ⟨(hc HB hw104_0), (hc HB hw104_1)⟩ (fun hHeld => ?_)
          clear hK K
          refine nm 6 ?_
          exact norm_ pa (hJ6_7_8 (gb107, gb108) _ ⟨hHeld, bk BK107, bk BK108, GW107.out, GE107.out, NB108_107.out, NB107_108.out, GW108.out, GE108.out, bh⟩)
        ·skip
         rintro gb107 w20 ⟨hS_, h0_, h1_, h2_, h3_⟩
         have BK107 := Aside0.mk h0_
         have GW107 := Aside0.mk h1_
         have GE107 := Aside0.mk h2_
         replace HB := Aside0.mk h3_
         clear h0_ h1_ h2_ h3_
         have hHeld := hS_
         refine nn ?_
         refine one_ (i := 8) (N := some 7) #[T,T,T,T,T,T,T,T,T,N,N] rfl rfl (on1 HT_) (by decide) (fun K hK => ?_)
         refine bxs 7 #[.int .i64 0, .int .i64 0] 41 ?_
         intro gb108 hg w21 hbox hb
         have BK108 := Aside0.mk (hbox)
         have GW108 := ga w hg
         have GE108 := GW108
         have NB107_108 := nb hg (kl BK107)
         have NB108_107 := bn NB107_108
         replace BK107 := kb BK107 hb
         replace HB := bz hb
         clear hb hbox hg
         refine hK.out _ _ ⟨(hc HB hw104_0), (hc HB hw104_1)⟩ (fun hHeld => ?_)
         clear hK K
         refine nm 7 ?_
         exact norm_ pa (hJ6_7_8 (gb107, gb108) _ ⟨hHeld, bk BK107, bk BK108, GW107.out, GE107.out, NB108_107.out, NB107_108.out, GW108.out, GE108.out, bh⟩)
       rintro ⟨gb107, gb108⟩ w21 ⟨hS_, h0_, h1_, h2_, h3_, h4_, h5_, h6_, h7_, h8_⟩
       have BK107 := Aside0.mk h0_
       have BK108 := Aside0.mk h1_
       have GW107 := Aside0.mk h2_
       have GE107 := Aside0.mk h3_
       have NB108_107 := Aside0.mk h4_
       have NB107_108 := Aside0.mk h5_
       have GW108 := Aside0.mk h6_
       have GE108 := Aside0.mk h7_
       replace HB := Aside0.mk h8_
       clear h0_ h1_ h2_ h3_ h4_ h5_ h6_ h7_ h8_
       have hHeld := hS_
       refine nn ?_
       refine one_ (i := 9) (N := none) #[T,T,T,T,T,T,T,T,T,T,N] rfl rfl (on1 HT_) (by decide) (fun K hK => ?_)
       have hs22 : w21.cell? ⟨gb107, 0, none⟩ = some (.int .i64 0) := bc BK107 0
       have hfs22 := blk_frozen BK107.out 0
       have hns22_1 := NB108_107.out
       have hms22_1 := NB107_108.out
       have hs23 : w21.cell? ⟨gb107, 1, none⟩ = some (.int .i64 0) := bc BK107 1
       have hfs23 := blk_frozen BK107.out 1
       have hns23_1 := NB108_107.out
       have hms23_1 := NB107_108.out
       refine skip_ (w1 := ?_) (by rfl) rfl ?_ ?_
       rotate_left
       ·go_simp
        rfl
       refine hK.out _ _ ⟨((cell_far (p := ⟨gb107, _, none⟩) (fr hw104_0 GW107) _).trans (((cell_far (p := ⟨gb107, _, none⟩) (fr hw104_0 GW107) _).trans (hHeld.1)))), ((cell_far (p := ⟨gb107, _, none⟩) (fr hw104_1 GW107) _).trans (((cell_far (p := ⟨gb107, _, none⟩) (fr hw104_1 GW107) _).trans (hHeld.2))))⟩ (fun hHeld => ?_)
       clear hK K
       refine one_ (i := 10) (N := none) #[T,T,T,T,T,T,T,T,T,T,T] rfl rfl (on1 HT_) (by decide) (fun K hK => ?_)
       have hs24 : w21.cell? ⟨gb108, 0, none⟩ = some (.int .i64 0) := bc BK108 0
       have hfs24 := blk_frozen BK108.out 0
       have hns24_0 := NB107_108.out
       have hms24_0 := NB108_107.out
       have hs25 : w21.cell? ⟨gb108, 1, none⟩ = some (.int .i64 0) := bc BK108 1
       have hfs25 := blk_frozen BK108.out 1
       have hns25_0 := NB107_108.out
       have hms25_0 := NB108_107.out
       refine skip_ (w1 := ?_) (by rfl) rfl ?_ ?_
       rotate_left
       ·go_simp
        rfl
       refine hK.out _ _ ⟨((cell_far (p := ⟨gb108, _, none⟩) (fr hw104_0 GW108) _).trans (((cell_far (p := ⟨gb108, _, none⟩) (fr hw104_0 GW108) _).trans (hHeld.1)))), ((cell_far (p := ⟨gb108, _, none⟩) (fr hw104_1 GW108) _).trans (((cell_far (p := ⟨gb108, _, none⟩) (fr hw104_1 GW108) _).trans (hHeld.2))))⟩ (fun hHeld => ?_)
       clear hK K
       refine done_ (done_of HT_.out (by kernel_rfl)) ?_
       go_upto_region 12 with (first | ((with_reducible refine gc 58 rfl ?_); refine goesL_ (some 40) rfl rfl Try.func58 (by kernel_rfl) rfl #[.slice (some ad104) l0.length c0, .int .i64 (wrap64 (x5_2 + 1))] rfl sg ?_; (with_reducible refine (cracknelref04_next.calls _ _ l0 (wrap64 (x5_2 + 1)) t109 t110 _ ?side1 ?side2 A15.out).mono ?_); (case side1 => exact Kd.C_below HR0.out bh); (case side2 => exact HC0.out); rintro e w26 ⟨rfl, hb⟩; refine ⟨_, rfl, ?_⟩; replace BK107 := Aside0.mk (blk_below (g := gb107) (o := .cells #[.int .i64 ((rd_T41 l0 x5_2).f0), .int .i64 ((rd_T41 l0 x5_2).f1)] 41 (0, 0)) (by refine bf NB107_108 ?_; refine bf NB107_108 ?_; refine bd ?_; refine blk_put (cs := #[.int .i64 ((rd_T41 l0 x5_2).f0), .int .i64 0]) ?_ 1 _ rfl; refine bd ?_; refine blk_put (cs := #[.int .i64 0, .int .i64 0]) ?_ 0 _ rfl; refine bd ?_; exact BK107.out) hb); replace BK108 := Aside0.mk (blk_below (g := gb108) (o := .cells #[.int .i64 t105, .int .i64 t106] 41 (0, 0)) (by refine bd ?_; refine blk_put (cs := #[.int .i64 t105, .int .i64 0]) ?_ 1 _ rfl; refine bd ?_; refine blk_put (cs := #[.int .i64 0, .int .i64 0]) ?_ 0 _ rfl; refine bf NB108_107 ?_; refine bf NB108_107 ?_; refine bd ?_; exact BK108.out) hb); replace HB := bz hb; (try clear hb)) | ((with_reducible refine gate_dst (N := 8) rfl ?_); refine bxe 8 #[.int .i64 0, .int .i64 0] 41 ?_; intro gb111 hg w27 hbox hb; have BK111 := Aside0.mk (hbox); have GW111 := ga w hg; have GE111 := GW111; have NB107_111 := nb hg (kl BK107); have NB111_107 := bn NB107_111; have NB108_111 := nb hg (kl BK108); have NB111_108 := bn NB108_111; replace BK107 := kb BK107 hb; replace BK108 := kb BK108 hb; replace HB := bz hb; clear hb hbox hg; have hnb28 := NB111_107.out; have hnc28 := NB107_111.out; have hnb29 := NB111_108.out; have hnc29 := NB108_111.out; obtain ⟨hcz30_0, hcz30_1, hfz30_0, hfz30_1⟩ := b2 BK111))
       (try simp only [Act.put, List.setIfInBounds_toArray, List.set_cons_zero, List.set_cons_succ])
       go_cut [50] (fun v50 wc => ∃ (kq : Nat) (x50_15 : Bool), v50 = .bool x50_15 ∧ Aside0 (cracknelref04_Simple.j2 kq l0 (l0.length : Int) x5_2 x50_15 ((rd_T41 l0 x5_2).f0) ((rd_T41 l0 x5_2).f1) t105 t106 = some r) ∧ Aside0 (kq ≤ k2) ∧ Aside0 (wc.heap[gb107]? = some (.cells #[.int .i64 ((rd_T41 l0 x5_2).f0), .int .i64 ((rd_T41 l0 x5_2).f1)] 41 (0, 0))) ∧ Aside0 (wc.heap[gb108]? = some (.cells #[.int .i64 t105, .int .i64 t106] 41 (0, 0))) ∧ Aside0 (wc.heap[gb111]? = some (.cells #[.int .i64 t109, .int .i64 t110] 41 (0, 0))) ∧ Aside0 (Below w.heap.size w wc))
       case first =>
        have H := HC16.out
        clear HC16
        replace H := Option.bind_eq_some_iff.mp H
        obtain ⟨t112, A310, H⟩ := H
        try dsimp only at H
        have A31 := Aside0.mk A310
        clear A310
        by_cases c32 : t112 = true
        ·subst c32
         rw [if_pos rfl] at H
         have H' := Aside0.mk H
         clear H
         have hnb33 := NB107_108.out
         have hnc33 := NB108_107.out
         have hnb34 := NB107_111.out
         have hnc34 := NB111_107.out
         obtain ⟨hcz35_0, hcz35_1, hfz35_0, hfz35_1⟩ := b2 BK107
         have hnb36 := NB108_111.out
         have hnc36 := NB111_108.out
         obtain ⟨hcz37_0, hcz37_1, hfz37_0, hfz37_1⟩ := b2 BK108
         obtain ⟨hcz38_0, hcz38_1, hfz38_0, hfz38_1⟩ := b2 BK111
         go_wp2_with (first | ((with_reducible refine gc 59 rfl ?_); refine goesL_ (some 44) rfl rfl Try.func59 (by kernel_rfl) rfl #[.agg #[.int .i64 ((rd_T41 l0 x5_2).f0), .int .i64 ((rd_T41 l0 x5_2).f1)], .agg #[.int .i64 t105, .int .i64 t106], .agg #[.int .i64 t109, .int .i64 t110]] rfl sg ?_; (with_reducible refine (cracknelref04_On.calls ((rd_T41 l0 x5_2).f0) ((rd_T41 l0 x5_2).f1) t105 t106 t109 t110 true _ A31.out).mono ?_); rintro e w39 ⟨rfl, hb⟩; refine ⟨_, rfl, ?_⟩; replace BK107 := Aside0.mk (blk_below (g := gb107) (o := .cells #[.int .i64 ((rd_T41 l0 x5_2).f0), .int .i64 ((rd_T41 l0 x5_2).f1)] 41 (0, 0)) (by refine bf NB107_111 ?_; refine bf NB107_111 ?_; refine bd ?_; exact BK107.out) hb); replace BK108 := Aside0.mk (blk_below (g := gb108) (o := .cells #[.int .i64 t105, .int .i64 t106] 41 (0, 0)) (by refine bf NB108_111 ?_; refine bf NB108_111 ?_; refine bd ?_; exact BK108.out) hb); replace BK111 := Aside0.mk (blk_below (g := gb111) (o := .cells #[.int .i64 t109, .int .i64 t110] 41 (0, 0)) (by refine bd ?_; refine blk_put (cs := #[.int .i64 t109, .int .i64 0]) ?_ 1 _ rfl; refine bd ?_; refine blk_put (cs := #[.int .i64 0, .int .i64 0]) ?_ 0 _ rfl; refine bd ?_; exact BK111.out) hb); replace HB := bz hb; (try clear hb)))
         go_meet
         case rel => exact ⟨_, (true), sd, H', ⟨by have := HK1.out; have := HK2.out; first | omega | exact Nat.le_refl _⟩, ⟨bk BK107⟩, ⟨bk BK108⟩, ⟨bk BK111⟩, ⟨bh⟩⟩
        ·replace c32 := Bool.eq_false_iff.mpr c32
         subst c32
         rw [if_neg (show ¬ (false = true) by decide)] at H
         replace H := Option.bind_eq_some_iff.mp H
         obtain ⟨t113, A400, H⟩ := H
         try dsimp only at H
         have A40 := Aside0.mk A400
         clear A400
         have H' := Aside0.mk H
         clear H
         have hnb41 := NB107_108.out
         have hnc41 := NB108_107.out
         have hnb42 := NB107_111.out
         have hnc42 := NB111_107.out
         obtain ⟨hcz43_0, hcz43_1, hfz43_0, hfz43_1⟩ := b2 BK107
         have hnb44 := NB108_111.out
         have hnc44 := NB111_108.out
         obtain ⟨hcz45_0, hcz45_1, hfz45_0, hfz45_1⟩ := b2 BK108
         obtain ⟨hcz46_0, hcz46_1, hfz46_0, hfz46_1⟩ := b2 BK111
         go_wp2_with (first | ((with_reducible refine gc 59 rfl ?_); refine goesL_ (some 44) rfl rfl Try.func59 (by kernel_rfl) rfl #[.agg #[.int .i64 ((rd_T41 l0 x5_2).f0), .int .i64 ((rd_T41 l0 x5_2).f1)], .agg #[.int .i64 t105, .int .i64 t106], .agg #[.int .i64 t109, .int .i64 t110]] rfl sg ?_; (with_reducible refine (cracknelref04_On.calls ((rd_T41 l0 x5_2).f0) ((rd_T41 l0 x5_2).f1) t105 t106 t109 t110 false _ A31.out).mono ?_); rintro e w47 ⟨rfl, hb⟩; refine ⟨_, rfl, ?_⟩; replace BK107 := Aside0.mk (blk_below (g := gb107) (o := .cells #[.int .i64 ((rd_T41 l0 x5_2).f0), .int .i64 ((rd_T41 l0 x5_2).f1)] 41 (0, 0)) (by refine bf NB107_111 ?_; refine bf NB107_111 ?_; refine bd ?_; exact BK107.out) hb); replace BK108 := Aside0.mk (blk_below (g := gb108) (o := .cells #[.int .i64 t105, .int .i64 t106] 41 (0, 0)) (by refine bf NB108_111 ?_; refine bf NB108_111 ?_; refine bd ?_; exact BK108.out) hb); replace BK111 := Aside0.mk (blk_below (g := gb111) (o := .cells #[.int .i64 t109, .int .i64 t110] 41 (0, 0)) (by refine bd ?_; refine blk_put (cs := #[.int .i64 t109, .int .i64 0]) ?_ 1 _ rfl; refine bd ?_; refine blk_put (cs := #[.int .i64 0, .int .i64 0]) ?_ 0 _ rfl; refine bd ?_; exact BK111.out) hb); replace HB := bz hb; (try clear hb); obtain ⟨hcz48_0, hcz48_1, hfz48_0, hfz48_1⟩ := b2 BK108; obtain ⟨hcz49_0, hcz49_1, hfz49_0, hfz49_1⟩ := b2 BK111; obtain ⟨hcz50_0, hcz50_1, hfz50_0, hfz50_1⟩ := b2 BK107) | (go_at_call 59; (with_reducible refine (cracknelref04_On.calls t105 t106 t109 t110 ((rd_T41 l0 x5_2).f0) ((rd_T41 l0 x5_2).f1) t113 _ A40.out).mono ?_); rintro e w51 ⟨rfl, hb⟩; replace BK107 := kb BK107 hb; replace BK108 := kb BK108 hb; replace BK111 := kb BK111 hb; replace HB := bz hb; (try clear hb)))
         go_meet
         case rel => exact ⟨_, (t113), sd, H', ⟨by have := HK1.out; have := HK2.out; first | omega | exact Nat.le_refl _⟩, ⟨bk BK107⟩, ⟨bk BK108⟩, ⟨bk BK111⟩, ⟨bh⟩⟩
       case rest =>
        clear HC16
        (try clear hcz30_0); (try clear hcz30_1); (try clear hfz30_0); (try clear hfz30_1)
        obtain ⟨kq, x50_15, rfl, HA, HJ15, BK107, BK108, BK111, HB⟩ := hcut
        cases kq with
        | zero => exact absurd HA.out (by simp [cracknelref04_Simple.j2])
        | succ kj15 =>
         have H := HA.out
         clear HA
         simp only [cracknelref04_Simple.j2] at H
         by_cases c52 : x50_15 = true
         ·subst c52
          rw [if_pos rfl] at H
          obtain rfl := Option.some.inj H
          go_wp2
          go_ret
          exact ⟨by exact er, bh⟩
         ·replace c52 := Bool.eq_false_iff.mpr c52
          subst c52
          rw [if_neg (show ¬ (false = true) by decide)] at H
          have H' := Aside0.mk H
          clear H
          go_wp2
          go_loopg [9] kj15 (fun kq v9 w' => ∃ (x9_4 : Int), v9 = .int .i64 x9_4 ∧ Aside0 (cracknelref04_Simple.l2 kq l0 (l0.length : Int) x5_2 x9_4 ((rd_T41 l0 x5_2).f0) ((rd_T41 l0 x5_2).f1) t105 t106 = some r) ∧ Aside0 (kq ≤ kj15) ∧ Aside0 (w'.heap[gb107]? = some (.cells #[.int .i64 ((rd_T41 l0 x5_2).f0), .int .i64 ((rd_T41 l0 x5_2).f1)] 41 (0, 0))) ∧ Aside0 (w'.heap[gb108]? = some (.cells #[.int .i64 t105, .int .i64 t106] 41 (0, 0))) ∧ Aside0 (w'.heap[gb111]? = some (.cells #[.int .i64 t109, .int .i64 t110] 41 (0, 0))) ∧ Aside0 (Below w.heap.size w w'))
          case atStart => exact ⟨(wrap64 (x5_2 + 2)), sd, H', ⟨Nat.le_refl _⟩, ⟨bk BK107⟩, ⟨bk BK108⟩, ⟨bk BK111⟩, ⟨bh⟩⟩
          case round =>
           clear H'
           (try clear c52)
           obtain ⟨x9_4, rfl, HA, HK4, BK107, BK108, BK111, HB⟩ := hrel
           cases gk with
           | zero => exact absurd HA.out (by simp [cracknelref04_Simple.l2])
           | succ k4 =>
            have H := HA.out
            clear HA
            simp only [cracknelref04_Simple.l2] at H
            by_cases c53 : x9_4 < (l0.length : Int)
            ·rw [if_pos c53] at H
             have c53b0 := decide_eq_true c53
             clear c53
             obtain ⟨c54, H⟩ := oj H
             have c54b0 : ((l0.length : Int) == 0) = false := beq_eq_false_iff_ne.mpr c54
             have c54b1 : ((l0.length : Int) != 0) = true := bne_iff_ne.mpr c54
             have c54b2 : ¬ (l0 = []) := fun h_ => c54 (by rw [h_]; rfl)
             by_cases c55 : (Int.tmod (wrap64 (x9_4 + 1)) (l0.length : Int)) = x5_2
             ·rw [if_pos c55] at H
              have c55b0 : ((Int.tmod (wrap64 (x9_4 + 1)) (l0.length : Int)) == x5_2) = true := beq_iff_eq.mpr c55
              have c55b1 : ((Int.tmod (wrap64 (x9_4 + 1)) (l0.length : Int)) != x5_2) = false := bne_eq_false_iff_eq.mpr c55
              clear c55
              have H' := Aside0.mk H
              clear H
              try go_wp2
              replace BK107 := Aside0.mk (blk_drew BK107.out)
              replace BK108 := Aside0.mk (blk_drew BK108.out)
              replace BK111 := Aside0.mk (blk_drew BK111.out)
              replace HB := Aside0.mk (below_drew1 HB.out)
              refine start_ (n := 18) (S := fun w' => True) (ds := []) #[N,N,N,N,N,N,N,N,N,N,N,N,N,N,N,N,N,N] (by kernel_rfl) rfl rfl trivial (fun hHeld => ?_); refine with_tabW cracknelref04_Simple.tab17 cracknelref04_Simple.bits17 (fun HT_ HW_ => ?_)
              generalize wr.drew = w56 at BK107 BK108 BK111 HB hHeld ⊢
              refine pu 0 58 HT_ ?_
              refine pu 1 59 HT_ ?_
              refine pu 2 60 HT_ ?_
              refine pu 3 61 HT_ ?_
              refine pu 4 62 HT_ ?_
              refine pu 5 63 HT_ ?_
              refine pu 6 64 HT_ ?_
              refine pz 7 65 HT_ ?_
              refine pz 8 66 HT_ ?_
              refine pz 9 67 HT_ ?_
              refine pz 10 68 HT_ ?_
              refine pz 11 69 HT_ ?_
              refine pz 12 70 HT_ ?_
              refine pz 13 71 HT_ ?_
              refine pz 14 72 HT_ ?_
              refine pz 15 73 HT_ ?_
              refine pz 16 74 HT_ ?_
              refine pu 17 75 HT_ ?_
              refine done_ (done_of HT_.out (by kernel_rfl)) ?_
              try go_wp2
              go_roundg k4
              case measure => have := HK1.out; have := HK2.out; have := HJ15.out; have := HK4.out; omega
              case rel => exact ⟨(wrap64 (x9_4 + 1)), sd, H', ⟨by have := HK1.out; have := HK2.out; have := HJ15.out; have := HK4.out; omega⟩, ⟨bk BK107⟩, ⟨bk BK108⟩, ⟨bk BK111⟩, ⟨bh⟩⟩
             ·rw [if_neg c55] at H
              have c55b0 : ((Int.tmod (wrap64 (x9_4 + 1)) (l0.length : Int)) == x5_2) = false := beq_eq_false_iff_ne.mpr c55
              have c55b1 : ((Int.tmod (wrap64 (x9_4 + 1)) (l0.length : Int)) != x5_2) = true := bne_iff_ne.mpr c55
              obtain ⟨c57, H⟩ := oi H
              have c57b0 := decide_eq_true c57
              clear c57
              obtain ⟨c58, H⟩ := oi H
              have c58b0 := decide_eq_true c58
              clear c58
              replace H := Option.bind_eq_some_iff.mp H
              obtain ⟨⟨t115, t116⟩, A590, H⟩ := H
              try dsimp only at H
              have A59 := Aside0.mk A590
              clear A590
              replace H := Option.bind_eq_some_iff.mp H
              obtain ⟨t117, A600, H⟩ := H
              try dsimp only at H
              have A60 := Aside0.mk A600
              clear A600
              by_cases c61 : t117 = true
              ·subst c61
               rw [if_pos rfl] at H
               obtain rfl := Option.some.inj H
               try go_wp2
               replace BK107 := Aside0.mk (blk_drew BK107.out)
               replace BK108 := Aside0.mk (blk_drew BK108.out)
               replace BK111 := Aside0.mk (blk_drew BK111.out)
               replace HB := Aside0.mk (below_drew1 HB.out)
               have p114 : 0 ≤ (x9_4 : Int) := dt
               have q114 : x9_4 < (l0.length : Int) := dt
               obtain ⟨ad114, e114, hx114_0, hx114_1⟩ := at_T41 HR0.out x9_4 p114 q114
               have hw114_1 := hx114_1
               have hw114_0 := hx114_0
               obtain rfl : ad104 = ad114 := (by injection e114)
               replace hx114_0 := hc HB hx114_0
               replace hx114_1 := hc HB hx114_1
               replace p114 := eq_true p114
               replace q114 := eq_true q114
               refine start_ (n := 18) (S := fun w' => w'.cell? ⟨gb107, 0, none⟩ = some (.int .i64 ((rd_T41 l0 x5_2).f0)) ∧ w'.cell? ⟨gb107, 1, none⟩ = some (.int .i64 ((rd_T41 l0 x5_2).f1)) ∧ w'.cell? ⟨gb108, 0, none⟩ = some (.int .i64 t105) ∧ w'.cell? ⟨gb108, 1, none⟩ = some (.int .i64 t106) ∧ w'.cell? (ad104.add ((x9_4).toNat * 2)) = some (.int .i64 ((rd_T41 l0 x9_4).f0)) ∧ w'.cell? ⟨(ad104.add ((x9_4).toNat * 2)).block, (ad104.add ((x9_4).toNat * 2)).off + 1, none⟩ = some (.int .i64 ((rd_T41 l0 x9_4).f1))) (ds := []) #[N,N,N,N,N,N,N,N,N,N,N,N,N,N,N,N,N,N] (by kernel_rfl) rfl rfl ⟨bc BK107 0, bc BK107 1, bc BK108 0, bc BK108 1, (hc HB hw114_0), (hc HB hw114_1)⟩ (fun hHeld => ?_); refine with_tabW cracknelref04_Simple.tab17 cracknelref04_Simple.bits17 (fun HT_ HW_ => ?_)
               generalize wr.drew = w62 at BK107 BK108 BK111 HB hx114_0 hx114_1 hHeld ⊢
               refine pu 0 58 HT_ ?_
               refine pu 1 59 HT_ ?_
               refine pu 2 60 HT_ ?_
               refine pu 3 61 HT_ ?_
               refine pu 4 62 HT_ ?_
               refine pu 5 63 HT_ ?_
               refine pu 6 64 HT_ ?_
               refine pu 9 67 HT_ ?_
               refine pu 10 68 HT_ ?_
               refine pu 11 69 HT_ ?_
               refine pu 13 71 HT_ ?_
               refine pu 14 72 HT_ ?_
               refine tk6 7 65 hHeld HT_ HW_ ?_
               refine tk6 8 66 hHeld HT_ HW_ ?_
               refine tk6 12 70 hHeld HT_ HW_ ?_
               refine one_ (i := 15) (N := some 73) #[T,T,T,T,T,T,T,T,T,T,T,T,T,T,T,T,N,N] rfl rfl (on1 HT_) (by decide) (fun K hK => ?_)
               refine goes_ Try.func58 (by kernel_rfl) rfl #[.slice (some ad104) l0.length c0, .int .i64 x9_4] (by rfl) rfl rfl sg ?_
               with_reducible refine (cracknelref04_next.calls _ _ l0 x9_4 t115 t116 _ ?side1 ?side2 A59.out).mono ?_
               (case side1 => exact cs (Kd.C_below HR0.out HB.out))
               (case side2 => exact HC0.out)
               rintro e w63 ⟨rfl, hb⟩
               refine ⟨_, rfl, ?_⟩
               replace BK107 := kb BK107 hb
               replace BK108 := kb BK108 hb
               replace BK111 := kb BK111 hb
               replace HB := bz hb
               (try clear hb)
               refine hK.out _ _ ⟨bc BK107 0, bc BK107 1, bc BK108 0, bc BK108 1, (hc HB hw114_0), (hc HB hw114_1)⟩ (fun hHeld => ?_)
               clear hK K
               refine nm 73 ?_
               refine one_ (i := 16) (N := some 74) #[T,T,T,T,T,T,T,T,T,T,T,T,T,T,T,T,T,N] rfl rfl (on1 HT_) (by decide) (fun K hK => ?_)
               refine goes_ Try.func60 (by kernel_rfl) rfl #[.agg #[.int .i64 ((rd_T41 l0 x5_2).f0), .int .i64 ((rd_T41 l0 x5_2).f1)], .agg #[.int .i64 t105, .int .i64 t106], .agg #[.int .i64 ((rd_T41 l0 x9_4).f0), .int .i64 ((rd_T41 l0 x9_4).f1)], .agg #[.int .i64 t115, .int .i64 t116]] (by rfl) rfl rfl sg ?_
               with_reducible refine (cracknelref04_Meet.calls k4 ((rd_T41 l0 x5_2).f0) ((rd_T41 l0 x5_2).f1) t105 t106 ((rd_T41 l0 x9_4).f0) ((rd_T41 l0 x9_4).f1) t115 t116 true _ A60.out).mono ?_
               rintro e w64 ⟨rfl, hb⟩
               refine ⟨_, rfl, ?_⟩
               replace BK107 := kb BK107 hb
               replace BK108 := kb BK108 hb
               replace BK111 := kb BK111 hb
               replace HB := bz hb
               (try clear hb)
               refine hK.out _ _ ⟨bc BK107 0, bc BK107 1, bc BK108 0, bc BK108 1, (hc HB hw114_0), (hc HB hw114_1)⟩ (fun hHeld => ?_)
               clear hK K
               refine nm 74 ?_
               refine pu 17 75 HT_ ?_
               refine done_ (done_of HT_.out (by kernel_rfl)) ?_
               try go_wp2
               go_ret
               exact ⟨by exact er, bh⟩
              ·replace c61 := Bool.eq_false_iff.mpr c61
               subst c61
               rw [if_neg (show ¬ (false = true) by decide)] at H
               have H' := Aside0.mk H
               clear H
               try go_wp2
               replace BK107 := Aside0.mk (blk_drew BK107.out)
               replace BK108 := Aside0.mk (blk_drew BK108.out)
               replace BK111 := Aside0.mk (blk_drew BK111.out)
               replace HB := Aside0.mk (below_drew1 HB.out)
               have p114 : 0 ≤ (x9_4 : Int) := dt
               have q114 : x9_4 < (l0.length : Int) := dt
               obtain ⟨ad114, e114, hx114_0, hx114_1⟩ := at_T41 HR0.out x9_4 p114 q114
               have hw114_1 := hx114_1
               have hw114_0 := hx114_0
               obtain rfl : ad104 = ad114 := (by injection e114)
               replace hx114_0 := hc HB hx114_0
               replace hx114_1 := hc HB hx114_1
               replace p114 := eq_true p114
               replace q114 := eq_true q114
               refine start_ (n := 18) (S := fun w' => w'.cell? ⟨gb107, 0, none⟩ = some (.int .i64 ((rd_T41 l0 x5_2).f0)) ∧ w'.cell? ⟨gb107, 1, none⟩ = some (.int .i64 ((rd_T41 l0 x5_2).f1)) ∧ w'.cell? ⟨gb108, 0, none⟩ = some (.int .i64 t105) ∧ w'.cell? ⟨gb108, 1, none⟩ = some (.int .i64 t106) ∧ w'.cell? (ad104.add ((x9_4).toNat * 2)) = some (.int .i64 ((rd_T41 l0 x9_4).f0)) ∧ w'.cell? ⟨(ad104.add ((x9_4).toNat * 2)).block, (ad104.add ((x9_4).toNat * 2)).off + 1, none⟩ = some (.int .i64 ((rd_T41 l0 x9_4).f1))) (ds := []) #[N,N,N,N,N,N,N,N,N,N,N,N,N,N,N,N,N,N] (by kernel_rfl) rfl rfl ⟨bc BK107 0, bc BK107 1, bc BK108 0, bc BK108 1, (hc HB hw114_0), (hc HB hw114_1)⟩ (fun hHeld => ?_); refine with_tabW cracknelref04_Simple.tab17 cracknelref04_Simple.bits17 (fun HT_ HW_ => ?_)
               generalize wr.drew = w65 at BK107 BK108 BK111 HB hx114_0 hx114_1 hHeld ⊢
               refine pu 0 58 HT_ ?_
               refine pu 1 59 HT_ ?_
               refine pu 2 60 HT_ ?_
               refine pu 3 61 HT_ ?_
               refine pu 4 62 HT_ ?_
               refine pu 5 63 HT_ ?_
               refine pu 6 64 HT_ ?_
               refine pu 9 67 HT_ ?_
               refine pu 10 68 HT_ ?_
               refine pu 11 69 HT_ ?_
               refine pu 13 71 HT_ ?_
               refine pu 14 72 HT_ ?_
               refine tk6 7 65 hHeld HT_ HW_ ?_
               refine tk6 8 66 hHeld HT_ HW_ ?_
               refine tk6 12 70 hHeld HT_ HW_ ?_
               refine one_ (i := 15) (N := some 73) #[T,T,T,T,T,T,T,T,T,T,T,T,T,T,T,T,N,N] rfl rfl (on1 HT_) (by decide) (fun K hK => ?_)
               refine goes_ Try.func58 (by kernel_rfl) rfl #[.slice (some ad104) l0.length c0, .int .i64 x9_4] (by rfl) rfl rfl sg ?_
               with_reducible refine (cracknelref04_next.calls _ _ l0 x9_4 t115 t116 _ ?side1 ?side2 A59.out).mono ?_
               (case side1 => exact cs (Kd.C_below HR0.out HB.out))
               (case side2 => exact HC0.out)
               rintro e w66 ⟨rfl, hb⟩
               refine ⟨_, rfl, ?_⟩
               replace BK107 := kb BK107 hb
               replace BK108 := kb BK108 hb
               replace BK111 := kb BK111 hb
               replace HB := bz hb
               (try clear hb)
               refine hK.out _ _ ⟨bc BK107 0, bc BK107 1, bc BK108 0, bc BK108 1, (hc HB hw114_0), (hc HB hw114_1)⟩ (fun hHeld => ?_)
               clear hK K
               refine nm 73 ?_
               refine one_ (i := 16) (N := some 74) #[T,T,T,T,T,T,T,T,T,T,T,T,T,T,T,T,T,N] rfl rfl (on1 HT_) (by decide) (fun K hK => ?_)
               refine goes_ Try.func60 (by kernel_rfl) rfl #[.agg #[.int .i64 ((rd_T41 l0 x5_2).f0), .int .i64 ((rd_T41 l0 x5_2).f1)], .agg #[.int .i64 t105, .int .i64 t106], .agg #[.int .i64 ((rd_T41 l0 x9_4).f0), .int .i64 ((rd_T41 l0 x9_4).f1)], .agg #[.int .i64 t115, .int .i64 t116]] (by rfl) rfl rfl sg ?_
               with_reducible refine (cracknelref04_Meet.calls k4 ((rd_T41 l0 x5_2).f0) ((rd_T41 l0 x5_2).f1) t105 t106 ((rd_T41 l0 x9_4).f0) ((rd_T41 l0 x9_4).f1) t115 t116 false _ A60.out).mono ?_
               rintro e w67 ⟨rfl, hb⟩
               refine ⟨_, rfl, ?_⟩
               replace BK107 := kb BK107 hb
               replace BK108 := kb BK108 hb
               replace BK111 := kb BK111 hb
               replace HB := bz hb
               (try clear hb)
               refine hK.out _ _ ⟨bc BK107 0, bc BK107 1, bc BK108 0, bc BK108 1, (hc HB hw114_0), (hc HB hw114_1)⟩ (fun hHeld => ?_)
               clear hK K
               refine nm 74 ?_
               refine pu 17 75 HT_ ?_
               refine done_ (done_of HT_.out (by kernel_rfl)) ?_
               try go_wp2
               go_roundg k4
               case measure => have := HK1.out; have := HK2.out; have := HJ15.out; have := HK4.out; omega
               case rel => exact ⟨(wrap64 (x9_4 + 1)), sd, H', ⟨by have := HK1.out; have := HK2.out; have := HJ15.out; have := HK4.out; omega⟩, ⟨bk BK107⟩, ⟨bk BK108⟩, ⟨bk BK111⟩, ⟨bh⟩⟩
            ·rw [if_neg c53] at H
             have c53b0 := decide_eq_false c53
             clear c53
             have H' := Aside0.mk H
             clear H
             go_wp2
             go_roundg k4
             case measure => have := HK1.out; have := HK2.out; have := HJ15.out; have := HK4.out; omega
             case rel => exact ⟨(wrap64 (x5_2 + 1)), sd, H', ⟨by have := HK1.out; have := HK2.out; have := HJ15.out; have := HK4.out; omega⟩, ⟨bh⟩⟩
      ·rw [if_neg c11] at H
       have c11b0 := decide_eq_false c11
       clear c11
       obtain rfl := Option.some.inj H
       go_wp2
       go_ret
       exact ⟨by exact er, bh⟩
/-! ### cracknelref04_first: function 103 -/
def cracknelref04_first.f (a0_0 : Int) (a0_1 : Int) (a1_0 : Int) (a1_1 : Int) : Option (Bool) := if a0_1 < a1_1 then (some true) else (if a0_1 = a1_1 then (some (decide (a0_0 < a1_0))) else (some false))
set_option maxHeartbeats 8000000 in
set_option maxRecDepth 100000 in
theorem cracknelref04_first.calls (a0_0 : Int) (a0_1 : Int) (a1_0 : Int) (a1_1 : Int) (r : Bool) (w : World) (h : cracknelref04_first.f a0_0 a0_1 a1_0 a1_1 = some r) :
  Calls Try.prog 103 #[.agg #[.int .i64 a0_0, .int .i64 a0_1], .agg #[.int .i64 a1_0, .int .i64 a1_1]] w fun e w' => e = .returned (.bool r) ∧ Below w.heap.size w w' := by
 have hu41 := Try.underlying41
 have HB := Aside0.mk (Below.refl w.heap.size w)
 have H : (if a0_1 < a1_1 then (some true) else (if a0_1 = a1_1 then (some (decide (a0_0 < a1_0))) else (some false))) = some r := h
 clear h
 by_cases c3 : a0_1 < a1_1
 ·rw [if_pos c3] at H
  have c3b0 := decide_eq_true c3
  clear c3
  obtain rfl := Option.some.inj H
  go_enter Try.func103, Try.ntmps103
  go_wp2_with (first | ((with_reducible refine gate_dst (N := 2) rfl ?_); refine bxe 2 #[.int .i64 a0_0, .int .i64 a0_1] 41 ?_; intro gb101 hg w4 hbox hb; have BK101 := Aside0.mk (hbox); have GW101 := ga w hg; have GE101 := GW101; replace HB := bz hb; clear hb hbox hg) | ((with_reducible refine gate_dst (N := 3) rfl ?_); refine bxe 3 #[.int .i64 a1_0, .int .i64 a1_1] 41 ?_; intro gb102 hg w5 hbox hb; have BK102 := Aside0.mk (hbox); have GW102 := ga w hg; have GE102 := GW102; have NB101_102 := nb hg (kl BK101); have NB102_101 := bn NB101_102; replace BK101 := kb BK101 hb; replace HB := bz hb; clear hb hbox hg; have hnb6 := NB101_102.out; have hnc6 := NB102_101.out; obtain ⟨hcz7_0, hcz7_1, hfz7_0, hfz7_1⟩ := b2 BK101; obtain ⟨hcz8_0, hcz8_1, hfz8_0, hfz8_1⟩ := b2 BK102))
  go_ret
  exact ⟨by exact er, bh⟩
 ·rw [if_neg c3] at H
  have c3b0 := decide_eq_false c3
  clear c3
  by_cases c9 : a0_1 = a1_1
  ·rw [if_pos c9] at H
   have c9b0 : (a0_1 == a1_1) = true := beq_iff_eq.mpr c9
   have c9b1 : (a0_1 != a1_1) = false := bne_eq_false_iff_eq.mpr c9
   clear c9
   obtain rfl := Option.some.inj H
   go_enter Try.func103, Try.ntmps103
   go_wp2_with (first | ((with_reducible refine gate_dst (N := 2) rfl ?_); refine bxe 2 #[.int .i64 a0_0, .int .i64 a0_1] 41 ?_; intro gb101 hg w10 hbox hb; have BK101 := Aside0.mk (hbox); have GW101 := ga w hg; have GE101 := GW101; replace HB := bz hb; clear hb hbox hg) | ((with_reducible refine gate_dst (N := 3) rfl ?_); refine bxe 3 #[.int .i64 a1_0, .int .i64 a1_1] 41 ?_; intro gb102 hg w11 hbox hb; have BK102 := Aside0.mk (hbox); have GW102 := ga w hg; have GE102 := GW102; have NB101_102 := nb hg (kl BK101); have NB102_101 := bn NB101_102; replace BK101 := kb BK101 hb; replace HB := bz hb; clear hb hbox hg; have hnb12 := NB101_102.out; have hnc12 := NB102_101.out; obtain ⟨hcz13_0, hcz13_1, hfz13_0, hfz13_1⟩ := b2 BK101; obtain ⟨hcz14_0, hcz14_1, hfz14_0, hfz14_1⟩ := b2 BK102))
   go_ret
   exact ⟨by exact er, bh⟩
  ·rw [if_neg c9] at H
   have c9b0 : (a0_1 == a1_1) = false := beq_eq_false_iff_ne.mpr c9
   have c9b1 : (a0_1 != a1_1) = true := bne_iff_ne.mpr c9
   obtain rfl := Option.some.inj H
   go_enter Try.func103, Try.ntmps103
   go_wp2_with (first | ((with_reducible refine gate_dst (N := 2) rfl ?_); refine bxe 2 #[.int .i64 a0_0, .int .i64 a0_1] 41 ?_; intro gb101 hg w15 hbox hb; have BK101 := Aside0.mk (hbox); have GW101 := ga w hg; have GE101 := GW101; replace HB := bz hb; clear hb hbox hg) | ((with_reducible refine gate_dst (N := 3) rfl ?_); refine bxe 3 #[.int .i64 a1_0, .int .i64 a1_1] 41 ?_; intro gb102 hg w16 hbox hb; have BK102 := Aside0.mk (hbox); have GW102 := ga w hg; have GE102 := GW102; have NB101_102 := nb hg (kl BK101); have NB102_101 := bn NB101_102; replace BK101 := kb BK101 hb; replace HB := bz hb; clear hb hbox hg; have hnb17 := NB101_102.out; have hnc17 := NB102_101.out; obtain ⟨hcz18_0, hcz18_1, hfz18_0, hfz18_1⟩ := b2 BK101; obtain ⟨hcz19_0, hcz19_1, hfz19_0, hfz19_1⟩ := b2 BK102))
   go_ret
   exact ⟨by exact er, bh⟩
/-! ### cracknelref04_Convex: function 48 -/
mutual
def cracknelref04_Convex.l0 : Nat → List (S41) → Int → Option (Bool)
 | 0, _, _ => none
 | k + 1, x0, x3 => if x3 < (x0.length : Int) then (if 0 ≤ x3 then ((cracknelref04_next.f x0 x3).bind fun bt103 => ((cracknelref04_next.f x0 (wrap64 (x3 + 1))).bind fun bt105 => ((cracknelref04_Cross.f ((rd_T41 x0 x3).f0) ((rd_T41 x0 x3).f1) bt103.1 bt103.2 bt105.1 bt105.2).bind fun t107 => (if t107 ≤ 0 then (cracknelref04_Convex.j1 k x0 x3 true) else (if x3 > 0 then (if 0 < (x0.length : Int) then ((cracknelref04_first.f ((rd_T41 x0 0).f0) ((rd_T41 x0 0).f1) ((rd_T41 x0 x3).f0) ((rd_T41 x0 x3).f1)).bind fun t110 => (cracknelref04_Convex.j1 k x0 x3 (!t110))) else (none)) else (cracknelref04_Convex.j1 k x0 x3 false)))))) else (none)) else (some true)
def cracknelref04_Convex.j1 : Nat → List (S41) → Int → Bool → Option (Bool)
 | 0, _, _, _ => none
 | k + 1, x0, x3, x40 => if x40 = true then (some false) else (cracknelref04_Convex.l0 k x0 (wrap64 (x3 + 1)))
end
def cracknelref04_Convex.f (k : Nat) (l0 : List (S41)) : Option (Bool) := (cracknelref04_Simple.f k l0).bind fun t101 => (if t101 = true then (cracknelref04_Convex.l0 k l0 0) else (some false))
def cracknelref04_Convex.T6 : Bool × List (List Nat × List Nat) := (true, [([], []), ([], []), ([0, 1], [0, 1]), ([2], [2]), ([], []), ([], []), ([4, 5], [4, 5]), ([], []), ([], []), ([8], [8]), ([7, 9, 6], [7, 9]), ([3, 6, 10, 10], [3, 6, 10]), ([11], [11]), ([12, 11], [12]), ([13], [13]), ([14, 13], [13, 14]), ([15, 13, 13], [13, 15]), ([16], [16]), ([17, 16], [16, 17]), ([18, 16], [16, 18]), ([16], [16]), ([16], [16]), ([20, 21, 16], [16, 20, 21]), ([22, 16], [16, 22]), ([19, 23, 16, 16], [16, 19, 23]), ([24, 16], [16, 24]), ([16, 25, 13], [13, 16, 25]), ([13, 26], [13, 26])])
def cracknelref04_Convex.B6 : List Nat := [0, 0, 3, 7, 0, 0, 48, 0, 0, 256, 1008, 2047, 4095, 8191, 16383, 32767, 65535, 131071, 262143, 524287, 131071, 131071, 3276799, 7471103, 16777215, 33554431, 67108863, 134217727]
theorem cracknelref04_Convex.tab6 : rtab .any (opsOf Try.f48 6) = cracknelref04_Convex.T6 := by kernel_rfl
theorem cracknelref04_Convex.bits6 : waitsOk cracknelref04_Convex.T6.2 cracknelref04_Convex.B6 = true := by kernel_rfl
set_option maxHeartbeats 8000000 in
set_option maxRecDepth 100000 in
theorem cracknelref04_Convex.calls (k : Nat) (A0 : Option Addr) (c0 : Nat) (l0 : List (S41)) (r : Bool) (w : World) (hr0 : Kd.C k41 w A0 l0.length l0) (hc0 : l0.length ≤ c0) (h : cracknelref04_Convex.f k l0 = some r) :
  Calls Try.prog 48 #[.slice A0 l0.length c0] w fun e w' => e = .returned (.bool r) ∧ Below w.heap.size w w' := by
 have hu41 := Try.underlying41
 have HR0 := Aside0.mk hr0
 have HC0 := Aside0.mk hc0
 clear hr0 hc0
 have HB := Aside0.mk (Below.refl w.heap.size w)
 have H : ((cracknelref04_Simple.f k l0).bind fun t101 => (if t101 = true then (cracknelref04_Convex.l0 k l0 0) else (some false))) = some r := h
 clear h
 replace H := Option.bind_eq_some_iff.mp H
 obtain ⟨t101, A20, H⟩ := H
 try dsimp only at H
 have A2 := Aside0.mk A20
 clear A20
 by_cases c3 : t101 = true
 ·subst c3
  rw [if_pos rfl] at H
  have H' := Aside0.mk H
  clear H
  go_enter Try.func48, Try.ntmps48
  go_wp2_with (first | ((with_reducible refine gc 27 rfl ?_); refine goesL_ (some 5) rfl rfl Try.func27 (by kernel_rfl) rfl #[.slice A0 l0.length c0] rfl sg ?_; (with_reducible refine (cracknelref04_Simple.calls k _ _ l0 true _ ?side1 ?side2 A2.out).mono ?_); (case side1 => exact cs HR0.out); (case side2 => exact HC0.out); rintro e w4 ⟨rfl, hb⟩; refine ⟨_, rfl, ?_⟩; replace HB := bz hb; (try clear hb)))
  go_loopg [3] k (fun kq v3 w' => ∃ (x3_1 : Int), v3 = .int .i64 x3_1 ∧ Aside0 (cracknelref04_Convex.l0 kq l0 x3_1 = some r) ∧ Aside0 (kq ≤ k) ∧ Aside0 (Below w.heap.size w w'))
  case atStart => exact ⟨(0), sd, H', ⟨Nat.le_refl _⟩, ⟨bh⟩⟩
  case round =>
   clear H'
   (try clear c3)
   obtain ⟨x3_1, rfl, HA, HK1, HB⟩ := hrel
   cases gk with
   | zero => exact absurd HA.out (by simp [cracknelref04_Convex.l0])
   | succ k1 =>
    have H := HA.out
    clear HA
    simp only [cracknelref04_Convex.l0] at H
    by_cases c5 : x3_1 < (l0.length : Int)
    ·rw [if_pos c5] at H
     have c5b0 := decide_eq_true c5
     clear c5
     have HC6 := Aside0.mk H
     clear H
     go_upto_region 6 with (fail)
     go_cut [40] (fun v40 wc => ∃ (kq : Nat) (x40_5 : Bool), v40 = .bool x40_5 ∧ Aside0 (cracknelref04_Convex.j1 kq l0 x3_1 x40_5 = some r) ∧ Aside0 (kq ≤ k1) ∧ Aside0 (Below w.heap.size w wc))
     case first =>
      have H := HC6.out
      clear HC6
      obtain ⟨c7, H⟩ := oi H
      have c7b0 := decide_eq_true c7
      clear c7
      (first | rw [c7b0] | (simp only [i64_w, i32_w]; rw [c7b0]) | skip)
      replace H := Option.bind_eq_some_iff.mp H
      obtain ⟨⟨t103, t104⟩, A80, H⟩ := H
      try dsimp only at H
      have A8 := Aside0.mk A80
      clear A80
      replace H := Option.bind_eq_some_iff.mp H
      obtain ⟨⟨t105, t106⟩, A90, H⟩ := H
      try dsimp only at H
      have A9 := Aside0.mk A90
      clear A90
      replace H := Option.bind_eq_some_iff.mp H
      obtain ⟨t107, A100, H⟩ := H
      try dsimp only at H
      have A10 := Aside0.mk A100
      clear A100
      by_cases c11 : t107 ≤ 0
      ·rw [if_pos c11] at H
       have c11b0 := decide_eq_true c11
       clear c11
       have H' := Aside0.mk H
       clear H
       try go_wp2
       replace HB := Aside0.mk (below_drew1 HB.out)
       have p102 : 0 ≤ (x3_1 : Int) := dt
       have q102 : x3_1 < (l0.length : Int) := dt
       obtain ⟨ad102, e102, hx102_0, hx102_1⟩ := at_T41 HR0.out x3_1 p102 q102
       have hw102_1 := hx102_1
       have hw102_0 := hx102_0
       cases e102
       replace hx102_0 := hc HB hx102_0
       replace hx102_1 := hc HB hx102_1
       replace p102 := eq_true p102
       replace q102 := eq_true q102
       refine start_ (n := 28) (S := fun w' => w'.cell? (ad102.add ((x3_1).toNat * 2)) = some (.int .i64 ((rd_T41 l0 x3_1).f0)) ∧ w'.cell? ⟨(ad102.add ((x3_1).toNat * 2)).block, (ad102.add ((x3_1).toNat * 2)).off + 1, none⟩ = some (.int .i64 ((rd_T41 l0 x3_1).f1))) (ds := []) #[N,N,N,N,N,N,N,N,N,N,N,N,N,N,N,N,N,N,N,N,N,N,N,N,N,N,N,N] (by kernel_rfl) rfl rfl ⟨(hc HB hw102_0), (hc HB hw102_1)⟩ (fun hHeld => ?_); refine with_tabW cracknelref04_Convex.tab6 cracknelref04_Convex.bits6 (fun HT_ HW_ => ?_)
       generalize wr.drew = w12 at HB hx102_0 hx102_1 hHeld ⊢
       refine pu 0 13 HT_ ?_
       refine pu 1 14 HT_ ?_
       refine pu 2 15 HT_ ?_
       refine pu 4 17 HT_ ?_
       refine pu 5 18 HT_ ?_
       refine pu 7 20 HT_ ?_
       refine pu 8 21 HT_ ?_
       refine pu 9 22 HT_ ?_
       refine tk2 3 16 hHeld HT_ HW_ ?_
       refine one_ (i := 6) (N := some 19) #[T,T,T,T,T,T,T,T,T,T,N,N,N,N,N,N,N,N,N,N,N,N,N,N,N,N,N,N] rfl rfl (on1 HT_) (by decide) (fun K hK => ?_)
       refine goes_ Try.func58 (by kernel_rfl) rfl #[.slice (some ad102) l0.length c0, .int .i64 x3_1] (by rfl) rfl rfl sg ?_
       with_reducible refine (cracknelref04_next.calls _ _ l0 x3_1 t103 t104 _ ?side1 ?side2 A8.out).mono ?_
       (case side1 => exact cs (Kd.C_below HR0.out HB.out))
       (case side2 => exact HC0.out)
       rintro e w13 ⟨rfl, hb⟩
       refine ⟨_, rfl, ?_⟩
       replace HB := bz hb
       (try clear hb)
       refine hK.out _ _ ⟨(hc HB hw102_0), (hc HB hw102_1)⟩ (fun hHeld => ?_)
       clear hK K
       refine nm 19 ?_
       refine one_ (i := 10) (N := some 23) #[T,T,T,T,T,T,T,T,T,T,T,N,N,N,N,N,N,N,N,N,N,N,N,N,N,N,N,N] rfl rfl (on1 HT_) (by decide) (fun K hK => ?_)
       refine goes_ Try.func58 (by kernel_rfl) rfl #[.slice (some ad102) l0.length c0, .int .i64 (wrap64 (x3_1 + 1))] (by rfl) rfl rfl sg ?_
       with_reducible refine (cracknelref04_next.calls _ _ l0 (wrap64 (x3_1 + 1)) t105 t106 _ ?side1 ?side2 A9.out).mono ?_
       (case side1 => exact cs (Kd.C_below HR0.out HB.out))
       (case side2 => exact HC0.out)
       rintro e w14 ⟨rfl, hb⟩
       refine ⟨_, rfl, ?_⟩
       replace HB := bz hb
       (try clear hb)
       refine hK.out _ _ ⟨(hc HB hw102_0), (hc HB hw102_1)⟩ (fun hHeld => ?_)
       clear hK K
       refine nm 23 ?_
       refine one_ (i := 11) (N := some 24) #[T,T,T,T,T,T,T,T,T,T,T,T,N,N,N,N,N,N,N,N,N,N,N,N,N,N,N,N] rfl rfl (on1 HT_) (by decide) (fun K hK => ?_)
       refine goes_ Try.func31 (by kernel_rfl) rfl #[.agg #[.int .i64 ((rd_T41 l0 x3_1).f0), .int .i64 ((rd_T41 l0 x3_1).f1)], .agg #[.int .i64 t103, .int .i64 t104], .agg #[.int .i64 t105, .int .i64 t106]] (by rfl) rfl rfl sg ?_
       with_reducible refine (cracknelref04_Cross.calls ((rd_T41 l0 x3_1).f0) ((rd_T41 l0 x3_1).f1) t103 t104 t105 t106 t107 _ A10.out).mono ?_
       rintro e w15 ⟨rfl, hb⟩
       refine ⟨_, rfl, ?_⟩
       replace HB := bz hb
       (try clear hb)
       refine hK.out _ _ ⟨(hc HB hw102_0), (hc HB hw102_1)⟩ (fun hHeld => ?_)
       clear hK K
       refine nm 24 ?_
       refine pu 12 25 HT_ ?_
       refine pu 13 26 HT_ ?_
       refine pz 14 27 HT_ ?_
       refine pz 15 28 HT_ ?_
       refine pz 16 29 HT_ ?_
       refine pz 17 30 HT_ ?_
       refine pz 18 31 HT_ ?_
       refine pz 19 32 HT_ ?_
       refine pz 20 33 HT_ ?_
       refine pz 21 34 HT_ ?_
       refine pz 22 35 HT_ ?_
       refine pz 23 36 HT_ ?_
       refine pz 24 37 HT_ ?_
       refine pz 25 38 HT_ ?_
       refine pz 26 39 HT_ ?_
       refine pu 27 40 HT_ ?_
       refine done_ (done_of HT_.out (by kernel_rfl)) ?_
       try go_wp2
       go_meet
       case rel => exact ⟨_, (true), sd, H', ⟨by have := HK1.out; first | omega | exact Nat.le_refl _⟩, ⟨bh⟩⟩
      ·rw [if_neg c11] at H
       have c11b0 := decide_eq_false c11
       clear c11
       by_cases c16 : x3_1 > 0
       ·rw [if_pos c16] at H
        have c16b0 := decide_eq_true c16
        clear c16
        obtain ⟨c17, H⟩ := oi H
        have c17b0 := decide_eq_true c17
        have c17b1 : decide (0 < l0.length) = true := decide_eq_true (by omega)
        clear c17
        replace H := Option.bind_eq_some_iff.mp H
        obtain ⟨t110, A180, H⟩ := H
        try dsimp only at H
        have A18 := Aside0.mk A180
        clear A180
        have H' := Aside0.mk H
        clear H
        try go_wp2
        replace HB := Aside0.mk (below_drew1 HB.out)
        have p102 : 0 ≤ (x3_1 : Int) := dt
        have q102 : x3_1 < (l0.length : Int) := dt
        obtain ⟨ad102, e102, hx102_0, hx102_1⟩ := at_T41 HR0.out x3_1 p102 q102
        have hw102_1 := hx102_1
        have hw102_0 := hx102_0
        cases e102
        replace hx102_0 := hc HB hx102_0
        replace hx102_1 := hc HB hx102_1
        replace p102 := eq_true p102
        replace q102 := eq_true q102
        have p108 : 0 ≤ (0 : Int) := (by omega)
        have q108 : 0 < (l0.length : Int) := dt
        obtain ⟨ad108, e108, hx108_0, hx108_1⟩ := at_T41 HR0.out 0 p108 q108
        have hw108_1 := hx108_1
        (try rw [show ((0 : Int)).toNat = 0 from rfl] at hw108_1)
        (try rw [show 0 * 2 = 0 from rfl] at hw108_1)
        (try rw [Addr.add_zero'] at hw108_1)
        have hw108_0 := hx108_0
        (try rw [show ((0 : Int)).toNat = 0 from rfl] at hw108_0)
        (try rw [show 0 * 2 = 0 from rfl] at hw108_0)
        (try rw [Addr.add_zero'] at hw108_0)
        obtain rfl : ad102 = ad108 := (by injection e108)
        have qi108 : (0 < l0.length) = True := eq_true (by omega)
        (try rw [show ((0 : Int)).toNat = 0 from rfl] at hx108_0)
        (try rw [show 0 * 2 = 0 from rfl] at hx108_0)
        (try rw [Addr.add_zero'] at hx108_0)
        (try rw [show ((0 : Int)).toNat = 0 from rfl] at hx108_1)
        (try rw [show 0 * 2 = 0 from rfl] at hx108_1)
        (try rw [Addr.add_zero'] at hx108_1)
        replace hx108_0 := hc HB hx108_0
        replace hx108_1 := hc HB hx108_1
        replace p108 := eq_true p108
        replace q108 := eq_true q108
        have p109 : 0 ≤ (x3_1 : Int) := dt
        have q109 : x3_1 < (l0.length : Int) := dt
        obtain ⟨ad109, e109, hx109_0, hx109_1⟩ := at_T41 HR0.out x3_1 p109 q109
        have hw109_1 := hx109_1
        have hw109_0 := hx109_0
        obtain rfl : ad102 = ad109 := (by injection e109)
        replace hx109_0 := hc HB hx109_0
        replace hx109_1 := hc HB hx109_1
        replace p109 := eq_true p109
        replace q109 := eq_true q109
        refine start_ (n := 28) (S := fun w' => w'.cell? (ad102.add ((x3_1).toNat * 2)) = some (.int .i64 ((rd_T41 l0 x3_1).f0)) ∧ w'.cell? ⟨(ad102.add ((x3_1).toNat * 2)).block, (ad102.add ((x3_1).toNat * 2)).off + 1, none⟩ = some (.int .i64 ((rd_T41 l0 x3_1).f1)) ∧ w'.cell? ad102 = some (.int .i64 ((rd_T41 l0 0).f0)) ∧ w'.cell? ⟨ad102.block, ad102.off + 1, none⟩ = some (.int .i64 ((rd_T41 l0 0).f1)) ∧ w'.cell? (ad102.add ((x3_1).toNat * 2)) = some (.int .i64 ((rd_T41 l0 x3_1).f0)) ∧ w'.cell? ⟨(ad102.add ((x3_1).toNat * 2)).block, (ad102.add ((x3_1).toNat * 2)).off + 1, none⟩ = some (.int .i64 ((rd_T41 l0 x3_1).f1))) (ds := []) #[N,N,N,N,N,N,N,N,N,N,N,N,N,N,N,N,N,N,N,N,N,N,N,N,N,N,N,N] (by kernel_rfl) rfl rfl ⟨(hc HB hw102_0), (hc HB hw102_1), (hc HB hw108_0), (hc HB hw108_1), (hc HB hw109_0), (hc HB hw109_1)⟩ (fun hHeld => ?_); refine with_tabW cracknelref04_Convex.tab6 cracknelref04_Convex.bits6 (fun HT_ HW_ => ?_)
        generalize wr.drew = w19 at HB hx102_0 hx102_1 hx108_0 hx108_1 hx109_0 hx109_1 hHeld ⊢
        refine pu 0 13 HT_ ?_
        refine pu 1 14 HT_ ?_
        refine pu 2 15 HT_ ?_
        refine pu 4 17 HT_ ?_
        refine pu 5 18 HT_ ?_
        refine pu 7 20 HT_ ?_
        refine pu 8 21 HT_ ?_
        refine pu 9 22 HT_ ?_
        refine tk6 3 16 hHeld HT_ HW_ ?_
        refine one_ (i := 6) (N := some 19) #[T,T,T,T,T,T,T,T,T,T,N,N,N,N,N,N,N,N,N,N,N,N,N,N,N,N,N,N] rfl rfl (on1 HT_) (by decide) (fun K hK => ?_)
        refine goes_ Try.func58 (by kernel_rfl) rfl #[.slice (some ad102) l0.length c0, .int .i64 x3_1] (by rfl) rfl rfl sg ?_
        with_reducible refine (cracknelref04_next.calls _ _ l0 x3_1 t103 t104 _ ?side1 ?side2 A8.out).mono ?_
        (case side1 => exact cs (Kd.C_below HR0.out HB.out))
        (case side2 => exact HC0.out)
        rintro e w20 ⟨rfl, hb⟩
        refine ⟨_, rfl, ?_⟩
        replace HB := bz hb
        (try clear hb)
        refine hK.out _ _ ⟨(hc HB hw102_0), (hc HB hw102_1), (hc HB hw108_0), (hc HB hw108_1), (hc HB hw109_0), (hc HB hw109_1)⟩ (fun hHeld => ?_)
        clear hK K
        refine nm 19 ?_
        refine one_ (i := 10) (N := some 23) #[T,T,T,T,T,T,T,T,T,T,T,N,N,N,N,N,N,N,N,N,N,N,N,N,N,N,N,N] rfl rfl (on1 HT_) (by decide) (fun K hK => ?_)
        refine goes_ Try.func58 (by kernel_rfl) rfl #[.slice (some ad102) l0.length c0, .int .i64 (wrap64 (x3_1 + 1))] (by rfl) rfl rfl sg ?_
        with_reducible refine (cracknelref04_next.calls _ _ l0 (wrap64 (x3_1 + 1)) t105 t106 _ ?side1 ?side2 A9.out).mono ?_
        (case side1 => exact cs (Kd.C_below HR0.out HB.out))
        (case side2 => exact HC0.out)
        rintro e w21 ⟨rfl, hb⟩
        refine ⟨_, rfl, ?_⟩
        replace HB := bz hb
        (try clear hb)
        refine hK.out _ _ ⟨(hc HB hw102_0), (hc HB hw102_1), (hc HB hw108_0), (hc HB hw108_1), (hc HB hw109_0), (hc HB hw109_1)⟩ (fun hHeld => ?_)
        clear hK K
        refine nm 23 ?_
        refine one_ (i := 11) (N := some 24) #[T,T,T,T,T,T,T,T,T,T,T,T,N,N,N,N,N,N,N,N,N,N,N,N,N,N,N,N] rfl rfl (on1 HT_) (by decide) (fun K hK => ?_)
        refine goes_ Try.func31 (by kernel_rfl) rfl #[.agg #[.int .i64 ((rd_T41 l0 x3_1).f0), .int .i64 ((rd_T41 l0 x3_1).f1)], .agg #[.int .i64 t103, .int .i64 t104], .agg #[.int .i64 t105, .int .i64 t106]] (by rfl) rfl rfl sg ?_
        with_reducible refine (cracknelref04_Cross.calls ((rd_T41 l0 x3_1).f0) ((rd_T41 l0 x3_1).f1) t103 t104 t105 t106 t107 _ A10.out).mono ?_
        rintro e w22 ⟨rfl, hb⟩
        refine ⟨_, rfl, ?_⟩
        replace HB := bz hb
        (try clear hb)
        refine hK.out _ _ ⟨(hc HB hw102_0), (hc HB hw102_1), (hc HB hw108_0), (hc HB hw108_1), (hc HB hw109_0), (hc HB hw109_1)⟩ (fun hHeld => ?_)
        clear hK K
        refine nm 24 ?_
        refine pu 12 25 HT_ ?_
        refine pu 13 26 HT_ ?_
        refine pu 14 27 HT_ ?_
        refine pu 15 28 HT_ ?_
        refine pu 16 29 HT_ ?_
        refine pu 17 30 HT_ ?_
        refine pu 18 31 HT_ ?_
        refine pu 20 33 HT_ ?_
        refine pu 21 34 HT_ ?_
        refine pu 22 35 HT_ ?_
        refine tk6 19 32 hHeld HT_ HW_ ?_
        refine tk6 23 36 hHeld HT_ HW_ ?_
        refine one_ (i := 24) (N := some 37) #[T,T,T,T,T,T,T,T,T,T,T,T,T,T,T,T,T,T,T,T,T,T,T,T,T,N,N,N] rfl rfl (on1 HT_) (by decide) (fun K hK => ?_)
        refine goes_ Try.func103 (by kernel_rfl) rfl #[.agg #[.int .i64 ((rd_T41 l0 0).f0), .int .i64 ((rd_T41 l0 0).f1)], .agg #[.int .i64 ((rd_T41 l0 x3_1).f0), .int .i64 ((rd_T41 l0 x3_1).f1)]] (by rfl) rfl rfl sg ?_
        with_reducible refine (cracknelref04_first.calls ((rd_T41 l0 0).f0) ((rd_T41 l0 0).f1) ((rd_T41 l0 x3_1).f0) ((rd_T41 l0 x3_1).f1) t110 _ A18.out).mono ?_
        rintro e w23 ⟨rfl, hb⟩
        refine ⟨_, rfl, ?_⟩
        replace HB := bz hb
        (try clear hb)
        refine hK.out _ _ ⟨(hc HB hw102_0), (hc HB hw102_1), (hc HB hw108_0), (hc HB hw108_1), (hc HB hw109_0), (hc HB hw109_1)⟩ (fun hHeld => ?_)
        clear hK K
        refine nm 37 ?_
        refine pu 25 38 HT_ ?_
        refine pu 26 39 HT_ ?_
        refine pu 27 40 HT_ ?_
        refine done_ (done_of HT_.out (by kernel_rfl)) ?_
        try go_wp2
        go_meet
        case rel => exact ⟨_, (!t110), sd, H', ⟨by have := HK1.out; first | omega | exact Nat.le_refl _⟩, ⟨bh⟩⟩
       ·rw [if_neg c16] at H
        have c16b0 := decide_eq_false c16
        clear c16
        have H' := Aside0.mk H
        clear H
        try go_wp2
        replace HB := Aside0.mk (below_drew1 HB.out)
        have p102 : 0 ≤ (x3_1 : Int) := dt
        have q102 : x3_1 < (l0.length : Int) := dt
        obtain ⟨ad102, e102, hx102_0, hx102_1⟩ := at_T41 HR0.out x3_1 p102 q102
        have hw102_1 := hx102_1
        have hw102_0 := hx102_0
        cases e102
        replace hx102_0 := hc HB hx102_0
        replace hx102_1 := hc HB hx102_1
        replace p102 := eq_true p102
        replace q102 := eq_true q102
        refine start_ (n := 28) (S := fun w' => w'.cell? (ad102.add ((x3_1).toNat * 2)) = some (.int .i64 ((rd_T41 l0 x3_1).f0)) ∧ w'.cell? ⟨(ad102.add ((x3_1).toNat * 2)).block, (ad102.add ((x3_1).toNat * 2)).off + 1, none⟩ = some (.int .i64 ((rd_T41 l0 x3_1).f1))) (ds := []) #[N,N,N,N,N,N,N,N,N,N,N,N,N,N,N,N,N,N,N,N,N,N,N,N,N,N,N,N] (by kernel_rfl) rfl rfl ⟨(hc HB hw102_0), (hc HB hw102_1)⟩ (fun hHeld => ?_); refine with_tabW cracknelref04_Convex.tab6 cracknelref04_Convex.bits6 (fun HT_ HW_ => ?_)
        generalize wr.drew = w24 at HB hx102_0 hx102_1 hHeld ⊢
        refine pu 0 13 HT_ ?_
        refine pu 1 14 HT_ ?_
        refine pu 2 15 HT_ ?_
        refine pu 4 17 HT_ ?_
        refine pu 5 18 HT_ ?_
        refine pu 7 20 HT_ ?_
        refine pu 8 21 HT_ ?_
        refine pu 9 22 HT_ ?_
        refine tk2 3 16 hHeld HT_ HW_ ?_
        refine one_ (i := 6) (N := some 19) #[T,T,T,T,T,T,T,T,T,T,N,N,N,N,N,N,N,N,N,N,N,N,N,N,N,N,N,N] rfl rfl (on1 HT_) (by decide) (fun K hK => ?_)
        refine goes_ Try.func58 (by kernel_rfl) rfl #[.slice (some ad102) l0.length c0, .int .i64 x3_1] (by rfl) rfl rfl sg ?_
        with_reducible refine (cracknelref04_next.calls _ _ l0 x3_1 t103 t104 _ ?side1 ?side2 A8.out).mono ?_
        (case side1 => exact cs (Kd.C_below HR0.out HB.out))
        (case side2 => exact HC0.out)
        rintro e w25 ⟨rfl, hb⟩
        refine ⟨_, rfl, ?_⟩
        replace HB := bz hb
        (try clear hb)
        refine hK.out _ _ ⟨(hc HB hw102_0), (hc HB hw102_1)⟩ (fun hHeld => ?_)
        clear hK K
        refine nm 19 ?_
        refine one_ (i := 10) (N := some 23) #[T,T,T,T,T,T,T,T,T,T,T,N,N,N,N,N,N,N,N,N,N,N,N,N,N,N,N,N] rfl rfl (on1 HT_) (by decide) (fun K hK => ?_)
        refine goes_ Try.func58 (by kernel_rfl) rfl #[.slice (some ad102) l0.length c0, .int .i64 (wrap64 (x3_1 + 1))] (by rfl) rfl rfl sg ?_
        with_reducible refine (cracknelref04_next.calls _ _ l0 (wrap64 (x3_1 + 1)) t105 t106 _ ?side1 ?side2 A9.out).mono ?_
        (case side1 => exact cs (Kd.C_below HR0.out HB.out))
        (case side2 => exact HC0.out)
        rintro e w26 ⟨rfl, hb⟩
        refine ⟨_, rfl, ?_⟩
        replace HB := bz hb
        (try clear hb)
        refine hK.out _ _ ⟨(hc HB hw102_0), (hc HB hw102_1)⟩ (fun hHeld => ?_)
        clear hK K
        refine nm 23 ?_
        refine one_ (i := 11) (N := some 24) #[T,T,T,T,T,T,T,T,T,T,T,T,N,N,N,N,N,N,N,N,N,N,N,N,N,N,N,N] rfl rfl (on1 HT_) (by decide) (fun K hK => ?_)
        refine goes_ Try.func31 (by kernel_rfl) rfl #[.agg #[.int .i64 ((rd_T41 l0 x3_1).f0), .int .i64 ((rd_T41 l0 x3_1).f1)], .agg #[.int .i64 t103, .int .i64 t104], .agg #[.int .i64 t105, .int .i64 t106]] (by rfl) rfl rfl sg ?_
        with_reducible refine (cracknelref04_Cross.calls ((rd_T41 l0 x3_1).f0) ((rd_T41 l0 x3_1).f1) t103 t104 t105 t106 t107 _ A10.out).mono ?_
        rintro e w27 ⟨rfl, hb⟩
        refine ⟨_, rfl, ?_⟩
        replace HB := bz hb
        (try clear hb)
        refine hK.out _ _ ⟨(hc HB hw102_0), (hc HB hw102_1)⟩ (fun hHeld => ?_)
        clear hK K
        refine nm 24 ?_
        refine pu 12 25 HT_ ?_
        refine pu 13 26 HT_ ?_
        refine pu 14 27 HT_ ?_
        refine pu 15 28 HT_ ?_
        refine pu 16 29 HT_ ?_
        refine pz 17 30 HT_ ?_
        refine pz 18 31 HT_ ?_
        refine pz 19 32 HT_ ?_
        refine pz 20 33 HT_ ?_
        refine pz 21 34 HT_ ?_
        refine pz 22 35 HT_ ?_
        refine pz 23 36 HT_ ?_
        refine pz 24 37 HT_ ?_
        refine pz 25 38 HT_ ?_
        refine pu 26 39 HT_ ?_
        refine pu 27 40 HT_ ?_
        refine done_ (done_of HT_.out (by kernel_rfl)) ?_
        try go_wp2
        go_meet
        case rel => exact ⟨_, (false), sd, H', ⟨by have := HK1.out; first | omega | exact Nat.le_refl _⟩, ⟨bh⟩⟩
     case rest =>
      clear HC6
      skip
      obtain ⟨kq, x40_5, rfl, HA, HJ5, HB⟩ := hcut
      cases kq with
      | zero => exact absurd HA.out (by simp [cracknelref04_Convex.j1])
      | succ kj5 =>
       have H := HA.out
       clear HA
       simp only [cracknelref04_Convex.j1] at H
       by_cases c28 : x40_5 = true
       ·subst c28
        rw [if_pos rfl] at H
        obtain rfl := Option.some.inj H
        go_wp2
        go_ret
        exact ⟨by exact er, bh⟩
       ·replace c28 := Bool.eq_false_iff.mpr c28
        subst c28
        rw [if_neg (show ¬ (false = true) by decide)] at H
        have H' := Aside0.mk H
        clear H
        go_wp2
        go_roundg kj5
        case measure => have := HK1.out; have := HJ5.out; omega
        case rel => exact ⟨(wrap64 (x3_1 + 1)), sd, H', ⟨by have := HK1.out; have := HJ5.out; omega⟩, ⟨bh⟩⟩
    ·rw [if_neg c5] at H
     have c5b0 := decide_eq_false c5
     clear c5
     obtain rfl := Option.some.inj H
     go_wp2
     go_ret
     exact ⟨by exact er, bh⟩
 ·replace c3 := Bool.eq_false_iff.mpr c3
  subst c3
  rw [if_neg (show ¬ (false = true) by decide)] at H
  obtain rfl := Option.some.inj H
  go_enter Try.func48, Try.ntmps48
  go_wp2_with (first | ((with_reducible refine gc 27 rfl ?_); refine goesL_ (some 5) rfl rfl Try.func27 (by kernel_rfl) rfl #[.slice A0 l0.length c0] rfl sg ?_; (with_reducible refine (cracknelref04_Simple.calls k _ _ l0 false _ ?side1 ?side2 A2.out).mono ?_); (case side1 => exact cs HR0.out); (case side2 => exact HC0.out); rintro e w29 ⟨rfl, hb⟩; refine ⟨_, rfl, ?_⟩; replace HB := bz hb; (try clear hb)))
  go_ret
  exact ⟨by exact er, bh⟩
/-! ### cracknellaw04_convex: function 15 -/
def cracknellaw04_convex.f (k : Nat) (l0 : List (S41)) : Option (Int) := (cracknelref04_Polygon.f k l0).bind fun t101 => (if t101 = true then ((cracknelref04_Convex.f k l0).bind fun t102 => (if t102 = true then (some 0) else (some 2))) else (some 1))
set_option maxHeartbeats 8000000 in
set_option maxRecDepth 100000 in
theorem cracknellaw04_convex.calls (k : Nat) (A0 : Option Addr) (c0 : Nat) (l0 : List (S41)) (r : Int) (w : World) (hr0 : Kd.C k41 w A0 l0.length l0) (hc0 : l0.length ≤ c0) (h : cracknellaw04_convex.f k l0 = some r) :
  Calls Try.prog 15 #[.slice A0 l0.length c0] w fun e w' => e = .returned (.int .i64 r) ∧ Below w.heap.size w w' := by
 have HR0 := Aside0.mk hr0
 have HC0 := Aside0.mk hc0
 clear hr0 hc0
 have HB := Aside0.mk (Below.refl w.heap.size w)
 have H : ((cracknelref04_Polygon.f k l0).bind fun t101 => (if t101 = true then ((cracknelref04_Convex.f k l0).bind fun t102 => (if t102 = true then (some 0) else (some 2))) else (some 1))) = some r := h
 clear h
 replace H := Option.bind_eq_some_iff.mp H
 obtain ⟨t101, A20, H⟩ := H
 try dsimp only at H
 have A2 := Aside0.mk A20
 clear A20
 by_cases c3 : t101 = true
 ·subst c3
  rw [if_pos rfl] at H
  replace H := Option.bind_eq_some_iff.mp H
  obtain ⟨t102, A40, H⟩ := H
  try dsimp only at H
  have A4 := Aside0.mk A40
  clear A40
  by_cases c5 : t102 = true
  ·subst c5
   rw [if_pos rfl] at H
   obtain rfl := Option.some.inj H
   go_enter Try.func15, Try.ntmps15
   go_wp2_with (first | ((with_reducible refine gc 39 rfl ?_); refine goesL_ (some 4) rfl rfl Try.func39 (by kernel_rfl) rfl #[.slice A0 l0.length c0] rfl sg ?_; (with_reducible refine (cracknelref04_Polygon.calls k _ _ l0 true _ ?side1 ?side2 A2.out).mono ?_); (case side1 => exact cs HR0.out); (case side2 => exact HC0.out); rintro e w6 ⟨rfl, hb⟩; refine ⟨_, rfl, ?_⟩; replace HB := bz hb; (try clear hb)) | ((with_reducible refine gc 48 rfl ?_); refine goesL_ (some 7) rfl rfl Try.func48 (by kernel_rfl) rfl #[.slice A0 l0.length c0] rfl sg ?_; (with_reducible refine (cracknelref04_Convex.calls k _ _ l0 true _ ?side1 ?side2 A4.out).mono ?_); (case side1 => exact cs (Kd.C_below HR0.out HB.out)); (case side2 => exact HC0.out); rintro e w7 ⟨rfl, hb⟩; refine ⟨_, rfl, ?_⟩; replace HB := bz hb; (try clear hb)))
   go_ret
   exact ⟨by exact er, bh⟩
  ·replace c5 := Bool.eq_false_iff.mpr c5
   subst c5
   rw [if_neg (show ¬ (false = true) by decide)] at H
   obtain rfl := Option.some.inj H
   go_enter Try.func15, Try.ntmps15
   go_wp2_with (first | ((with_reducible refine gc 39 rfl ?_); refine goesL_ (some 4) rfl rfl Try.func39 (by kernel_rfl) rfl #[.slice A0 l0.length c0] rfl sg ?_; (with_reducible refine (cracknelref04_Polygon.calls k _ _ l0 true _ ?side1 ?side2 A2.out).mono ?_); (case side1 => exact cs HR0.out); (case side2 => exact HC0.out); rintro e w8 ⟨rfl, hb⟩; refine ⟨_, rfl, ?_⟩; replace HB := bz hb; (try clear hb)) | ((with_reducible refine gc 48 rfl ?_); refine goesL_ (some 7) rfl rfl Try.func48 (by kernel_rfl) rfl #[.slice A0 l0.length c0] rfl sg ?_; (with_reducible refine (cracknelref04_Convex.calls k _ _ l0 false _ ?side1 ?side2 A4.out).mono ?_); (case side1 => exact cs (Kd.C_below HR0.out HB.out)); (case side2 => exact HC0.out); rintro e w9 ⟨rfl, hb⟩; refine ⟨_, rfl, ?_⟩; replace HB := bz hb; (try clear hb)))
   go_ret
   exact ⟨by exact er, bh⟩
 ·replace c3 := Bool.eq_false_iff.mpr c3
  subst c3
  rw [if_neg (show ¬ (false = true) by decide)] at H
  obtain rfl := Option.some.inj H
  go_enter Try.func15, Try.ntmps15
  go_wp2_with (first | ((with_reducible refine gc 39 rfl ?_); refine goesL_ (some 4) rfl rfl Try.func39 (by kernel_rfl) rfl #[.slice A0 l0.length c0] rfl sg ?_; (with_reducible refine (cracknelref04_Polygon.calls k _ _ l0 false _ ?side1 ?side2 A2.out).mono ?_); (case side1 => exact cs HR0.out); (case side2 => exact HC0.out); rintro e w10 ⟨rfl, hb⟩; refine ⟨_, rfl, ?_⟩; replace HB := bz hb; (try clear hb)))
  go_ret
  exact ⟨by exact er, bh⟩
theorem eqA48 (d : Nat) (w : World) (x0 y0 : Int) (x1 y1 : Int) (x2 y2 : Int) :
  (Op.equalIn (d + 3) 48 (.agg #[.int .i64 x0, .int .i64 x1, .int .i64 x2]) (.agg #[.int .i64 y0, .int .i64 y1, .int .i64 y2])).run Try.prog w = .ok (x0 == y0 && ((x1 == y1 && (x2 == y2)))) w := by
 refine eqA_of Try.underlying48 (by kernel_rfl) ?_
 refine eqf_cons (by rfl) (by go_simp; rfl) (by go_simp; rfl) (by go_simp) ?_
 exact eqf_last (by rfl) (by go_simp) (by go_simp) (eqA41 (d + 0) w _ _ _ _)
attribute [local go_sem high] eqA48
/-! ### cracknellaw04_placed: function 16 -/
def cracknellaw04_placed.l0 : Nat → List (S48) → List (S48) → Int → Option (Bool)
 | 0, _, _, _ => none
 | k + 1, x0, x1, x5 => if x5 < (x0.length : Int) then (if 0 ≤ x5 then (if x5 < (x1.length : Int) then (if (!(((rd_T48 x0 x5).f0) == ((rd_T48 x1 x5).f0)) || ((!(((rd_T48 x0 x5).f1.f0) == ((rd_T48 x1 x5).f1.f0)) || (!(((rd_T48 x0 x5).f1.f1) == ((rd_T48 x1 x5).f1.f1)))))) = true then (some false) else (cracknellaw04_placed.l0 k x0 x1 (wrap64 (x5 + 1)))) else (none)) else (none)) else (some true)
def cracknellaw04_placed.f (k : Nat) (l0 : List (S48)) (l1 : List (S48)) : Option (Bool) := if (l0.length : Int) = (l1.length : Int) then (cracknellaw04_placed.l0 k l0 l1 0) else (some false)
set_option maxHeartbeats 8000000 in
set_option maxRecDepth 100000 in
theorem cracknellaw04_placed.calls (k : Nat) (A0 : Option Addr) (c0 : Nat) (l0 : List (S48)) (A1 : Option Addr) (c1 : Nat) (l1 : List (S48)) (r : Bool) (w : World) (hr0 : Kd.C k48 w A0 l0.length l0) (hc0 : l0.length ≤ c0) (hr1 : Kd.C k48 w A1 l1.length l1) (hc1 : l1.length ≤ c1) (h : cracknellaw04_placed.f k l0 l1 = some r) :
  Calls Try.prog 16 #[.slice A0 l0.length c0, .slice A1 l1.length c1] w fun e w' => e = .returned (.bool r) ∧ Drawn0 w w' := by
 have hu48 := Try.underlying48
 have HR0 := Aside0.mk hr0
 have HC0 := Aside0.mk hc0
 clear hr0 hc0
 have HR1 := Aside0.mk hr1
 have HC1 := Aside0.mk hc1
 clear hr1 hc1
 have H : (if (l0.length : Int) = (l1.length : Int) then (cracknellaw04_placed.l0 k l0 l1 0) else (some false)) = some r := h
 clear h
 by_cases c3 : (l0.length : Int) = (l1.length : Int)
 ·rw [if_pos c3] at H
  have c3b0 : ((l0.length : Int) == (l1.length : Int)) = true := beq_iff_eq.mpr c3
  have c3b1 : ((l0.length : Int) != (l1.length : Int)) = false := bne_eq_false_iff_eq.mpr c3
  have c3b2 : (l0.length == l1.length) = true := by first | simpa using c3 | (simp at c3 ⊢; omega)
  clear c3
  have H' := Aside0.mk H
  clear H
  go_enter Try.func16, Try.ntmps16
  go_wp2
  repeat (go_quiet (fail); try go_wp2)
  go_loopg [5] k (fun kq v5 w' => ∃ (x5_1 : Int), v5 = .int .i64 x5_1 ∧ Aside0 (cracknellaw04_placed.l0 kq l0 l1 x5_1 = some r) ∧ Aside0 (kq ≤ k) ∧ Drawn0 w w')
  case atStart => exact ⟨(0), sd, H', ⟨Nat.le_refl _⟩, by repeat (first | exact Drawn0.refl _ | apply Drawn0.step)⟩
  case round =>
   clear H'
   (try clear c1); (try clear c3b0); (try clear c3b1); (try clear c3b2)
   obtain ⟨x5_1, rfl, HA, HK1, ⟨m1, rfl⟩⟩ := hrel
   cases gk with
   | zero => exact absurd HA.out (by simp [cracknellaw04_placed.l0])
   | succ k1 =>
    have H := HA.out
    clear HA
    simp only [cracknellaw04_placed.l0] at H
    by_cases c4 : x5_1 < (l0.length : Int)
    ·rw [if_pos c4] at H
     have c4b0 := decide_eq_true c4
     clear c4
     obtain ⟨c5, H⟩ := oi H
     have c5b0 := decide_eq_true c5
     clear c5
     obtain ⟨c6, H⟩ := oi H
     have c6b0 := decide_eq_true c6
     clear c6
     by_cases c7 : (!(((rd_T48 l0 x5_1).f0) == ((rd_T48 l1 x5_1).f0)) || ((!(((rd_T48 l0 x5_1).f1.f0) == ((rd_T48 l1 x5_1).f1.f0)) || (!(((rd_T48 l0 x5_1).f1.f1) == ((rd_T48 l1 x5_1).f1.f1)))))) = true
     ·rw [if_pos c7] at H
      have c7b0 : (!(((rd_T48 l0 x5_1).f0) == ((rd_T48 l1 x5_1).f0)) || ((!(((rd_T48 l0 x5_1).f1.f0) == ((rd_T48 l1 x5_1).f1.f0)) || (!(((rd_T48 l0 x5_1).f1.f1) == ((rd_T48 l1 x5_1).f1.f1)))))) = true := c7
      clear c7
      obtain rfl := Option.some.inj H
      have p101 : 0 ≤ (x5_1 : Int) := dt
      have q101 : x5_1 < (l0.length : Int) := dt
      obtain ⟨ad101, e101, hx101_0, hx101_1, hx101_2⟩ := at_T48 HR0.out x5_1 p101 q101
      cases e101
      replace p101 := eq_true p101
      replace q101 := eq_true q101
      have p102 : 0 ≤ (x5_1 : Int) := dt
      have q102 : x5_1 < (l1.length : Int) := dt
      obtain ⟨ad102, e102, hx102_0, hx102_1, hx102_2⟩ := at_T48 HR1.out x5_1 p102 q102
      cases e102
      replace p102 := eq_true p102
      replace q102 := eq_true q102
      go_wp2
      repeat (go_quiet (fail); try go_wp2)
      go_ret
      exact ⟨by first | rfl | (simp; done) | (simp [*]; done), by repeat (first | exact Drawn0.refl _ | apply Drawn0.step)⟩
     ·rw [if_neg c7] at H
      have c7b0 : (!(((rd_T48 l0 x5_1).f0) == ((rd_T48 l1 x5_1).f0)) || ((!(((rd_T48 l0 x5_1).f1.f0) == ((rd_T48 l1 x5_1).f1.f0)) || (!(((rd_T48 l0 x5_1).f1.f1) == ((rd_T48 l1 x5_1).f1.f1)))))) = false := by simpa using c7
      clear c7
      have H' := Aside0.mk H
      clear H
      have p101 : 0 ≤ (x5_1 : Int) := dt
      have q101 : x5_1 < (l0.length : Int) := dt
      obtain ⟨ad101, e101, hx101_0, hx101_1, hx101_2⟩ := at_T48 HR0.out x5_1 p101 q101
      cases e101
      replace p101 := eq_true p101
      replace q101 := eq_true q101
      have p102 : 0 ≤ (x5_1 : Int) := dt
      have q102 : x5_1 < (l1.length : Int) := dt
      obtain ⟨ad102, e102, hx102_0, hx102_1, hx102_2⟩ := at_T48 HR1.out x5_1 p102 q102
      cases e102
      replace p102 := eq_true p102
      replace q102 := eq_true q102
      go_wp2
      repeat (go_quiet (fail); try go_wp2)
      go_roundg k1
      case measure => have := HK1.out; omega
      case rel => exact ⟨(wrap64 (x5_1 + 1)), sd, H', ⟨by have := HK1.out; omega⟩, by repeat (first | exact Drawn0.refl _ | apply Drawn0.step)⟩
    ·rw [if_neg c4] at H
     have c4b0 := decide_eq_false c4
     clear c4
     obtain rfl := Option.some.inj H
     go_wp2
     repeat (go_quiet (fail); try go_wp2)
     go_ret
     exact ⟨by first | rfl | (simp; done) | (simp [*]; done), by repeat (first | exact Drawn0.refl _ | apply Drawn0.step)⟩
 ·rw [if_neg c3] at H
  have c3b0 : ((l0.length : Int) == (l1.length : Int)) = false := beq_eq_false_iff_ne.mpr c3
  have c3b1 : ((l0.length : Int) != (l1.length : Int)) = true := bne_iff_ne.mpr c3
  have c3b2 : (l0.length == l1.length) = false := by first | simpa using c3 | (simp at c3 ⊢; omega)
  obtain rfl := Option.some.inj H
  go_enter Try.func16, Try.ntmps16
  go_wp2
  repeat (go_quiet (fail); try go_wp2)
  go_ret
  exact ⟨by first | rfl | (simp; done) | (simp [*]; done), by repeat (first | exact Drawn0.refl _ | apply Drawn0.step)⟩
/-! ### cracknelref04_parts: function 52 -/
mutual
def cracknelref04_parts.l0 : Nat → List (S41) → List (S41) → Int → Option (Bool)
 | 0, _, _, _ => none
 | k + 1, x0, x1, x5 => if x5 < (x0.length : Int) then (cracknelref04_parts.l1 k x0 x1 x5 true 0) else (some false)
def cracknelref04_parts.l1 : Nat → List (S41) → List (S41) → Int → Bool → Int → Option (Bool)
 | 0, _, _, _, _, _ => none
 | k + 1, x0, x1, x5, x6, x7 => if x7 < (x1.length : Int) then (if x6 = true then (if 0 ≤ x5 then (if x5 < (x0.length : Int) then ((cracknelref04_next.f x0 x5).bind fun bt102 => (if 0 ≤ x7 then ((cracknelref04_Cross.f ((rd_T41 x0 x5).f0) ((rd_T41 x0 x5).f1) bt102.1 bt102.2 ((rd_T41 x1 x7).f0) ((rd_T41 x1 x7).f1)).bind fun t105 => (cracknelref04_parts.l1 k x0 x1 x5 (decide (t105 ≤ 0)) (wrap64 (x7 + 1)))) else (none))) else (none)) else (none)) else (cracknelref04_parts.l1 k x0 x1 x5 false (wrap64 (x7 + 1)))) else (if x6 = true then (some true) else (cracknelref04_parts.l0 k x0 x1 (wrap64 (x5 + 1))))
end
def cracknelref04_parts.f (k : Nat) (l0 : List (S41)) (l1 : List (S41)) : Option (Bool) := cracknelref04_parts.l0 k l0 l1 0
def cracknelref04_parts.T8 : Bool × List (List Nat × List Nat) := (true, [([], []), ([0], [0]), ([1], [1]), ([1], [1]), ([2, 3, 1], [1, 2, 3]), ([4, 1], [1, 4]), ([1], [1]), ([1], [1]), ([6, 7, 1, 1], [1, 6, 7]), ([1], [1]), ([1], [1]), ([9, 10, 1], [1, 9, 10]), ([11, 1], [1, 11]), ([5, 8, 12, 8, 1], [1, 5, 8, 12]), ([13, 1], [1, 13]), ([1, 14], [1, 14]), ([15, 13, 0, 1, 2, 3, 4, 5, 6, 7, 8, 9, 10, 11, 12, 13, 14, 15], [0, 15])])
def cracknelref04_parts.B8 : List Nat := [0, 1, 3, 3, 15, 31, 3, 3, 195, 3, 3, 1539, 3587, 8191, 16383, 32767, 65535]
theorem cracknelref04_parts.tab8 : rtab .any (opsOf Try.f52 8) = cracknelref04_parts.T8 := by kernel_rfl
theorem cracknelref04_parts.bits8 : waitsOk cracknelref04_parts.T8.2 cracknelref04_parts.B8 = true := by kernel_rfl
set_option maxHeartbeats 8000000 in
set_option maxRecDepth 100000 in
theorem cracknelref04_parts.calls (k : Nat) (A0 : Option Addr) (c0 : Nat) (l0 : List (S41)) (A1 : Option Addr) (c1 : Nat) (l1 : List (S41)) (r : Bool) (w : World) (hr0 : Kd.C k41 w A0 l0.length l0) (hc0 : l0.length ≤ c0) (hr1 : Kd.C k41 w A1 l1.length l1) (hc1 : l1.length ≤ c1) (h : cracknelref04_parts.f k l0 l1 = some r) :
  Calls Try.prog 52 #[.slice A0 l0.length c0, .slice A1 l1.length c1] w fun e w' => e = .returned (.bool r) ∧ Below w.heap.size w w' := by
 have hu41 := Try.underlying41
 have HR0 := Aside0.mk hr0
 have HC0 := Aside0.mk hc0
 clear hr0 hc0
 have HR1 := Aside0.mk hr1
 have HC1 := Aside0.mk hc1
 clear hr1 hc1
 have HB := Aside0.mk (Below.refl w.heap.size w)
 have H : (cracknelref04_parts.l0 k l0 l1 0) = some r := h
 clear h
 have H' := Aside0.mk H
 clear H
 go_enter Try.func52, Try.ntmps52
 go_wp2
 go_loopg [5] k (fun kq v5 w' => ∃ (x5_1 : Int), v5 = .int .i64 x5_1 ∧ Aside0 (cracknelref04_parts.l0 kq l0 l1 x5_1 = some r) ∧ Aside0 (kq ≤ k) ∧ Aside0 (Below w.heap.size w w'))
 case atStart => exact ⟨(0), sd, H', ⟨Nat.le_refl _⟩, ⟨bh⟩⟩
 case round =>
  clear H'
  (try clear c1)
  obtain ⟨x5_1, rfl, HA, HK1, HB⟩ := hrel
  cases gk with
  | zero => exact absurd HA.out (by simp [cracknelref04_parts.l0])
  | succ k1 =>
   have H := HA.out
   clear HA
   simp only [cracknelref04_parts.l0] at H
   by_cases c3 : x5_1 < (l0.length : Int)
   ·rw [if_pos c3] at H
    have c3b0 := decide_eq_true c3
    clear c3
    have H' := Aside0.mk H
    clear H
    go_wp2
    go_loopg [6, 7] k1 (fun kq v6 v7 w' => ∃ (x6_2 : Bool) (x7_2 : Int), v6 = .bool x6_2 ∧ v7 = .int .i64 x7_2 ∧ Aside0 (cracknelref04_parts.l1 kq l0 l1 x5_1 x6_2 x7_2 = some r) ∧ Aside0 (kq ≤ k1) ∧ Aside0 (Below w.heap.size w w'))
    case atStart => exact ⟨(true), (0), sd, sd, H', ⟨Nat.le_refl _⟩, ⟨bh⟩⟩
    case round =>
     clear H'
     (try clear c3b0)
     obtain ⟨x6_2, x7_2, rfl, rfl, HA, HK2, HB⟩ := hrel
     cases gk with
     | zero => exact absurd HA.out (by simp [cracknelref04_parts.l1])
     | succ k2 =>
      have H := HA.out
      clear HA
      simp only [cracknelref04_parts.l1] at H
      by_cases c4 : x7_2 < (l1.length : Int)
      ·rw [if_pos c4] at H
       have c4b0 := decide_eq_true c4
       clear c4
       by_cases c5 : x6_2 = true
       ·subst c5
        rw [if_pos rfl] at H
        obtain ⟨c6, H⟩ := oi H
        have c6b0 := decide_eq_true c6
        clear c6
        obtain ⟨c7, H⟩ := oi H
        have c7b0 := decide_eq_true c7
        clear c7
        replace H := Option.bind_eq_some_iff.mp H
        obtain ⟨⟨t102, t103⟩, A80, H⟩ := H
        try dsimp only at H
        have A8 := Aside0.mk A80
        clear A80
        obtain ⟨c9, H⟩ := oi H
        have c9b0 := decide_eq_true c9
        clear c9
        replace H := Option.bind_eq_some_iff.mp H
        obtain ⟨t105, A100, H⟩ := H
        try dsimp only at H
        have A10 := Aside0.mk A100
        clear A100
        have H' := Aside0.mk H
        clear H
        try go_wp2
        replace HB := Aside0.mk (below_drew1 HB.out)
        have p101 : 0 ≤ (x5_1 : Int) := dt
        have q101 : x5_1 < (l0.length : Int) := dt
        obtain ⟨ad101, e101, hx101_0, hx101_1⟩ := at_T41 HR0.out x5_1 p101 q101
        have hw101_1 := hx101_1
        have hw101_0 := hx101_0
        cases e101
        replace hx101_0 := hc HB hx101_0
        replace hx101_1 := hc HB hx101_1
        replace p101 := eq_true p101
        replace q101 := eq_true q101
        have p104 : 0 ≤ (x7_2 : Int) := dt
        have q104 : x7_2 < (l1.length : Int) := dt
        obtain ⟨ad104, e104, hx104_0, hx104_1⟩ := at_T41 HR1.out x7_2 p104 q104
        have hw104_1 := hx104_1
        have hw104_0 := hx104_0
        cases e104
        replace hx104_0 := hc HB hx104_0
        replace hx104_1 := hc HB hx104_1
        replace p104 := eq_true p104
        replace q104 := eq_true q104
        refine start_ (n := 17) (S := fun w' => w'.cell? (ad101.add ((x5_1).toNat * 2)) = some (.int .i64 ((rd_T41 l0 x5_1).f0)) ∧ w'.cell? ⟨(ad101.add ((x5_1).toNat * 2)).block, (ad101.add ((x5_1).toNat * 2)).off + 1, none⟩ = some (.int .i64 ((rd_T41 l0 x5_1).f1)) ∧ w'.cell? (ad104.add ((x7_2).toNat * 2)) = some (.int .i64 ((rd_T41 l1 x7_2).f0)) ∧ w'.cell? ⟨(ad104.add ((x7_2).toNat * 2)).block, (ad104.add ((x7_2).toNat * 2)).off + 1, none⟩ = some (.int .i64 ((rd_T41 l1 x7_2).f1))) (ds := []) #[N,N,N,N,N,N,N,N,N,N,N,N,N,N,N,N,N] (by kernel_rfl) rfl rfl ⟨(hc HB hw101_0), (hc HB hw101_1), (hc HB hw104_0), (hc HB hw104_1)⟩ (fun hHeld => ?_); refine with_tabW cracknelref04_parts.tab8 cracknelref04_parts.bits8 (fun HT_ HW_ => ?_)
        generalize wr.drew = w11 at HB hx101_0 hx101_1 hx104_0 hx104_1 hHeld ⊢
        refine pu 0 20 HT_ ?_
        refine pu 1 21 HT_ ?_
        refine pu 2 22 HT_ ?_
        refine pu 3 23 HT_ ?_
        refine pu 4 24 HT_ ?_
        refine pu 6 26 HT_ ?_
        refine pu 7 27 HT_ ?_
        refine pu 9 29 HT_ ?_
        refine pu 10 30 HT_ ?_
        refine pu 11 31 HT_ ?_
        refine tk4 5 25 hHeld HT_ HW_ ?_
        refine tk4 12 32 hHeld HT_ HW_ ?_
        refine one_ (i := 8) (N := some 28) #[T,T,T,T,T,T,T,T,T,T,T,T,T,N,N,N,N] rfl rfl (on1 HT_) (by decide) (fun K hK => ?_)
        refine goes_ Try.func58 (by kernel_rfl) rfl #[.slice (some ad101) l0.length c0, .int .i64 x5_1] (by rfl) rfl rfl sg ?_
        with_reducible refine (cracknelref04_next.calls _ _ l0 x5_1 t102 t103 _ ?side1 ?side2 A8.out).mono ?_
        (case side1 => exact cs (Kd.C_below HR0.out HB.out))
        (case side2 => exact HC0.out)
        rintro e w12 ⟨rfl, hb⟩
        refine ⟨_, rfl, ?_⟩
        replace HB := bz hb
        (try clear hb)
        refine hK.out _ _ ⟨(hc HB hw101_0), (hc HB hw101_1), (hc HB hw104_0), (hc HB hw104_1)⟩ (fun hHeld => ?_)
        clear hK K
        refine nm 28 ?_
        refine one_ (i := 13) (N := some 33) #[T,T,T,T,T,T,T,T,T,T,T,T,T,T,N,N,N] rfl rfl (on1 HT_) (by decide) (fun K hK => ?_)
        refine goes_ Try.func31 (by kernel_rfl) rfl #[.agg #[.int .i64 ((rd_T41 l0 x5_1).f0), .int .i64 ((rd_T41 l0 x5_1).f1)], .agg #[.int .i64 t102, .int .i64 t103], .agg #[.int .i64 ((rd_T41 l1 x7_2).f0), .int .i64 ((rd_T41 l1 x7_2).f1)]] (by rfl) rfl rfl sg ?_
        with_reducible refine (cracknelref04_Cross.calls ((rd_T41 l0 x5_1).f0) ((rd_T41 l0 x5_1).f1) t102 t103 ((rd_T41 l1 x7_2).f0) ((rd_T41 l1 x7_2).f1) t105 _ A10.out).mono ?_
        rintro e w13 ⟨rfl, hb⟩
        refine ⟨_, rfl, ?_⟩
        replace HB := bz hb
        (try clear hb)
        refine hK.out _ _ ⟨(hc HB hw101_0), (hc HB hw101_1), (hc HB hw104_0), (hc HB hw104_1)⟩ (fun hHeld => ?_)
        clear hK K
        refine nm 33 ?_
        refine pu 14 34 HT_ ?_
        refine pu 15 35 HT_ ?_
        refine pu 16 6 HT_ ?_
        refine done_ (done_of HT_.out (by kernel_rfl)) ?_
        try go_wp2
        go_roundg k2
        case measure => have := HK1.out; have := HK2.out; omega
        case rel => exact ⟨(decide (t105 ≤ 0)), (wrap64 (x7_2 + 1)), sd, sd, H', ⟨by have := HK1.out; have := HK2.out; omega⟩, ⟨bh⟩⟩
       ·replace c5 := Bool.eq_false_iff.mpr c5
        subst c5
        rw [if_neg (show ¬ (false = true) by decide)] at H
        have H' := Aside0.mk H
        clear H
        try go_wp2
        replace HB := Aside0.mk (below_drew1 HB.out)
        refine start_ (n := 17) (S := fun w' => True) (ds := []) #[N,N,N,N,N,N,N,N,N,N,N,N,N,N,N,N,N] (by kernel_rfl) rfl rfl trivial (fun hHeld => ?_); refine with_tabW cracknelref04_parts.tab8 cracknelref04_parts.bits8 (fun HT_ HW_ => ?_)
        generalize wr.drew = w14 at HB hHeld ⊢
        refine pu 0 20 HT_ ?_
        refine pu 1 21 HT_ ?_
        refine pz 2 22 HT_ ?_
        refine pz 3 23 HT_ ?_
        refine pz 4 24 HT_ ?_
        refine pz 5 25 HT_ ?_
        refine pz 6 26 HT_ ?_
        refine pz 7 27 HT_ ?_
        refine pz 8 28 HT_ ?_
        refine pz 9 29 HT_ ?_
        refine pz 10 30 HT_ ?_
        refine pz 11 31 HT_ ?_
        refine pz 12 32 HT_ ?_
        refine pz 13 33 HT_ ?_
        refine pz 14 34 HT_ ?_
        refine pu 15 35 HT_ ?_
        refine pu 16 6 HT_ ?_
        refine done_ (done_of HT_.out (by kernel_rfl)) ?_
        try go_wp2
        go_roundg k2
        case measure => have := HK1.out; have := HK2.out; omega
        case rel => exact ⟨(false), (wrap64 (x7_2 + 1)), sd, sd, H', ⟨by have := HK1.out; have := HK2.out; omega⟩, ⟨bh⟩⟩
      ·rw [if_neg c4] at H
       have c4b0 := decide_eq_false c4
       clear c4
       by_cases c15 : x6_2 = true
       ·subst c15
        rw [if_pos rfl] at H
        obtain rfl := Option.some.inj H
        go_wp2
        go_ret
        exact ⟨by exact er, bh⟩
       ·replace c15 := Bool.eq_false_iff.mpr c15
        subst c15
        rw [if_neg (show ¬ (false = true) by decide)] at H
        have H' := Aside0.mk H
        clear H
        go_wp2
        go_roundg k2
        case measure => have := HK1.out; have := HK2.out; omega
        case rel => exact ⟨(wrap64 (x5_1 + 1)), sd, H', ⟨by have := HK1.out; have := HK2.out; omega⟩, ⟨bh⟩⟩
   ·rw [if_neg c3] at H
    have c3b0 := decide_eq_false c3
    clear c3
    obtain rfl := Option.some.inj H
    go_wp2
    go_ret
    exact ⟨by exact er, bh⟩
/-! ### cracknelref04_Apart: function 22 -/
def cracknelref04_Apart.f (k : Nat) (l0 : List (S41)) (l1 : List (S41)) : Option (Bool) := (cracknelref04_parts.f k l0 l1).bind fun t101 => (if t101 = true then (some true) else ((cracknelref04_parts.f k l1 l0).bind fun t102 => (some t102)))
set_option maxHeartbeats 8000000 in
set_option maxRecDepth 100000 in
theorem cracknelref04_Apart.calls (k : Nat) (A0 : Option Addr) (c0 : Nat) (l0 : List (S41)) (A1 : Option Addr) (c1 : Nat) (l1 : List (S41)) (r : Bool) (w : World) (hr0 : Kd.C k41 w A0 l0.length l0) (hc0 : l0.length ≤ c0) (hr1 : Kd.C k41 w A1 l1.length l1) (hc1 : l1.length ≤ c1) (h : cracknelref04_Apart.f k l0 l1 = some r) :
  Calls Try.prog 22 #[.slice A0 l0.length c0, .slice A1 l1.length c1] w fun e w' => e = .returned (.bool r) ∧ Below w.heap.size w w' := by
 have HR0 := Aside0.mk hr0
 have HC0 := Aside0.mk hc0
 clear hr0 hc0
 have HR1 := Aside0.mk hr1
 have HC1 := Aside0.mk hc1
 clear hr1 hc1
 have HB := Aside0.mk (Below.refl w.heap.size w)
 have H : ((cracknelref04_parts.f k l0 l1).bind fun t101 => (if t101 = true then (some true) else ((cracknelref04_parts.f k l1 l0).bind fun t102 => (some t102)))) = some r := h
 clear h
 replace H := Option.bind_eq_some_iff.mp H
 obtain ⟨t101, A30, H⟩ := H
 try dsimp only at H
 have A3 := Aside0.mk A30
 clear A30
 by_cases c4 : t101 = true
 ·subst c4
  rw [if_pos rfl] at H
  obtain rfl := Option.some.inj H
  go_enter Try.func22, Try.ntmps22
  go_wp2_with (first | ((with_reducible refine gc 52 rfl ?_); refine goesL_ (some 7) rfl rfl Try.func52 (by kernel_rfl) rfl #[.slice A0 l0.length c0, .slice A1 l1.length c1] rfl sg ?_; (with_reducible refine (cracknelref04_parts.calls k _ _ l0 _ _ l1 true _ ?side1 ?side2 ?side3 ?side4 A3.out).mono ?_); (case side1 => exact cs HR0.out); (case side2 => exact HC0.out); (case side3 => exact cs HR1.out); (case side4 => exact HC1.out); rintro e w5 ⟨rfl, hb⟩; refine ⟨_, rfl, ?_⟩; replace HB := bz hb; (try clear hb)))
  go_ret
  exact ⟨by exact er, bh⟩
 ·replace c4 := Bool.eq_false_iff.mpr c4
  subst c4
  rw [if_neg (show ¬ (false = true) by decide)] at H
  replace H := Option.bind_eq_some_iff.mp H
  obtain ⟨t102, A60, H⟩ := H
  try dsimp only at H
  have A6 := Aside0.mk A60
  clear A60
  obtain rfl := Option.some.inj H
  go_enter Try.func22, Try.ntmps22
  go_wp2_with (first | ((with_reducible refine gc 52 rfl ?_); refine goesL_ (some 7) rfl rfl Try.func52 (by kernel_rfl) rfl #[.slice A0 l0.length c0, .slice A1 l1.length c1] rfl sg ?_; (with_reducible refine (cracknelref04_parts.calls k _ _ l0 _ _ l1 false _ ?side1 ?side2 ?side3 ?side4 A3.out).mono ?_); (case side1 => exact cs HR0.out); (case side2 => exact HC0.out); (case side3 => exact cs HR1.out); (case side4 => exact HC1.out); rintro e w7 ⟨rfl, hb⟩; refine ⟨_, rfl, ?_⟩; replace HB := bz hb; (try clear hb)) | (go_at_call 52; (with_reducible refine (cracknelref04_parts.calls k _ _ l1 _ _ l0 t102 _ ?side1 ?side2 ?side3 ?side4 A6.out).mono ?_); (case side1 => exact cs (Kd.C_below HR1.out HB.out)); (case side2 => exact HC1.out); (case side3 => exact cs (Kd.C_below HR0.out HB.out)); (case side4 => exact HC0.out); rintro e w8 ⟨rfl, hb⟩; replace HB := bz hb; (try clear hb)))
  go_ret
  exact ⟨by exact er, bh⟩
/-! ### cracknelref04_Moved: function 20 -/
def cracknelref04_Moved.l0 : Nat → List (S41) → List (S41) → Int → Int → Int → Option ((List (S41)))
 | 0, _, _, _, _, _ => none
 | k + 1, x0, x5, x6, x102000, x102001 => if x6 < (x0.length : Int) then (if 0 ≤ x6 then (if x5.length < 8796093022208 then (cracknelref04_Moved.l0 k x0 (x5 ++ [(⟨wrap64 (((rd_T41 x0 x6).f0) + x102000), wrap64 (((rd_T41 x0 x6).f1) + x102001)⟩ : S41)]) (wrap64 (x6 + 1)) x102000 x102001) else (none)) else (none)) else (some x5)
def cracknelref04_Moved.f (k : Nat) (l0 : List (S41)) (a1_0 : Int) (a1_1 : Int) : Option ((List (S41))) := cracknelref04_Moved.l0 k l0 (([] : List (S41))) 0 a1_0 a1_1
def cracknelref04_Moved.T5 : Bool × List (List Nat × List Nat) := (true, [([], []), ([], []), ([], []), ([1, 2], [1, 2]), ([3], [3]), ([4], [4]), ([], []), ([6], [6]), ([5, 7], [5, 7]), ([], []), ([], []), ([9, 10], [9, 10]), ([11], [11]), ([12], [12]), ([], []), ([14], [14]), ([13, 15], [13, 15]), ([8, 16], [8, 16]), ([17], [17]), ([0, 18], [0, 18]), ([19, 19, 0, 1, 2, 3, 4, 5, 6, 7, 8, 9, 10, 11, 12, 13, 14, 15, 16, 17, 18, 19], [0, 19])])
def cracknelref04_Moved.B5 : List Nat := [0, 0, 0, 6, 14, 30, 0, 64, 254, 0, 0, 1536, 3584, 7680, 0, 16384, 65024, 131070, 262142, 524287, 1048575]
theorem cracknelref04_Moved.tab5 : rtab .any (opsOf Try.f20 5) = cracknelref04_Moved.T5 := by kernel_rfl
theorem cracknelref04_Moved.bits5 : waitsOk cracknelref04_Moved.T5.2 cracknelref04_Moved.B5 = true := by kernel_rfl
set_option maxHeartbeats 8000000 in
set_option maxRecDepth 100000 in
theorem cracknelref04_Moved.calls (k : Nat) (A0 : Option Addr) (c0 : Nat) (l0 : List (S41)) (a1_0 : Int) (a1_1 : Int) (r : List (S41)) (w : World) (hr0 : Kd.C k41 w A0 l0.length l0) (hc0 : l0.length ≤ c0) (h : cracknelref04_Moved.f k l0 a1_0 a1_1 = some r) :
  Calls Try.prog 20 #[.slice A0 l0.length c0, .agg #[.int .i64 a1_0, .int .i64 a1_1]] w fun e w' => ∃ v0_ : Value, e = .returned (v0_) ∧ Kd.R k41 41 w' w.heap.size (fun _ => True) v0_ r ∧ Below w.heap.size w w' := by
 have hu41 := Try.underlying41
 have HR0 := Aside0.mk hr0
 have HC0 := Aside0.mk hc0
 clear hr0 hc0
 have HB := Aside0.mk (Below.refl w.heap.size w)
 have H : (cracknelref04_Moved.l0 k l0 (([] : List (S41))) 0 a1_0 a1_1) = some r := h
 clear h
 obtain ⟨y102, hy102⟩ : ∃ y_ : List (S41), y_ = (([] : List (S41))) := ⟨_, rfl⟩
 replace H : (cracknelref04_Moved.l0 k l0 y102 0 a1_0 a1_1) = some r := by first | (rw [hy102]; with_reducible exact H) | (have H2_ := (Option.bind_some _ _).symm.trans H; rw [hy102]; with_reducible exact H2_) | (have H2_ := (Option.bind_some _ _).symm.trans H; with_reducible exact H2_) | with_reducible exact H | (rw [hy102]; exact H) | exact H
 have Ny102 := Aside0.mk hy102
 clear hy102
 have H' := Aside0.mk H
 clear H
 go_enter Try.func20, Try.ntmps20
 go_wp2_with (first | ((with_reducible refine gate_dst (N := 3) rfl ?_); refine bxe 3 #[.int .i64 a1_0, .int .i64 a1_1] 41 ?_; intro gb101 hg w3 hbox hb; have BK101 := Aside0.mk (hbox); have GW101 := ga w hg; have GE101 := GW101; replace HB := bz hb; clear hb hbox hg) | ((with_reducible refine gate_dst (N := 7) rfl ?_); refine Kd.R_lit k41 _ 41 ?hg (N := 7) ?hd (xs := ([] : List (S41))) (inner := []) (ok := fun _ => True) (okp := fun _ => True) ?hr ?hp (fun _ hk => hk) trivial (Below.refl _ _) (Nat.le_refl _) (by simp) ?_; (case hd => rfl); (case hg => rfl); (case hr => first | (go_simp; done) | (go_simp; rfl)); (case hp => exact (Reps.none _ _)); intro v103 w4 ho5 hb hg_ hnew_; clear hg_ hnew_; (first | rw [← Ny102.out] at ho5 | (simp only [Int.reduceToNat] at ho5; rw [← Ny102.out] at ho5)); have HO104 := Aside0.mk (Kd.R_lower (Kd.R_newB ho5 (g := gb101) (o := .cells #[.int .i64 a1_0, .int .i64 a1_1] 41 (0, 0)) (bk BK101)) (below_size bh)); replace BK101 := kb BK101 hb; replace HB := bz hb; clear hb ho5))
 go_loopg [5, 6] k (fun kq v5 v6 w' => ∃ (x5_1 : List (S41)) (x6_1 : Int), v6 = .int .i64 x6_1 ∧ Aside0 (cracknelref04_Moved.l0 kq l0 x5_1 x6_1 a1_0 a1_1 = some r) ∧ Aside0 (kq ≤ k) ∧ Aside0 (Kd.R k41 41 w' w.heap.size (fun k_ => k_ ≠ gb101) v5 x5_1) ∧ Aside0 (w'.heap[gb101]? = some (.cells #[.int .i64 a1_0, .int .i64 a1_1] 41 (0, 0))) ∧ Aside0 (Below w.heap.size w w'))
 case atStart => exact ⟨(y102), (0), sd, H', ⟨Nat.le_refl _⟩, ⟨by (with_reducible repeat (first | apply Kd.R_alloc | apply Kd.R_drewN | apply Kd.R_drew)); exact Kd.R_mono HO104.out (fun _ hk => hk.2)⟩, ⟨bk BK101⟩, ⟨bh⟩⟩
 case round =>
  clear H'
  skip
  obtain ⟨x5_1, x6_1, rfl, HA, HK1, HO_5, BK101, HB⟩ := hrel
  cases gk with
  | zero => exact absurd HA.out (by simp [cracknelref04_Moved.l0])
  | succ k1 =>
   have H := HA.out
   clear HA
   simp only [cracknelref04_Moved.l0] at H
   by_cases c6 : x6_1 < (l0.length : Int)
   ·rw [if_pos c6] at H
    have c6b0 := decide_eq_true c6
    clear c6
    obtain ⟨c7, H⟩ := oi H
    have c7b0 := decide_eq_true c7
    clear c7
    obtain ⟨c8, H⟩ := oi H
    have LMc8 := Aside0.mk c8
    clear c8
    obtain ⟨y107, hy107⟩ : ∃ y_ : List (S41), y_ = (x5_1 ++ [(⟨wrap64 (((rd_T41 l0 x6_1).f0) + a1_0), wrap64 (((rd_T41 l0 x6_1).f1) + a1_1)⟩ : S41)]) := ⟨_, rfl⟩
    replace H : (cracknelref04_Moved.l0 k1 l0 y107 (wrap64 (x6_1 + 1)) a1_0 a1_1) = some r := by first | (rw [hy107]; with_reducible exact H) | (have H2_ := (Option.bind_some _ _).symm.trans H; rw [hy107]; with_reducible exact H2_) | (have H2_ := (Option.bind_some _ _).symm.trans H; with_reducible exact H2_) | with_reducible exact H | (rw [hy107]; exact H) | exact H
    have Ny107 := Aside0.mk hy107
    clear hy107
    have H' := Aside0.mk H
    clear H
    try go_wp2
    replace HO_5 := Aside0.mk (Kd.R_drew HO_5.out)
    replace BK101 := Aside0.mk (blk_drew BK101.out)
    replace HB := Aside0.mk (below_drew1 HB.out)
    have p105 : 0 ≤ (x6_1 : Int) := dt
    have q105 : x6_1 < (l0.length : Int) := dt
    obtain ⟨ad105, e105, hx105_0, hx105_1⟩ := at_T41 HR0.out x6_1 p105 q105
    have hw105_1 := hx105_1
    have hw105_0 := hx105_0
    cases e105
    replace hx105_0 := hc HB hx105_0
    replace hx105_1 := hc HB hx105_1
    replace p105 := eq_true p105
    replace q105 := eq_true q105
    have p106 : 0 ≤ (x6_1 : Int) := dt
    have q106 : x6_1 < (l0.length : Int) := dt
    obtain ⟨ad106, e106, hx106_0, hx106_1⟩ := at_T41 HR0.out x6_1 p106 q106
    have hw106_1 := hx106_1
    have hw106_0 := hx106_0
    obtain rfl : ad105 = ad106 := (by injection e106)
    replace hx106_0 := hc HB hx106_0
    replace hx106_1 := hc HB hx106_1
    replace p106 := eq_true p106
    replace q106 := eq_true q106
    refine start_ (n := 21) (S := fun w' => w'.cell? ⟨gb101, 0, none⟩ = some (.int .i64 a1_0) ∧ w'.cell? ⟨gb101, 1, none⟩ = some (.int .i64 a1_1) ∧ w'.cell? (ad105.add ((x6_1).toNat * 2)) = some (.int .i64 ((rd_T41 l0 x6_1).f0)) ∧ w'.cell? ⟨(ad105.add ((x6_1).toNat * 2)).block, (ad105.add ((x6_1).toNat * 2)).off + 1, none⟩ = some (.int .i64 ((rd_T41 l0 x6_1).f1)) ∧ w'.cell? (ad105.add ((x6_1).toNat * 2)) = some (.int .i64 ((rd_T41 l0 x6_1).f0)) ∧ w'.cell? ⟨(ad105.add ((x6_1).toNat * 2)).block, (ad105.add ((x6_1).toNat * 2)).off + 1, none⟩ = some (.int .i64 ((rd_T41 l0 x6_1).f1))) (ds := []) #[N,N,N,N,N,N,N,N,N,N,N,N,N,N,N,N,N,N,N,N,N] (by kernel_rfl) rfl rfl ⟨bc BK101 0, bc BK101 1, (hc HB hw105_0), (hc HB hw105_1), (hc HB hw106_0), (hc HB hw106_1)⟩ (fun hHeld => ?_); refine with_tabW cracknelref04_Moved.tab5 cracknelref04_Moved.bits5 (fun HT_ HW_ => ?_)
    generalize wr.drew = w9 at HO_5 BK101 HB hx105_0 hx105_1 hx106_0 hx106_1 hHeld ⊢
    refine pu 0 14 HT_ ?_
    refine pu 1 15 HT_ ?_
    refine pu 2 16 HT_ ?_
    refine pu 3 17 HT_ ?_
    refine pu 4 18 HT_ ?_
    refine pu 6 20 HT_ ?_
    refine pu 9 23 HT_ ?_
    refine pu 10 24 HT_ ?_
    refine pu 11 25 HT_ ?_
    refine pu 12 26 HT_ ?_
    refine pu 14 28 HT_ ?_
    refine tk6 5 19 hHeld HT_ HW_ ?_
    refine tk6 7 21 hHeld HT_ HW_ ?_
    refine pu 8 22 HT_ ?_
    refine tk6 13 27 hHeld HT_ HW_ ?_
    refine tk6 15 29 hHeld HT_ HW_ ?_
    refine pu 16 30 HT_ ?_
    refine pu 17 31 HT_ ?_
    refine one_ (i := 18) (N := some 32) #[T,T,T,T,T,T,T,T,T,T,T,T,T,T,T,T,T,T,T,N,N] rfl rfl (on1 HT_) (by decide) (fun K hK => ?_)
    refine value_ (w1 := ?_) (v := ?_) (by rfl) rfl ?_ ?_
    rotate_left 2
    ·go_simp
     constructor
     ·rfl
     ·rfl
    refine hK.out _ _ ⟨(blk_cell (blk_alloc BK101.out _) 0).trans rfl, (blk_cell (blk_alloc BK101.out _) 1).trans rfl, (World.cell?_alloc_lt _ _ _ (World.block_lt_of_cell? _ _ ((hc HB hw105_0)))).trans ((hc HB hw105_0)), (World.cell?_alloc_lt _ _ _ (World.block_lt_of_cell? _ _ ((hc HB hw105_1)))).trans ((hc HB hw105_1)), (World.cell?_alloc_lt _ _ _ (World.block_lt_of_cell? _ _ ((hc HB hw106_0)))).trans ((hc HB hw106_0)), (World.cell?_alloc_lt _ _ _ (World.block_lt_of_cell? _ _ ((hc HB hw106_1)))).trans ((hc HB hw106_1))⟩ (fun hHeld => ?_)
    clear hK K
    refine nm 32 ?_
    refine one_ (i := 19) (N := some 33) #[T,T,T,T,T,T,T,T,T,T,T,T,T,T,T,T,T,T,T,T,N] rfl rfl (on1 HT_) (by decide) (fun K hK => ?_)
    refine Kd.R_append_step k41 (w0 := w) w.heap.size (by rfl) (.tmp 14) (.tmp 32) 22 41 (.agg #[(.int .i64 0), (.int .i64 0)]) 16 rfl Try.underlying22 info41 rfl (by decide) (by omega) u5 x5_1 (⟨wrap64 (((rd_T41 l0 x6_1).f0) + a1_0), wrap64 (((rd_T41 l0 x6_1).f1) + a1_1)⟩ : S41) [.int .i64 (wrap64 (((rd_T41 l0 x6_1).f0) + a1_0)), .int .i64 (wrap64 (((rd_T41 l0 x6_1).f1) + a1_1))] (fun k_ => k_ ≠ gb101) (fun _ => False) rfl rfl ?aP (fun _ hk => hk.elim) ?aF ?aO ?aB ?aS ?aL ?_
    (case aP => exact k41_mkM _ _ _ (⟨wrap64 (((rd_T41 l0 x6_1).f0) + a1_0), wrap64 (((rd_T41 l0 x6_1).f1) + a1_1)⟩ : S41))
    (case aB => exact bh)
    (case aF => exact (fun k_ hk => Kd.freshB (g := gb101) (o := .cells #[.int .i64 a1_0, .int .i64 a1_1] 41 (0, 0)) (bk BK101) k_ hk))
    (case aO => exact (ro HO_5))
    (case aS => exact (below_size bh))
    (case aL => have := LMc8.out; omega)
    intro v108 w10 ho hb hg hat
    rw [← Ny107.out] at ho
    have HO109 := Aside0.mk (ho)
    replace BK101 := Aside0.mk (blk_grown (g := gb101) (o := .cells #[.int .i64 a1_0, .int .i64 a1_1] 41 (0, 0)) (bk BK101) hg (Kd.R_away HO_5.out (fun _ hk => hk)))
    replace HB := Aside0.mk (hb)
    clear HO_5
    clear ho hb hg hat
    refine hK.out _ _ ⟨bc BK101 0, bc BK101 1, (hc HB hw105_0), (hc HB hw105_1), (hc HB hw106_0), (hc HB hw106_1)⟩ (fun hHeld => ?_)
    clear hK K
    refine nm 33 ?_
    refine pu 20 5 HT_ ?_
    refine done_ (done_of HT_.out (by kernel_rfl)) ?_
    try go_wp2
    go_roundg k1
    case measure => have := HK1.out; omega
    case rel => exact ⟨(y107), (wrap64 (x6_1 + 1)), sd, H', ⟨by have := HK1.out; omega⟩, ⟨ro HO109⟩, ⟨bk BK101⟩, ⟨bh⟩⟩
   ·rw [if_neg c6] at H
    have c6b0 := decide_eq_false c6
    clear c6
    obtain rfl := Option.some.inj H
    go_wp2
    go_ret
    exact ⟨_, by exact er, by (with_reducible repeat (first | apply Kd.R_alloc | apply Kd.R_drewN | apply Kd.R_drew)); exact Kd.R_mono HO_5.out (fun _ hk => trivial), bh⟩
/-! ### cracknelref04_box: function 49 -/
def cracknelref04_box.l0 : Nat → List (S41) → Int → Int → Int → Int → Int → Option (Int × Int × Int × Int)
 | 0, _, _, _, _, _, _ => none
 | k + 1, x0, x6, x106000, x106001, x107000, x107001 => if x6 < (x0.length : Int) then (if 0 ≤ x6 then (cracknelref04_box.l0 k x0 (wrap64 (x6 + 1)) (mn x106000 ((rd_T41 x0 x6).f0)) (mn x106001 ((rd_T41 x0 x6).f1)) (mx x107000 ((rd_T41 x0 x6).f0)) (mx x107001 ((rd_T41 x0 x6).f1))) else (none)) else (some (x106000, x106001, x107000, x107001))
def cracknelref04_box.f (k : Nat) (l0 : List (S41)) : Option (Int × Int × Int × Int) := if 0 < (l0.length : Int) then (cracknelref04_box.l0 k l0 0 ((rd_T41 l0 0).f0) ((rd_T41 l0 0).f1) ((rd_T41 l0 0).f0) ((rd_T41 l0 0).f1)) else (none)
def cracknelref04_box.T1 : Bool × List (List Nat × List Nat) := (true, [([], []), ([0], [0]), ([1], [1]), ([], []), ([3], [3]), ([4], [4]), ([], []), ([], []), ([6, 2, 0, 1, 2, 6, 7], [2, 6]), ([7, 5, 8, 0, 1, 2, 3, 4, 5, 6, 7, 8], [5, 7])])
def cracknelref04_box.B1 : List Nat := [0, 1, 3, 0, 8, 24, 0, 0, 199, 511]
theorem cracknelref04_box.tab1 : rtab .any (opsOf Try.f49 1) = cracknelref04_box.T1 := by kernel_rfl
theorem cracknelref04_box.bits1 : waitsOk cracknelref04_box.T1.2 cracknelref04_box.B1 = true := by kernel_rfl
def cracknelref04_box.T5 : Bool × List (List Nat × List Nat) := (true, [([], []), ([0], [0]), ([], []), ([], []), ([2, 3], [2, 3]), ([4], [4]), ([5], [5]), ([1, 6], [1, 6]), ([], []), ([8], [8]), ([], []), ([], []), ([10, 11], [10, 11]), ([12], [12]), ([13], [13]), ([9, 14], [9, 14]), ([7, 15], [7, 15]), ([16, 0, 1, 2, 3, 4, 5, 6, 7, 8, 9, 10, 11, 12, 13, 14, 15, 16], [16])])
def cracknelref04_box.B5 : List Nat := [0, 1, 0, 0, 12, 28, 60, 127, 0, 256, 0, 0, 3072, 7168, 15360, 32512, 65535, 131071]
theorem cracknelref04_box.tab5 : rtab .any (opsOf Try.f49 5) = cracknelref04_box.T5 := by kernel_rfl
theorem cracknelref04_box.bits5 : waitsOk cracknelref04_box.T5.2 cracknelref04_box.B5 = true := by kernel_rfl
def cracknelref04_box.T6 : Bool × List (List Nat × List Nat) := (true, [([], []), ([0], [0]), ([], []), ([], []), ([2, 3], [2, 3]), ([4], [4]), ([5], [5]), ([1, 6], [1, 6]), ([], []), ([8], [8]), ([], []), ([], []), ([10, 11], [10, 11]), ([12], [12]), ([13], [13]), ([9, 14], [9, 14]), ([7, 15], [7, 15]), ([16, 0, 1, 2, 3, 4, 5, 6, 7, 8, 9, 10, 11, 12, 13, 14, 15, 16], [16])])
def cracknelref04_box.B6 : List Nat := [0, 1, 0, 0, 12, 28, 60, 127, 0, 256, 0, 0, 3072, 7168, 15360, 32512, 65535, 131071]
theorem cracknelref04_box.tab6 : rtab .any (opsOf Try.f49 6) = cracknelref04_box.T6 := by kernel_rfl
theorem cracknelref04_box.bits6 : waitsOk cracknelref04_box.T6.2 cracknelref04_box.B6 = true := by kernel_rfl
set_option maxHeartbeats 8000000 in
set_option maxRecDepth 100000 in
theorem cracknelref04_box.calls (k : Nat) (A0 : Option Addr) (c0 : Nat) (l0 : List (S41)) (r1 : Int) (r2 : Int) (r3 : Int) (r4 : Int) (w : World) (hr0 : Kd.C k41 w A0 l0.length l0) (hc0 : l0.length ≤ c0) (h : cracknelref04_box.f k l0 = some (r1, r2, r3, r4)) :
  Calls Try.prog 49 #[.slice A0 l0.length c0] w fun e w' => e = .returned (.tuple #[.agg #[.int .i64 r1, .int .i64 r2], .agg #[.int .i64 r3, .int .i64 r4]]) ∧ Below w.heap.size w w' := by
 have hu41 := Try.underlying41
 have HR0 := Aside0.mk hr0
 have HC0 := Aside0.mk hc0
 clear hr0 hc0
 have HB := Aside0.mk (Below.refl w.heap.size w)
 have H : (if 0 < (l0.length : Int) then (cracknelref04_box.l0 k l0 0 ((rd_T41 l0 0).f0) ((rd_T41 l0 0).f1) ((rd_T41 l0 0).f0) ((rd_T41 l0 0).f1)) else (none)) = some (r1, r2, r3, r4) := h
 clear h
 obtain ⟨c2, H⟩ := oi H
 have c2b0 := decide_eq_true c2
 have c2b1 : decide (0 < l0.length) = true := decide_eq_true (by omega)
 clear c2
 have H' := Aside0.mk H
 clear H
 go_enter Try.func49, Try.ntmps49
 try go_wp2_with (first | ((with_reducible refine gate_dst (N := 2) rfl ?_); refine bxe 2 #[.int .i64 0, .int .i64 0] 41 ?_; intro gb101 hg w3 hbox hb; have BK101 := Aside0.mk (hbox); have GW101 := ga w hg; have GE101 := GW101; replace HB := bz hb; clear hb hbox hg) | ((with_reducible refine gate_dst (N := 3) rfl ?_); refine bxe 3 #[.int .i64 0, .int .i64 0] 41 ?_; intro gb102 hg w4 hbox hb; have BK102 := Aside0.mk (hbox); have GW102 := ga w hg; have GE102 := GW102; have NB101_102 := nb hg (kl BK101); have NB102_101 := bn NB101_102; replace BK101 := kb BK101 hb; replace HB := bz hb; clear hb hbox hg))
 replace BK101 := Aside0.mk (blk_drew BK101.out)
 replace BK102 := Aside0.mk (blk_drew BK102.out)
 replace HB := Aside0.mk (below_drew1 HB.out)
 have p103 : 0 ≤ (0 : Int) := (by omega)
 have q103 : 0 < (l0.length : Int) := dt
 obtain ⟨ad103, e103, hx103_0, hx103_1⟩ := at_T41 HR0.out 0 p103 q103
 have hw103_1 := hx103_1
 (try rw [show ((0 : Int)).toNat = 0 from rfl] at hw103_1)
 (try rw [show 0 * 2 = 0 from rfl] at hw103_1)
 (try rw [Addr.add_zero'] at hw103_1)
 have hw103_0 := hx103_0
 (try rw [show ((0 : Int)).toNat = 0 from rfl] at hw103_0)
 (try rw [show 0 * 2 = 0 from rfl] at hw103_0)
 (try rw [Addr.add_zero'] at hw103_0)
 cases e103
 have qi103 : (0 < l0.length) = True := eq_true (by omega)
 (try rw [show ((0 : Int)).toNat = 0 from rfl] at hx103_0)
 (try rw [show 0 * 2 = 0 from rfl] at hx103_0)
 (try rw [Addr.add_zero'] at hx103_0)
 (try rw [show ((0 : Int)).toNat = 0 from rfl] at hx103_1)
 (try rw [show 0 * 2 = 0 from rfl] at hx103_1)
 (try rw [Addr.add_zero'] at hx103_1)
 replace hx103_0 := hc HB hx103_0
 replace hx103_1 := hc HB hx103_1
 replace p103 := eq_true p103
 replace q103 := eq_true q103
 have p104 : 0 ≤ (0 : Int) := (by omega)
 have q104 : 0 < (l0.length : Int) := dt
 obtain ⟨ad104, e104, hx104_0, hx104_1⟩ := at_T41 HR0.out 0 p104 q104
 have hw104_1 := hx104_1
 (try rw [show ((0 : Int)).toNat = 0 from rfl] at hw104_1)
 (try rw [show 0 * 2 = 0 from rfl] at hw104_1)
 (try rw [Addr.add_zero'] at hw104_1)
 have hw104_0 := hx104_0
 (try rw [show ((0 : Int)).toNat = 0 from rfl] at hw104_0)
 (try rw [show 0 * 2 = 0 from rfl] at hw104_0)
 (try rw [Addr.add_zero'] at hw104_0)
 obtain rfl : ad103 = ad104 := (by injection e104)
 have qi104 : (0 < l0.length) = True := eq_true (by omega)
 (try rw [show ((0 : Int)).toNat = 0 from rfl] at hx104_0)
 (try rw [show 0 * 2 = 0 from rfl] at hx104_0)
 (try rw [Addr.add_zero'] at hx104_0)
 (try rw [show ((0 : Int)).toNat = 0 from rfl] at hx104_1)
 (try rw [show 0 * 2 = 0 from rfl] at hx104_1)
 (try rw [Addr.add_zero'] at hx104_1)
 replace hx104_0 := hc HB hx104_0
 replace hx104_1 := hc HB hx104_1
 replace p104 := eq_true p104
 replace q104 := eq_true q104
 refine start_ (n := 10) (S := fun w' => w'.cell? ad103 = some (.int .i64 ((rd_T41 l0 0).f0)) ∧ w'.cell? ⟨ad103.block, ad103.off + 1, none⟩ = some (.int .i64 ((rd_T41 l0 0).f1)) ∧ w'.cell? ad103 = some (.int .i64 ((rd_T41 l0 0).f0)) ∧ w'.cell? ⟨ad103.block, ad103.off + 1, none⟩ = some (.int .i64 ((rd_T41 l0 0).f1))) (ds := []) #[N,N,N,N,N,N,N,N,N,N] (by kernel_rfl) rfl rfl ⟨(hc HB hw103_0), (hc HB hw103_1), (hc HB hw104_0), (hc HB hw104_1)⟩ (fun hHeld => ?_); refine with_tabW cracknelref04_box.tab1 cracknelref04_box.bits1 (fun HT_ HW_ => ?_)
 generalize w4.drew = w5 at BK101 BK102 HB hx103_0 hx103_1 hx104_0 hx104_1 hHeld ⊢
 refine pu 0 7 HT_ ?_
 refine pu 1 8 HT_ ?_
 refine pu 3 10 HT_ ?_
 refine pu 4 11 HT_ ?_
 refine tk4 2 9 hHeld HT_ HW_ ?_
 refine tk4 5 12 hHeld HT_ HW_ ?_
 refine join_ (σ := Nat × Nat) 2 #[T,T,T,T,T,T,T,T,N,N] (fun s_ => [(4, .pointer (some ⟨s_.1, 0, none⟩)), (5, .pointer (some ⟨s_.2, 0, none⟩))]) (fun s_ w' => (w'.cell? ad103 = some (.int .i64 ((rd_T41 l0 0).f0)) ∧ w'.cell? ⟨ad103.block, ad103.off + 1, none⟩ = some (.int .i64 ((rd_T41 l0 0).f1)) ∧ w'.cell? ad103 = some (.int .i64 ((rd_T41 l0 0).f0)) ∧ w'.cell? ⟨ad103.block, ad103.off + 1, none⟩ = some (.int .i64 ((rd_T41 l0 0).f1))) ∧ (w'.heap[gb101]? = some (.cells #[.int .i64 0, .int .i64 0] 41 (0, 0))) ∧ (w'.heap[gb102]? = some (.cells #[.int .i64 0, .int .i64 0] 41 (0, 0))) ∧ (w'.heap[s_.1]? = some (.cells #[.int .i64 0, .int .i64 0] 41 (0, 0))) ∧ (w'.heap[s_.2]? = some (.cells #[.int .i64 0, .int .i64 0] 41 (0, 0))) ∧ (w.heap.size ≤ s_.1) ∧ (w.heap.size ≤ s_.1) ∧ (gb101 ≠ s_.1) ∧ (s_.1 ≠ gb101) ∧ (gb102 ≠ s_.1) ∧ (s_.1 ≠ gb102) ∧ (s_.2 ≠ s_.1) ∧ (s_.1 ≠ s_.2) ∧ (w.heap.size ≤ s_.2) ∧ (w.heap.size ≤ s_.2) ∧ (gb101 ≠ s_.2) ∧ (s_.2 ≠ gb101) ∧ (gb102 ≠ s_.2) ∧ (s_.2 ≠ gb102) ∧ (Below w.heap.size w w')) ?_ ?_
 rotate_left
 ·intro hCont
  refine two_ (i := 6) (j := 7) (Ni := some 4) (Nj := some 5) #[T,T,T,T,T,T,T,N,N,N] #[T,T,T,T,T,T,N,T,N,N] rfl rfl rfl rfl (on2 HT_) (by decide) (by decide) (fun K hK => ?_) (fun K hK => ?_)
  ·skip
   refine bxs 4 #[.int .i64 0, .int .i64 0] 41 ?_
   intro gb105 hg w6 hbox hb
   have BK105 := Aside0.mk (hbox)
   have GW105 := ga w hg
   have GE105 := GW105
   have NB101_105 := nb hg (kl BK101)
   have NB105_101 := bn NB101_105
   have NB102_105 := nb hg (kl BK102)
   have NB105_102 := bn NB102_105
   replace BK101 := kb BK101 hb
   replace BK102 := kb BK102 hb
   replace HB := bz hb
   clear hb hbox hg
   refine hK.out _ _ ⟨(hc HB hw103_0), (hc HB hw103_1), (hc HB hw104_0), (hc HB hw104_1)⟩ (fun hHeld => ?_)
   clear hK K
   refine nm 4 ?_
   refine one_ (i := 7) (N := some 5) #[T,T,T,T,T,T,T,T,N,N] rfl rfl (on1 HT_) (by decide) (fun K hK => ?_)
   refine bxs 5 #[.int .i64 0, .int .i64 0] 41 ?_
   intro gb106 hg w7 hbox hb
   have BK106 := Aside0.mk (hbox)
   have GW106 := ga w hg
   have GE106 := GW106
   have NB101_106 := nb hg (kl BK101)
   have NB106_101 := bn NB101_106
   have NB102_106 := nb hg (kl BK102)
   have NB106_102 := bn NB102_106
   have NB105_106 := nb hg (kl BK105)
   have NB106_105 := bn NB105_106
   replace BK101 := kb BK101 hb
   replace BK102 := kb BK102 hb
   replace BK105 := kb BK105 hb
   replace HB := bz hb
   clear hb hbox hg
   refine hK.out _ _ ⟨(hc HB hw103_0), (hc HB hw103_1), (hc HB hw104_0), (hc HB hw104_1)⟩ (fun hHeld => ?_)
   clear hK K
   refine nm 5 ?_
   exact norm_ pa (hCont (gb105, gb106) _ ⟨hHeld, bk BK101, bk BK102, bk BK105, bk BK106, GW105.out, GE105.out, NB101_105.out, NB105_101.out, NB102_105.out, NB105_102.out, NB106_105.out, NB105_106.out, GW106.out, GE106.out, NB101_106.out, NB106_101.out, NB102_106.out, NB106_102.out, bh⟩)
  ·skip
   refine bxs 5 #[.int .i64 0, .int .i64 0] 41 ?_
   intro gb106 hg w6 hbox hb
   have BK106 := Aside0.mk (hbox)
   have GW106 := ga w hg
   have GE106 := GW106
   have NB101_106 := nb hg (kl BK101)
   have NB106_101 := bn NB101_106
   have NB102_106 := nb hg (kl BK102)
   have NB106_102 := bn NB102_106
   replace BK101 := kb BK101 hb
   replace BK102 := kb BK102 hb
   replace HB := bz hb
   clear hb hbox hg
   refine hK.out _ _ ⟨(hc HB hw103_0), (hc HB hw103_1), (hc HB hw104_0), (hc HB hw104_1)⟩ (fun hHeld => ?_)
   clear hK K
   refine nm 5 ?_
   refine one_ (i := 6) (N := some 4) #[T,T,T,T,T,T,T,T,N,N] rfl rfl (on1 HT_) (by decide) (fun K hK => ?_)
   refine bxs 4 #[.int .i64 0, .int .i64 0] 41 ?_
   intro gb105 hg w7 hbox hb
   have BK105 := Aside0.mk (hbox)
   have GW105 := ga w hg
   have GE105 := GW105
   have NB101_105 := nb hg (kl BK101)
   have NB105_101 := bn NB101_105
   have NB102_105 := nb hg (kl BK102)
   have NB105_102 := bn NB102_105
   have NB106_105 := nb hg (kl BK106)
   have NB105_106 := bn NB106_105
   replace BK101 := kb BK101 hb
   replace BK102 := kb BK102 hb
   replace BK106 := kb BK106 hb
   replace HB := bz hb
   clear hb hbox hg
   refine hK.out _ _ ⟨(hc HB hw103_0), (hc HB hw103_1), (hc HB hw104_0), (hc HB hw104_1)⟩ (fun hHeld => ?_)
   clear hK K
   refine nm 4 ?_
   exact norm_ pa (hCont (gb105, gb106) _ ⟨hHeld, bk BK101, bk BK102, bk BK105, bk BK106, GW105.out, GE105.out, NB101_105.out, NB105_101.out, NB102_105.out, NB105_102.out, NB106_105.out, NB105_106.out, GW106.out, GE106.out, NB101_106.out, NB106_101.out, NB102_106.out, NB106_102.out, bh⟩)
 rintro ⟨gb105, gb106⟩ w8 ⟨hS_, h0_, h1_, h2_, h3_, h4_, h5_, h6_, h7_, h8_, h9_, h10_, h11_, h12_, h13_, h14_, h15_, h16_, h17_, h18_⟩
 have BK105 := Aside0.mk h2_
 have BK106 := Aside0.mk h3_
 have GW105 := Aside0.mk h4_
 have GE105 := Aside0.mk h5_
 have NB101_105 := Aside0.mk h6_
 have NB105_101 := Aside0.mk h7_
 have NB102_105 := Aside0.mk h8_
 have NB105_102 := Aside0.mk h9_
 have NB106_105 := Aside0.mk h10_
 have NB105_106 := Aside0.mk h11_
 have GW106 := Aside0.mk h12_
 have GE106 := Aside0.mk h13_
 have NB101_106 := Aside0.mk h14_
 have NB106_101 := Aside0.mk h15_
 have NB102_106 := Aside0.mk h16_
 have NB106_102 := Aside0.mk h17_
 replace BK101 := Aside0.mk h0_
 replace BK102 := Aside0.mk h1_
 replace HB := Aside0.mk h18_
 clear h0_ h1_ h2_ h3_ h4_ h5_ h6_ h7_ h8_ h9_ h10_ h11_ h12_ h13_ h14_ h15_ h16_ h17_ h18_
 have hHeld := hS_
 refine nn ?_
 refine one_ (i := 8) (N := none) #[T,T,T,T,T,T,T,T,T,N] rfl rfl (on1 HT_) (by decide) (fun K hK => ?_)
 have hs9 : w8.cell? ⟨gb105, 0, none⟩ = some (.int .i64 0) := bc BK105 0
 have hfs9 := blk_frozen BK105.out 0
 have hns9_0 := NB101_105.out
 have hns9_1 := NB102_105.out
 have hns9_3 := NB106_105.out
 have hms9_0 := NB105_101.out
 have hms9_1 := NB105_102.out
 have hms9_3 := NB105_106.out
 have hs10 : w8.cell? ⟨gb105, 1, none⟩ = some (.int .i64 0) := bc BK105 1
 have hfs10 := blk_frozen BK105.out 1
 have hns10_0 := NB101_105.out
 have hns10_1 := NB102_105.out
 have hns10_3 := NB106_105.out
 have hms10_0 := NB105_101.out
 have hms10_1 := NB105_102.out
 have hms10_3 := NB105_106.out
 refine skip_ (w1 := ?_) (by rfl) rfl ?_ ?_
 rotate_left
 ·go_simp
  rfl
 refine hK.out _ _ ⟨((cell_far (p := ⟨gb105, _, none⟩) (fr hw103_0 GW105) _).trans (((cell_far (p := ⟨gb105, _, none⟩) (fr hw103_0 GW105) _).trans (hHeld.1)))), ((cell_far (p := ⟨gb105, _, none⟩) (fr hw103_1 GW105) _).trans (((cell_far (p := ⟨gb105, _, none⟩) (fr hw103_1 GW105) _).trans (hHeld.2.1)))), ((cell_far (p := ⟨gb105, _, none⟩) (fr hw104_0 GW105) _).trans (((cell_far (p := ⟨gb105, _, none⟩) (fr hw104_0 GW105) _).trans (hHeld.2.2.1)))), ((cell_far (p := ⟨gb105, _, none⟩) (fr hw104_1 GW105) _).trans (((cell_far (p := ⟨gb105, _, none⟩) (fr hw104_1 GW105) _).trans (hHeld.2.2.2))))⟩ (fun hHeld => ?_)
 clear hK K
 refine one_ (i := 9) (N := none) #[T,T,T,T,T,T,T,T,T,T] rfl rfl (on1 HT_) (by decide) (fun K hK => ?_)
 have hs11 : w8.cell? ⟨gb106, 0, none⟩ = some (.int .i64 0) := bc BK106 0
 have hfs11 := blk_frozen BK106.out 0
 have hns11_0 := NB101_106.out
 have hns11_1 := NB102_106.out
 have hns11_2 := NB105_106.out
 have hms11_0 := NB106_101.out
 have hms11_1 := NB106_102.out
 have hms11_2 := NB106_105.out
 have hs12 : w8.cell? ⟨gb106, 1, none⟩ = some (.int .i64 0) := bc BK106 1
 have hfs12 := blk_frozen BK106.out 1
 have hns12_0 := NB101_106.out
 have hns12_1 := NB102_106.out
 have hns12_2 := NB105_106.out
 have hms12_0 := NB106_101.out
 have hms12_1 := NB106_102.out
 have hms12_2 := NB106_105.out
 refine skip_ (w1 := ?_) (by rfl) rfl ?_ ?_
 rotate_left
 ·go_simp
  rfl
 refine hK.out _ _ ⟨((cell_far (p := ⟨gb106, _, none⟩) (fr hw103_0 GW106) _).trans (((cell_far (p := ⟨gb106, _, none⟩) (fr hw103_0 GW106) _).trans (hHeld.1)))), ((cell_far (p := ⟨gb106, _, none⟩) (fr hw103_1 GW106) _).trans (((cell_far (p := ⟨gb106, _, none⟩) (fr hw103_1 GW106) _).trans (hHeld.2.1)))), ((cell_far (p := ⟨gb106, _, none⟩) (fr hw104_0 GW106) _).trans (((cell_far (p := ⟨gb106, _, none⟩) (fr hw104_0 GW106) _).trans (hHeld.2.2.1)))), ((cell_far (p := ⟨gb106, _, none⟩) (fr hw104_1 GW106) _).trans (((cell_far (p := ⟨gb106, _, none⟩) (fr hw104_1 GW106) _).trans (hHeld.2.2.2))))⟩ (fun hHeld => ?_)
 clear hK K
 refine done_ (done_of HT_.out (by kernel_rfl)) ?_
 try go_wp2
 go_loopg [6] k (fun kq v6 w' => ∃ (x6_1 : Int) (x106000_1 : Int) (x106001_1 : Int) (x107000_1 : Int) (x107001_1 : Int), v6 = .int .i64 x6_1 ∧ Aside0 (cracknelref04_box.l0 kq l0 x6_1 x106000_1 x106001_1 x107000_1 x107001_1 = some (r1, r2, r3, r4)) ∧ Aside0 (kq ≤ k) ∧ Aside0 (w'.heap[gb101]? = some (.cells #[.int .i64 0, .int .i64 0] 41 (0, 0))) ∧ Aside0 (w'.heap[gb102]? = some (.cells #[.int .i64 0, .int .i64 0] 41 (0, 0))) ∧ Aside0 (w'.heap[gb105]? = some (.cells #[.int .i64 x106000_1, .int .i64 x106001_1] 41 (0, 0))) ∧ Aside0 (w'.heap[gb106]? = some (.cells #[.int .i64 x107000_1, .int .i64 x107001_1] 41 (0, 0))) ∧ Aside0 (Below w.heap.size w w'))
 case atStart => exact ⟨(0), ((rd_T41 l0 0).f0), ((rd_T41 l0 0).f1), ((rd_T41 l0 0).f0), ((rd_T41 l0 0).f1), sd, H', ⟨Nat.le_refl _⟩, ⟨by refine bf NB101_106 ?_; refine bf NB101_106 ?_; refine bf NB101_105 ?_; refine bf NB101_105 ?_; refine bd ?_; exact BK101.out⟩, ⟨by refine bf NB102_106 ?_; refine bf NB102_106 ?_; refine bf NB102_105 ?_; refine bf NB102_105 ?_; refine bd ?_; exact BK102.out⟩, ⟨by refine bf NB105_106 ?_; refine bf NB105_106 ?_; refine bd ?_; refine blk_put (cs := #[.int .i64 ((rd_T41 l0 0).f0), .int .i64 0]) ?_ 1 _ rfl; refine bd ?_; refine blk_put (cs := #[.int .i64 0, .int .i64 0]) ?_ 0 _ rfl; refine bd ?_; exact BK105.out⟩, ⟨by refine bd ?_; refine blk_put (cs := #[.int .i64 ((rd_T41 l0 0).f0), .int .i64 0]) ?_ 1 _ rfl; refine bd ?_; refine blk_put (cs := #[.int .i64 0, .int .i64 0]) ?_ 0 _ rfl; refine bf NB106_105 ?_; refine bf NB106_105 ?_; refine bd ?_; exact BK106.out⟩, ⟨bh⟩⟩
 case round =>
  clear H'
  (try clear c2b0); (try clear c2b1); (try clear hx103_0); (try clear hx103_1); (try clear hx104_0); (try clear hx104_1); (try clear p103); (try clear p104); (try clear q103); (try clear q104)
  obtain ⟨x6_1, x106000_1, x106001_1, x107000_1, x107001_1, rfl, HA, HK1, BK101, BK102, BK105, BK106, HB⟩ := hrel
  cases gk with
  | zero => exact absurd HA.out (by simp [cracknelref04_box.l0])
  | succ k1 =>
   have H := HA.out
   clear HA
   simp only [cracknelref04_box.l0] at H
   by_cases c13 : x6_1 < (l0.length : Int)
   ·rw [if_pos c13] at H
    have c13b0 := decide_eq_true c13
    clear c13
    obtain ⟨c14, H⟩ := oi H
    have c14b0 := decide_eq_true c14
    clear c14
    obtain ⟨ji15, hji15⟩ : ∃ j_ : Int, (mn x106000_1 ((rd_T41 l0 x6_1).f0)) = j_ := ⟨_, rfl⟩
    replace H : (cracknelref04_box.l0 k1 l0 (wrap64 (x6_1 + 1)) ji15 (mn x106001_1 ((rd_T41 l0 x6_1).f1)) (mx x107000_1 ((rd_T41 l0 x6_1).f0)) (mx x107001_1 ((rd_T41 l0 x6_1).f1))) = some (r1, r2, r3, r4) := by first | (rw [hji15] at H; exact H) | (simp only [hji15] at H ⊢; exact H)
    have hji15_ : (if ((rd_T41 l0 x6_1).f0) < x106000_1 then ((rd_T41 l0 x6_1).f0) else x106000_1) = ji15 := hji15
    obtain ⟨ji16, hji16⟩ : ∃ j_ : Int, (mn x106001_1 ((rd_T41 l0 x6_1).f1)) = j_ := ⟨_, rfl⟩
    replace H : (cracknelref04_box.l0 k1 l0 (wrap64 (x6_1 + 1)) ji15 ji16 (mx x107000_1 ((rd_T41 l0 x6_1).f0)) (mx x107001_1 ((rd_T41 l0 x6_1).f1))) = some (r1, r2, r3, r4) := by first | (rw [hji16] at H; exact H) | (simp only [hji16] at H ⊢; exact H)
    have hji16_ : (if ((rd_T41 l0 x6_1).f1) < x106001_1 then ((rd_T41 l0 x6_1).f1) else x106001_1) = ji16 := hji16
    obtain ⟨ji17, hji17⟩ : ∃ j_ : Int, (mx x107000_1 ((rd_T41 l0 x6_1).f0)) = j_ := ⟨_, rfl⟩
    replace H : (cracknelref04_box.l0 k1 l0 (wrap64 (x6_1 + 1)) ji15 ji16 ji17 (mx x107001_1 ((rd_T41 l0 x6_1).f1))) = some (r1, r2, r3, r4) := by first | (rw [hji17] at H; exact H) | (simp only [hji17] at H ⊢; exact H)
    have hji17_ : (if x107000_1 < ((rd_T41 l0 x6_1).f0) then ((rd_T41 l0 x6_1).f0) else x107000_1) = ji17 := hji17
    obtain ⟨ji18, hji18⟩ : ∃ j_ : Int, (mx x107001_1 ((rd_T41 l0 x6_1).f1)) = j_ := ⟨_, rfl⟩
    replace H : (cracknelref04_box.l0 k1 l0 (wrap64 (x6_1 + 1)) ji15 ji16 ji17 ji18) = some (r1, r2, r3, r4) := by first | (rw [hji18] at H; exact H) | (simp only [hji18] at H ⊢; exact H)
    have hji18_ : (if x107001_1 < ((rd_T41 l0 x6_1).f1) then ((rd_T41 l0 x6_1).f1) else x107001_1) = ji18 := hji18
    have H' := Aside0.mk H
    clear H
    try go_wp2
    replace BK101 := Aside0.mk (blk_drew BK101.out)
    replace BK102 := Aside0.mk (blk_drew BK102.out)
    replace BK105 := Aside0.mk (blk_drew BK105.out)
    replace BK106 := Aside0.mk (blk_drew BK106.out)
    replace HB := Aside0.mk (below_drew1 HB.out)
    have p107 : 0 ≤ (x6_1 : Int) := dt
    have q107 : x6_1 < (l0.length : Int) := dt
    obtain ⟨ad107, e107, hx107_0, hx107_1⟩ := at_T41 HR0.out x6_1 p107 q107
    have hw107_1 := hx107_1
    have hw107_0 := hx107_0
    obtain rfl : ad103 = ad107 := (by injection e107)
    replace hx107_0 := hc HB hx107_0
    replace hx107_1 := hc HB hx107_1
    replace p107 := eq_true p107
    replace q107 := eq_true q107
    have p108 : 0 ≤ (x6_1 : Int) := dt
    have q108 : x6_1 < (l0.length : Int) := dt
    obtain ⟨ad108, e108, hx108_0, hx108_1⟩ := at_T41 HR0.out x6_1 p108 q108
    have hw108_1 := hx108_1
    have hw108_0 := hx108_0
    obtain rfl : ad103 = ad108 := (by injection e108)
    replace hx108_0 := hc HB hx108_0
    replace hx108_1 := hc HB hx108_1
    replace p108 := eq_true p108
    replace q108 := eq_true q108
    refine start_ (n := 18) (S := fun w' => w'.cell? ⟨gb105, 0, none⟩ = some (.int .i64 x106000_1) ∧ w'.cell? ⟨gb105, 1, none⟩ = some (.int .i64 x106001_1) ∧ w'.cell? (ad103.add ((x6_1).toNat * 2)) = some (.int .i64 ((rd_T41 l0 x6_1).f0)) ∧ w'.cell? ⟨(ad103.add ((x6_1).toNat * 2)).block, (ad103.add ((x6_1).toNat * 2)).off + 1, none⟩ = some (.int .i64 ((rd_T41 l0 x6_1).f1)) ∧ w'.cell? (ad103.add ((x6_1).toNat * 2)) = some (.int .i64 ((rd_T41 l0 x6_1).f0)) ∧ w'.cell? ⟨(ad103.add ((x6_1).toNat * 2)).block, (ad103.add ((x6_1).toNat * 2)).off + 1, none⟩ = some (.int .i64 ((rd_T41 l0 x6_1).f1))) (ds := [17]) #[N,N,N,N,N,N,N,N,N,N,N,N,N,N,N,N,N,N] (by kernel_rfl) rfl rfl ⟨bc BK105 0, bc BK105 1, (hc HB hw107_0), (hc HB hw107_1), (hc HB hw108_0), (hc HB hw108_1)⟩ (fun hHeld => ?_); refine with_tabW cracknelref04_box.tab5 cracknelref04_box.bits5 (fun HT_ HW_ => ?_)
    generalize wr.drew = w19 at BK101 BK102 BK105 BK106 HB hx107_0 hx107_1 hx108_0 hx108_1 hHeld ⊢
    refine pu 0 19 HT_ ?_
    refine pu 2 21 HT_ ?_
    refine pu 3 22 HT_ ?_
    refine pu 4 23 HT_ ?_
    refine pu 5 24 HT_ ?_
    refine pu 8 27 HT_ ?_
    refine pu 10 29 HT_ ?_
    refine pu 11 30 HT_ ?_
    refine pu 12 31 HT_ ?_
    refine pu 13 32 HT_ ?_
    refine tk6 1 20 hHeld HT_ HW_ ?_
    refine tk6 6 25 hHeld HT_ HW_ ?_
    refine pu 7 26 HT_ ?_
    refine tk6 9 28 hHeld HT_ HW_ ?_
    refine tk6 14 33 hHeld HT_ HW_ ?_
    refine pu 15 34 HT_ ?_
    refine pu 16 35 HT_ ?_
    refine last_ (i := 17) (N := none) #[T,T,T,T,T,T,T,T,T,T,T,T,T,T,T,T,T,T] rfl rfl (on1 HT_) (by decide) (fun K hK => ?_)
    have hs20 : w19.cell? ⟨gb105, 0, none⟩ = some (.int .i64 x106000_1) := bc BK105 0
    have hfs20 := blk_frozen BK105.out 0
    have hns20_0 := NB101_105.out
    have hns20_1 := NB102_105.out
    have hns20_3 := NB106_105.out
    have hms20_0 := NB105_101.out
    have hms20_1 := NB105_102.out
    have hms20_3 := NB105_106.out
    have hs21 : w19.cell? ⟨gb105, 1, none⟩ = some (.int .i64 x106001_1) := bc BK105 1
    have hfs21 := blk_frozen BK105.out 1
    have hns21_0 := NB101_105.out
    have hns21_1 := NB102_105.out
    have hns21_3 := NB106_105.out
    have hms21_0 := NB105_101.out
    have hms21_1 := NB105_102.out
    have hms21_3 := NB105_106.out
    refine skip_ (w1 := ?_) (by rfl) rfl ?_ ?_
    rotate_left
    ·go_simp
     rfl
    refine hK.out _ _ ?_
    clear hK K
    refine done_ (done_of HT_.out (by kernel_rfl)) ?_
    try go_wp2
    have n0_ : Aside0 (((w19.setCell ⟨gb105, 0, none⟩ (.int .i64 ji15)).setCell ⟨gb105, 1, none⟩ (.int .i64 ji16)).heap[gb101]? = some (.cells #[.int .i64 0, .int .i64 0] 41 (0, 0))) := ⟨by refine bf NB101_105 ?_; refine bf NB101_105 ?_; refine bd ?_; exact BK101.out⟩
    have n1_ : Aside0 (((w19.setCell ⟨gb105, 0, none⟩ (.int .i64 ji15)).setCell ⟨gb105, 1, none⟩ (.int .i64 ji16)).heap[gb102]? = some (.cells #[.int .i64 0, .int .i64 0] 41 (0, 0))) := ⟨by refine bf NB102_105 ?_; refine bf NB102_105 ?_; refine bd ?_; exact BK102.out⟩
    have n2_ : Aside0 (((w19.setCell ⟨gb105, 0, none⟩ (.int .i64 ji15)).setCell ⟨gb105, 1, none⟩ (.int .i64 ji16)).heap[gb105]? = some (.cells #[.int .i64 ji15, .int .i64 ji16] 41 (0, 0))) := ⟨by refine bd ?_; refine blk_put (cs := #[.int .i64 ji15, .int .i64 x106001_1]) ?_ 1 _ rfl; refine bd ?_; refine blk_put (cs := #[.int .i64 x106000_1, .int .i64 x106001_1]) ?_ 0 _ rfl; refine bd ?_; exact BK105.out⟩
    have n3_ : Aside0 (((w19.setCell ⟨gb105, 0, none⟩ (.int .i64 ji15)).setCell ⟨gb105, 1, none⟩ (.int .i64 ji16)).heap[gb106]? = some (.cells #[.int .i64 x107000_1, .int .i64 x107001_1] 41 (0, 0))) := ⟨by refine bf NB106_105 ?_; refine bf NB106_105 ?_; refine bd ?_; exact BK106.out⟩
    have n4_ : Aside0 (Below w.heap.size w ((w19.setCell ⟨gb105, 0, none⟩ (.int .i64 ji15)).setCell ⟨gb105, 1, none⟩ (.int .i64 ji16))) := ⟨bh⟩
    (try clear BK101); (try clear BK102); (try clear BK105); (try clear BK106); (try clear HB)
    generalize ((w19.setCell ⟨gb105, 0, none⟩ (.int .i64 ji15)).setCell ⟨gb105, 1, none⟩ (.int .i64 ji16)) = w22 at n0_ n1_ n2_ n3_ n4_ ⊢
    have BK101 := n0_
    have BK102 := n1_
    have BK105 := n2_
    have BK106 := n3_
    have HB := n4_
    clear n0_ n1_ n2_ n3_ n4_
    replace BK101 := Aside0.mk (blk_drew BK101.out)
    replace BK102 := Aside0.mk (blk_drew BK102.out)
    replace BK105 := Aside0.mk (blk_drew BK105.out)
    replace BK106 := Aside0.mk (blk_drew BK106.out)
    replace HB := Aside0.mk (below_drew1 HB.out)
    have p109 : 0 ≤ (x6_1 : Int) := dt
    have q109 : x6_1 < (l0.length : Int) := dt
    obtain ⟨ad109, e109, hx109_0, hx109_1⟩ := at_T41 HR0.out x6_1 p109 q109
    have hw109_1 := hx109_1
    have hw109_0 := hx109_0
    obtain rfl : ad103 = ad109 := (by injection e109)
    replace hx109_0 := hc HB hx109_0
    replace hx109_1 := hc HB hx109_1
    replace p109 := eq_true p109
    replace q109 := eq_true q109
    have p110 : 0 ≤ (x6_1 : Int) := dt
    have q110 : x6_1 < (l0.length : Int) := dt
    obtain ⟨ad110, e110, hx110_0, hx110_1⟩ := at_T41 HR0.out x6_1 p110 q110
    have hw110_1 := hx110_1
    have hw110_0 := hx110_0
    obtain rfl : ad103 = ad110 := (by injection e110)
    replace hx110_0 := hc HB hx110_0
    replace hx110_1 := hc HB hx110_1
    replace p110 := eq_true p110
    replace q110 := eq_true q110
    refine start_ (n := 18) (S := fun w' => w'.cell? ⟨gb106, 0, none⟩ = some (.int .i64 x107000_1) ∧ w'.cell? ⟨gb106, 1, none⟩ = some (.int .i64 x107001_1) ∧ w'.cell? (ad103.add ((x6_1).toNat * 2)) = some (.int .i64 ((rd_T41 l0 x6_1).f0)) ∧ w'.cell? ⟨(ad103.add ((x6_1).toNat * 2)).block, (ad103.add ((x6_1).toNat * 2)).off + 1, none⟩ = some (.int .i64 ((rd_T41 l0 x6_1).f1)) ∧ w'.cell? (ad103.add ((x6_1).toNat * 2)) = some (.int .i64 ((rd_T41 l0 x6_1).f0)) ∧ w'.cell? ⟨(ad103.add ((x6_1).toNat * 2)).block, (ad103.add ((x6_1).toNat * 2)).off + 1, none⟩ = some (.int .i64 ((rd_T41 l0 x6_1).f1))) (ds := [17]) #[N,N,N,N,N,N,N,N,N,N,N,N,N,N,N,N,N,N] (by kernel_rfl) rfl rfl ⟨bc BK106 0, bc BK106 1, (hc HB hw109_0), (hc HB hw109_1), (hc HB hw110_0), (hc HB hw110_1)⟩ (fun hHeld => ?_); refine with_tabW cracknelref04_box.tab6 cracknelref04_box.bits6 (fun HT_ HW_ => ?_)
    generalize w22.drew = w23 at BK101 BK102 BK105 BK106 HB hx109_0 hx109_1 hx110_0 hx110_1 hHeld ⊢
    refine pu 0 36 HT_ ?_
    refine pu 2 38 HT_ ?_
    refine pu 3 39 HT_ ?_
    refine pu 4 40 HT_ ?_
    refine pu 5 41 HT_ ?_
    refine pu 8 44 HT_ ?_
    refine pu 10 46 HT_ ?_
    refine pu 11 47 HT_ ?_
    refine pu 12 48 HT_ ?_
    refine pu 13 49 HT_ ?_
    refine tk6 1 37 hHeld HT_ HW_ ?_
    refine tk6 6 42 hHeld HT_ HW_ ?_
    refine pu 7 43 HT_ ?_
    refine tk6 9 45 hHeld HT_ HW_ ?_
    refine tk6 14 50 hHeld HT_ HW_ ?_
    refine pu 15 51 HT_ ?_
    refine pu 16 52 HT_ ?_
    refine last_ (i := 17) (N := none) #[T,T,T,T,T,T,T,T,T,T,T,T,T,T,T,T,T,T] rfl rfl (on1 HT_) (by decide) (fun K hK => ?_)
    have hs24 : w23.cell? ⟨gb106, 0, none⟩ = some (.int .i64 x107000_1) := bc BK106 0
    have hfs24 := blk_frozen BK106.out 0
    have hns24_0 := NB101_106.out
    have hns24_1 := NB102_106.out
    have hns24_2 := NB105_106.out
    have hms24_0 := NB106_101.out
    have hms24_1 := NB106_102.out
    have hms24_2 := NB106_105.out
    have hs25 : w23.cell? ⟨gb106, 1, none⟩ = some (.int .i64 x107001_1) := bc BK106 1
    have hfs25 := blk_frozen BK106.out 1
    have hns25_0 := NB101_106.out
    have hns25_1 := NB102_106.out
    have hns25_2 := NB105_106.out
    have hms25_0 := NB106_101.out
    have hms25_1 := NB106_102.out
    have hms25_2 := NB106_105.out
    refine skip_ (w1 := ?_) (by rfl) rfl ?_ ?_
    rotate_left
    ·go_simp
     rfl
    refine hK.out _ _ ?_
    clear hK K
    refine done_ (done_of HT_.out (by kernel_rfl)) ?_
    try go_wp2
    go_roundg k1
    case measure => have := HK1.out; omega
    case rel => exact ⟨(wrap64 (x6_1 + 1)), (ji15), (ji16), (ji17), (ji18), sd, H', ⟨by have := HK1.out; omega⟩, ⟨by refine bf NB101_106 ?_; refine bf NB101_106 ?_; refine bd ?_; exact BK101.out⟩, ⟨by refine bf NB102_106 ?_; refine bf NB102_106 ?_; refine bd ?_; exact BK102.out⟩, ⟨by refine bf NB105_106 ?_; refine bf NB105_106 ?_; refine bd ?_; exact BK105.out⟩, ⟨by refine bd ?_; refine blk_put (cs := #[.int .i64 ji17, .int .i64 x107001_1]) ?_ 1 _ rfl; refine bd ?_; refine blk_put (cs := #[.int .i64 x107000_1, .int .i64 x107001_1]) ?_ 0 _ rfl; refine bd ?_; exact BK106.out⟩, ⟨bh⟩⟩
   ·rw [if_neg c13] at H
    have c13b0 := decide_eq_false c13
    clear c13
    simp only [Option.some.injEq, Prod.mk.injEq] at H
    obtain ⟨rfl, rfl, rfl, rfl⟩ := H
    try go_wp2
    replace BK101 := Aside0.mk (blk_drew BK101.out)
    replace BK102 := Aside0.mk (blk_drew BK102.out)
    replace BK105 := Aside0.mk (blk_drew BK105.out)
    replace BK106 := Aside0.mk (blk_drew BK106.out)
    replace HB := Aside0.mk (below_drew1 HB.out)
    refine start_ (n := 4) (S := fun w' => w'.cell? ⟨gb105, 0, none⟩ = some (.int .i64 x106000_1) ∧ w'.cell? ⟨gb105, 1, none⟩ = some (.int .i64 x106001_1) ∧ w'.cell? ⟨gb106, 0, none⟩ = some (.int .i64 x107000_1) ∧ w'.cell? ⟨gb106, 1, none⟩ = some (.int .i64 x107001_1)) (ds := []) #[N,N,N,N] (by kernel_rfl) rfl rfl ⟨bc BK105 0, bc BK105 1, bc BK106 0, bc BK106 1⟩ (fun hHeld => ?_)
    generalize wr.drew = w26 at BK101 BK102 BK105 BK106 HB hHeld ⊢
    refine take_ (i := 0) (N := some 53) (v := ?_) (a' := ?_) #[T,N,N,N] rfl rfl (by kernel_rfl) (fun _ _ _ h => h) (Or.inl ⟨by rfl, ?_⟩) hHeld ?_ ?_
    rotate_left
    ·rintro w' ⟨s0, s1, s2, s3⟩
     go_simp
     with_reducible rfl
    rotate_left
    ·simp only [Act.put, List.setIfInBounds_toArray, List.set_cons_zero, List.set_cons_succ, i64_w, i32_w]
     rfl
    refine take_ (i := 1) (N := some 54) (v := ?_) (a' := ?_) #[T,T,N,N] rfl rfl (by kernel_rfl) (fun _ _ _ h => h) (Or.inl ⟨by rfl, ?_⟩) hHeld ?_ ?_
    rotate_left
    ·rintro w' ⟨s0, s1, s2, s3⟩
     go_simp
     with_reducible rfl
    rotate_left
    ·simp only [Act.put, List.setIfInBounds_toArray, List.set_cons_zero, List.set_cons_succ, i64_w, i32_w]
     rfl
    refine one_ (i := 2) (N := none) #[T,T,T,N] rfl rfl (by kernel_rfl) (by decide) (fun K hK => ?_)
    have hs27 : w26.cell? ⟨gb101, 0, none⟩ = some (.int .i64 0) := bc BK101 0
    have hfs27 := blk_frozen BK101.out 0
    have hns27_1 := NB102_101.out
    have hns27_2 := NB105_101.out
    have hns27_3 := NB106_101.out
    have hms27_1 := NB101_102.out
    have hms27_2 := NB101_105.out
    have hms27_3 := NB101_106.out
    have hs28 : w26.cell? ⟨gb101, 1, none⟩ = some (.int .i64 0) := bc BK101 1
    have hfs28 := blk_frozen BK101.out 1
    have hns28_1 := NB102_101.out
    have hns28_2 := NB105_101.out
    have hns28_3 := NB106_101.out
    have hms28_1 := NB101_102.out
    have hms28_2 := NB101_105.out
    have hms28_3 := NB101_106.out
    refine skip_ (w1 := ?_) (by rfl) rfl ?_ ?_
    rotate_left
    ·go_simp
     rfl
    refine hK.out _ _ ⟨((cell_far (p := ⟨gb101, _, none⟩) NB105_101.out _).trans (((cell_far (p := ⟨gb101, _, none⟩) NB105_101.out _).trans (hHeld.1)))), ((cell_far (p := ⟨gb101, _, none⟩) NB105_101.out _).trans (((cell_far (p := ⟨gb101, _, none⟩) NB105_101.out _).trans (hHeld.2.1)))), ((cell_far (p := ⟨gb101, _, none⟩) NB106_101.out _).trans (((cell_far (p := ⟨gb101, _, none⟩) NB106_101.out _).trans (hHeld.2.2.1)))), ((cell_far (p := ⟨gb101, _, none⟩) NB106_101.out _).trans (((cell_far (p := ⟨gb101, _, none⟩) NB106_101.out _).trans (hHeld.2.2.2))))⟩ (fun hHeld => ?_)
    clear hK K
    refine one_ (i := 3) (N := none) #[T,T,T,T] rfl rfl (by kernel_rfl) (by decide) (fun K hK => ?_)
    have hs29 : w26.cell? ⟨gb102, 0, none⟩ = some (.int .i64 0) := bc BK102 0
    have hfs29 := blk_frozen BK102.out 0
    have hns29_0 := NB101_102.out
    have hns29_2 := NB105_102.out
    have hns29_3 := NB106_102.out
    have hms29_0 := NB102_101.out
    have hms29_2 := NB102_105.out
    have hms29_3 := NB102_106.out
    have hs30 : w26.cell? ⟨gb102, 1, none⟩ = some (.int .i64 0) := bc BK102 1
    have hfs30 := blk_frozen BK102.out 1
    have hns30_0 := NB101_102.out
    have hns30_2 := NB105_102.out
    have hns30_3 := NB106_102.out
    have hms30_0 := NB102_101.out
    have hms30_2 := NB102_105.out
    have hms30_3 := NB102_106.out
    refine skip_ (w1 := ?_) (by rfl) rfl ?_ ?_
    rotate_left
    ·go_simp
     rfl
    refine hK.out _ _ ⟨((cell_far (p := ⟨gb102, _, none⟩) NB105_102.out _).trans (((cell_far (p := ⟨gb102, _, none⟩) NB105_102.out _).trans (hHeld.1)))), ((cell_far (p := ⟨gb102, _, none⟩) NB105_102.out _).trans (((cell_far (p := ⟨gb102, _, none⟩) NB105_102.out _).trans (hHeld.2.1)))), ((cell_far (p := ⟨gb102, _, none⟩) NB106_102.out _).trans (((cell_far (p := ⟨gb102, _, none⟩) NB106_102.out _).trans (hHeld.2.2.1)))), ((cell_far (p := ⟨gb102, _, none⟩) NB106_102.out _).trans (((cell_far (p := ⟨gb102, _, none⟩) NB106_102.out _).trans (hHeld.2.2.2))))⟩ (fun hHeld => ?_)
    clear hK K
    refine done_ (by kernel_rfl) ?_
    try go_wp2
    refine bodyPost_ret (results_cc rfl _ _ gb101 gb102 41 41 #[.int .i64 x106000_1, .int .i64 x106001_1] #[.int .i64 x107000_1, .int .i64 x107001_1] (0, 0) (0, 0) _ _ rfl (by refine bf NB101_102 ?_; refine bf NB101_102 ?_; refine bd ?_; refine blk_put (cs := #[.int .i64 x106000_1, .int .i64 0]) ?_ 1 _ rfl; refine bd ?_; refine blk_put (cs := #[.int .i64 0, .int .i64 0]) ?_ 0 _ rfl; refine bd ?_; exact BK101.out) Try.underlying41 rfl (by kernel_rfl) rfl (by refine bd ?_; refine blk_put (cs := #[.int .i64 x107000_1, .int .i64 0]) ?_ 1 _ rfl; refine bd ?_; refine blk_put (cs := #[.int .i64 0, .int .i64 0]) ?_ 0 _ rfl; refine bf NB102_101 ?_; refine bf NB102_101 ?_; refine bd ?_; exact BK102.out) Try.underlying41 rfl (by kernel_rfl)) rfl ?_
    exact ⟨by exact er, bh⟩
/-! ### cracknelref04_Nest: function 17 -/
mutual
def cracknelref04_Nest.l0 : Nat → Int → Int → List (List (S41)) → List (S48) → List (List (S41)) → Int → Option ((List (S48)))
 | 0, _, _, _, _, _, _ => none
 | k + 1, x0, x1, x2, x7, x8, x9 => if x9 < (x2.length : Int) then (if 0 ≤ x9 then ((cracknelref04_box.f k (rd_L2 x2 x9)).bind fun bt108 => ((cracknelref04_Moved.f k (rd_L2 x2 x9) (wrap64 (-bt108.1)) (wrap64 (-bt108.2.1))).bind fun t115 => (cracknelref04_Nest.l1 k x0 x1 x2 x7 x8 x9 t115 false 0 bt108.1 bt108.2.1 bt108.2.2.1 bt108.2.2.2))) else (none)) else (some x7)
def cracknelref04_Nest.l1 : Nat → Int → Int → List (List (S41)) → List (S48) → List (List (S41)) → Int → List (S41) → Bool → Int → Int → Int → Int → Int → Option ((List (S48)))
 | 0, _, _, _, _, _, _, _, _, _, _, _, _, _ => none
 | k + 1, x0, x1, x2, x7, x8, x9, x12, x13, x14, x113000, x113001, x114000, x114001 => if x14 ≤ (wrap64 (x1 - (wrap64 (x114001 - x113001)))) then (cracknelref04_Nest.j2 k x0 x1 x2 x7 x8 x9 x12 x13 x14 (!x13) x113000 x113001 x114000 x114001) else (cracknelref04_Nest.j2 k x0 x1 x2 x7 x8 x9 x12 x13 x14 false x113000 x113001 x114000 x114001)
def cracknelref04_Nest.j2 : Nat → Int → Int → List (List (S41)) → List (S48) → List (List (S41)) → Int → List (S41) → Bool → Int → Bool → Int → Int → Int → Int → Option ((List (S48)))
 | 0, _, _, _, _, _, _, _, _, _, _, _, _, _, _ => none
 | k + 1, x0, x1, x2, x7, x8, x9, x12, x13, x14, x59, x113000, x113001, x114000, x114001 => if x59 = true then (cracknelref04_Nest.l2 k x0 x1 x2 x7 x8 x9 x12 x13 x14 0 x113000 x113001 x114000 x114001) else (cracknelref04_Nest.l0 k x0 x1 x2 x7 x8 (wrap64 (x9 + 1)))
def cracknelref04_Nest.l2 : Nat → Int → Int → List (List (S41)) → List (S48) → List (List (S41)) → Int → List (S41) → Bool → Int → Int → Int → Int → Int → Int → Option ((List (S48)))
 | 0, _, _, _, _, _, _, _, _, _, _, _, _, _, _ => none
 | k + 1, x0, x1, x2, x7, x8, x9, x12, x13, x14, x15, x113000, x113001, x114000, x114001 => if x15 ≤ (wrap64 (x0 - (wrap64 (x114000 - x113000)))) then (cracknelref04_Nest.j4 k x0 x1 x2 x7 x8 x9 x12 x13 x14 x15 (!x13) x113000 x113001 x114000 x114001) else (cracknelref04_Nest.j4 k x0 x1 x2 x7 x8 x9 x12 x13 x14 x15 false x113000 x113001 x114000 x114001)
def cracknelref04_Nest.j4 : Nat → Int → Int → List (List (S41)) → List (S48) → List (List (S41)) → Int → List (S41) → Bool → Int → Int → Bool → Int → Int → Int → Int → Option ((List (S48)))
 | 0, _, _, _, _, _, _, _, _, _, _, _, _, _, _, _ => none
 | k + 1, x0, x1, x2, x7, x8, x9, x12, x13, x14, x15, x74, x113000, x113001, x114000, x114001 => if x74 = true then ((cracknelref04_Moved.f k x12 x15 x14).bind fun t118 => (cracknelref04_Nest.l3 k x0 x1 x2 x7 x8 x9 x12 x13 x14 x15 t118 true 0 x113000 x113001 x114000 x114001)) else (cracknelref04_Nest.l1 k x0 x1 x2 x7 x8 x9 x12 x13 (wrap64 (x14 + 1)) x113000 x113001 x114000 x114001)
def cracknelref04_Nest.j6 : Nat → Int → Int → List (List (S41)) → List (S48) → List (List (S41)) → Int → List (S41) → Bool → Int → Int → List (S41) → Bool → Int → Int → Int → Int → Option ((List (S48)))
 | 0, _, _, _, _, _, _, _, _, _, _, _, _, _, _, _, _ => none
 | k + 1, x0, x1, x2, x7, x8, x9, x12, x13, x14, x15, x16, x17, x113000, x113001, x114000, x114001 => if x17 = true then (if x7.length < 5864062014805 then (if x8.length < 5864062014805 then (cracknelref04_Nest.l2 k x0 x1 x2 (x7 ++ [(⟨x9, (⟨x15, x14⟩ : S41)⟩ : S48)]) (x8 ++ [x16]) x9 x12 true x14 (wrap64 (x15 + 1)) x113000 x113001 x114000 x114001) else (none)) else (none)) else (cracknelref04_Nest.l2 k x0 x1 x2 x7 x8 x9 x12 x13 x14 (wrap64 (x15 + 1)) x113000 x113001 x114000 x114001)
def cracknelref04_Nest.l3 : Nat → Int → Int → List (List (S41)) → List (S48) → List (List (S41)) → Int → List (S41) → Bool → Int → Int → List (S41) → Bool → Int → Int → Int → Int → Int → Option ((List (S48)))
 | 0, _, _, _, _, _, _, _, _, _, _, _, _, _, _, _, _, _ => none
 | k + 1, x0, x1, x2, x7, x8, x9, x12, x13, x14, x15, x16, x17, x18, x113000, x113001, x114000, x114001 => if x18 < (x8.length : Int) then (if x17 = true then (if 0 ≤ x18 then ((cracknelref04_Apart.f k (rd_L2 x8 x18) x16).bind fun t122 => (cracknelref04_Nest.l3 k x0 x1 x2 x7 x8 x9 x12 x13 x14 x15 x16 t122 (wrap64 (x18 + 1)) x113000 x113001 x114000 x114001)) else (none)) else (cracknelref04_Nest.j6 k x0 x1 x2 x7 x8 x9 x12 x13 x14 x15 x16 x17 x113000 x113001 x114000 x114001)) else (cracknelref04_Nest.j6 k x0 x1 x2 x7 x8 x9 x12 x13 x14 x15 x16 x17 x113000 x113001 x114000 x114001)
end
def cracknelref04_Nest.f (k : Nat) (a0 : Int) (a1 : Int) (l2 : List (List (S41))) : Option ((List (S48))) := cracknelref04_Nest.l0 k a0 a1 l2 (([] : List (S48))) (([] : List (List (S41)))) 0
def cracknelref04_Nest.T6 : Bool × List (List Nat × List Nat) := (true, [([], []), ([], []), ([0, 1], [0, 1]), ([2], [2]), ([], []), ([4], [4]), ([5], [5]), ([], []), ([7], [7]), ([8], [8]), ([6, 9], [6, 9]), ([3, 10], [3, 10]), ([11, 11, 0, 1, 2, 3, 4, 5, 6, 7, 8, 9, 10, 11], [11])])
def cracknelref04_Nest.B6 : List Nat := [0, 0, 3, 7, 0, 16, 48, 0, 128, 384, 1008, 2047, 4095]
theorem cracknelref04_Nest.tab6 : rtab .any (opsOf Try.f17 6) = cracknelref04_Nest.T6 := by kernel_rfl
theorem cracknelref04_Nest.bits6 : waitsOk cracknelref04_Nest.T6.2 cracknelref04_Nest.B6 = true := by kernel_rfl
set_option maxHeartbeats 8000000 in
set_option maxRecDepth 100000 in
theorem cracknelref04_Nest.calls (k : Nat) (a0 : Int) (a1 : Int) (A2 : Option Addr) (c2 : Nat) (l2 : List (List (S41))) (r : List (S48)) (w : World) (hr2 : Kd.C (Kd.slice 41 k41) w A2 l2.length l2) (hc2 : l2.length ≤ c2) (h : cracknelref04_Nest.f k a0 a1 l2 = some r) :
  Calls Try.prog 17 #[.int .i64 a0, .int .i64 a1, .slice A2 l2.length c2] w fun e w' => ∃ v0_ : Value, e = .returned (v0_) ∧ Kd.R k48 48 w' w.heap.size (fun _ => True) v0_ r ∧ Below w.heap.size w w' := by
 have hu41 := Try.underlying41
 have hu48 := Try.underlying48
 have HR2 := Aside0.mk hr2
 have HC2 := Aside0.mk hc2
 clear hr2 hc2
 have HB := Aside0.mk (Below.refl w.heap.size w)
 have H : (cracknelref04_Nest.l0 k a0 a1 l2 (([] : List (S48))) (([] : List (List (S41)))) 0) = some r := h
 clear h
 obtain ⟨y101, hy101⟩ : ∃ y_ : List (S48), y_ = (([] : List (S48))) := ⟨_, rfl⟩
 replace H : (cracknelref04_Nest.l0 k a0 a1 l2 y101 (([] : List (List (S41)))) 0) = some r := by first | (rw [hy101]; with_reducible exact H) | (have H2_ := (Option.bind_some _ _).symm.trans H; rw [hy101]; with_reducible exact H2_) | (have H2_ := (Option.bind_some _ _).symm.trans H; with_reducible exact H2_) | with_reducible exact H | (rw [hy101]; exact H) | exact H
 have Ny101 := Aside0.mk hy101
 clear hy101
 obtain ⟨y104, hy104⟩ : ∃ y_ : List (List (S41)), y_ = (([] : List (List (S41)))) := ⟨_, rfl⟩
 replace H : (cracknelref04_Nest.l0 k a0 a1 l2 y101 y104 0) = some r := by first | (rw [hy104]; with_reducible exact H) | (have H2_ := (Option.bind_some _ _).symm.trans H; rw [hy104]; with_reducible exact H2_) | (have H2_ := (Option.bind_some _ _).symm.trans H; with_reducible exact H2_) | with_reducible exact H | (rw [hy104]; exact H) | exact H
 have Ny104 := Aside0.mk hy104
 clear hy104
 have H' := Aside0.mk H
 clear H
 go_enter Try.func17, Try.ntmps17
 go_wp2_with (first | ((with_reducible refine gate_dst (N := 19) rfl ?_); refine Kd.R_lit k48 _ 48 ?hg (N := 19) ?hd (xs := ([] : List (S48))) (inner := []) (ok := fun _ => True) (okp := fun _ => True) ?hr ?hp (fun _ hk => hk) trivial (Below.refl _ _) (Nat.le_refl _) (by simp) ?_; (case hd => rfl); (case hg => rfl); (case hr => first | (go_simp; done) | (go_simp; rfl)); (case hp => exact (Reps.none _ _)); intro v102 w4 ho5 hb hg_ hnew_; clear hg_ hnew_; (first | rw [← Ny101.out] at ho5 | (simp only [Int.reduceToNat] at ho5; rw [← Ny101.out] at ho5)); have HO103 := Aside0.mk (Kd.R_lower ho5 (below_size bh)); replace HB := bz hb; clear hb ho5) | ((with_reducible refine gate_dst (N := 20) rfl ?_); refine Kd.S_lit (Kd.slice 41 k41) _ 22 ?hg (N := 20) ?hd (xs := ([] : List (List (S41)))) (inner := []) (ok := fun _ => True) (okp := fun _ => True) ?hr ?hp (fun _ hk => hk) trivial (Below.refl _ _) (Nat.le_refl _) (by simp) ?_; (case hd => rfl); (case hg => rfl); (case hr => first | (go_simp; done) | (go_simp; rfl)); (case hp => exact (Reps.none _ _)); intro v105 w6 ho7 hb hg_ hnew_; clear hg_ hnew_; (first | rw [← Ny104.out] at ho7 | (simp only [Int.reduceToNat] at ho7; rw [← Ny104.out] at ho7)); have HO106 := Aside0.mk (Kd.S_lower ho7 (below_size bh)); replace HO103 := Aside0.mk (Kd.R_below (ro HO103) hb); replace HB := bz hb; clear hb ho7))
 go_loopg [7, 8, 9] k (fun kq v7 v8 v9 w' => ∃ (x7_1 : List (S48)) (x8_1 : List (List (S41))) (x9_1 : Int), v9 = .int .i64 x9_1 ∧ Aside0 (cracknelref04_Nest.l0 kq a0 a1 l2 x7_1 x8_1 x9_1 = some r) ∧ Aside0 (kq ≤ k) ∧ Aside0 (Kd.R k48 48 w' w.heap.size (fun _ => True) v7 x7_1) ∧ Aside0 (Kd.S (Kd.slice 41 k41) 22 w' w.heap.size (fun _ => True) v8 x8_1) ∧ Aside0 (Below w.heap.size w w'))
 case atStart => exact ⟨(y101), (y104), (0), sd, H', ⟨Nat.le_refl _⟩, ⟨ro HO103⟩, ⟨so HO106⟩, ⟨bh⟩⟩
 case round =>
  clear H'
  (try clear c2)
  obtain ⟨x7_1, x8_1, x9_1, rfl, HA, HK1, HO_7, HO_8, HB⟩ := hrel
  cases gk with
  | zero => exact absurd HA.out (by simp [cracknelref04_Nest.l0])
  | succ k1 =>
   have H := HA.out
   clear HA
   simp only [cracknelref04_Nest.l0] at H
   by_cases c8 : x9_1 < (l2.length : Int)
   ·rw [if_pos c8] at H
    have c8b0 := decide_eq_true c8
    clear c8
    obtain ⟨c9, H⟩ := oi H
    have c9b0 := decide_eq_true c9
    clear c9
    replace H := Option.bind_eq_some_iff.mp H
    obtain ⟨⟨t108, t109, t110, t111⟩, A100, H⟩ := H
    try dsimp only at H
    have A10 := Aside0.mk A100
    clear A100
    replace H := Option.bind_eq_some_iff.mp H
    obtain ⟨t115, A110, H⟩ := H
    try dsimp only at H
    have A11 := Aside0.mk A110
    clear A110
    have H' := Aside0.mk H
    clear H
    have p107 : 0 ≤ (x9_1 : Int) := dt
    have q107 : x9_1 < (l2.length : Int) := dt
    obtain ⟨ad107, A107_0, c107_0, e107, hx107_0, hl107_0, hi107_0⟩ := at_L2 HR2.out x9_1 p107 q107
    cases e107
    replace hx107_0 := hc HB hx107_0
    have HR107_0 := Aside0.mk hi107_0
    have HC107_0 := Aside0.mk hl107_0
    clear hi107_0 hl107_0
    replace p107 := eq_true p107
    replace q107 := eq_true q107
    try go_wp2_with (first | ((with_reducible refine gc 49 rfl ?_); refine goesL_ (some 32) rfl rfl Try.func49 (by kernel_rfl) rfl #[.slice A107_0 (rd_L2 l2 x9_1).length c107_0] rfl sg ?_; (with_reducible refine (cracknelref04_box.calls k1 _ _ (rd_L2 l2 x9_1) t108 t109 t110 t111 _ ?side1 ?side2 A10.out).mono ?_); (case side1 => exact cs (Kd.C_below HR107_0.out HB.out)); (case side2 => exact HC107_0.out); rintro e w12 ⟨rfl, hb⟩; refine ⟨_, rfl, ?_⟩; replace HO_7 := Aside0.mk (Kd.R_below (ro HO_7) hb); replace HO_8 := Aside0.mk (Kd.S_below (so HO_8) hb); replace HB := bz hb; (try clear hb)) | ((with_reducible refine gate_dst (N := 10) rfl ?_); refine bxe 10 #[.int .i64 0, .int .i64 0] 41 ?_; intro gb112 hg w13 hbox hb; have BK112 := Aside0.mk (hbox); have GW112 := ga w hg; have GE112 := GW112; replace HO_7 := Aside0.mk (Kd.R_below (ro HO_7) hb); replace HO_8 := Aside0.mk (Kd.S_below (Kd.S_elderB (so HO_8) gb112 (Nat.le_of_eq hg.symm)) hb); replace HB := bz hb; clear hb hbox hg) | ((with_reducible refine gate_dst (N := 11) rfl ?_); refine bxe 11 #[.int .i64 0, .int .i64 0] 41 ?_; intro gb113 hg w14 hbox hb; have BK113 := Aside0.mk (hbox); have GW113 := ga w hg; have GE113 := GW113; have NB112_113 := nb hg (kl BK112); have NB113_112 := bn NB112_113; replace HO_7 := Aside0.mk (Kd.R_below (ro HO_7) hb); replace HO_8 := Aside0.mk (Kd.S_below (Kd.S_elderB (so HO_8) gb113 (Nat.le_of_eq hg.symm)) hb); replace BK112 := kb BK112 hb; replace HB := bz hb; clear hb hbox hg; have hnb15 := NB112_113.out; have hnc15 := NB113_112.out; obtain ⟨hcz16_0, hcz16_1, hfz16_0, hfz16_1⟩ := b2 BK112; obtain ⟨hcz17_0, hcz17_1, hfz17_0, hfz17_1⟩ := b2 BK113))
    have n0_ : Aside0 (Kd.R k48 48 ((((w14.setCell ⟨gb112, 0, none⟩ (.int .i64 t108)).setCell ⟨gb112, 1, none⟩ (.int .i64 t109)).setCell ⟨gb113, 0, none⟩ (.int .i64 t110)).setCell ⟨gb113, 1, none⟩ (.int .i64 t111)) w.heap.size (fun _ => True) u7 x7_1) := ⟨by (with_reducible repeat (first | apply Kd.R_alloc | apply Kd.R_drewN | apply Kd.R_drew)); exact Kd.R_mono (Kd.R_far (p := ⟨gb113, 1, none⟩) (Kd.R_far (p := ⟨gb113, 0, none⟩) (Kd.R_far (p := ⟨gb112, 1, none⟩) (Kd.R_far (p := ⟨gb112, 0, none⟩) (Kd.R_types (Kd.R_types HO_7.out BK112.out (by decide)) BK113.out (by decide)) (fun _ hk => hk.1.2) (.int .i64 t108)) (fun _ hk => hk.1.2) (.int .i64 t109)) (fun _ hk => hk.2) (.int .i64 t110)) (fun _ hk => hk.2) (.int .i64 t111)) (fun _ hk => trivial)⟩
    have n1_ : Aside0 (Kd.S (Kd.slice 41 k41) 22 ((((w14.setCell ⟨gb112, 0, none⟩ (.int .i64 t108)).setCell ⟨gb112, 1, none⟩ (.int .i64 t109)).setCell ⟨gb113, 0, none⟩ (.int .i64 t110)).setCell ⟨gb113, 1, none⟩ (.int .i64 t111)) w.heap.size (fun k_ => k_ ≠ gb112 ∧ k_ ≠ gb113) u8 x8_1) := ⟨by (with_reducible repeat (first | apply Kd.S_alloc | apply Kd.S_drewN | apply Kd.S_drew)); exact Kd.S_mono (Kd.S_far (p := ⟨gb113, 1, none⟩) (Kd.S_far (p := ⟨gb113, 0, none⟩) (Kd.S_far (p := ⟨gb112, 1, none⟩) (Kd.S_far (p := ⟨gb112, 0, none⟩) (Kd.S_mono (Kd.S_mono HO_8.out (fun k_ hk => (⟨hk, hk.1.2⟩ : _ ∧ k_ ≠ gb112))) (fun k_ hk => (⟨hk, hk.1.2⟩ : _ ∧ k_ ≠ gb113))) (fun _ hk => hk.1.2) (.int .i64 t108)) (fun _ hk => hk.1.2) (.int .i64 t109)) (fun _ hk => hk.2) (.int .i64 t110)) (fun _ hk => hk.2) (.int .i64 t111)) (fun _ hk => ⟨hk.1.1.1.2, hk.1.1.2⟩)⟩
    have n2_ : Aside0 (((((w14.setCell ⟨gb112, 0, none⟩ (.int .i64 t108)).setCell ⟨gb112, 1, none⟩ (.int .i64 t109)).setCell ⟨gb113, 0, none⟩ (.int .i64 t110)).setCell ⟨gb113, 1, none⟩ (.int .i64 t111)).heap[gb112]? = some (.cells #[.int .i64 t108, .int .i64 t109] 41 (0, 0))) := ⟨by refine bf NB112_113 ?_; refine bf NB112_113 ?_; refine bd ?_; refine blk_put (cs := #[.int .i64 t108, .int .i64 0]) ?_ 1 _ rfl; refine bd ?_; refine blk_put (cs := #[.int .i64 0, .int .i64 0]) ?_ 0 _ rfl; refine bd ?_; exact BK112.out⟩
    have n3_ : Aside0 (((((w14.setCell ⟨gb112, 0, none⟩ (.int .i64 t108)).setCell ⟨gb112, 1, none⟩ (.int .i64 t109)).setCell ⟨gb113, 0, none⟩ (.int .i64 t110)).setCell ⟨gb113, 1, none⟩ (.int .i64 t111)).heap[gb113]? = some (.cells #[.int .i64 t110, .int .i64 t111] 41 (0, 0))) := ⟨by refine bd ?_; refine blk_put (cs := #[.int .i64 t110, .int .i64 0]) ?_ 1 _ rfl; refine bd ?_; refine blk_put (cs := #[.int .i64 0, .int .i64 0]) ?_ 0 _ rfl; refine bf NB113_112 ?_; refine bf NB113_112 ?_; refine bd ?_; exact BK113.out⟩
    have n4_ : Aside0 (Below w.heap.size w ((((w14.setCell ⟨gb112, 0, none⟩ (.int .i64 t108)).setCell ⟨gb112, 1, none⟩ (.int .i64 t109)).setCell ⟨gb113, 0, none⟩ (.int .i64 t110)).setCell ⟨gb113, 1, none⟩ (.int .i64 t111))) := ⟨bh⟩
    (try clear HO_7); (try clear HO_8); (try clear BK112); (try clear BK113); (try clear HB)
    generalize ((((w14.setCell ⟨gb112, 0, none⟩ (.int .i64 t108)).setCell ⟨gb112, 1, none⟩ (.int .i64 t109)).setCell ⟨gb113, 0, none⟩ (.int .i64 t110)).setCell ⟨gb113, 1, none⟩ (.int .i64 t111)) = w18 at n0_ n1_ n2_ n3_ n4_ ⊢
    have HO_7 := n0_
    have HO_8 := n1_
    have BK112 := n2_
    have BK113 := n3_
    have HB := n4_
    clear n0_ n1_ n2_ n3_ n4_
    replace HO_7 := Aside0.mk (Kd.R_drew HO_7.out)
    replace HO_8 := Aside0.mk (Kd.S_drew HO_8.out)
    replace BK112 := Aside0.mk (blk_drew BK112.out)
    replace BK113 := Aside0.mk (blk_drew BK113.out)
    replace HB := Aside0.mk (below_drew1 HB.out)
    have p114 : 0 ≤ (x9_1 : Int) := dt
    have q114 : x9_1 < (l2.length : Int) := dt
    obtain ⟨ad114, A114_0, c114_0, e114, hx114_0, hl114_0, hi114_0⟩ := at_L2 HR2.out x9_1 p114 q114
    have hw114_0 := hx114_0
    obtain rfl : ad107 = ad114 := (by injection e114)
    replace hx114_0 := hc HB hx114_0
    have HR114_0 := Aside0.mk hi114_0
    have HC114_0 := Aside0.mk hl114_0
    clear hi114_0 hl114_0
    replace p114 := eq_true p114
    replace q114 := eq_true q114
    refine start_ (n := 13) (S := fun w' => w'.cell? ⟨gb112, 0, none⟩ = some (.int .i64 t108) ∧ w'.cell? ⟨gb112, 1, none⟩ = some (.int .i64 t109) ∧ w'.cell? (ad107.add (x9_1).toNat) = some (.slice A114_0 (rd_L2 l2 x9_1).length c114_0)) (ds := []) #[N,N,N,N,N,N,N,N,N,N,N,N,N] (by kernel_rfl) rfl rfl ⟨bc BK112 0, bc BK112 1, (hc HB hw114_0)⟩ (fun hHeld => ?_); refine with_tabW cracknelref04_Nest.tab6 cracknelref04_Nest.bits6 (fun HT_ HW_ => ?_)
    generalize w18.drew = w19 at HO_7 HO_8 BK112 BK113 HB HR114_0 hx114_0 hHeld ⊢
    refine pu 0 35 HT_ ?_
    refine pu 1 36 HT_ ?_
    refine pu 2 37 HT_ ?_
    refine pu 4 39 HT_ ?_
    refine pu 7 42 HT_ ?_
    refine take_ (i := 3) (N := some 38) (v := ?_) (a' := ?_) #[T,T,T,T,T,N,N,T,N,N,N,N,N] rfl rfl (take_ofW HT_.out HW_.out (by kernel_rfl)) (fun _ _ _ h => h) (Or.inl ⟨by rfl, ?_⟩) hHeld ?_ ?_
    rotate_left
    ·rintro w' ⟨s0, s1, s2⟩
     go_simp
     with_reducible rfl
    rotate_left
    ·simp only [Act.put, List.setIfInBounds_toArray, List.set_cons_zero, List.set_cons_succ, i64_w, i32_w]
     rfl
    refine take_ (i := 5) (N := some 40) (v := ?_) (a' := ?_) #[T,T,T,T,T,T,N,T,N,N,N,N,N] rfl rfl (take_ofW HT_.out HW_.out (by kernel_rfl)) (fun _ _ _ h => h) (Or.inl ⟨by rfl, ?_⟩) hHeld ?_ ?_
    rotate_left
    ·rintro w' ⟨s0, s1, s2⟩
     go_simp
     with_reducible rfl
    rotate_left
    ·simp only [Act.put, List.setIfInBounds_toArray, List.set_cons_zero, List.set_cons_succ, i64_w, i32_w]
     rfl
    refine pu 6 41 HT_ ?_
    refine take_ (i := 8) (N := some 43) (v := ?_) (a' := ?_) #[T,T,T,T,T,T,T,T,T,N,N,N,N] rfl rfl (take_ofW HT_.out HW_.out (by kernel_rfl)) (fun _ _ _ h => h) (Or.inl ⟨by rfl, ?_⟩) hHeld ?_ ?_
    rotate_left
    ·rintro w' ⟨s0, s1, s2⟩
     go_simp
     with_reducible rfl
    rotate_left
    ·simp only [Act.put, List.setIfInBounds_toArray, List.set_cons_zero, List.set_cons_succ, i64_w, i32_w]
     rfl
    refine pu 9 44 HT_ ?_
    refine pu 10 45 HT_ ?_
    refine one_ (i := 11) (N := some 46) #[T,T,T,T,T,T,T,T,T,T,T,T,N] rfl rfl (on1 HT_) (by decide) (fun K hK => ?_)
    refine goes_ Try.func20 (by kernel_rfl) rfl #[.slice A114_0 (rd_L2 l2 x9_1).length c114_0, .agg #[.int .i64 (wrap64 (-t108)), .int .i64 (wrap64 (-t109))]] (by rfl) rfl rfl sg ?_
    with_reducible refine (cracknelref04_Moved.calls k1 _ _ (rd_L2 l2 x9_1) (wrap64 (-t108)) (wrap64 (-t109)) t115 _ ?side1 ?side2 A11.out).mono ?_
    (case side1 => exact cs (Kd.C_below HR114_0.out HB.out))
    (case side2 => exact HC114_0.out)
    rintro e w20 ⟨v116, rfl, ho0, hb⟩
    refine ⟨_, rfl, ?_⟩
    have HO117 := Aside0.mk (Kd.R_lower (Kd.R_newB (Kd.R_newB ho0 (g := gb112) (o := .cells #[.int .i64 t108, .int .i64 t109] 41 (0, 0)) (bk BK112)) (g := gb113) (o := .cells #[.int .i64 t110, .int .i64 t111] 41 (0, 0)) (bk BK113)) (below_size bh))
    replace HO_7 := Aside0.mk (Kd.R_below (ro HO_7) hb)
    replace HO_8 := Aside0.mk (Kd.S_elder' (so HO_8) (Kd.R_base ho0) hb)
    replace BK112 := kb BK112 hb
    replace BK113 := kb BK113 hb
    replace HB := bz hb
    (try clear hb); (try clear ho0)
    refine hK.out _ _ ⟨bc BK112 0, bc BK112 1, (hc HB hw114_0)⟩ (fun hHeld => ?_)
    clear hK K
    refine nm 46 ?_
    refine pu 12 12 HT_ ?_
    refine done_ (done_of HT_.out (by kernel_rfl)) ?_
    try go_wp2
    go_loopg [7, 8, 13, 14] k1 (fun kq v7 v8 v13 v14 w' => ∃ (x7_2 : List (S48)) (x8_2 : List (List (S41))) (x13_2 : Bool) (x14_2 : Int), v13 = .bool x13_2 ∧ v14 = .int .i64 x14_2 ∧ Aside0 (cracknelref04_Nest.l1 kq a0 a1 l2 x7_2 x8_2 x9_1 t115 x13_2 x14_2 t108 t109 t110 t111 = some r) ∧ Aside0 (kq ≤ k1) ∧ Aside0 (Kd.R k48 48 w' w.heap.size (fun _ => True) v7 x7_2) ∧ Aside0 (Kd.S (Kd.slice 41 k41) 22 w' w.heap.size (fun k_ => some k_ ≠ (v116 : Value).ownBlock ∧ k_ ≠ gb112 ∧ k_ ≠ gb113) v8 x8_2) ∧ Aside0 (Kd.R k41 41 w' w.heap.size (fun k_ => k_ ≠ gb112 ∧ k_ ≠ gb113) v116 t115) ∧ Aside0 (w'.heap[gb112]? = some (.cells #[.int .i64 t108, .int .i64 t109] 41 (0, 0))) ∧ Aside0 (w'.heap[gb113]? = some (.cells #[.int .i64 t110, .int .i64 t111] 41 (0, 0))) ∧ Aside0 (Below w.heap.size w w'))
    case atStart => exact ⟨(x7_1), (x8_1), (false), (0), sd, sd, H', ⟨Nat.le_refl _⟩, ⟨ro HO_7⟩, ⟨by (with_reducible repeat (first | apply Kd.S_alloc | apply Kd.S_drewN | apply Kd.S_drew)); exact Kd.S_mono HO_8.out (fun _ hk => ⟨hk.2, ⟨hk.1.1, hk.1.2⟩⟩)⟩, ⟨by (with_reducible repeat (first | apply Kd.R_alloc | apply Kd.R_drewN | apply Kd.R_drew)); exact Kd.R_mono HO117.out (fun _ hk => ⟨hk.1.2, hk.2⟩)⟩, ⟨bk BK112⟩, ⟨bk BK113⟩, ⟨bh⟩⟩
    case round =>
     clear H'
     (try clear c8b0); (try clear c9b0); (try clear hcz16_0); (try clear hcz16_1); (try clear hcz17_0); (try clear hcz17_1); (try clear hfz16_0); (try clear hfz16_1); (try clear hfz17_0); (try clear hfz17_1); (try clear hx107_0); (try clear hx114_0); (try clear p107); (try clear p114); (try clear q107); (try clear q114)
     obtain ⟨x7_2, x8_2, x13_2, x14_2, rfl, rfl, HA, HK2, HO_7, HO_8, HO_12, BK112, BK113, HB⟩ := hrel
     cases gk with
     | zero => exact absurd HA.out (by simp [cracknelref04_Nest.l1])
     | succ k2 =>
      have H := HA.out
      clear HA
      simp only [cracknelref04_Nest.l1] at H
      have HC21 := Aside0.mk H
      clear H
      go_upto_region 9 with (fail)
      go_cut [59] (fun v59 wc => ∃ (kq : Nat) (x59_20 : Bool), v59 = .bool x59_20 ∧ Aside0 (cracknelref04_Nest.j2 kq a0 a1 l2 x7_2 x8_2 x9_1 t115 x13_2 x14_2 x59_20 t108 t109 t110 t111 = some r) ∧ Aside0 (kq ≤ k2) ∧ Aside0 (Kd.R k48 48 wc w.heap.size (fun _ => True) u7 x7_2) ∧ Aside0 (Kd.S (Kd.slice 41 k41) 22 wc w.heap.size (fun k_ => some k_ ≠ (v116 : Value).ownBlock ∧ k_ ≠ gb112 ∧ k_ ≠ gb113) u8 x8_2) ∧ Aside0 (Kd.R k41 41 wc w.heap.size (fun k_ => k_ ≠ gb112 ∧ k_ ≠ gb113) v116 t115) ∧ Aside0 (wc.heap[gb112]? = some (.cells #[.int .i64 t108, .int .i64 t109] 41 (0, 0))) ∧ Aside0 (wc.heap[gb113]? = some (.cells #[.int .i64 t110, .int .i64 t111] 41 (0, 0))) ∧ Aside0 (Below w.heap.size w wc))
      case first =>
       have H := HC21.out
       clear HC21
       by_cases c22 : x14_2 ≤ (wrap64 (a1 - (wrap64 (t111 - t109))))
       ·rw [if_pos c22] at H
        have c22b0 := decide_eq_true c22
        clear c22
        (first | rw [c22b0] | (simp only [i64_w, i32_w]; rw [c22b0]) | skip)
        have H' := Aside0.mk H
        clear H
        have hnb23 := NB113_112.out
        have hnc23 := NB112_113.out
        obtain ⟨hcz24_0, hcz24_1, hfz24_0, hfz24_1⟩ := b2 BK113
        obtain ⟨hcz25_0, hcz25_1, hfz25_0, hfz25_1⟩ := b2 BK112
        go_wp2
        go_meet
        case rel => exact ⟨_, (!x13_2), sd, H', ⟨by have := HK1.out; have := HK2.out; first | omega | exact Nat.le_refl _⟩, ⟨ro HO_7⟩, ⟨so HO_8⟩, ⟨ro HO_12⟩, ⟨bk BK112⟩, ⟨bk BK113⟩, ⟨bh⟩⟩
       ·rw [if_neg c22] at H
        have c22b0 := decide_eq_false c22
        clear c22
        (first | rw [c22b0] | (simp only [i64_w, i32_w]; rw [c22b0]) | skip)
        have H' := Aside0.mk H
        clear H
        have hnb26 := NB113_112.out
        have hnc26 := NB112_113.out
        obtain ⟨hcz27_0, hcz27_1, hfz27_0, hfz27_1⟩ := b2 BK113
        obtain ⟨hcz28_0, hcz28_1, hfz28_0, hfz28_1⟩ := b2 BK112
        go_wp2
        go_meet
        case rel => exact ⟨_, (false), sd, H', ⟨by have := HK1.out; have := HK2.out; first | omega | exact Nat.le_refl _⟩, ⟨ro HO_7⟩, ⟨so HO_8⟩, ⟨ro HO_12⟩, ⟨bk BK112⟩, ⟨bk BK113⟩, ⟨bh⟩⟩
      case rest =>
       clear HC21
       skip
       obtain ⟨kq, x59_20, rfl, HA, HJ20, HO_7, HO_8, HO_12, BK112, BK113, HB⟩ := hcut
       cases kq with
       | zero => exact absurd HA.out (by simp [cracknelref04_Nest.j2])
       | succ kj20 =>
        have H := HA.out
        clear HA
        simp only [cracknelref04_Nest.j2] at H
        by_cases c29 : x59_20 = true
        ·subst c29
         rw [if_pos rfl] at H
         have H' := Aside0.mk H
         clear H
         go_wp2
         go_loopg [7, 8, 13, 15] kj20 (fun kq v7 v8 v13 v15 w' => ∃ (x7_4 : List (S48)) (x8_4 : List (List (S41))) (x13_4 : Bool) (x15_4 : Int), v13 = .bool x13_4 ∧ v15 = .int .i64 x15_4 ∧ Aside0 (cracknelref04_Nest.l2 kq a0 a1 l2 x7_4 x8_4 x9_1 t115 x13_4 x14_2 x15_4 t108 t109 t110 t111 = some r) ∧ Aside0 (kq ≤ kj20) ∧ Aside0 (Kd.R k48 48 w' w.heap.size (fun _ => True) v7 x7_4) ∧ Aside0 (Kd.S (Kd.slice 41 k41) 22 w' w.heap.size (fun k_ => some k_ ≠ (v116 : Value).ownBlock ∧ k_ ≠ gb112 ∧ k_ ≠ gb113) v8 x8_4) ∧ Aside0 (Kd.R k41 41 w' w.heap.size (fun k_ => k_ ≠ gb112 ∧ k_ ≠ gb113) v116 t115) ∧ Aside0 (w'.heap[gb112]? = some (.cells #[.int .i64 t108, .int .i64 t109] 41 (0, 0))) ∧ Aside0 (w'.heap[gb113]? = some (.cells #[.int .i64 t110, .int .i64 t111] 41 (0, 0))) ∧ Aside0 (Below w.heap.size w w'))
         case atStart => exact ⟨(x7_2), (x8_2), (x13_2), (0), sd, sd, H', ⟨Nat.le_refl _⟩, ⟨ro HO_7⟩, ⟨so HO_8⟩, ⟨ro HO_12⟩, ⟨bk BK112⟩, ⟨bk BK113⟩, ⟨bh⟩⟩
         case round =>
          clear H'
          (try clear c29)
          obtain ⟨x7_4, x8_4, x13_4, x15_4, rfl, rfl, HA, HK4, HO_7, HO_8, HO_12, BK112, BK113, HB⟩ := hrel
          cases gk with
          | zero => exact absurd HA.out (by simp [cracknelref04_Nest.l2])
          | succ k4 =>
           have H := HA.out
           clear HA
           simp only [cracknelref04_Nest.l2] at H
           have HC30 := Aside0.mk H
           clear H
           go_upto_region 12 with (fail)
           go_cut [74] (fun v74 wc => ∃ (kq : Nat) (x74_29 : Bool), v74 = .bool x74_29 ∧ Aside0 (cracknelref04_Nest.j4 kq a0 a1 l2 x7_4 x8_4 x9_1 t115 x13_4 x14_2 x15_4 x74_29 t108 t109 t110 t111 = some r) ∧ Aside0 (kq ≤ k4) ∧ Aside0 (Kd.R k48 48 wc w.heap.size (fun _ => True) u7 x7_4) ∧ Aside0 (Kd.S (Kd.slice 41 k41) 22 wc w.heap.size (fun k_ => some k_ ≠ (v116 : Value).ownBlock ∧ k_ ≠ gb112 ∧ k_ ≠ gb113) u8 x8_4) ∧ Aside0 (Kd.R k41 41 wc w.heap.size (fun k_ => k_ ≠ gb112 ∧ k_ ≠ gb113) v116 t115) ∧ Aside0 (wc.heap[gb112]? = some (.cells #[.int .i64 t108, .int .i64 t109] 41 (0, 0))) ∧ Aside0 (wc.heap[gb113]? = some (.cells #[.int .i64 t110, .int .i64 t111] 41 (0, 0))) ∧ Aside0 (Below w.heap.size w wc))
           case first =>
            have H := HC30.out
            clear HC30
            by_cases c31 : x15_4 ≤ (wrap64 (a0 - (wrap64 (t110 - t108))))
            ·rw [if_pos c31] at H
             have c31b0 := decide_eq_true c31
             clear c31
             (first | rw [c31b0] | (simp only [i64_w, i32_w]; rw [c31b0]) | skip)
             have H' := Aside0.mk H
             clear H
             have hnb32 := NB113_112.out
             have hnc32 := NB112_113.out
             obtain ⟨hcz33_0, hcz33_1, hfz33_0, hfz33_1⟩ := b2 BK113
             obtain ⟨hcz34_0, hcz34_1, hfz34_0, hfz34_1⟩ := b2 BK112
             go_wp2
             go_meet
             case rel => exact ⟨_, (!x13_4), sd, H', ⟨by have := HK1.out; have := HK2.out; have := HJ20.out; have := HK4.out; first | omega | exact Nat.le_refl _⟩, ⟨ro HO_7⟩, ⟨so HO_8⟩, ⟨ro HO_12⟩, ⟨bk BK112⟩, ⟨bk BK113⟩, ⟨bh⟩⟩
            ·rw [if_neg c31] at H
             have c31b0 := decide_eq_false c31
             clear c31
             (first | rw [c31b0] | (simp only [i64_w, i32_w]; rw [c31b0]) | skip)
             have H' := Aside0.mk H
             clear H
             have hnb35 := NB113_112.out
             have hnc35 := NB112_113.out
             obtain ⟨hcz36_0, hcz36_1, hfz36_0, hfz36_1⟩ := b2 BK113
             obtain ⟨hcz37_0, hcz37_1, hfz37_0, hfz37_1⟩ := b2 BK112
             go_wp2
             go_meet
             case rel => exact ⟨_, (false), sd, H', ⟨by have := HK1.out; have := HK2.out; have := HJ20.out; have := HK4.out; first | omega | exact Nat.le_refl _⟩, ⟨ro HO_7⟩, ⟨so HO_8⟩, ⟨ro HO_12⟩, ⟨bk BK112⟩, ⟨bk BK113⟩, ⟨bh⟩⟩
           case rest =>
            clear HC30
            skip
            obtain ⟨kq, x74_29, rfl, HA, HJ29, HO_7, HO_8, HO_12, BK112, BK113, HB⟩ := hcut
            cases kq with
            | zero => exact absurd HA.out (by simp [cracknelref04_Nest.j4])
            | succ kj29 =>
             have H := HA.out
             clear HA
             simp only [cracknelref04_Nest.j4] at H
             by_cases c38 : x74_29 = true
             ·subst c38
              rw [if_pos rfl] at H
              replace H := Option.bind_eq_some_iff.mp H
              obtain ⟨t118, A390, H⟩ := H
              try dsimp only at H
              have A39 := Aside0.mk A390
              clear A390
              have HC40 := Aside0.mk H
              clear H
              obtain ⟨Ao41, co41, eo41⟩ := Kd.R_slice HO_12.out
              subst eo41
              go_upto_block 6 with (first | ((with_reducible refine gc 20 rfl ?_); refine goesL_ (some 81) rfl rfl Try.func20 (by kernel_rfl) rfl #[.slice Ao41 t115.length co41, .agg #[.int .i64 x15_4, .int .i64 x14_2]] rfl sg ?_; (with_reducible refine (cracknelref04_Moved.calls kj29 _ _ t115 x15_4 x14_2 t118 _ ?side1 ?side2 A39.out).mono ?_); (case side1 => exact cs (Kd.R_reads' HO_12.out).2.2); (case side2 => exact (Kd.R_reads' HO_12.out).2.1); rintro e w42 ⟨v119, rfl, ho0, hb⟩; refine ⟨_, rfl, ?_⟩; have HO120 := Aside0.mk (Kd.R_lower (Kd.R_newB (Kd.R_newB (Kd.R_new' ho0 (Kd.R_lt (ro HO_12))) (g := gb112) (o := .cells #[.int .i64 t108, .int .i64 t109] 41 (0, 0)) (bk BK112)) (g := gb113) (o := .cells #[.int .i64 t110, .int .i64 t111] 41 (0, 0)) (bk BK113)) (below_size bh)); replace HO_7 := Aside0.mk (Kd.R_below (ro HO_7) hb); replace HO_8 := Aside0.mk (Kd.S_elder' (so HO_8) (Kd.R_base ho0) hb); replace HO_12 := Aside0.mk (Kd.R_elder' (ro HO_12) (Kd.R_base ho0) hb); replace BK112 := kb BK112 hb; replace BK113 := kb BK113 hb; replace HB := bz hb; (try clear hb); (try clear ho0)))
              (try simp only [Act.put, List.setIfInBounds_toArray, List.set_cons_zero, List.set_cons_succ])
              go_cut [17] (fun v17 wc => ∃ (kq : Nat) (x17_39 : Bool), v17 = .bool x17_39 ∧ Aside0 (cracknelref04_Nest.j6 kq a0 a1 l2 x7_4 x8_4 x9_1 t115 x13_4 x14_2 x15_4 t118 x17_39 t108 t109 t110 t111 = some r) ∧ Aside0 (kq ≤ kj29) ∧ Aside0 (Kd.R k48 48 wc w.heap.size (fun _ => True) u7 x7_4) ∧ Aside0 (Kd.S (Kd.slice 41 k41) 22 wc w.heap.size (fun k_ => some k_ ≠ ((.slice Ao41 t115.length co41) : Value).ownBlock ∧ some k_ ≠ (v119 : Value).ownBlock ∧ k_ ≠ gb112 ∧ k_ ≠ gb113) u8 x8_4) ∧ Aside0 (Kd.R k41 41 wc w.heap.size (fun k_ => some k_ ≠ (v119 : Value).ownBlock ∧ k_ ≠ gb112 ∧ k_ ≠ gb113) (.slice Ao41 t115.length co41) t115) ∧ Aside0 (Kd.R k41 41 wc w.heap.size (fun k_ => some k_ ≠ ((.slice Ao41 t115.length co41) : Value).ownBlock ∧ k_ ≠ gb112 ∧ k_ ≠ gb113) v119 t118) ∧ Aside0 (wc.heap[gb112]? = some (.cells #[.int .i64 t108, .int .i64 t109] 41 (0, 0))) ∧ Aside0 (wc.heap[gb113]? = some (.cells #[.int .i64 t110, .int .i64 t111] 41 (0, 0))) ∧ Aside0 (Below w.heap.size w wc))
              case first =>
               have H := HC40.out
               clear HC40
               have H' := Aside0.mk H
               clear H
               go_wp2
               go_loopg [17, 18] kj29 (fun kq v17 v18 w' => ∃ (x17_6 : Bool) (x18_6 : Int), v17 = .bool x17_6 ∧ v18 = .int .i64 x18_6 ∧ Aside0 (cracknelref04_Nest.l3 kq a0 a1 l2 x7_4 x8_4 x9_1 t115 x13_4 x14_2 x15_4 t118 x17_6 x18_6 t108 t109 t110 t111 = some r) ∧ Aside0 (kq ≤ kj29) ∧ Aside0 (Kd.R k48 48 w' w.heap.size (fun _ => True) u7 x7_4) ∧ Aside0 (Kd.S (Kd.slice 41 k41) 22 w' w.heap.size (fun k_ => some k_ ≠ ((.slice Ao41 t115.length co41) : Value).ownBlock ∧ some k_ ≠ (v119 : Value).ownBlock ∧ k_ ≠ gb112 ∧ k_ ≠ gb113) u8 x8_4) ∧ Aside0 (Kd.R k41 41 w' w.heap.size (fun k_ => some k_ ≠ (v119 : Value).ownBlock ∧ k_ ≠ gb112 ∧ k_ ≠ gb113) (.slice Ao41 t115.length co41) t115) ∧ Aside0 (Kd.R k41 41 w' w.heap.size (fun k_ => some k_ ≠ ((.slice Ao41 t115.length co41) : Value).ownBlock ∧ k_ ≠ gb112 ∧ k_ ≠ gb113) v119 t118) ∧ Aside0 (w'.heap[gb112]? = some (.cells #[.int .i64 t108, .int .i64 t109] 41 (0, 0))) ∧ Aside0 (w'.heap[gb113]? = some (.cells #[.int .i64 t110, .int .i64 t111] 41 (0, 0))) ∧ Aside0 (Below w.heap.size w w'))
               case atStart => exact ⟨(true), (0), sd, sd, H', ⟨Nat.le_refl _⟩, ⟨ro HO_7⟩, ⟨by (with_reducible repeat (first | apply Kd.S_alloc | apply Kd.S_drewN | apply Kd.S_drew)); exact Kd.S_mono HO_8.out (fun _ hk => ⟨hk.1.1, ⟨hk.2, ⟨hk.1.2.1, hk.1.2.2⟩⟩⟩)⟩, ⟨by (with_reducible repeat (first | apply Kd.R_alloc | apply Kd.R_drewN | apply Kd.R_drew)); exact Kd.R_mono HO_12.out (fun _ hk => ⟨hk.2, ⟨hk.1.1, hk.1.2⟩⟩)⟩, ⟨by (with_reducible repeat (first | apply Kd.R_alloc | apply Kd.R_drewN | apply Kd.R_drew)); exact Kd.R_mono HO120.out (fun _ hk => ⟨hk.1.1.2, ⟨hk.1.2, hk.2⟩⟩)⟩, ⟨bk BK112⟩, ⟨bk BK113⟩, ⟨bh⟩⟩
               case round =>
                clear H'
                (try clear c38)
                obtain ⟨x17_6, x18_6, rfl, rfl, HA, HK6, HO_7, HO_8, HO_12, HO_16, BK112, BK113, HB⟩ := hrel
                cases gk with
                | zero => exact absurd HA.out (by simp [cracknelref04_Nest.l3])
                | succ k6 =>
                 have H := HA.out
                 clear HA
                 simp only [cracknelref04_Nest.l3] at H
                 by_cases c43 : x18_6 < (x8_4.length : Int)
                 ·rw [if_pos c43] at H
                  have c43b0 := decide_eq_true c43
                  clear c43
                  (first | rw [c43b0] | (simp only [i64_w, i32_w]; rw [c43b0]) | skip)
                  by_cases c44 : x17_6 = true
                  ·subst c44
                   rw [if_pos rfl] at H
                   obtain ⟨c45, H⟩ := oi H
                   have c45b0 := decide_eq_true c45
                   clear c45
                   replace H := Option.bind_eq_some_iff.mp H
                   obtain ⟨t122, A460, H⟩ := H
                   try dsimp only at H
                   have A46 := Aside0.mk A460
                   clear A460
                   have H' := Aside0.mk H
                   clear H
                   obtain ⟨Ao47, co47, eo47⟩ := Kd.S_slice HO_8.out
                   subst eo47
                   have p121 : 0 ≤ (x18_6 : Int) := dt
                   have q121 : x18_6 < (x8_4.length : Int) := dt
                   obtain ⟨ad121, A121_0, c121_0, e121, hx121_0, hl121_0, hi121_0⟩ := at_L2 (Kd.S_reads' HO_8.out).2.2 x18_6 p121 q121
                   cases e121
                   obtain ⟨ce121, hce121, hMe121, hcc121⟩ := Kd.S_get HO_8.out [] x18_6 p121 (by first | exact q121 | exact dt | (have e_ := (Kd.S_reads' HO_8.out).1; omega))
                   obtain ⟨ve121_0, rfl, ge121_0⟩ := hMe121
                   have hv121_0 := hcc121 0 _ rfl
                   rw [Nat.add_zero, show ((Kd.slice 41 k41)).sz = 1 from rfl, Nat.mul_one] at hv121_0
                   replace hv121_0 := Option.some.inj (hv121_0.symm.trans hx121_0)
                   rw [hv121_0] at ge121_0
                   have HL121_0 := Aside0.mk (show Kd.R k41 41 _ _ _ _ (rd_L2 x8_4 x18_6) from ge121_0)
                   clear hv121_0 ge121_0
                   clear hcc121 hce121
                   have HR121_0 := Aside0.mk hi121_0
                   have HC121_0 := Aside0.mk hl121_0
                   clear hi121_0 hl121_0
                   replace p121 := eq_true p121
                   replace q121 := eq_true q121
                   obtain ⟨Ao48, co48, eo48⟩ := Kd.R_slice HO_16.out
                   subst eo48
                   go_wp2_with (first | ((with_reducible refine gc 22 rfl ?_); refine goesL_ (some 96) rfl rfl Try.func22 (by kernel_rfl) rfl #[.slice A121_0 (rd_L2 x8_4 x18_6).length c121_0, .slice Ao48 t118.length co48] rfl sg ?_; (with_reducible refine (cracknelref04_Apart.calls k6 _ _ (rd_L2 x8_4 x18_6) _ _ t118 t122 _ ?side1 ?side2 ?side3 ?side4 A46.out).mono ?_); (case side1 => repeat (first | exact (by repeat (first | (with_reducible exact HR121_0.out) | (with_reducible refine Kd.C_alloc ?_ _) | (with_reducible refine Kd.C_drewN ?_ _) | (with_reducible refine Kd.C_drew ?_) | exact HR121_0.out)) | (with_reducible refine Kd.C_alloc ?_ _) | (with_reducible refine Kd.C_drewN ?_ _) | (with_reducible refine Kd.C_drew ?_))); (case side2 => exact HC121_0.out); (case side3 => exact cs (Kd.R_reads' HO_16.out).2.2); (case side4 => exact (Kd.R_reads' HO_16.out).2.1); rintro e w49 ⟨rfl, hb⟩; refine ⟨_, rfl, ?_⟩; replace HO_7 := Aside0.mk (Kd.R_below (ro HO_7) hb); replace HO_8 := Aside0.mk (Kd.S_below (so HO_8) hb); replace HO_12 := Aside0.mk (Kd.R_below (ro HO_12) hb); replace HO_16 := Aside0.mk (Kd.R_below (ro HO_16) hb); replace HL121_0 := Aside0.mk (Kd.R_below (ro HL121_0) hb); replace BK112 := kb BK112 hb; replace BK113 := kb BK113 hb; replace HR121_0 := Aside0.mk (Kd.C_below (by repeat (first | (with_reducible exact HR121_0.out) | (with_reducible refine Kd.C_alloc ?_ _) | (with_reducible refine Kd.C_drewN ?_ _) | (with_reducible refine Kd.C_drew ?_) | exact HR121_0.out)) hb); replace HB := bz hb; (try clear hb)))
                   go_roundg k6
                   case measure => have := HK1.out; have := HK2.out; have := HJ20.out; have := HK4.out; have := HJ29.out; have := HK6.out; omega
                   case rel => exact ⟨(t122), (wrap64 (x18_6 + 1)), sd, sd, H', ⟨by have := HK1.out; have := HK2.out; have := HJ20.out; have := HK4.out; have := HJ29.out; have := HK6.out; omega⟩, ⟨ro HO_7⟩, ⟨so HO_8⟩, ⟨ro HO_12⟩, ⟨ro HO_16⟩, ⟨bk BK112⟩, ⟨bk BK113⟩, ⟨bh⟩⟩
                  ·replace c44 := Bool.eq_false_iff.mpr c44
                   subst c44
                   rw [if_neg (show ¬ (false = true) by decide)] at H
                   have H' := Aside0.mk H
                   clear H
                   obtain ⟨Ao50, co50, eo50⟩ := Kd.S_slice HO_8.out
                   subst eo50
                   go_wp2
                   go_meet
                   case rel => exact ⟨_, (false), sd, H', ⟨by have := HK1.out; have := HK2.out; have := HJ20.out; have := HK4.out; have := HJ29.out; have := HK6.out; first | omega | exact Nat.le_refl _⟩, ⟨ro HO_7⟩, ⟨so HO_8⟩, ⟨ro HO_12⟩, ⟨ro HO_16⟩, ⟨bk BK112⟩, ⟨bk BK113⟩, ⟨bh⟩⟩
                 ·rw [if_neg c43] at H
                  have c43b0 := decide_eq_false c43
                  clear c43
                  (first | rw [c43b0] | (simp only [i64_w, i32_w]; rw [c43b0]) | skip)
                  have H' := Aside0.mk H
                  clear H
                  obtain ⟨Ao51, co51, eo51⟩ := Kd.S_slice HO_8.out
                  subst eo51
                  go_wp2
                  go_meet
                  case rel => exact ⟨_, (x17_6), sd, H', ⟨by have := HK1.out; have := HK2.out; have := HJ20.out; have := HK4.out; have := HJ29.out; have := HK6.out; first | omega | exact Nat.le_refl _⟩, ⟨ro HO_7⟩, ⟨so HO_8⟩, ⟨ro HO_12⟩, ⟨ro HO_16⟩, ⟨bk BK112⟩, ⟨bk BK113⟩, ⟨bh⟩⟩
              case rest =>
               clear HC40
               (try clear c38)
               obtain ⟨kq, x17_39, rfl, HA, HJ39, HO_7, HO_8, HO_12, HO_16, BK112, BK113, HB⟩ := hcut
               cases kq with
               | zero => exact absurd HA.out (by simp [cracknelref04_Nest.j6])
               | succ kj39 =>
                have H := HA.out
                clear HA
                simp only [cracknelref04_Nest.j6] at H
                by_cases c52 : x17_39 = true
                ·subst c52
                 rw [if_pos rfl] at H
                 obtain ⟨c53, H⟩ := oi H
                 have LMc53 := Aside0.mk c53
                 clear c53
                 obtain ⟨y123, hy123⟩ : ∃ y_ : List (S48), y_ = (x7_4 ++ [(⟨x9_1, (⟨x15_4, x14_2⟩ : S41)⟩ : S48)]) := ⟨_, rfl⟩
                 replace H : (if x8_4.length < 5864062014805 then (cracknelref04_Nest.l2 kj39 a0 a1 l2 y123 (x8_4 ++ [t118]) x9_1 t115 true x14_2 (wrap64 (x15_4 + 1)) t108 t109 t110 t111) else (none)) = some r := by first | (rw [hy123]; with_reducible exact H) | (have H2_ := (Option.bind_some _ _).symm.trans H; rw [hy123]; with_reducible exact H2_) | (have H2_ := (Option.bind_some _ _).symm.trans H; with_reducible exact H2_) | with_reducible exact H | (rw [hy123]; exact H) | exact H
                 have Ny123 := Aside0.mk hy123
                 clear hy123
                 obtain ⟨c54, H⟩ := oi H
                 have LMc54 := Aside0.mk c54
                 clear c54
                 obtain ⟨y126, hy126⟩ : ∃ y_ : List (List (S41)), y_ = (x8_4 ++ [t118]) := ⟨_, rfl⟩
                 replace H : (cracknelref04_Nest.l2 kj39 a0 a1 l2 y123 y126 x9_1 t115 true x14_2 (wrap64 (x15_4 + 1)) t108 t109 t110 t111) = some r := by first | (rw [hy126]; with_reducible exact H) | (have H2_ := (Option.bind_some _ _).symm.trans H; rw [hy126]; with_reducible exact H2_) | (have H2_ := (Option.bind_some _ _).symm.trans H; with_reducible exact H2_) | with_reducible exact H | (rw [hy126]; exact H) | exact H
                 have Ny126 := Aside0.mk hy126
                 clear hy126
                 have H' := Aside0.mk H
                 clear H
                 go_wp2_with (first | ((with_reducible refine gate_builtin (b := .append) (xs := #[.tmp 98, .tmp 104]) rfl ?_); at_builtin; refine Kd.R_append k48 (w0 := w) w.heap.size rfl (.tmp 98) (.tmp 104) 33 48 (.agg #[(.int .i64 0), (.int .i64 0), (.int .i64 0)]) 24 rfl Try.underlying33 info48 rfl (by decide) (by omega) u7 x7_4 (⟨x9_1, (⟨x15_4, x14_2⟩ : S41)⟩ : S48) [.int .i64 x9_1, .int .i64 x15_4, .int .i64 x14_2] (fun _ => True) (fun _ => False) rfl rfl ?aP (fun _ hk => hk.elim) ?aF ?aO ?aB ?aS ?aL ?_; (case aP => exact k48_mkM _ _ _ (⟨x9_1, (⟨x15_4, x14_2⟩ : S41)⟩ : S48)); (case aB => exact bh); (case aF => exact (fun _ _ => trivial)); (case aO => exact (ro HO_7)); (case aS => exact (below_size bh)); (case aL => have := LMc53.out; omega); intro v124 w55 ho hb hg hat; rw [← Ny123.out] at ho; have HO125 := Aside0.mk (ho); replace HO_8 := Aside0.mk (Kd.S_over' (so HO_8) (Kd.R_typed (ro HO_7)) (by decide) hg); replace HO_12 := Aside0.mk (Kd.R_over' (ro HO_12) (Kd.R_typed (ro HO_7)) (by decide) hg); replace HO_16 := Aside0.mk (Kd.R_over' (ro HO_16) (Kd.R_typed (ro HO_7)) (by decide) hg); replace BK112 := Aside0.mk (blk_grown (g := gb112) (o := .cells #[.int .i64 t108, .int .i64 t109] 41 (0, 0)) (bk BK112) hg (Kd.R_ne HO_7.out BK112.out (by decide))); replace BK113 := Aside0.mk (blk_grown (g := gb113) (o := .cells #[.int .i64 t110, .int .i64 t111] 41 (0, 0)) (bk BK113) hg (Kd.R_ne HO_7.out BK113.out (by decide))); replace HB := Aside0.mk (hb); clear HO_7; clear ho hb hg hat; obtain ⟨Ao57, co57, eo57⟩ := Kd.R_slice HO_16.out; subst eo57) | ((with_reducible refine gate_builtin (b := .append) (xs := #[.tmp 106, .tmp 108]) rfl ?_); at_builtin; refine Kd.S_append (Kd.slice 41 k41) (w0 := w) w.heap.size rfl (.tmp 106) (.tmp 108) 32 22 (.slice none 0 0) 24 rfl Try.underlying32 info22 rfl (by decide) (by omega) u8 x8_4 t118 [.slice Ao57 t118.length co57] (fun k_ => some k_ ≠ (.slice Ao41 t115.length co41 : Value).ownBlock ∧ k_ ≠ gb112 ∧ k_ ≠ gb113) (fun k_ => some k_ = (.slice Ao57 t118.length co57 : Value).ownBlock) rfl rfl ?aP (fun k_ hk_ => ((Kd.R_mono (ok' := fun k_ => ((fun k_ => some k_ ≠ (.slice Ao41 t115.length co41 : Value).ownBlock ∧ k_ ≠ gb112 ∧ k_ ≠ gb113)) k_ ∧ some k_ ≠ (u8 : Value).ownBlock) (Kd.R_apart' (HO_16.out) (Kd.S_typed HO_8.out) (by decide)) (fun k_ hk => ⟨⟨hk.1.1, ⟨hk.1.2.1, hk.1.2.2⟩⟩, hk.2⟩))).1 k_ hk_.symm) ?aF ?aO ?aB ?aS ?aL ?_; (case aP => exact Kd.M_row (Kd.R_mono (Kd.R_tight rfl (Kd.R_mono (ok' := fun k_ => ((fun k_ => some k_ ≠ (.slice Ao41 t115.length co41 : Value).ownBlock ∧ k_ ≠ gb112 ∧ k_ ≠ gb113)) k_ ∧ some k_ ≠ (u8 : Value).ownBlock) (Kd.R_apart' (HO_16.out) (Kd.S_typed HO_8.out) (by decide)) (fun k_ hk => ⟨⟨hk.1.1, ⟨hk.1.2.1, hk.1.2.2⟩⟩, hk.2⟩))) (fun _ h_ => h_))); (case aB => exact bh); (case aF => exact (fun k_ hk => ⟨Kd.fresh' (Kd.R_lt (ro HO_12)) k_ hk, Kd.freshB (g := gb112) (o := .cells #[.int .i64 t108, .int .i64 t109] 41 (0, 0)) (bk BK112) k_ hk, Kd.freshB (g := gb113) (o := .cells #[.int .i64 t110, .int .i64 t111] 41 (0, 0)) (bk BK113) k_ hk⟩)); (case aO => exact (by (with_reducible repeat (first | apply Kd.S_alloc | apply Kd.S_drewN | apply Kd.S_drew)); exact Kd.S_mono HO_8.out (fun k_ hk => ⟨⟨hk.1, ⟨hk.2.2.1, hk.2.2.2⟩⟩, fun e_ => hk.2.1 e_⟩))); (case aS => exact (below_size bh)); (case aL => have := LMc54.out; omega); intro v127 w56 ho hb hg hat; rw [← Ny126.out] at ho; have HO128 := Aside0.mk (ho); replace HO_12 := Aside0.mk (Kd.R_over' (ro HO_12) (Kd.S_typed (so HO_8)) (by decide) hg); replace BK112 := Aside0.mk (blk_grown (g := gb112) (o := .cells #[.int .i64 t108, .int .i64 t109] 41 (0, 0)) (bk BK112) hg (Kd.S_ne HO_8.out BK112.out (by decide))); replace BK113 := Aside0.mk (blk_grown (g := gb113) (o := .cells #[.int .i64 t110, .int .i64 t111] 41 (0, 0)) (bk BK113) hg (Kd.S_ne HO_8.out BK113.out (by decide))); replace HO125 := Aside0.mk (Kd.R_over' (ro HO125) (Kd.S_typed (so HO_8)) (by decide) hg); replace HB := Aside0.mk (hb); clear HO_8 HO_16; clear ho hb hg hat))
                 go_roundg kj39
                 case measure => have := HK1.out; have := HK2.out; have := HJ20.out; have := HK4.out; have := HJ29.out; have := HJ39.out; omega
                 case rel => exact ⟨(y123), (y126), (true), (wrap64 (x15_4 + 1)), sd, sd, H', ⟨by have := HK1.out; have := HK2.out; have := HJ20.out; have := HK4.out; have := HJ29.out; have := HJ39.out; omega⟩, ⟨ro HO125⟩, ⟨so HO128⟩, ⟨by (with_reducible repeat (first | apply Kd.R_alloc | apply Kd.R_drewN | apply Kd.R_drew)); exact Kd.R_mono HO_12.out (fun _ hk => ⟨hk.2.1, hk.2.2⟩)⟩, ⟨bk BK112⟩, ⟨bk BK113⟩, ⟨bh⟩⟩
                ·replace c52 := Bool.eq_false_iff.mpr c52
                 subst c52
                 rw [if_neg (show ¬ (false = true) by decide)] at H
                 have H' := Aside0.mk H
                 clear H
                 go_wp2
                 go_roundg kj39
                 case measure => have := HK1.out; have := HK2.out; have := HJ20.out; have := HK4.out; have := HJ29.out; have := HJ39.out; omega
                 case rel => exact ⟨(x7_4), (x8_4), (x13_4), (wrap64 (x15_4 + 1)), sd, sd, H', ⟨by have := HK1.out; have := HK2.out; have := HJ20.out; have := HK4.out; have := HJ29.out; have := HJ39.out; omega⟩, ⟨ro HO_7⟩, ⟨by (with_reducible repeat (first | apply Kd.S_alloc | apply Kd.S_drewN | apply Kd.S_drew)); exact Kd.S_mono HO_8.out (fun _ hk => ⟨hk.1, ⟨hk.2.2.1, hk.2.2.2⟩⟩)⟩, ⟨by (with_reducible repeat (first | apply Kd.R_alloc | apply Kd.R_drewN | apply Kd.R_drew)); exact Kd.R_mono HO_12.out (fun _ hk => ⟨hk.2.1, hk.2.2⟩)⟩, ⟨bk BK112⟩, ⟨bk BK113⟩, ⟨bh⟩⟩
             ·replace c38 := Bool.eq_false_iff.mpr c38
              subst c38
              rw [if_neg (show ¬ (false = true) by decide)] at H
              have H' := Aside0.mk H
              clear H
              go_wp2
              go_roundg kj29
              case measure => have := HK1.out; have := HK2.out; have := HJ20.out; have := HK4.out; have := HJ29.out; omega
              case rel => exact ⟨(x7_4), (x8_4), (x13_4), (wrap64 (x14_2 + 1)), sd, sd, H', ⟨by have := HK1.out; have := HK2.out; have := HJ20.out; have := HK4.out; have := HJ29.out; omega⟩, ⟨ro HO_7⟩, ⟨so HO_8⟩, ⟨ro HO_12⟩, ⟨bk BK112⟩, ⟨bk BK113⟩, ⟨bh⟩⟩
        ·replace c29 := Bool.eq_false_iff.mpr c29
         subst c29
         rw [if_neg (show ¬ (false = true) by decide)] at H
         have H' := Aside0.mk H
         clear H
         go_wp2
         go_roundg kj20
         case measure => have := HK1.out; have := HK2.out; have := HJ20.out; omega
         case rel => exact ⟨(x7_2), (x8_2), (wrap64 (x9_1 + 1)), sd, H', ⟨by have := HK1.out; have := HK2.out; have := HJ20.out; omega⟩, ⟨ro HO_7⟩, ⟨by (with_reducible repeat (first | apply Kd.S_alloc | apply Kd.S_drewN | apply Kd.S_drew)); exact Kd.S_mono HO_8.out (fun _ hk => trivial)⟩, ⟨bh⟩⟩
   ·rw [if_neg c8] at H
    have c8b0 := decide_eq_false c8
    clear c8
    obtain rfl := Option.some.inj H
    go_wp2
    go_ret
    exact ⟨_, by exact er, by (with_reducible repeat (first | apply Kd.R_alloc | apply Kd.R_drewN | apply Kd.R_drew)); exact HO_7.out, bh⟩
end Go.Proofs.Ythehmkpcddafnaa.PG
end
section
namespace Go.Proofs.Ythehmkpcddafnaa.PG
open Go.RowKit Go.Proofs.YthehmkpcddafnaaW.PrintWords Go.Proofs.YthehmkpcddafnaaW.PrintLast Go.Proofs.YthehmkpcddafnaaW.PrintMore
def fidx (p : S41 → Bool) (l : List S41) : Int := match l.findIdx? p with
 | some i => i
 | none => -1
theorem fidx_hit (p : S41 → Bool) (l : List S41) (k : Nat) (hk : k < l.length) (h : p (rd_T41 l k) = true) (h0 : ∀ j, j < k → p (rd_T41 l j) = false) : fidx p l = k := by
 have e : l.findIdx? p = some k := by
  rw [List.findIdx?_eq_some_iff_getElem]
  refine ⟨hk, ?_, ?_⟩
  ·simp only [rd_T41, Int.toNat_natCast, List.getD_eq_getElem?_getD, List.getElem?_eq_getElem hk, Option.getD_some] at h; exact h
  ·intro j hj
   have := h0 j hj
   simp only [rd_T41, Int.toNat_natCast, List.getD_eq_getElem?_getD, List.getElem?_eq_getElem (show j < l.length by omega), Option.getD_some] at this
   simp [this]
 unfold fidx; rw [e]
theorem fidx_miss (p : S41 → Bool) (l : List S41) (h0 : ∀ j, j < l.length → p (rd_T41 l (j : Nat)) = false) : fidx p l = -1 := by
 have e : l.findIdx? p = none := by
  rw [List.findIdx?_eq_none_iff]
  intro x hx
  obtain ⟨j, hj, rfl⟩ := List.mem_iff_getElem.mp hx
  have := h0 j hj
  simp only [rd_T41, Int.toNat_natCast, List.getD_eq_getElem?_getD, List.getElem?_eq_getElem hj, Option.getD_some] at this
  exact this
 unfold fidx; rw [e]
set_option maxHeartbeats 2000000 in
theorem IndexFunc_any (g : Nat) (lb : Array Value) (p : S41 → Bool) (eg : ∀ args w, (callFunc g args).run Try.prog w = .ok (.enter g args) w)
  (A0 : Option Addr) (c0 : Nat) (l0 : List S41) (w : World) (hr0 : Kd.C k41 w A0 l0.length l0)
  (hp : ∀ (W : World) (x : S41), Below w.heap.size w W → Calls Try.prog g (#[.agg #[.int .i64 x.f0, .int .i64 x.f1]] ++ lb) W fun e w' => e = .returned (.bool (p x)) ∧ Below w.heap.size w w') :
  Calls Try.prog 121 #[.slice A0 l0.length c0, .func (.func g) #[] lb] w fun e w' => e = .returned (.int .i64 (fidx p l0)) ∧ Below w.heap.size w w' := by
 have hu29 := Try.underlying41
 have hm : l0.length ≤ 9223372036854775807 := Kd.C_max hr0
 have HR0 := Aside0.mk hr0
 clear hr0
 generalize hn : l0.length = n at *
 have HN := Aside0.mk hn
 clear hn
 go_enter Try.func121, Try.ntmps121
 go_wp2
 go_loopg [5, 8] n (fun gg _ s8 wr => ∃ kk : Nat, kk ≤ n ∧ n - kk ≤ gg ∧ s8 = .int .i64 kk ∧ Aside0 (Below w.heap.size w wr) ∧ Aside0 (∀ j, j < kk → p (rd_T41 l0 (j : Nat)) = false))
 case atStart => exact ⟨0, Nat.zero_le _, by omega, rfl, ⟨Below.refl _ w⟩, ⟨fun j hj => absurd hj (Nat.not_lt_zero _)⟩⟩
 case round =>
  obtain ⟨kk, hkk, hg, rfl, BW, A⟩ := hrel
  by_cases hlt : kk < n
  ·have hltz : (kk : Int) < (n : Int) := by omega
   obtain ⟨ad, e1, hx0, hx1⟩ := at_T41 HR0.out (kk : Int) (by omega) hltz
   cases e1
   replace hx0 := (BW.out.cell (World.block_lt_of_cell? w _ hx0)).trans hx0
   replace hx1 := (BW.out.cell (World.block_lt_of_cell? w _ hx1)).trans hx1
   have hcall := hp wr (rd_T41 l0 kk) BW.out
   clear hp
   rw [Int.toNat_natCast] at hx0 hx1
   generalize hy : rd_T41 l0 kk = y at hx0 hx1 hcall
   have B := Aside0.mk hy
   clear hy
   cases hq : p y with
   | true =>
    rw [hq] at hcall
    go_wp2_with (go_at_fn g; refine hcall.mono ?_; rintro e w' ⟨rfl, hb'⟩)
    go_ret
    refine ⟨?_, hb'⟩
    rw [fidx_hit p l0 kk (by rw [HN.out]; exact hlt) (by rw [B.out]; exact hq) A.out]; rfl
   | false =>
    rw [hq] at hcall
    go_wp2_with (go_at_fn g; refine hcall.mono ?_; rintro e w' ⟨rfl, hb'⟩)
    go_roundg (n - (kk + 1))
    case measure => omega
    case rel =>
     refine ⟨kk + 1, by omega, by omega, by go_num, ⟨hb'⟩, ⟨fun j hj => ?_⟩⟩
     by_cases e : j = kk
     ·subst e
      rw [B.out]; exact hq
     ·exact A.out j (by omega)
  ·have hltz : ¬ (kk : Int) < (n : Int) := by omega
   have : kk = n := by omega
   subst this
   go_wp2
   go_ret
   refine ⟨?_, BW.out⟩
   rw [fidx_miss p l0 (by rw [HN.out]; exact A.out)]; rfl
theorem fidx_nonneg (p : S41 → Bool) (l : List S41) : decide (fidx p l ≥ 0) = l.any p := by
 unfold fidx
 cases e : l.findIdx? p with
 | none =>
  rw [List.findIdx?_eq_none_iff] at e
  have : l.any p = false := by rw [List.any_eq_false]; intro x hx; simp [e x hx]
  rw [this]; rfl
 | some i =>
  rw [List.findIdx?_eq_some_iff_getElem] at e
  obtain ⟨hi, hp, _⟩ := e
  have : l.any p = true := by rw [List.any_eq_true]; exact ⟨_, List.getElem_mem hi, hp⟩
  rw [this]; simp
set_option maxHeartbeats 2000000 in
theorem ContainsFunc_any (g : Nat) (lb : Array Value) (p : S41 → Bool) (eg : ∀ args w, (callFunc g args).run Try.prog w = .ok (.enter g args) w)
  (A0 : Option Addr) (c0 : Nat) (l0 : List S41) (w : World) (hr0 : Kd.C k41 w A0 l0.length l0)
  (hp : ∀ (W : World) (x : S41), Below w.heap.size w W → Calls Try.prog g (#[.agg #[.int .i64 x.f0, .int .i64 x.f1]] ++ lb) W fun e w' => e = .returned (.bool (p x)) ∧ Below w.heap.size w w') :
  Calls Try.prog 109 #[.slice A0 l0.length c0, .func (.func g) #[] lb] w fun e w' => e = .returned (.bool (l0.any p)) ∧ Below w.heap.size w w' := by
 rw [← fidx_nonneg p l0]
 have hc := IndexFunc_any g lb p eg A0 c0 l0 w hr0 hp
 clear hp hr0
 generalize fidx p l0 = r at hc ⊢
 generalize l0.length = n at hc ⊢
 go_enter Try.func109, Try.ntmps109
 go_wp2_with (go_at_call 121; refine hc.mono ?_; rintro e w' ⟨rfl, hb'⟩)
 go_ret
 exact ⟨rfl, hb'⟩
def beyond (m : Int) (p : S41) : Bool := decide (p.f0 < wrap64 (-m)) || (decide (p.f0 > m) || (decide (p.f1 < wrap64 (-m)) || decide (p.f1 > m)))
set_option maxHeartbeats 2000000 in
theorem within_1 (m : Int) (B : Nat) (W : World) (x : S41) (hc : W.cell? ⟨B, 0, none⟩ = some (.int .i64 m)) (hB : B < W.heap.size) :
  Calls Try.prog 110 #[.agg #[.int .i64 x.f0, .int .i64 x.f1], .pointer (some ⟨B, 0, none⟩)] W fun e w' => e = .returned (.bool (beyond m x)) ∧ Below W.heap.size W w' := by
 have hne : B ≠ W.heap.size := by omega
 unfold beyond
 go_enter Try.func110, Try.ntmps110
 go_wp2
 all_goals (go_ret; refine ⟨?_, (Below.refl _ _).alloc (Nat.le_refl _) _⟩)
 all_goals (refine congrArg (fun b => Ending.returned (Value.bool b)) ?_; (first | (rw [Bool.eq_iff_iff]; done) | (rw [Bool.eq_iff_iff]; simp; done) | (rw [Bool.eq_iff_iff]; simp; omega)))
def shape_within.f (l0 : List (S41)) (a1 : Int) : Option (Bool) := some (!(l0.any (beyond a1)))
set_option maxHeartbeats 2000000 in
theorem shape_within.calls (A0 : Option Addr) (c0 : Nat) (l0 : List (S41)) (a1 : Int) (r : Bool) (w : World) (hr0 : Kd.C k41 w A0 l0.length l0) (_hc0 : l0.length ≤ c0) (h : shape_within.f l0 a1 = some r) :
  Calls Try.prog 72 #[.slice A0 l0.length c0, .int .i64 a1] w fun e w' => e = .returned (.bool r) ∧ Below w.heap.size w w' := by
 obtain rfl := Option.some.inj h
 clear h
 have eg : ∀ args w, (callFunc 110 args).run Try.prog w = .ok (.enter 110 args) w := enters_of Try.func110 (by kernel_rfl) rfl
 have hc := ContainsFunc_any 110 #[.pointer (some ⟨w.heap.size, 0, none⟩)] (beyond a1) eg A0 c0 l0 (w.alloc (.cells #[.int .i64 a1] 3)) (Kd.C_alloc hr0 _)
  (fun W x hb => by
   have e1 : W.cell? ⟨w.heap.size, 0, none⟩ = some (.int .i64 a1) := (hb.cell (p := ⟨w.heap.size, 0, none⟩) (by simp)).trans (by simp)
   have e2 : w.heap.size < W.heap.size := Nat.lt_of_lt_of_le (by simp) hb.size
   exact (within_1 a1 w.heap.size W x e1 e2).mono fun e w' ⟨he, hb'⟩ => ⟨he, hb.trans (hb'.mono hb.size)⟩)
 clear hr0 eg
 generalize l0.any (beyond a1) = r at hc ⊢
 generalize l0.length = n at hc ⊢
 go_enter Try.func72, Try.ntmps72
 go_wp2_with (go_at_call 109; refine hc.mono ?_; rintro e w' ⟨rfl, hb'⟩)
 go_ret
 exact ⟨rfl, ((Below.refl _ w).alloc (Nat.le_refl _) _).trans (hb'.mono (by simp))⟩
end Go.Proofs.Ythehmkpcddafnaa.PG
end
section
namespace Go.Proofs.Ythehmkpcddafnaa.PG
open Go.RowKit Go.Proofs.YthehmkpcddafnaaW.PrintWords Go.Proofs.YthehmkpcddafnaaW.PrintLast Go.Proofs.YthehmkpcddafnaaW.PrintMore
attribute [local go_sem] max2_int min2_int max_two min_two max_three min_three max_four min_four
set_option linter.unusedVariables false
set_option linter.unusedSimpArgs false
/-! ### shape_polygon: function 71 -/
def shape_polygon.f (l0 : List (S41)) : Option (Bool) := if (l0.length : Int) ≥ 3 then (if (l0.length : Int) ≤ 32 then ((shape_within.f l0 10000).bind fun t101 => (some t101)) else (some false)) else (some false)
set_option maxHeartbeats 8000000 in
set_option maxRecDepth 100000 in
theorem shape_polygon.calls (A0 : Option Addr) (c0 : Nat) (l0 : List (S41)) (r : Bool) (w : World) (hr0 : Kd.C k41 w A0 l0.length l0) (hc0 : l0.length ≤ c0) (h : shape_polygon.f l0 = some r) :
  Calls Try.prog 71 #[.slice A0 l0.length c0] w fun e w' => e = .returned (.bool r) ∧ Below w.heap.size w w' := by
 have HR0 := Aside0.mk hr0
 have HC0 := Aside0.mk hc0
 clear hr0 hc0
 have HB := Aside0.mk (Below.refl w.heap.size w)
 have H : (if (l0.length : Int) ≥ 3 then (if (l0.length : Int) ≤ 32 then ((shape_within.f l0 10000).bind fun t101 => (some t101)) else (some false)) else (some false)) = some r := h
 clear h
 by_cases c2 : (l0.length : Int) ≥ 3
 ·rw [if_pos c2] at H
  have c2b0 := decide_eq_true c2
  have c2b1 : decide (3 ≤ l0.length) = true := decide_eq_true (by omega)
  clear c2
  by_cases c3 : (l0.length : Int) ≤ 32
  ·rw [if_pos c3] at H
   have c3b0 := decide_eq_true c3
   have c3b1 : decide (l0.length ≤ 32) = true := decide_eq_true (by omega)
   clear c3
   replace H := Option.bind_eq_some_iff.mp H
   obtain ⟨t101, A40, H⟩ := H
   try dsimp only at H
   have A4 := Aside0.mk A40
   clear A40
   obtain rfl := Option.some.inj H
   go_enter Try.func71, Try.ntmps71
   go_wp2_with (first | (go_at_call 72; (with_reducible refine (shape_within.calls _ _ l0 10000 t101 _ ?side1 ?side2 A4.out).mono ?_); (case side1 => exact cs HR0.out); (case side2 => exact HC0.out); rintro e w5 ⟨rfl, hb⟩; replace HB := bz hb; (try clear hb)))
   go_ret
   exact ⟨by exact er, bh⟩
  ·rw [if_neg c3] at H
   have c3b0 := decide_eq_false c3
   have c3b1 : decide (l0.length ≤ 32) = false := decide_eq_false (by omega)
   clear c3
   obtain rfl := Option.some.inj H
   go_enter Try.func71, Try.ntmps71
   go_wp2
   go_ret
   exact ⟨by exact er, bh⟩
 ·rw [if_neg c2] at H
  have c2b0 := decide_eq_false c2
  have c2b1 : decide (3 ≤ l0.length) = false := decide_eq_false (by omega)
  clear c2
  obtain rfl := Option.some.inj H
  go_enter Try.func71, Try.ntmps71
  go_wp2
  go_ret
  exact ⟨by exact er, bh⟩
/-! ### shape_cross: function 77 -/
def shape_cross.f (a0_0 : Int) (a0_1 : Int) (a1_0 : Int) (a1_1 : Int) : Option (Int) := some (wrap64 ((wrap64 (a0_0 * a1_1)) - (wrap64 (a0_1 * a1_0))))
set_option maxHeartbeats 8000000 in
set_option maxRecDepth 100000 in
theorem shape_cross.calls (a0_0 : Int) (a0_1 : Int) (a1_0 : Int) (a1_1 : Int) (r : Int) (w : World) (h : shape_cross.f a0_0 a0_1 a1_0 a1_1 = some r) :
  Calls Try.prog 77 #[.agg #[.int .i64 a0_0, .int .i64 a0_1], .agg #[.int .i64 a1_0, .int .i64 a1_1]] w fun e w' => e = .returned (.int .i64 r) ∧ Below w.heap.size w w' := by
 have hu41 := Try.underlying41
 have HB := Aside0.mk (Below.refl w.heap.size w)
 have H : (some (wrap64 ((wrap64 (a0_0 * a1_1)) - (wrap64 (a0_1 * a1_0))))) = some r := h
 clear h
 obtain rfl := Option.some.inj H
 go_enter Try.func77, Try.ntmps77
 go_wp2_with (first | ((with_reducible refine gate_dst (N := 2) rfl ?_); refine bxe 2 #[.int .i64 a0_0, .int .i64 a0_1] 41 ?_; intro gb101 hg w3 hbox hb; have BK101 := Aside0.mk (hbox); have GW101 := ga w hg; have GE101 := GW101; replace HB := bz hb; clear hb hbox hg) | ((with_reducible refine gate_dst (N := 3) rfl ?_); refine bxe 3 #[.int .i64 a1_0, .int .i64 a1_1] 41 ?_; intro gb102 hg w4 hbox hb; have BK102 := Aside0.mk (hbox); have GW102 := ga w hg; have GE102 := GW102; have NB101_102 := nb hg (kl BK101); have NB102_101 := bn NB101_102; replace BK101 := kb BK101 hb; replace HB := bz hb; clear hb hbox hg; have hnb5 := NB101_102.out; have hnc5 := NB102_101.out; obtain ⟨hcz6_0, hcz6_1, hfz6_0, hfz6_1⟩ := b2 BK101; obtain ⟨hcz7_0, hcz7_1, hfz7_0, hfz7_1⟩ := b2 BK102))
 go_ret
 exact ⟨by exact er, bh⟩
/-! ### shape_area2: function 55 -/
def shape_area2.l0 : Nat → List (S41) → Int → Int → Int → Option (Int)
 | 0, _, _, _, _ => none
 | k + 1, x0, x3, x6, x7 => if x7 < x6 then (if 0 ≤ x7 then (if x7 < (x0.length : Int) then (if (x0.length : Int) = 0 then (none) else (if 0 ≤ (Int.tmod (wrap64 (x7 + 1)) (x0.length : Int)) then (if (Int.tmod (wrap64 (x7 + 1)) (x0.length : Int)) < (x0.length : Int) then ((shape_cross.f ((rd_T41 x0 x7).f0) ((rd_T41 x0 x7).f1) ((rd_T41 x0 (Int.tmod (wrap64 (x7 + 1)) (x0.length : Int))).f0) ((rd_T41 x0 (Int.tmod (wrap64 (x7 + 1)) (x0.length : Int))).f1)).bind fun t103 => (shape_area2.l0 k x0 (wrap64 (x3 + t103)) x6 (wrap64 (x7 + 1)))) else (none)) else (none))) else (none)) else (none)) else (some x3)
def shape_area2.f (k : Nat) (l0 : List (S41)) : Option (Int) := shape_area2.l0 k l0 0 (l0.length : Int) 0
def shape_area2.T5 : Bool × List (List Nat × List Nat) := (true, [([], []), ([], []), ([], []), ([1, 2], [1, 2]), ([3], [3]), ([], []), ([], []), ([6], [6]), ([], []), ([8], [8]), ([7, 9], [7, 9]), ([5, 10], [5, 10]), ([11], [11]), ([4, 12], [4, 12]), ([0, 13], [0, 13]), ([14, 13, 0, 1, 2, 3, 4, 5, 6, 7, 8, 9, 10, 11, 12, 13, 14], [0, 14])])
def shape_area2.B5 : List Nat := [0, 0, 0, 6, 14, 0, 0, 64, 0, 256, 960, 2016, 4064, 8190, 16383, 32767]
theorem shape_area2.tab5 : rtab .any (opsOf Try.f55 5) = shape_area2.T5 := by kernel_rfl
theorem shape_area2.bits5 : waitsOk shape_area2.T5.2 shape_area2.B5 = true := by kernel_rfl
set_option maxHeartbeats 8000000 in
set_option maxRecDepth 100000 in
theorem shape_area2.calls (k : Nat) (A0 : Option Addr) (c0 : Nat) (l0 : List (S41)) (r : Int) (w : World) (hr0 : Kd.C k41 w A0 l0.length l0) (hc0 : l0.length ≤ c0) (h : shape_area2.f k l0 = some r) :
  Calls Try.prog 55 #[.slice A0 l0.length c0] w fun e w' => e = .returned (.int .i64 r) ∧ Below w.heap.size w w' := by
 have hu41 := Try.underlying41
 have HR0 := Aside0.mk hr0
 have HC0 := Aside0.mk hc0
 clear hr0 hc0
 have HB := Aside0.mk (Below.refl w.heap.size w)
 have H : (shape_area2.l0 k l0 0 (l0.length : Int) 0) = some r := h
 clear h
 have H' := Aside0.mk H
 clear H
 go_enter Try.func55, Try.ntmps55
 go_wp2
 go_loopg [3, 7] k (fun kq v3 v7 w' => ∃ (x3_1 : Int) (x7_1 : Int), v3 = .int .i64 x3_1 ∧ v7 = .int .i64 x7_1 ∧ Aside0 (shape_area2.l0 kq l0 x3_1 (l0.length : Int) x7_1 = some r) ∧ Aside0 (kq ≤ k) ∧ Aside0 (Below w.heap.size w w'))
 case atStart => exact ⟨(0), (0), sd, sd, H', ⟨Nat.le_refl _⟩, ⟨bh⟩⟩
 case round =>
  clear H'
  obtain ⟨x3_1, x7_1, rfl, rfl, HA, HK1, HB⟩ := hrel
  cases gk with
  | zero => exact absurd HA.out (by simp [shape_area2.l0])
  | succ k1 =>
   have H := HA.out
   clear HA
   simp only [shape_area2.l0] at H
   by_cases c2 : x7_1 < (l0.length : Int)
   ·rw [if_pos c2] at H
    have c2b0 := decide_eq_true c2
    clear c2
    obtain ⟨c3, H⟩ := oi H
    have c3b0 := decide_eq_true c3
    clear c3
    obtain ⟨c4, H⟩ := oi H
    have c4b0 := decide_eq_true c4
    clear c4
    obtain ⟨c5, H⟩ := oj H
    have c5b0 : ((l0.length : Int) == 0) = false := beq_eq_false_iff_ne.mpr c5
    have c5b1 : ((l0.length : Int) != 0) = true := bne_iff_ne.mpr c5
    have c5b2 : ¬ (l0 = []) := fun h_ => c5 (by rw [h_]; rfl)
    obtain ⟨ji6, hji6⟩ : ∃ j_ : Int, (Int.tmod (wrap64 (x7_1 + 1)) (l0.length : Int)) = j_ := ⟨_, rfl⟩
    first | rw [hji6] at H | simp only [hji6] at H
    obtain ⟨c7, H⟩ := oi H
    have c7b0 := decide_eq_true c7
    clear c7
    obtain ⟨c8, H⟩ := oi H
    have c8b0 := decide_eq_true c8
    clear c8
    replace H := Option.bind_eq_some_iff.mp H
    obtain ⟨t103, A90, H⟩ := H
    try dsimp only at H
    have A9 := Aside0.mk A90
    clear A90
    have H' := Aside0.mk H
    clear H
    try go_wp2
    replace HB := Aside0.mk (below_drew1 HB.out)
    have p101 : 0 ≤ (x7_1 : Int) := dt
    have q101 : x7_1 < (l0.length : Int) := dt
    obtain ⟨ad101, e101, hx101_0, hx101_1⟩ := at_T41 HR0.out x7_1 p101 q101
    have hw101_1 := hx101_1
    have hw101_0 := hx101_0
    cases e101
    replace hx101_0 := hc HB hx101_0
    replace hx101_1 := hc HB hx101_1
    replace p101 := eq_true p101
    replace q101 := eq_true q101
    have p102 : 0 ≤ ((ji6) : Int) := dt
    have q102 : (ji6) < (l0.length : Int) := dt
    obtain ⟨ad102, e102, hx102_0, hx102_1⟩ := at_T41 HR0.out (ji6) p102 q102
    have hw102_1 := hx102_1
    have hw102_0 := hx102_0
    obtain rfl : ad101 = ad102 := (by injection e102)
    replace hx102_0 := hc HB hx102_0
    replace hx102_1 := hc HB hx102_1
    replace p102 := eq_true p102
    replace q102 := eq_true q102
    refine start_ (n := 16) (S := fun w' => w'.cell? (ad101.add ((x7_1).toNat * 2)) = some (.int .i64 ((rd_T41 l0 x7_1).f0)) ∧ w'.cell? ⟨(ad101.add ((x7_1).toNat * 2)).block, (ad101.add ((x7_1).toNat * 2)).off + 1, none⟩ = some (.int .i64 ((rd_T41 l0 x7_1).f1)) ∧ w'.cell? (ad101.add (((ji6)).toNat * 2)) = some (.int .i64 ((rd_T41 l0 (ji6)).f0)) ∧ w'.cell? ⟨(ad101.add (((ji6)).toNat * 2)).block, (ad101.add (((ji6)).toNat * 2)).off + 1, none⟩ = some (.int .i64 ((rd_T41 l0 (ji6)).f1))) (ds := []) #[N,N,N,N,N,N,N,N,N,N,N,N,N,N,N,N] (by kernel_rfl) rfl rfl ⟨(hc HB hw101_0), (hc HB hw101_1), (hc HB hw102_0), (hc HB hw102_1)⟩ (fun hHeld => ?_); refine with_tabW shape_area2.tab5 shape_area2.bits5 (fun HT_ HW_ => ?_)
    generalize wr.drew = w10 at HB hx101_0 hx101_1 hx102_0 hx102_1 hHeld ⊢
    refine pu 0 10 HT_ ?_
    refine pu 1 11 HT_ ?_
    refine pu 2 12 HT_ ?_
    refine pu 3 13 HT_ ?_
    refine pu 5 15 HT_ ?_
    refine pu 6 16 HT_ ?_
    refine pu 7 17 HT_ ?_
    refine pu 8 18 HT_ ?_
    refine pu 9 19 HT_ ?_
    refine pu 10 20 HT_ ?_
    refine pu 11 21 HT_ ?_
    refine tk4 4 14 hHeld HT_ HW_ ?_
    refine tk4 12 22 hHeld HT_ HW_ ?_
    refine one_ (i := 13) (N := some 23) #[T,T,T,T,T,T,T,T,T,T,T,T,T,T,N,N] rfl rfl (on1 HT_) (by decide) (fun K hK => ?_)
    refine goes_ Try.func77 (by kernel_rfl) rfl #[.agg #[.int .i64 ((rd_T41 l0 x7_1).f0), .int .i64 ((rd_T41 l0 x7_1).f1)], .agg #[.int .i64 ((rd_T41 l0 (ji6)).f0), .int .i64 ((rd_T41 l0 (ji6)).f1)]] (by rfl) rfl rfl (by (try simp only [List.map_toArray, List.map_cons, List.map_nil]); first | done | (simp only [hji6]; rfl) | rfl | (simp only [List.length_drop, List.length_take]; rfl)) ?_
    with_reducible refine (shape_cross.calls ((rd_T41 l0 x7_1).f0) ((rd_T41 l0 x7_1).f1) ((rd_T41 l0 (ji6)).f0) ((rd_T41 l0 (ji6)).f1) t103 _ A9.out).mono ?_
    rintro e w11 ⟨rfl, hb⟩
    refine ⟨_, rfl, ?_⟩
    replace HB := bz hb
    (try clear hb)
    refine hK.out _ _ ⟨(hc HB hw101_0), (hc HB hw101_1), (hc HB hw102_0), (hc HB hw102_1)⟩ (fun hHeld => ?_)
    clear hK K
    refine nm 23 ?_
    refine pu 14 24 HT_ ?_
    refine pu 15 3 HT_ ?_
    refine done_ (done_of HT_.out (by kernel_rfl)) ?_
    try go_wp2
    go_roundg k1
    case measure => have := HK1.out; omega
    case rel => exact ⟨(wrap64 (x3_1 + t103)), (wrap64 (x7_1 + 1)), sd, sd, H', ⟨by have := HK1.out; omega⟩, ⟨bh⟩⟩
   ·rw [if_neg c2] at H
    have c2b0 := decide_eq_false c2
    clear c2
    obtain rfl := Option.some.inj H
    go_wp2
    go_ret
    exact ⟨by exact er, bh⟩
/-! ### shape_Area2: function 29 -/
def shape_Area2.f (k : Nat) (l0 : List (S41)) : Option (Int × Int) := (shape_polygon.f l0).bind fun t101 => (if t101 = true then ((shape_area2.f k l0).bind fun t102 => (some (t102, 0))) else (some (0, 1)))
set_option maxHeartbeats 8000000 in
set_option maxRecDepth 100000 in
theorem shape_Area2.calls (k : Nat) (A0 : Option Addr) (c0 : Nat) (l0 : List (S41)) (r1 : Int) (r2 : Int) (w : World) (hr0 : Kd.C k41 w A0 l0.length l0) (hc0 : l0.length ≤ c0) (h : shape_Area2.f k l0 = some (r1, r2)) :
  Calls Try.prog 29 #[.slice A0 l0.length c0] w fun e w' => e = .returned (.tuple #[.int .i64 r1, .int .i64 r2]) ∧ Below w.heap.size w w' := by
 have HR0 := Aside0.mk hr0
 have HC0 := Aside0.mk hc0
 clear hr0 hc0
 have HB := Aside0.mk (Below.refl w.heap.size w)
 have H : ((shape_polygon.f l0).bind fun t101 => (if t101 = true then ((shape_area2.f k l0).bind fun t102 => (some (t102, 0))) else (some (0, 1)))) = some (r1, r2) := h
 clear h
 replace H := Option.bind_eq_some_iff.mp H
 obtain ⟨t101, A20, H⟩ := H
 replace H : (if t101 = true then ((shape_area2.f k l0).bind fun t102 => (some (t102, 0))) else (some (0, 1))) = some (r1, r2) := H
 have A2 := Aside0.mk A20
 clear A20
 by_cases c3 : t101 = true
 ·subst c3
  rw [if_pos rfl] at H
  replace H := Option.bind_eq_some_iff.mp H
  obtain ⟨t102, A40, H⟩ := H
  replace H : (some (t102, 0)) = some (r1, r2) := H
  have A4 := Aside0.mk A40
  clear A40
  simp only [Option.some.injEq, Prod.mk.injEq] at H
  obtain ⟨rfl, rfl⟩ := H
  go_enter Try.func29, Try.ntmps29
  go_wp2_with (first | ((with_reducible refine gc 71 rfl ?_); refine goesL_ (some 5) rfl rfl Try.func71 (by kernel_rfl) rfl #[.slice A0 l0.length c0] rfl sg ?_; (with_reducible refine (shape_polygon.calls _ _ l0 true _ ?side1 ?side2 A2.out).mono ?_); (case side1 => exact cs HR0.out); (case side2 => exact HC0.out); rintro e w5 ⟨rfl, hb⟩; refine ⟨_, rfl, ?_⟩; replace HB := bz hb; (try clear hb)) | ((with_reducible refine gc 55 rfl ?_); refine goesL_ (some 8) rfl rfl Try.func55 (by kernel_rfl) rfl #[.slice A0 l0.length c0] rfl sg ?_; (with_reducible refine (shape_area2.calls k _ _ l0 t102 _ ?side1 ?side2 A4.out).mono ?_); (case side1 => exact cs (Kd.C_below HR0.out HB.out)); (case side2 => exact HC0.out); rintro e w6 ⟨rfl, hb⟩; refine ⟨_, rfl, ?_⟩; replace HB := bz hb; (try clear hb)))
  go_ret2
  exact ⟨by exact er, bh⟩
 ·replace c3 := Bool.eq_false_iff.mpr c3
  subst c3
  rw [if_neg (show ¬ (false = true) by decide)] at H
  simp only [Option.some.injEq, Prod.mk.injEq] at H
  obtain ⟨rfl, rfl⟩ := H
  go_enter Try.func29, Try.ntmps29
  go_wp2_with (first | ((with_reducible refine gc 71 rfl ?_); refine goesL_ (some 5) rfl rfl Try.func71 (by kernel_rfl) rfl #[.slice A0 l0.length c0] rfl sg ?_; (with_reducible refine (shape_polygon.calls _ _ l0 false _ ?side1 ?side2 A2.out).mono ?_); (case side1 => exact cs HR0.out); (case side2 => exact HC0.out); rintro e w7 ⟨rfl, hb⟩; refine ⟨_, rfl, ?_⟩; replace HB := bz hb; (try clear hb)))
  go_ret2
  exact ⟨by exact er, bh⟩
attribute [local go_sem high] eqA41
/-! ### cracknelref04_Same: function 41 -/
def cracknelref04_Same.l0 : Nat → List (S41) → List (S41) → Int → Option (Bool)
 | 0, _, _, _ => none
 | k + 1, x0, x1, x5 => if x5 < (x0.length : Int) then (if 0 ≤ x5 then (if x5 < (x1.length : Int) then (if (!(((rd_T41 x0 x5).f0) == ((rd_T41 x1 x5).f0)) || (!(((rd_T41 x0 x5).f1) == ((rd_T41 x1 x5).f1)))) = true then (some false) else (cracknelref04_Same.l0 k x0 x1 (wrap64 (x5 + 1)))) else (none)) else (none)) else (some true)
def cracknelref04_Same.f (k : Nat) (l0 : List (S41)) (l1 : List (S41)) : Option (Bool) := if (l0.length : Int) = (l1.length : Int) then (cracknelref04_Same.l0 k l0 l1 0) else (some false)
set_option maxHeartbeats 8000000 in
set_option maxRecDepth 100000 in
theorem cracknelref04_Same.calls (k : Nat) (A0 : Option Addr) (c0 : Nat) (l0 : List (S41)) (A1 : Option Addr) (c1 : Nat) (l1 : List (S41)) (r : Bool) (w : World) (hr0 : Kd.C k41 w A0 l0.length l0) (hc0 : l0.length ≤ c0) (hr1 : Kd.C k41 w A1 l1.length l1) (hc1 : l1.length ≤ c1) (h : cracknelref04_Same.f k l0 l1 = some r) :
  Calls Try.prog 41 #[.slice A0 l0.length c0, .slice A1 l1.length c1] w fun e w' => e = .returned (.bool r) ∧ Drawn0 w w' := by
 have hu41 := Try.underlying41
 have HR0 := Aside0.mk hr0
 have HC0 := Aside0.mk hc0
 clear hr0 hc0
 have HR1 := Aside0.mk hr1
 have HC1 := Aside0.mk hc1
 clear hr1 hc1
 have H : (if (l0.length : Int) = (l1.length : Int) then (cracknelref04_Same.l0 k l0 l1 0) else (some false)) = some r := h
 clear h
 by_cases c3 : (l0.length : Int) = (l1.length : Int)
 ·rw [if_pos c3] at H
  have c3b0 : ((l0.length : Int) == (l1.length : Int)) = true := beq_iff_eq.mpr c3
  have c3b1 : ((l0.length : Int) != (l1.length : Int)) = false := bne_eq_false_iff_eq.mpr c3
  have c3b2 : (l0.length == l1.length) = true := by first | simpa using c3 | (simp at c3 ⊢; omega)
  clear c3
  have H' := Aside0.mk H
  clear H
  go_enter Try.func41, Try.ntmps41
  go_wp2
  repeat (go_quiet (fail); try go_wp2)
  go_loopg [5] k (fun kq v5 w' => ∃ (x5_1 : Int), v5 = .int .i64 x5_1 ∧ Aside0 (cracknelref04_Same.l0 kq l0 l1 x5_1 = some r) ∧ Aside0 (kq ≤ k) ∧ Drawn0 w w')
  case atStart => exact ⟨(0), sd, H', ⟨Nat.le_refl _⟩, by repeat (first | exact Drawn0.refl _ | apply Drawn0.step)⟩
  case round =>
   clear H'
   (try clear c1); (try clear c3b0); (try clear c3b1); (try clear c3b2)
   obtain ⟨x5_1, rfl, HA, HK1, ⟨m1, rfl⟩⟩ := hrel
   cases gk with
   | zero => exact absurd HA.out (by simp [cracknelref04_Same.l0])
   | succ k1 =>
    have H := HA.out
    clear HA
    simp only [cracknelref04_Same.l0] at H
    by_cases c4 : x5_1 < (l0.length : Int)
    ·rw [if_pos c4] at H
     have c4b0 := decide_eq_true c4
     clear c4
     obtain ⟨c5, H⟩ := oi H
     have c5b0 := decide_eq_true c5
     clear c5
     obtain ⟨c6, H⟩ := oi H
     have c6b0 := decide_eq_true c6
     clear c6
     by_cases c7 : (!(((rd_T41 l0 x5_1).f0) == ((rd_T41 l1 x5_1).f0)) || (!(((rd_T41 l0 x5_1).f1) == ((rd_T41 l1 x5_1).f1)))) = true
     ·rw [if_pos c7] at H
      have c7b0 : (!(((rd_T41 l0 x5_1).f0) == ((rd_T41 l1 x5_1).f0)) || (!(((rd_T41 l0 x5_1).f1) == ((rd_T41 l1 x5_1).f1)))) = true := c7
      clear c7
      obtain rfl := Option.some.inj H
      have p101 : 0 ≤ (x5_1 : Int) := dt
      have q101 : x5_1 < (l0.length : Int) := dt
      obtain ⟨ad101, e101, hx101_0, hx101_1⟩ := at_T41 HR0.out x5_1 p101 q101
      cases e101
      replace p101 := eq_true p101
      replace q101 := eq_true q101
      have p102 : 0 ≤ (x5_1 : Int) := dt
      have q102 : x5_1 < (l1.length : Int) := dt
      obtain ⟨ad102, e102, hx102_0, hx102_1⟩ := at_T41 HR1.out x5_1 p102 q102
      cases e102
      replace p102 := eq_true p102
      replace q102 := eq_true q102
      go_wp2
      repeat (go_quiet (fail); try go_wp2)
      go_ret
      exact ⟨by first | rfl | (simp; done) | (simp [*]; done), by repeat (first | exact Drawn0.refl _ | apply Drawn0.step)⟩
     ·rw [if_neg c7] at H
      have c7b0 : (!(((rd_T41 l0 x5_1).f0) == ((rd_T41 l1 x5_1).f0)) || (!(((rd_T41 l0 x5_1).f1) == ((rd_T41 l1 x5_1).f1)))) = false := by simpa using c7
      clear c7
      have H' := Aside0.mk H
      clear H
      have p101 : 0 ≤ (x5_1 : Int) := dt
      have q101 : x5_1 < (l0.length : Int) := dt
      obtain ⟨ad101, e101, hx101_0, hx101_1⟩ := at_T41 HR0.out x5_1 p101 q101
      cases e101
      replace p101 := eq_true p101
      replace q101 := eq_true q101
      have p102 : 0 ≤ (x5_1 : Int) := dt
      have q102 : x5_1 < (l1.length : Int) := dt
      obtain ⟨ad102, e102, hx102_0, hx102_1⟩ := at_T41 HR1.out x5_1 p102 q102
      cases e102
      replace p102 := eq_true p102
      replace q102 := eq_true q102
      go_wp2
      repeat (go_quiet (fail); try go_wp2)
      go_roundg k1
      case measure => have := HK1.out; omega
      case rel => exact ⟨(wrap64 (x5_1 + 1)), sd, H', ⟨by have := HK1.out; omega⟩, by repeat (first | exact Drawn0.refl _ | apply Drawn0.step)⟩
    ·rw [if_neg c4] at H
     have c4b0 := decide_eq_false c4
     clear c4
     obtain rfl := Option.some.inj H
     go_wp2
     repeat (go_quiet (fail); try go_wp2)
     go_ret
     exact ⟨by first | rfl | (simp; done) | (simp [*]; done), by repeat (first | exact Drawn0.refl _ | apply Drawn0.step)⟩
 ·rw [if_neg c3] at H
  have c3b0 : ((l0.length : Int) == (l1.length : Int)) = false := beq_eq_false_iff_ne.mpr c3
  have c3b1 : ((l0.length : Int) != (l1.length : Int)) = true := bne_iff_ne.mpr c3
  have c3b2 : (l0.length == l1.length) = false := by first | simpa using c3 | (simp at c3 ⊢; omega)
  obtain rfl := Option.some.inj H
  go_enter Try.func41, Try.ntmps41
  go_wp2
  repeat (go_quiet (fail); try go_wp2)
  go_ret
  exact ⟨by first | rfl | (simp; done) | (simp [*]; done), by repeat (first | exact Drawn0.refl _ | apply Drawn0.step)⟩
/-! ### shape_sub: function 53 -/
def shape_sub.f (a0_0 : Int) (a0_1 : Int) (a1_0 : Int) (a1_1 : Int) : Option (Int × Int) := some (wrap64 (a0_0 - a1_0), wrap64 (a0_1 - a1_1))
set_option maxHeartbeats 8000000 in
set_option maxRecDepth 100000 in
theorem shape_sub.calls (a0_0 : Int) (a0_1 : Int) (a1_0 : Int) (a1_1 : Int) (r1 : Int) (r2 : Int) (w : World) (h : shape_sub.f a0_0 a0_1 a1_0 a1_1 = some (r1, r2)) :
  Calls Try.prog 53 #[.agg #[.int .i64 a0_0, .int .i64 a0_1], .agg #[.int .i64 a1_0, .int .i64 a1_1]] w fun e w' => e = .returned (.agg #[.int .i64 r1, .int .i64 r2]) ∧ Below w.heap.size w w' := by
 have hu41 := Try.underlying41
 have HB := Aside0.mk (Below.refl w.heap.size w)
 have H : (some (wrap64 (a0_0 - a1_0), wrap64 (a0_1 - a1_1))) = some (r1, r2) := h
 clear h
 simp only [Option.some.injEq, Prod.mk.injEq] at H
 obtain ⟨rfl, rfl⟩ := H
 go_enter Try.func53, Try.ntmps53
 go_wp2_with (first | ((with_reducible refine gate_dst (N := 2) rfl ?_); refine bxe 2 #[.int .i64 a0_0, .int .i64 a0_1] 41 ?_; intro gb101 hg w3 hbox hb; have BK101 := Aside0.mk (hbox); have GW101 := ga w hg; have GE101 := GW101; replace HB := bz hb; clear hb hbox hg) | ((with_reducible refine gate_dst (N := 3) rfl ?_); refine bxe 3 #[.int .i64 a1_0, .int .i64 a1_1] 41 ?_; intro gb102 hg w4 hbox hb; have BK102 := Aside0.mk (hbox); have GW102 := ga w hg; have GE102 := GW102; have NB101_102 := nb hg (kl BK101); have NB102_101 := bn NB101_102; replace BK101 := kb BK101 hb; replace HB := bz hb; clear hb hbox hg) | ((with_reducible refine gate_dst (N := 4) rfl ?_); refine bxe 4 #[.int .i64 0, .int .i64 0] 41 ?_; intro gb103 hg w5 hbox hb; have BK103 := Aside0.mk (hbox); have GW103 := ga w hg; have GE103 := GW103; have NB101_103 := nb hg (kl BK101); have NB103_101 := bn NB101_103; have NB102_103 := nb hg (kl BK102); have NB103_102 := bn NB102_103; replace BK101 := kb BK101 hb; replace BK102 := kb BK102 hb; replace HB := bz hb; clear hb hbox hg; have hnb6 := NB101_102.out; have hnc6 := NB102_101.out; have hnb7 := NB101_103.out; have hnc7 := NB103_101.out; obtain ⟨hcz8_0, hcz8_1, hfz8_0, hfz8_1⟩ := b2 BK101; have hnb9 := NB102_103.out; have hnc9 := NB103_102.out; obtain ⟨hcz10_0, hcz10_1, hfz10_0, hfz10_1⟩ := b2 BK102; obtain ⟨hcz11_0, hcz11_1, hfz11_0, hfz11_1⟩ := b2 BK103))
 refine bodyPost_ret (results_cell_row rfl _ _ gb103 41 #[.int .i64 (wrap64 (a0_0 - a1_0)), .int .i64 (wrap64 (a0_1 - a1_1))] (0, 0) _ rfl (by refine bd ?_; refine blk_put (cs := #[.int .i64 (wrap64 (a0_0 - a1_0)), .int .i64 0]) ?_ 1 _ rfl; refine bd ?_; refine blk_put (cs := #[.int .i64 0, .int .i64 0]) ?_ 0 _ rfl; refine bd ?_; exact BK103.out) Try.underlying41 rfl (by kernel_rfl)) rfl ?_
 exact ⟨by exact er, bh⟩
/-! ### shape_gcd: function 54 -/
def shape_gcd.l0 : Nat → Int → Int → Option (Int)
 | 0, _, _ => none
 | k + 1, x0, x1 => if x1 > 0 then (if x1 = 0 then (none) else (shape_gcd.l0 k x1 (Int.tmod x0 x1))) else (some x0)
def shape_gcd.f (k : Nat) (a0 : Int) (a1 : Int) : Option (Int) := shape_gcd.l0 k (mx a0 (wrap64 (-a0))) (mx a1 (wrap64 (-a1)))
set_option maxHeartbeats 8000000 in
set_option maxRecDepth 100000 in
theorem shape_gcd.calls (k : Nat) (a0 : Int) (a1 : Int) (r : Int) (w : World) (h : shape_gcd.f k a0 a1 = some r) :
  Calls Try.prog 54 #[.int .i64 a0, .int .i64 a1] w fun e w' => e = .returned (.int .i64 r) ∧ Below w.heap.size w w' := by
 have HB := Aside0.mk (Below.refl w.heap.size w)
 have H : (shape_gcd.l0 k (mx a0 (wrap64 (-a0))) (mx a1 (wrap64 (-a1)))) = some r := h
 clear h
 obtain ⟨ji3, hji3⟩ : ∃ j_ : Int, (mx a0 (wrap64 (-a0))) = j_ := ⟨_, rfl⟩
 first | rw [hji3] at H | simp only [hji3] at H
 have hji3_ : (if a0 < (wrap64 (-a0)) then (wrap64 (-a0)) else a0) = ji3 := hji3
 obtain ⟨ji4, hji4⟩ : ∃ j_ : Int, (mx a1 (wrap64 (-a1))) = j_ := ⟨_, rfl⟩
 first | rw [hji4] at H | simp only [hji4] at H
 have hji4_ : (if a1 < (wrap64 (-a1)) then (wrap64 (-a1)) else a1) = ji4 := hji4
 have H' := Aside0.mk H
 clear H
 go_enter Try.func54, Try.ntmps54
 go_wp2
 repeat (go_quiet (fail); try go_wp2)
 go_loopg [0, 1] k (fun kq v0 v1 w' => ∃ (x0_1 : Int) (x1_1 : Int), v0 = .int .i64 x0_1 ∧ v1 = .int .i64 x1_1 ∧ Aside0 (shape_gcd.l0 kq x0_1 x1_1 = some r) ∧ Aside0 (kq ≤ k) ∧ Aside0 (Below w.heap.size w w'))
 case atStart => exact ⟨(ji3), (ji4), (by first | rfl | (simp; done) | (simp only [← hji3] <;> (first | rfl | simp)) | (simp [*]; done)), (by first | rfl | (simp; done) | (simp only [← hji4] <;> (first | rfl | simp)) | (simp [*]; done)), H', ⟨Nat.le_refl _⟩, ⟨bh⟩⟩
 case round =>
  clear H'
  skip
  obtain ⟨x0_1, x1_1, rfl, rfl, HA, HK1, HB⟩ := hrel
  cases gk with
  | zero => exact absurd HA.out (by simp [shape_gcd.l0])
  | succ k1 =>
   have H := HA.out
   clear HA
   simp only [shape_gcd.l0] at H
   by_cases c5 : x1_1 > 0
   ·rw [if_pos c5] at H
    have c5b0 := decide_eq_true c5
    clear c5
    obtain ⟨c6, H⟩ := oj H
    have c6b0 : (x1_1 == 0) = false := beq_eq_false_iff_ne.mpr c6
    have c6b1 : (x1_1 != 0) = true := bne_iff_ne.mpr c6
    have H' := Aside0.mk H
    clear H
    go_wp2
    repeat (go_quiet (fail); try go_wp2)
    go_roundg k1
    case measure => have := HK1.out; omega
    case rel => exact ⟨(x1_1), (Int.tmod x0_1 x1_1), sd, sd, H', ⟨by have := HK1.out; omega⟩, ⟨bh⟩⟩
   ·rw [if_neg c5] at H
    have c5b0 := decide_eq_false c5
    clear c5
    obtain rfl := Option.some.inj H
    go_wp2
    repeat (go_quiet (fail); try go_wp2)
    go_ret
    exact ⟨by first | rfl | (simp [errW_none, errW_some] <;> rfl) | (simp only [← hji3, ← hji4]; first | rfl | (simp [errW_none, errW_some] <;> rfl)) | (simp [*, errW_none, errW_some] <;> rfl), bh⟩
/-! ### shape_dot: function 80 -/
def shape_dot.f (a0_0 : Int) (a0_1 : Int) (a1_0 : Int) (a1_1 : Int) : Option (Int) := some (wrap64 ((wrap64 (a0_0 * a1_0)) + (wrap64 (a0_1 * a1_1))))
set_option maxHeartbeats 8000000 in
set_option maxRecDepth 100000 in
theorem shape_dot.calls (a0_0 : Int) (a0_1 : Int) (a1_0 : Int) (a1_1 : Int) (r : Int) (w : World) (h : shape_dot.f a0_0 a0_1 a1_0 a1_1 = some r) :
  Calls Try.prog 80 #[.agg #[.int .i64 a0_0, .int .i64 a0_1], .agg #[.int .i64 a1_0, .int .i64 a1_1]] w fun e w' => e = .returned (.int .i64 r) ∧ Below w.heap.size w w' := by
 have hu41 := Try.underlying41
 have HB := Aside0.mk (Below.refl w.heap.size w)
 have H : (some (wrap64 ((wrap64 (a0_0 * a1_0)) + (wrap64 (a0_1 * a1_1))))) = some r := h
 clear h
 obtain rfl := Option.some.inj H
 go_enter Try.func80, Try.ntmps80
 go_wp2_with (first | ((with_reducible refine gate_dst (N := 2) rfl ?_); refine bxe 2 #[.int .i64 a0_0, .int .i64 a0_1] 41 ?_; intro gb101 hg w3 hbox hb; have BK101 := Aside0.mk (hbox); have GW101 := ga w hg; have GE101 := GW101; replace HB := bz hb; clear hb hbox hg) | ((with_reducible refine gate_dst (N := 3) rfl ?_); refine bxe 3 #[.int .i64 a1_0, .int .i64 a1_1] 41 ?_; intro gb102 hg w4 hbox hb; have BK102 := Aside0.mk (hbox); have GW102 := ga w hg; have GE102 := GW102; have NB101_102 := nb hg (kl BK101); have NB102_101 := bn NB101_102; replace BK101 := kb BK101 hb; replace HB := bz hb; clear hb hbox hg; have hnb5 := NB101_102.out; have hnc5 := NB102_101.out; obtain ⟨hcz6_0, hcz6_1, hfz6_0, hfz6_1⟩ := b2 BK101; obtain ⟨hcz7_0, hcz7_1, hfz7_0, hfz7_1⟩ := b2 BK102))
 go_ret
 exact ⟨by exact er, bh⟩
/-! ### cmp_isNaN_int: function 117 -/
def cmp_isNaN_int.f (a0 : Int) : Option (Bool) := some (a0 != a0)
set_option maxHeartbeats 8000000 in
set_option maxRecDepth 100000 in
theorem cmp_isNaN_int.calls (a0 : Int) (r : Bool) (w : World) (h : cmp_isNaN_int.f a0 = some r) :
  Calls Try.prog 117 #[.int .i64 a0] w fun e w' => e = .returned (.bool r) ∧ Drawn0 w w' := by
 have H : (some (a0 != a0)) = some r := h
 clear h
 obtain rfl := Option.some.inj H
 go_enter Try.func117, Try.ntmps117
 go_wp2
 go_ret
 exact ⟨by first | rfl | (simp; done) | (simp [*]; done), by repeat (first | exact Drawn0.refl _ | apply Drawn0.step)⟩
end Go.Proofs.Ythehmkpcddafnaa.PG
end
