/- Parts of the proof of YthehmkpcddafnaaLawShapeNests: printed walks, their words, and plain laws. -/
import Derived.Test.YthehmkpcddafnaaQA1
import Derived.Test.YthehmkpcddafnaaQA2
import Derived.Test.YthehmkpcddafnaaQA4
import Derived.Test.YthehmkpcddafnaaQA3
import Derived.KernelRfl
section
namespace Go.Proofs.Ythehmkpcddafnaa.PG
open Go.RowKit Go.Proofs.YthehmkpcddafnaaW.PrintWords Go.Proofs.YthehmkpcddafnaaW.PrintLast Go.Proofs.YthehmkpcddafnaaW.PrintMore
attribute [local go_sem] max2_int min2_int max_two min_two max_three min_three max_four min_four
set_option linter.unusedVariables false
set_option linter.unusedSimpArgs false
/-! ### shape_sheet_place: function 47 -/
mutual
def shape_sheet_place.l0 : Nat → Int → List (List (S41)) → List (S41) → Int → Int → Int → Int → Option (Int × Int × Bool × (List (S41)))
 | 0, _, _, _, _, _, _, _ => none
 | k + 1, x0, x2, x3, x34, x35, x116000, x116001 => if x35 < x34 then (shape_sheet_place.l1 k x0 x2 x3 x35 x34 x35 (mx 0 (wrap64 ((wrap64 (x0 - x116000)) + 1))) 0 x116000 x116001) else (some (0, 0, false, ([] : List (S41))))
def shape_sheet_place.l1 : Nat → Int → List (List (S41)) → List (S41) → Int → Int → Int → Int → Int → Int → Int → Option (Int × Int × Bool × (List (S41)))
 | 0, _, _, _, _, _, _, _, _, _, _ => none
 | k + 1, x0, x2, x3, x9, x34, x35, x46, x47, x116000, x116001 => if x47 < x46 then ((shape_moved.f k x3 x47 x9).bind fun t117 => ((shape_sheet_free.f k x2 t117).bind fun t120 => (if t120 = true then (some (x47, x9, true, t117)) else (shape_sheet_place.l1 k x0 x2 x3 x9 x34 x35 x46 (wrap64 (x47 + 1)) x116000 x116001)))) else (shape_sheet_place.l0 k x0 x2 x3 x34 (wrap64 (x35 + 1)) x116000 x116001)
end
def shape_sheet_place.f (k : Nat) (a0 : Int) (a1 : Int) (l2 : List (List (S41))) (l3 : List (S41)) : Option (Int × Int × Bool × (List (S41))) := (shape_corners.f k l3).bind fun bt102 => ((shape_sub.f 0 0 bt102.1 bt102.2.1).bind fun bt108 => ((shape_moved.f k l3 bt108.1 bt108.2).bind fun t110 => ((shape_sub.f bt102.2.2.1 bt102.2.2.2 bt102.1 bt102.2.1).bind fun bt113 => (shape_sheet_place.l0 k a0 l2 t110 (mx 0 (wrap64 ((wrap64 (a1 - bt113.2)) + 1))) 0 bt113.1 bt113.2))))
set_option maxHeartbeats 8000000 in
set_option maxRecDepth 100000 in
theorem shape_sheet_place.calls (k : Nat) (a0 : Int) (a1 : Int) (A2 : Option Addr) (c2 : Nat) (l2 : List (List (S41))) (A3 : Option Addr) (c3 : Nat) (l3 : List (S41)) (r1 : Int) (r2 : Int) (r3 : Bool) (r4 : List (S41)) (w : World) (gS_ : Nat) (w0 : World) (hB0 : Below w0.heap.size w0 w) (hgs : w0.heap.size ≤ gS_) (hL : l2.length < 1000000)
  (hs : w.heap[gS_]? = some (.cells #[.int .i64 a0, .int .i64 a1, .slice A2 l2.length c2] 75 (0, 0))) (hS : Kd.S (Kd.slice 41 k41) 22 w w0.heap.size (fun _ => True) (.slice A2 l2.length c2) l2) (hr3 : Kd.C k41 w A3 l3.length l3) (hc3 : l3.length ≤ c3) (h : shape_sheet_place.f k a0 a1 l2 l3 = some (r1, r2, r3, r4)) :
  Calls Try.prog 47 #[.pointer (some ⟨gS_, 0, none⟩), .slice A3 l3.length c3] w (PlaceQ w0 w gS_ a0 a1 (.slice A2 l2.length c2) l2 r1 r2 r3 r4) := by
 have hr2 := (Kd.S_reads' hS).2.2
 have hc2 := (Kd.S_reads' hS).2.1
 have HS0 := Aside0.mk hs
 have HSS := Aside0.mk hS
 have HB0 := Aside0.mk hB0
 have HGS := Aside0.mk hgs
 have HL := Aside0.mk hL
 clear hs hS hB0 hgs hL
 have hu41 := Try.underlying41
 have HR2 := Aside0.mk hr2
 have HC2 := Aside0.mk hc2
 clear hr2 hc2
 have HR3 := Aside0.mk hr3
 have HC3 := Aside0.mk hc3
 clear hr3 hc3
 have HB := Aside0.mk (Below.refl w.heap.size w)
 have H : ((shape_corners.f k l3).bind fun bt102 => ((shape_sub.f 0 0 bt102.1 bt102.2.1).bind fun bt108 => ((shape_moved.f k l3 bt108.1 bt108.2).bind fun t110 => ((shape_sub.f bt102.2.2.1 bt102.2.2.2 bt102.1 bt102.2.1).bind fun bt113 => (shape_sheet_place.l0 k a0 l2 t110 (mx 0 (wrap64 ((wrap64 (a1 - bt113.2)) + 1))) 0 bt113.1 bt113.2))))) = some (r1, r2, r3, r4) := h
 clear h
 replace H := Option.bind_eq_some_iff.mp H
 obtain ⟨⟨t102, t103, t104, t105⟩, A50, H⟩ := H
 replace H : ((shape_sub.f 0 0 t102 t103).bind fun bt108 => ((shape_moved.f k l3 bt108.1 bt108.2).bind fun t110 => ((shape_sub.f t104 t105 t102 t103).bind fun bt113 => (shape_sheet_place.l0 k a0 l2 t110 (mx 0 (wrap64 ((wrap64 (a1 - bt113.2)) + 1))) 0 bt113.1 bt113.2)))) = some (r1, r2, r3, r4) := H
 have A5 := Aside0.mk A50
 clear A50
 replace H := Option.bind_eq_some_iff.mp H
 obtain ⟨⟨t108, t109⟩, A60, H⟩ := H
 replace H : ((shape_moved.f k l3 t108 t109).bind fun t110 => ((shape_sub.f t104 t105 t102 t103).bind fun bt113 => (shape_sheet_place.l0 k a0 l2 t110 (mx 0 (wrap64 ((wrap64 (a1 - bt113.2)) + 1))) 0 bt113.1 bt113.2))) = some (r1, r2, r3, r4) := H
 have A6 := Aside0.mk A60
 clear A60
 replace H := Option.bind_eq_some_iff.mp H
 obtain ⟨t110, A70, H⟩ := H
 replace H : ((shape_sub.f t104 t105 t102 t103).bind fun bt113 => (shape_sheet_place.l0 k a0 l2 t110 (mx 0 (wrap64 ((wrap64 (a1 - bt113.2)) + 1))) 0 bt113.1 bt113.2)) = some (r1, r2, r3, r4) := H
 have A7 := Aside0.mk A70
 clear A70
 replace H := Option.bind_eq_some_iff.mp H
 obtain ⟨⟨t113, t114⟩, A80, H⟩ := H
 replace H : (shape_sheet_place.l0 k a0 l2 t110 (mx 0 (wrap64 ((wrap64 (a1 - t114)) + 1))) 0 t113 t114) = some (r1, r2, r3, r4) := H
 have A8 := Aside0.mk A80
 clear A80
 obtain ⟨ji9, hji9⟩ : ∃ j_ : Int, (mx 0 (wrap64 ((wrap64 (a1 - t114)) + 1))) = j_ := ⟨_, rfl⟩
 replace H : (shape_sheet_place.l0 k a0 l2 t110 ji9 0 t113 t114) = some (r1, r2, r3, r4) := by first | (rw [hji9] at H; exact H) | (simp only [hji9] at H ⊢; exact H)
 (try rw [hji9] at A5)
 (try rw [hji9] at A6)
 (try rw [hji9] at A7)
 (try rw [hji9] at A8)
 (try (have hji9l : 0 ≤ ji9 := by (rw [← hji9]; unfold mx; (repeat' split) <;> omega)))
 (try (have hji9m : 0 ≤ ji9 := by omega))
 have hji9_ : (if 0 < (wrap64 ((wrap64 (a1 - t114)) + 1)) then (wrap64 ((wrap64 (a1 - t114)) + 1)) else 0) = ji9 := hji9
 have H' := Aside0.mk H
 clear H
 go_enter Try.func47, Try.ntmps47
 go_wp2_with (first | ((with_reducible refine gate_dst (N := 4) rfl ?_); refine bxe 4 #[.int .i64 0, .int .i64 0] 41 ?_; intro gb101 hg w10 hbox hb; have BK101 := Aside0.mk (hbox); have GW101 := ga w hg; have GE101 := GW101; replace HB := bz hb; clear hb hbox hg) | (go_at_call 101; (with_reducible refine (shape_corners.calls k _ _ l3 t102 t103 t104 t105 _ ?side1 ?side2 A5.out).mono ?_); (case side1 => exact cs (Kd.C_below HR3.out HB.out)); (case side2 => exact HC3.out); rintro e w11 ⟨rfl, hb⟩; replace BK101 := kb BK101 hb; replace HB := bz hb; (try clear hb)) | ((with_reducible refine gate_dst (N := 6) rfl ?_); refine bxe 6 #[.int .i64 0, .int .i64 0] 41 ?_; intro gb106 hg w12 hbox hb; have BK106 := Aside0.mk (hbox); have GW106 := ga w hg; have GE106 := GW106; have NB101_106 := nb hg (kl BK101); have NB106_101 := bn NB101_106; replace BK101 := kb BK101 hb; replace HB := bz hb; clear hb hbox hg) | ((with_reducible refine gate_dst (N := 7) rfl ?_); refine bxe 7 #[.int .i64 0, .int .i64 0] 41 ?_; intro gb107 hg w13 hbox hb; have BK107 := Aside0.mk (hbox); have GW107 := ga w hg; have GE107 := GW107; have NB101_107 := nb hg (kl BK101); have NB107_101 := bn NB101_107; have NB106_107 := nb hg (kl BK106); have NB107_106 := bn NB106_107; replace BK101 := kb BK101 hb; replace BK106 := kb BK106 hb; replace HB := bz hb; clear hb hbox hg; have hnb14 := NB106_101.out; have hnc14 := NB101_106.out; have hnb15 := NB106_107.out; have hnc15 := NB107_106.out; obtain ⟨hcz16_0, hcz16_1, hfz16_0, hfz16_1⟩ := b2 BK106; have hnb17 := NB107_101.out; have hnc17 := NB101_107.out; obtain ⟨hcz18_0, hcz18_1, hfz18_0, hfz18_1⟩ := b2 BK107) | (go_at_call 53; (with_reducible refine (shape_sub.calls 0 0 t102 t103 t108 t109 _ A6.out).mono ?_); rintro e w19 ⟨rfl, hb⟩; replace BK101 := Aside0.mk (blk_below (g := gb101) (o := .cells #[.int .i64 0, .int .i64 0] 41 (0, 0)) (by refine bf NB101_107 ?_; refine bf NB101_107 ?_; refine bf NB101_106 ?_; refine bf NB101_106 ?_; refine bd ?_; exact BK101.out) hb); replace BK106 := Aside0.mk (blk_below (g := gb106) (o := .cells #[.int .i64 t102, .int .i64 t103] 41 (0, 0)) (by refine bf NB106_107 ?_; refine bf NB106_107 ?_; refine bd ?_; refine blk_put (cs := #[.int .i64 t102, .int .i64 0]) ?_ 1 _ rfl; refine bd ?_; refine blk_put (cs := #[.int .i64 0, .int .i64 0]) ?_ 0 _ rfl; refine bd ?_; exact BK106.out) hb); replace BK107 := Aside0.mk (blk_below (g := gb107) (o := .cells #[.int .i64 t104, .int .i64 t105] 41 (0, 0)) (by refine bd ?_; refine blk_put (cs := #[.int .i64 t104, .int .i64 0]) ?_ 1 _ rfl; refine bd ?_; refine blk_put (cs := #[.int .i64 0, .int .i64 0]) ?_ 0 _ rfl; refine bf NB107_106 ?_; refine bf NB107_106 ?_; refine bd ?_; exact BK107.out) hb); replace HB := bz hb; (try clear hb)) | (go_at_call 79; (with_reducible refine (shape_moved.calls k _ _ l3 t108 t109 t110 _ ?side1 ?side2 A7.out).mono ?_); (case side1 => exact cs (Kd.C_below HR3.out HB.out)); (case side2 => exact HC3.out); rintro e w20 ⟨v111, rfl, ho0, hb⟩; have HO112 := Aside0.mk (Kd.R_lower (Kd.R_newB (Kd.R_newB (Kd.R_newB ho0 (g := gb101) (o := .cells #[.int .i64 0, .int .i64 0] 41 (0, 0)) (bk BK101)) (g := gb106) (o := .cells #[.int .i64 t102, .int .i64 t103] 41 (0, 0)) (bk BK106)) (g := gb107) (o := .cells #[.int .i64 t104, .int .i64 t105] 41 (0, 0)) (bk BK107)) (below_size bh)); replace BK101 := kb BK101 hb; replace BK106 := kb BK106 hb; replace BK107 := kb BK107 hb; replace HB := bz hb; (try clear hb); (try clear ho0); obtain ⟨hcz21_0, hcz21_1, hfz21_0, hfz21_1⟩ := b2 BK107; obtain ⟨hcz22_0, hcz22_1, hfz22_0, hfz22_1⟩ := b2 BK106) | (go_at_call 53; (with_reducible refine (shape_sub.calls t104 t105 t102 t103 t113 t114 _ A8.out).mono ?_); rintro e w23 ⟨rfl, hb⟩; replace HO112 := Aside0.mk (Kd.R_below (ro HO112) hb); replace BK101 := kb BK101 hb; replace BK106 := kb BK106 hb; replace BK107 := kb BK107 hb; replace HB := bz hb; (try clear hb)) | ((with_reducible refine gate_dst (N := 8) rfl ?_); refine bxe 8 #[.int .i64 0, .int .i64 0] 41 ?_; intro gb115 hg w24 hbox hb; have BK115 := Aside0.mk (hbox); have GW115 := ga w hg; have GE115 := GW115; have NB101_115 := nb hg (kl BK101); have NB115_101 := bn NB101_115; have NB106_115 := nb hg (kl BK106); have NB115_106 := bn NB106_115; have NB107_115 := nb hg (kl BK107); have NB115_107 := bn NB107_115; replace HO112 := Aside0.mk (Kd.R_below (Kd.R_elderB (ro HO112) gb115 (Nat.le_of_eq hg.symm)) hb); replace BK101 := kb BK101 hb; replace BK106 := kb BK106 hb; replace BK107 := kb BK107 hb; replace HB := bz hb; clear hb hbox hg; have hnb25 := NB115_101.out; have hnc25 := NB101_115.out; have hnb26 := NB115_106.out; have hnc26 := NB106_115.out; have hnb27 := NB115_107.out; have hnc27 := NB107_115.out; obtain ⟨hcz28_0, hcz28_1, hfz28_0, hfz28_1⟩ := b2 BK115; have hsl := blk_lt HS0.out; have hsx : w24.heap[gS_]? = some (.cells #[.int .i64 a0, .int .i64 a1, .slice A2 l2.length c2] 75 (0, 0)) := blk_below HS0.out HB.out; have hsc1 : w24.cell? ⟨gS_, 1, none⟩ = some (.int .i64 a1) := (blk_cell hsx 1).trans rfl; have hsn101 : gS_ ≠ gb101 := Nat.ne_of_lt (Nat.lt_of_lt_of_le hsl GE101.out); have hsm101 := Ne.symm hsn101; have hsn106 : gS_ ≠ gb106 := Nat.ne_of_lt (Nat.lt_of_lt_of_le hsl GE106.out); have hsm106 := Ne.symm hsn106; have hsn107 : gS_ ≠ gb107 := Nat.ne_of_lt (Nat.lt_of_lt_of_le hsl GE107.out); have hsm107 := Ne.symm hsn107; have hsn115 : gS_ ≠ gb115 := Nat.ne_of_lt (Nat.lt_of_lt_of_le hsl GE115.out); have hsm115 := Ne.symm hsn115; clear hsl hsx))
 repeat (go_quiet (first | ((with_reducible refine gate_dst (N := 4) rfl ?_); refine bxe 4 #[.int .i64 0, .int .i64 0] 41 ?_; intro gb101 hg w10 hbox hb; have BK101 := Aside0.mk (hbox); have GW101 := ga w hg; have GE101 := GW101; replace HB := bz hb; clear hb hbox hg) | (go_at_call 101; (with_reducible refine (shape_corners.calls k _ _ l3 t102 t103 t104 t105 _ ?side1 ?side2 A5.out).mono ?_); (case side1 => exact cs (Kd.C_below HR3.out HB.out)); (case side2 => exact HC3.out); rintro e w11 ⟨rfl, hb⟩; replace BK101 := kb BK101 hb; replace HB := bz hb; (try clear hb)) | ((with_reducible refine gate_dst (N := 6) rfl ?_); refine bxe 6 #[.int .i64 0, .int .i64 0] 41 ?_; intro gb106 hg w12 hbox hb; have BK106 := Aside0.mk (hbox); have GW106 := ga w hg; have GE106 := GW106; have NB101_106 := nb hg (kl BK101); have NB106_101 := bn NB101_106; replace BK101 := kb BK101 hb; replace HB := bz hb; clear hb hbox hg) | ((with_reducible refine gate_dst (N := 7) rfl ?_); refine bxe 7 #[.int .i64 0, .int .i64 0] 41 ?_; intro gb107 hg w13 hbox hb; have BK107 := Aside0.mk (hbox); have GW107 := ga w hg; have GE107 := GW107; have NB101_107 := nb hg (kl BK101); have NB107_101 := bn NB101_107; have NB106_107 := nb hg (kl BK106); have NB107_106 := bn NB106_107; replace BK101 := kb BK101 hb; replace BK106 := kb BK106 hb; replace HB := bz hb; clear hb hbox hg; have hnb14 := NB106_101.out; have hnc14 := NB101_106.out; have hnb15 := NB106_107.out; have hnc15 := NB107_106.out; obtain ⟨hcz16_0, hcz16_1, hfz16_0, hfz16_1⟩ := b2 BK106; have hnb17 := NB107_101.out; have hnc17 := NB101_107.out; obtain ⟨hcz18_0, hcz18_1, hfz18_0, hfz18_1⟩ := b2 BK107) | (go_at_call 53; (with_reducible refine (shape_sub.calls 0 0 t102 t103 t108 t109 _ A6.out).mono ?_); rintro e w19 ⟨rfl, hb⟩; replace BK101 := Aside0.mk (blk_below (g := gb101) (o := .cells #[.int .i64 0, .int .i64 0] 41 (0, 0)) (by refine bf NB101_107 ?_; refine bf NB101_107 ?_; refine bf NB101_106 ?_; refine bf NB101_106 ?_; refine bd ?_; exact BK101.out) hb); replace BK106 := Aside0.mk (blk_below (g := gb106) (o := .cells #[.int .i64 t102, .int .i64 t103] 41 (0, 0)) (by refine bf NB106_107 ?_; refine bf NB106_107 ?_; refine bd ?_; refine blk_put (cs := #[.int .i64 t102, .int .i64 0]) ?_ 1 _ rfl; refine bd ?_; refine blk_put (cs := #[.int .i64 0, .int .i64 0]) ?_ 0 _ rfl; refine bd ?_; exact BK106.out) hb); replace BK107 := Aside0.mk (blk_below (g := gb107) (o := .cells #[.int .i64 t104, .int .i64 t105] 41 (0, 0)) (by refine bd ?_; refine blk_put (cs := #[.int .i64 t104, .int .i64 0]) ?_ 1 _ rfl; refine bd ?_; refine blk_put (cs := #[.int .i64 0, .int .i64 0]) ?_ 0 _ rfl; refine bf NB107_106 ?_; refine bf NB107_106 ?_; refine bd ?_; exact BK107.out) hb); replace HB := bz hb; (try clear hb)) | (go_at_call 79; (with_reducible refine (shape_moved.calls k _ _ l3 t108 t109 t110 _ ?side1 ?side2 A7.out).mono ?_); (case side1 => exact cs (Kd.C_below HR3.out HB.out)); (case side2 => exact HC3.out); rintro e w20 ⟨v111, rfl, ho0, hb⟩; have HO112 := Aside0.mk (Kd.R_lower (Kd.R_newB (Kd.R_newB (Kd.R_newB ho0 (g := gb101) (o := .cells #[.int .i64 0, .int .i64 0] 41 (0, 0)) (bk BK101)) (g := gb106) (o := .cells #[.int .i64 t102, .int .i64 t103] 41 (0, 0)) (bk BK106)) (g := gb107) (o := .cells #[.int .i64 t104, .int .i64 t105] 41 (0, 0)) (bk BK107)) (below_size bh)); replace BK101 := kb BK101 hb; replace BK106 := kb BK106 hb; replace BK107 := kb BK107 hb; replace HB := bz hb; (try clear hb); (try clear ho0); obtain ⟨hcz21_0, hcz21_1, hfz21_0, hfz21_1⟩ := b2 BK107; obtain ⟨hcz22_0, hcz22_1, hfz22_0, hfz22_1⟩ := b2 BK106) | (go_at_call 53; (with_reducible refine (shape_sub.calls t104 t105 t102 t103 t113 t114 _ A8.out).mono ?_); rintro e w23 ⟨rfl, hb⟩; replace HO112 := Aside0.mk (Kd.R_below (ro HO112) hb); replace BK101 := kb BK101 hb; replace BK106 := kb BK106 hb; replace BK107 := kb BK107 hb; replace HB := bz hb; (try clear hb)) | ((with_reducible refine gate_dst (N := 8) rfl ?_); refine bxe 8 #[.int .i64 0, .int .i64 0] 41 ?_; intro gb115 hg w24 hbox hb; have BK115 := Aside0.mk (hbox); have GW115 := ga w hg; have GE115 := GW115; have NB101_115 := nb hg (kl BK101); have NB115_101 := bn NB101_115; have NB106_115 := nb hg (kl BK106); have NB115_106 := bn NB106_115; have NB107_115 := nb hg (kl BK107); have NB115_107 := bn NB107_115; replace HO112 := Aside0.mk (Kd.R_below (Kd.R_elderB (ro HO112) gb115 (Nat.le_of_eq hg.symm)) hb); replace BK101 := kb BK101 hb; replace BK106 := kb BK106 hb; replace BK107 := kb BK107 hb; replace HB := bz hb; clear hb hbox hg; have hnb25 := NB115_101.out; have hnc25 := NB101_115.out; have hnb26 := NB115_106.out; have hnc26 := NB106_115.out; have hnb27 := NB115_107.out; have hnc27 := NB107_115.out; obtain ⟨hcz28_0, hcz28_1, hfz28_0, hfz28_1⟩ := b2 BK115)); try go_wp2_with (first | ((with_reducible refine gate_dst (N := 4) rfl ?_); refine bxe 4 #[.int .i64 0, .int .i64 0] 41 ?_; intro gb101 hg w10 hbox hb; have BK101 := Aside0.mk (hbox); have GW101 := ga w hg; have GE101 := GW101; replace HB := bz hb; clear hb hbox hg) | (go_at_call 101; (with_reducible refine (shape_corners.calls k _ _ l3 t102 t103 t104 t105 _ ?side1 ?side2 A5.out).mono ?_); (case side1 => exact cs (Kd.C_below HR3.out HB.out)); (case side2 => exact HC3.out); rintro e w11 ⟨rfl, hb⟩; replace BK101 := kb BK101 hb; replace HB := bz hb; (try clear hb)) | ((with_reducible refine gate_dst (N := 6) rfl ?_); refine bxe 6 #[.int .i64 0, .int .i64 0] 41 ?_; intro gb106 hg w12 hbox hb; have BK106 := Aside0.mk (hbox); have GW106 := ga w hg; have GE106 := GW106; have NB101_106 := nb hg (kl BK101); have NB106_101 := bn NB101_106; replace BK101 := kb BK101 hb; replace HB := bz hb; clear hb hbox hg) | ((with_reducible refine gate_dst (N := 7) rfl ?_); refine bxe 7 #[.int .i64 0, .int .i64 0] 41 ?_; intro gb107 hg w13 hbox hb; have BK107 := Aside0.mk (hbox); have GW107 := ga w hg; have GE107 := GW107; have NB101_107 := nb hg (kl BK101); have NB107_101 := bn NB101_107; have NB106_107 := nb hg (kl BK106); have NB107_106 := bn NB106_107; replace BK101 := kb BK101 hb; replace BK106 := kb BK106 hb; replace HB := bz hb; clear hb hbox hg; have hnb14 := NB106_101.out; have hnc14 := NB101_106.out; have hnb15 := NB106_107.out; have hnc15 := NB107_106.out; obtain ⟨hcz16_0, hcz16_1, hfz16_0, hfz16_1⟩ := b2 BK106; have hnb17 := NB107_101.out; have hnc17 := NB101_107.out; obtain ⟨hcz18_0, hcz18_1, hfz18_0, hfz18_1⟩ := b2 BK107) | (go_at_call 53; (with_reducible refine (shape_sub.calls 0 0 t102 t103 t108 t109 _ A6.out).mono ?_); rintro e w19 ⟨rfl, hb⟩; replace BK101 := Aside0.mk (blk_below (g := gb101) (o := .cells #[.int .i64 0, .int .i64 0] 41 (0, 0)) (by refine bf NB101_107 ?_; refine bf NB101_107 ?_; refine bf NB101_106 ?_; refine bf NB101_106 ?_; refine bd ?_; exact BK101.out) hb); replace BK106 := Aside0.mk (blk_below (g := gb106) (o := .cells #[.int .i64 t102, .int .i64 t103] 41 (0, 0)) (by refine bf NB106_107 ?_; refine bf NB106_107 ?_; refine bd ?_; refine blk_put (cs := #[.int .i64 t102, .int .i64 0]) ?_ 1 _ rfl; refine bd ?_; refine blk_put (cs := #[.int .i64 0, .int .i64 0]) ?_ 0 _ rfl; refine bd ?_; exact BK106.out) hb); replace BK107 := Aside0.mk (blk_below (g := gb107) (o := .cells #[.int .i64 t104, .int .i64 t105] 41 (0, 0)) (by refine bd ?_; refine blk_put (cs := #[.int .i64 t104, .int .i64 0]) ?_ 1 _ rfl; refine bd ?_; refine blk_put (cs := #[.int .i64 0, .int .i64 0]) ?_ 0 _ rfl; refine bf NB107_106 ?_; refine bf NB107_106 ?_; refine bd ?_; exact BK107.out) hb); replace HB := bz hb; (try clear hb)) | (go_at_call 79; (with_reducible refine (shape_moved.calls k _ _ l3 t108 t109 t110 _ ?side1 ?side2 A7.out).mono ?_); (case side1 => exact cs (Kd.C_below HR3.out HB.out)); (case side2 => exact HC3.out); rintro e w20 ⟨v111, rfl, ho0, hb⟩; have HO112 := Aside0.mk (Kd.R_lower (Kd.R_newB (Kd.R_newB (Kd.R_newB ho0 (g := gb101) (o := .cells #[.int .i64 0, .int .i64 0] 41 (0, 0)) (bk BK101)) (g := gb106) (o := .cells #[.int .i64 t102, .int .i64 t103] 41 (0, 0)) (bk BK106)) (g := gb107) (o := .cells #[.int .i64 t104, .int .i64 t105] 41 (0, 0)) (bk BK107)) (below_size bh)); replace BK101 := kb BK101 hb; replace BK106 := kb BK106 hb; replace BK107 := kb BK107 hb; replace HB := bz hb; (try clear hb); (try clear ho0); obtain ⟨hcz21_0, hcz21_1, hfz21_0, hfz21_1⟩ := b2 BK107; obtain ⟨hcz22_0, hcz22_1, hfz22_0, hfz22_1⟩ := b2 BK106) | (go_at_call 53; (with_reducible refine (shape_sub.calls t104 t105 t102 t103 t113 t114 _ A8.out).mono ?_); rintro e w23 ⟨rfl, hb⟩; replace HO112 := Aside0.mk (Kd.R_below (ro HO112) hb); replace BK101 := kb BK101 hb; replace BK106 := kb BK106 hb; replace BK107 := kb BK107 hb; replace HB := bz hb; (try clear hb)) | ((with_reducible refine gate_dst (N := 8) rfl ?_); refine bxe 8 #[.int .i64 0, .int .i64 0] 41 ?_; intro gb115 hg w24 hbox hb; have BK115 := Aside0.mk (hbox); have GW115 := ga w hg; have GE115 := GW115; have NB101_115 := nb hg (kl BK101); have NB115_101 := bn NB101_115; have NB106_115 := nb hg (kl BK106); have NB115_106 := bn NB106_115; have NB107_115 := nb hg (kl BK107); have NB115_107 := bn NB107_115; replace HO112 := Aside0.mk (Kd.R_below (Kd.R_elderB (ro HO112) gb115 (Nat.le_of_eq hg.symm)) hb); replace BK101 := kb BK101 hb; replace BK106 := kb BK106 hb; replace BK107 := kb BK107 hb; replace HB := bz hb; clear hb hbox hg; have hnb25 := NB115_101.out; have hnc25 := NB101_115.out; have hnb26 := NB115_106.out; have hnc26 := NB106_115.out; have hnb27 := NB115_107.out; have hnc27 := NB107_115.out; obtain ⟨hcz28_0, hcz28_1, hfz28_0, hfz28_1⟩ := b2 BK115; have hsl := blk_lt HS0.out; have hsx : w24.heap[gS_]? = some (.cells #[.int .i64 a0, .int .i64 a1, .slice A2 l2.length c2] 75 (0, 0)) := blk_below HS0.out HB.out; have hsc1 : w24.cell? ⟨gS_, 1, none⟩ = some (.int .i64 a1) := (blk_cell hsx 1).trans rfl; have hsn101 : gS_ ≠ gb101 := Nat.ne_of_lt (Nat.lt_of_lt_of_le hsl GE101.out); have hsm101 := Ne.symm hsn101; have hsn106 : gS_ ≠ gb106 := Nat.ne_of_lt (Nat.lt_of_lt_of_le hsl GE106.out); have hsm106 := Ne.symm hsn106; have hsn107 : gS_ ≠ gb107 := Nat.ne_of_lt (Nat.lt_of_lt_of_le hsl GE107.out); have hsm107 := Ne.symm hsn107; have hsn115 : gS_ ≠ gb115 := Nat.ne_of_lt (Nat.lt_of_lt_of_le hsl GE115.out); have hsm115 := Ne.symm hsn115; clear hsl hsx)))
 go_loopg [35] k (fun kq v35 w' => ∃ (x35_1 : Int) (x102000_1 : Int) (x102001_1 : Int), v35 = .int .i64 x35_1 ∧ Aside0 (shape_sheet_place.l0 kq a0 l2 t110 ji9 x35_1 t113 t114 = some (r1, r2, r3, r4)) ∧ Aside0 (kq ≤ k) ∧ Aside0 (Kd.R k41 41 w' w.heap.size (fun k_ => k_ ≠ gb101 ∧ k_ ≠ gb106 ∧ k_ ≠ gb107 ∧ k_ ≠ gb115) v111 t110) ∧ Aside0 (w'.heap[gb101]? = some (.cells #[.int .i64 x102000_1, .int .i64 x102001_1] 41 (0, 0))) ∧ Aside0 (w'.heap[gb106]? = some (.cells #[.int .i64 t102, .int .i64 t103] 41 (0, 0))) ∧ Aside0 (w'.heap[gb107]? = some (.cells #[.int .i64 t104, .int .i64 t105] 41 (0, 0))) ∧ Aside0 (w'.heap[gb115]? = some (.cells #[.int .i64 t113, .int .i64 t114] 41 (0, 0))) ∧ Aside0 (Below w.heap.size w w'))
 case atStart => exact ⟨(0), (0), (0), sd, H', ⟨Nat.le_refl _⟩, ⟨by (with_reducible repeat (first | apply Kd.R_alloc | apply Kd.R_drewN | apply Kd.R_drew)); exact Kd.R_mono (Kd.R_far (p := ⟨gb115, 1, none⟩) (Kd.R_far (p := ⟨gb115, 0, none⟩) (Kd.R_mono HO112.out (fun k_ hk => (⟨hk, hk.2⟩ : _ ∧ k_ ≠ gb115))) (fun _ hk => hk.2) (.int .i64 t113)) (fun _ hk => hk.2) (.int .i64 t114)) (fun _ hk => ⟨hk.1.1.1.1.2, ⟨hk.1.1.1.2, ⟨hk.1.1.2, hk.1.2⟩⟩⟩)⟩, ⟨by refine bf NB101_115 ?_; refine bf NB101_115 ?_; refine bd ?_; exact BK101.out⟩, ⟨by refine bf NB106_115 ?_; refine bf NB106_115 ?_; refine bd ?_; exact BK106.out⟩, ⟨by refine bf NB107_115 ?_; refine bf NB107_115 ?_; refine bd ?_; exact BK107.out⟩, ⟨by refine bd ?_; refine blk_put (cs := #[.int .i64 t113, .int .i64 0]) ?_ 1 _ rfl; refine bd ?_; refine blk_put (cs := #[.int .i64 0, .int .i64 0]) ?_ 0 _ rfl; refine bd ?_; exact BK115.out⟩, ⟨bh⟩⟩
 case round =>
  clear H'
  (try clear c2); (try clear c3); (try clear hcz16_0); (try clear hcz16_1); (try clear hcz18_0); (try clear hcz18_1); (try clear hcz21_0); (try clear hcz21_1); (try clear hcz22_0); (try clear hcz22_1); (try clear hcz28_0); (try clear hcz28_1); (try clear hfz16_0); (try clear hfz16_1); (try clear hfz18_0); (try clear hfz18_1); (try clear hfz21_0); (try clear hfz21_1); (try clear hfz22_0); (try clear hfz22_1); (try clear hfz28_0); (try clear hfz28_1)
  obtain ⟨x35_1, x102000_1, x102001_1, rfl, HA, HK1, HO_3, BK101, BK106, BK107, BK115, HB⟩ := hrel
  cases gk with
  | zero => exact absurd HA.out (by simp [shape_sheet_place.l0])
  | succ k1 =>
   have H := HA.out
   clear HA
   simp only [shape_sheet_place.l0] at H
   by_cases c29 : x35_1 < ji9
   ·rw [if_pos c29] at H
    have c29b0 := decide_eq_true c29
    clear c29
    obtain ⟨ji30, hji30⟩ : ∃ j_ : Int, (mx 0 (wrap64 ((wrap64 (a0 - t113)) + 1))) = j_ := ⟨_, rfl⟩
    replace H : (shape_sheet_place.l1 k1 a0 l2 t110 x35_1 ji9 x35_1 ji30 0 t113 t114) = some (r1, r2, r3, r4) := by first | (rw [hji30] at H; exact H) | (simp only [hji30] at H ⊢; exact H)
    have hji30_ : (if 0 < (wrap64 ((wrap64 (a0 - t113)) + 1)) then (wrap64 ((wrap64 (a0 - t113)) + 1)) else 0) = ji30 := hji30
    have H' := Aside0.mk H
    clear H
    have hnb31 := NB115_101.out
    have hnc31 := NB101_115.out
    have hnb32 := NB115_106.out
    have hnc32 := NB106_115.out
    have hnb33 := NB115_107.out
    have hnc33 := NB107_115.out
    obtain ⟨hcz34_0, hcz34_1, hfz34_0, hfz34_1⟩ := b2 BK115
    have hsl := blk_lt HS0.out
    have hsx : wr.heap[gS_]? = some (.cells #[.int .i64 a0, .int .i64 a1, .slice A2 l2.length c2] 75 (0, 0)) := blk_below HS0.out HB.out
    have hsc0 : wr.cell? ⟨gS_, 0, none⟩ = some (.int .i64 a0) := (blk_cell hsx 0).trans rfl
    have hsn101 : gS_ ≠ gb101 := Nat.ne_of_lt (Nat.lt_of_lt_of_le hsl GE101.out)
    have hsm101 := Ne.symm hsn101
    have hsn106 : gS_ ≠ gb106 := Nat.ne_of_lt (Nat.lt_of_lt_of_le hsl GE106.out)
    have hsm106 := Ne.symm hsn106
    have hsn107 : gS_ ≠ gb107 := Nat.ne_of_lt (Nat.lt_of_lt_of_le hsl GE107.out)
    have hsm107 := Ne.symm hsn107
    have hsn115 : gS_ ≠ gb115 := Nat.ne_of_lt (Nat.lt_of_lt_of_le hsl GE115.out)
    have hsm115 := Ne.symm hsn115
    clear hsl hsx
    go_wp2
    repeat (go_quiet (fail); try go_wp2)
    go_loopg [47] k1 (fun kq v47 w' => ∃ (x47_2 : Int) (x102000_2 : Int) (x102001_2 : Int), v47 = .int .i64 x47_2 ∧ Aside0 (shape_sheet_place.l1 kq a0 l2 t110 x35_1 ji9 x35_1 ji30 x47_2 t113 t114 = some (r1, r2, r3, r4)) ∧ Aside0 (kq ≤ k1) ∧ Aside0 (Kd.R k41 41 w' w.heap.size (fun k_ => k_ ≠ gb101 ∧ k_ ≠ gb106 ∧ k_ ≠ gb107 ∧ k_ ≠ gb115) v111 t110) ∧ Aside0 (w'.heap[gb101]? = some (.cells #[.int .i64 x102000_2, .int .i64 x102001_2] 41 (0, 0))) ∧ Aside0 (w'.heap[gb106]? = some (.cells #[.int .i64 t102, .int .i64 t103] 41 (0, 0))) ∧ Aside0 (w'.heap[gb107]? = some (.cells #[.int .i64 t104, .int .i64 t105] 41 (0, 0))) ∧ Aside0 (w'.heap[gb115]? = some (.cells #[.int .i64 t113, .int .i64 t114] 41 (0, 0))) ∧ Aside0 (Below w.heap.size w w'))
    case atStart => exact ⟨(0), (x102000_1), (x102001_1), sd, H', ⟨Nat.le_refl _⟩, ⟨ro HO_3⟩, ⟨bk BK101⟩, ⟨bk BK106⟩, ⟨bk BK107⟩, ⟨bk BK115⟩, ⟨bh⟩⟩
    case round =>
     clear H'
     (try clear c2); (try clear c29b0); (try clear hcz34_0); (try clear hcz34_1); (try clear hfz34_0); (try clear hfz34_1)
     obtain ⟨x47_2, x102000_2, x102001_2, rfl, HA, HK2, HO_3, BK101, BK106, BK107, BK115, HB⟩ := hrel
     cases gk with
     | zero => exact absurd HA.out (by simp [shape_sheet_place.l1])
     | succ k2 =>
      have H := HA.out
      clear HA
      simp only [shape_sheet_place.l1] at H
      by_cases c35 : x47_2 < ji30
      ·rw [if_pos c35] at H
       have c35b0 := decide_eq_true c35
       clear c35
       replace H := Option.bind_eq_some_iff.mp H
       obtain ⟨t117, A360, H⟩ := H
       replace H : ((shape_sheet_free.f k2 l2 t117).bind fun t120 => (if t120 = true then (some (x47_2, x35_1, true, t117)) else (shape_sheet_place.l1 k2 a0 l2 t110 x35_1 ji9 x35_1 ji30 (wrap64 (x47_2 + 1)) t113 t114))) = some (r1, r2, r3, r4) := H
       have A36 := Aside0.mk A360
       clear A360
       replace H := Option.bind_eq_some_iff.mp H
       obtain ⟨t120, A370, H⟩ := H
       replace H : (if t120 = true then (some (x47_2, x35_1, true, t117)) else (shape_sheet_place.l1 k2 a0 l2 t110 x35_1 ji9 x35_1 ji30 (wrap64 (x47_2 + 1)) t113 t114)) = some (r1, r2, r3, r4) := H
       have A37 := Aside0.mk A370
       clear A370
       by_cases c38 : t120 = true
       ·subst c38
        rw [if_pos rfl] at H
        simp only [Option.some.injEq, Prod.mk.injEq] at H
        obtain ⟨rfl, rfl, rfl, rfl⟩ := H
        go_wp2_with (first | ((with_reducible refine gate_dst (N := 11) rfl ?_); refine bxe 11 #[.int .i64 0, .int .i64 0] 41 ?_; intro gb116 hg w39 hbox hb; have BK116 := Aside0.mk (hbox); have GW116 := ga w hg; have GE116 := GW116; have NB101_116 := nb hg (kl BK101); have NB116_101 := bn NB101_116; have NB106_116 := nb hg (kl BK106); have NB116_106 := bn NB106_116; have NB107_116 := nb hg (kl BK107); have NB116_107 := bn NB107_116; have NB115_116 := nb hg (kl BK115); have NB116_115 := bn NB115_116; replace HO_3 := Aside0.mk (Kd.R_below (Kd.R_elderB (ro HO_3) gb116 (Nat.le_of_eq hg.symm)) hb); replace BK101 := kb BK101 hb; replace BK106 := kb BK106 hb; replace BK107 := kb BK107 hb; replace BK115 := kb BK115 hb; replace HB := bz hb; clear hb hbox hg; have hnb40 := NB116_101.out; have hnc40 := NB101_116.out; have hnb41 := NB116_106.out; have hnc41 := NB106_116.out; have hnb42 := NB116_107.out; have hnc42 := NB107_116.out; have hnb43 := NB116_115.out; have hnc43 := NB115_116.out; obtain ⟨hcz44_0, hcz44_1, hfz44_0, hfz44_1⟩ := b2 BK116; obtain ⟨Ao45, co45, eo45⟩ := Kd.R_slice HO_3.out; subst eo45) | (go_at_call 79; (with_reducible refine (shape_moved.calls k2 _ _ t110 x47_2 x35_1 t117 _ ?side1 ?side2 A36.out).mono ?_); (case side1 => refine (Kd.R_reads' (e := 41) (base := w.heap.size) (ok := fun k_ => ((k_ ≠ gb101 ∧ (k_ ≠ gb106 ∧ (k_ ≠ gb107 ∧ k_ ≠ gb115))) ∧ k_ ≠ gb116)) (n := t110.length) (c := co45) ?_).2.2; exact (by (with_reducible repeat (first | apply Kd.R_alloc | apply Kd.R_drewN | apply Kd.R_drew)); exact (Kd.R_mono (Kd.R_far (p := ⟨gb116, 1, none⟩) (Kd.R_far (p := ⟨gb116, 0, none⟩) (Kd.R_mono HO_3.out (fun k_ hk => (⟨hk, hk.2⟩ : _ ∧ k_ ≠ gb116))) (fun _ hk => hk.2) (.int .i64 x47_2)) (fun _ hk => hk.2) (.int .i64 x35_1)) (fun _ h_ => h_.1)))); (case side2 => exact (Kd.R_reads' HO_3.out).2.1); rintro e w46 ⟨v118, rfl, ho0, hb⟩; have HO119 := Aside0.mk (Kd.R_lower (Kd.R_newB (Kd.R_newB (Kd.R_newB (Kd.R_newB (Kd.R_newB (Kd.R_new' ho0 (Kd.R_lt (by (with_reducible repeat (first | apply Kd.R_alloc | apply Kd.R_drewN | apply Kd.R_drew)); exact (Kd.R_mono (Kd.R_far (p := ⟨gb116, 1, none⟩) (Kd.R_far (p := ⟨gb116, 0, none⟩) (Kd.R_mono HO_3.out (fun k_ hk => (⟨hk, hk.2⟩ : _ ∧ k_ ≠ gb116))) (fun _ hk => hk.2) (.int .i64 x47_2)) (fun _ hk => hk.2) (.int .i64 x35_1)) (fun _ h_ => h_.1))))) (g := gb101) (o := .cells #[.int .i64 x102000_2, .int .i64 x102001_2] 41 (0, 0)) (by refine bf NB101_116 ?_; refine bf NB101_116 ?_; refine bd ?_; exact BK101.out)) (g := gb106) (o := .cells #[.int .i64 t102, .int .i64 t103] 41 (0, 0)) (by refine bf NB106_116 ?_; refine bf NB106_116 ?_; refine bd ?_; exact BK106.out)) (g := gb107) (o := .cells #[.int .i64 t104, .int .i64 t105] 41 (0, 0)) (by refine bf NB107_116 ?_; refine bf NB107_116 ?_; refine bd ?_; exact BK107.out)) (g := gb115) (o := .cells #[.int .i64 t113, .int .i64 t114] 41 (0, 0)) (by refine bf NB115_116 ?_; refine bf NB115_116 ?_; refine bd ?_; exact BK115.out)) (g := gb116) (o := .cells #[.int .i64 x47_2, .int .i64 x35_1] 41 (0, 0)) (by refine bd ?_; refine blk_put (cs := #[.int .i64 x47_2, .int .i64 0]) ?_ 1 _ rfl; refine bd ?_; refine blk_put (cs := #[.int .i64 0, .int .i64 0]) ?_ 0 _ rfl; refine bd ?_; exact BK116.out)) (below_size bh)); replace HO_3 := Aside0.mk (Kd.R_elder' (by (with_reducible repeat (first | apply Kd.R_alloc | apply Kd.R_drewN | apply Kd.R_drew)); exact (Kd.R_mono (Kd.R_far (p := ⟨gb116, 1, none⟩) (Kd.R_far (p := ⟨gb116, 0, none⟩) (Kd.R_mono HO_3.out (fun k_ hk => (⟨hk, hk.2⟩ : _ ∧ k_ ≠ gb116))) (fun _ hk => hk.2) (.int .i64 x47_2)) (fun _ hk => hk.2) (.int .i64 x35_1)) (fun _ h_ => h_.1))) (Kd.R_base ho0) hb); replace BK101 := Aside0.mk (blk_below (g := gb101) (o := .cells #[.int .i64 x102000_2, .int .i64 x102001_2] 41 (0, 0)) (by refine bf NB101_116 ?_; refine bf NB101_116 ?_; refine bd ?_; exact BK101.out) hb); replace BK106 := Aside0.mk (blk_below (g := gb106) (o := .cells #[.int .i64 t102, .int .i64 t103] 41 (0, 0)) (by refine bf NB106_116 ?_; refine bf NB106_116 ?_; refine bd ?_; exact BK106.out) hb); replace BK107 := Aside0.mk (blk_below (g := gb107) (o := .cells #[.int .i64 t104, .int .i64 t105] 41 (0, 0)) (by refine bf NB107_116 ?_; refine bf NB107_116 ?_; refine bd ?_; exact BK107.out) hb); replace BK115 := Aside0.mk (blk_below (g := gb115) (o := .cells #[.int .i64 t113, .int .i64 t114] 41 (0, 0)) (by refine bf NB115_116 ?_; refine bf NB115_116 ?_; refine bd ?_; exact BK115.out) hb); replace BK116 := Aside0.mk (blk_below (g := gb116) (o := .cells #[.int .i64 x47_2, .int .i64 x35_1] 41 (0, 0)) (by refine bd ?_; refine blk_put (cs := #[.int .i64 x47_2, .int .i64 0]) ?_ 1 _ rfl; refine bd ?_; refine blk_put (cs := #[.int .i64 0, .int .i64 0]) ?_ 0 _ rfl; refine bd ?_; exact BK116.out) hb); replace HB := bz hb; (try clear hb); (try clear hk); (try clear ho0); obtain ⟨Ao47, co47, eo47⟩ := Kd.R_slice HO119.out; subst eo47) | (go_at_call 102; (with_reducible refine (shape_sheet_free.calls k2 _ _ l2 _ _ t117 true _ gS_ a0 a1 (blk_below HS0.out HB.out) ?side1 ?side2 ?side3 ?side4 A37.out).mono ?_); (case side1 => exact cs (Kd.C_below HR2.out HB.out)); (case side2 => exact HC2.out); (case side3 => exact cs (Kd.R_reads' HO119.out).2.2); (case side4 => exact (Kd.R_reads' HO119.out).2.1); rintro e w48 ⟨rfl, hb⟩; replace HO_3 := Aside0.mk (Kd.R_below (ro HO_3) hb); replace HO119 := Aside0.mk (Kd.R_below (ro HO119) hb); replace BK101 := kb BK101 hb; replace BK106 := kb BK106 hb; replace BK107 := kb BK107 hb; replace BK115 := kb BK115 hb; replace BK116 := kb BK116 hb; replace HB := bz hb; (try clear hb); obtain ⟨hcz49_0, hcz49_1, hfz49_0, hfz49_1⟩ := b2 BK116; have hnb50 := NB101_106.out; have hnc50 := NB106_101.out; have hnb51 := NB101_107.out; have hnc51 := NB107_101.out; have hnb52 := NB101_115.out; have hnc52 := NB115_101.out; obtain ⟨hcz53_0, hcz53_1, hfz53_0, hfz53_1⟩ := b2 BK101; have hsl := blk_lt HS0.out; have hsx : w48.heap[gS_]? = some (.cells #[.int .i64 a0, .int .i64 a1, .slice A2 l2.length c2] 75 (0, 0)) := blk_below HS0.out HB.out; have hsc2 : w48.cell? ⟨gS_, 2, none⟩ = some (.slice A2 l2.length c2) := (blk_cell hsx 2).trans rfl; have hsn116 : gS_ ≠ gb116 := Nat.ne_of_lt (Nat.lt_of_lt_of_le hsl GE116.out); have hsm116 := Ne.symm hsn116; clear hsl hsx) | ((with_reducible refine gate_builtin (b := .append) (xs := #[.tmp 63, .tmp 65]) rfl ?_); at_builtin; have hpp := place_parts (g1 := gb101) HB0.out HB.out HSS.out HO119.out (fun k hk => hk.1.1.1.1.2) GE101.out; have hpp1 := hpp.1; have hpp2 := hpp.2.1; have hpp3 := hpp.2.2; clear hpp; refine Kd.S_append (Kd.slice 41 k41) (w0 := w0) w0.heap.size rfl (.tmp 63) (.tmp 65) 32 22 (.slice none 0 0) 24 rfl Try.underlying32 info22 rfl (by decide) (by omega) (.slice A2 l2.length c2) l2 t117 [(.slice Ao47 t117.length co47)] (fun k_ => k_ ≠ gb101) (fun k_ => some k_ = ((.slice Ao47 t117.length co47) : Value).ownBlock) rfl rfl hpp1 hpp2 (fun k hk => Nat.ne_of_gt (Nat.lt_of_lt_of_le (blk_lt BK101.out) hk)) hpp3 ?aB ?aS ?aL ?_; (case aB => exact below_then HB0.out HB0.out.size HB.out); (case aS => exact Nat.le_trans HB0.out.size HB.out.size); (case aL => have := HL.out; omega); clear hpp1 hpp2 hpp3; intro v1 w1 hoS hbS hg hat; obtain ⟨Av, cv, ev, _, _⟩ := Kd.S_reads hoS; subst ev; generalize hyn : (l2 ++ [t117]).length = nv at *; have HYN := Aside0.mk hyn; clear hyn; have HOS := Aside0.mk hoS; have HBS := Aside0.mk hbS; have hx1 : w1.heap[gS_]? = some (.cells #[.int .i64 a0, .int .i64 a1, .slice A2 l2.length c2] 75 (0, 0)) := blk_grown (blk_below HS0.out HB.out) hg (Kd.S_ne HSS.out HS0.out (by decide)); have hx2 : w1.heap[gb101]? = some (.cells #[.int .i64 x102000_2, .int .i64 x102001_2] 41 (0, 0)) := blk_grown BK101.out hg (Kd.S_ne (Kd.S_below HSS.out HB.out) BK101.out (by decide)); have hx3 : w1.heap[gb116]? = some (.cells #[.int .i64 x47_2, .int .i64 x35_1] 41 (0, 0)) := blk_grown BK116.out hg (Kd.S_ne (Kd.S_below HSS.out HB.out) BK116.out (by decide)); have HG := Aside0.mk hg; have X1 := Aside0.mk hx1; have X2 := Aside0.mk hx2; have X3 := Aside0.mk hx3; clear hoS hbS hg hat hx1 hx2 hx3; have hy1 : w1.cell? ⟨gS_, 2, none⟩ = some (.slice A2 l2.length c2) := (blk_cell X1.out 2).trans rfl; have hy2 := blk_frozen X1.out 2; have hy3 : w1.cell? ⟨gb116, 0, none⟩ = some (.int .i64 x47_2) := (blk_cell X3.out 0).trans rfl; have hy4 : w1.cell? ⟨gb116, 1, none⟩ = some (.int .i64 x35_1) := (blk_cell X3.out 1).trans rfl; have hy5 : w1.cell? ⟨gb101, 0, none⟩ = some (.int .i64 x102000_2) := (blk_cell X2.out 0).trans rfl; have hy6 : w1.cell? ⟨gb101, 1, none⟩ = some (.int .i64 x102001_2) := (blk_cell X2.out 1).trans rfl; have hy7 := blk_frozen X2.out 0; have hy8 := blk_frozen X2.out 1))
        have hd := place_done (x := x47_2) (y := x35_1) (q := t117) HB.out HBS.out HG.out HB0.out HGS.out GE101.out hsn101 X1.out X2.out HOS.out
        refine bodyPost_ret (results_ct rfl _ _ gb101 41 #[.int .i64 x47_2, .int .i64 x35_1] (0, 0) _ rfl hd.1 Try.underlying41 rfl (by kernel_rfl)) rfl ?_
        exact ⟨by first | rfl | (simp; done), hd.2.2⟩
       ·replace c38 := Bool.eq_false_iff.mpr c38
        subst c38
        rw [if_neg (show ¬ (false = true) by decide)] at H
        have H' := Aside0.mk H
        clear H
        go_wp2_with (first | ((with_reducible refine gate_dst (N := 11) rfl ?_); refine bxe 11 #[.int .i64 0, .int .i64 0] 41 ?_; intro gb116 hg w54 hbox hb; have BK116 := Aside0.mk (hbox); have GW116 := ga w hg; have GE116 := GW116; have NB101_116 := nb hg (kl BK101); have NB116_101 := bn NB101_116; have NB106_116 := nb hg (kl BK106); have NB116_106 := bn NB106_116; have NB107_116 := nb hg (kl BK107); have NB116_107 := bn NB107_116; have NB115_116 := nb hg (kl BK115); have NB116_115 := bn NB115_116; replace HO_3 := Aside0.mk (Kd.R_below (Kd.R_elderB (ro HO_3) gb116 (Nat.le_of_eq hg.symm)) hb); replace BK101 := kb BK101 hb; replace BK106 := kb BK106 hb; replace BK107 := kb BK107 hb; replace BK115 := kb BK115 hb; replace HB := bz hb; clear hb hbox hg; have hnb55 := NB116_101.out; have hnc55 := NB101_116.out; have hnb56 := NB116_106.out; have hnc56 := NB106_116.out; have hnb57 := NB116_107.out; have hnc57 := NB107_116.out; have hnb58 := NB116_115.out; have hnc58 := NB115_116.out; obtain ⟨hcz59_0, hcz59_1, hfz59_0, hfz59_1⟩ := b2 BK116; obtain ⟨Ao60, co60, eo60⟩ := Kd.R_slice HO_3.out; subst eo60) | (go_at_call 79; (with_reducible refine (shape_moved.calls k2 _ _ t110 x47_2 x35_1 t117 _ ?side1 ?side2 A36.out).mono ?_); (case side1 => refine (Kd.R_reads' (e := 41) (base := w.heap.size) (ok := fun k_ => ((k_ ≠ gb101 ∧ (k_ ≠ gb106 ∧ (k_ ≠ gb107 ∧ k_ ≠ gb115))) ∧ k_ ≠ gb116)) (n := t110.length) (c := co60) ?_).2.2; exact (by (with_reducible repeat (first | apply Kd.R_alloc | apply Kd.R_drewN | apply Kd.R_drew)); exact (Kd.R_mono (Kd.R_far (p := ⟨gb116, 1, none⟩) (Kd.R_far (p := ⟨gb116, 0, none⟩) (Kd.R_mono HO_3.out (fun k_ hk => (⟨hk, hk.2⟩ : _ ∧ k_ ≠ gb116))) (fun _ hk => hk.2) (.int .i64 x47_2)) (fun _ hk => hk.2) (.int .i64 x35_1)) (fun _ h_ => h_.1)))); (case side2 => exact (Kd.R_reads' HO_3.out).2.1); rintro e w61 ⟨v118, rfl, ho0, hb⟩; have HO119 := Aside0.mk (Kd.R_lower (Kd.R_newB (Kd.R_newB (Kd.R_newB (Kd.R_newB (Kd.R_newB (Kd.R_new' ho0 (Kd.R_lt (by (with_reducible repeat (first | apply Kd.R_alloc | apply Kd.R_drewN | apply Kd.R_drew)); exact (Kd.R_mono (Kd.R_far (p := ⟨gb116, 1, none⟩) (Kd.R_far (p := ⟨gb116, 0, none⟩) (Kd.R_mono HO_3.out (fun k_ hk => (⟨hk, hk.2⟩ : _ ∧ k_ ≠ gb116))) (fun _ hk => hk.2) (.int .i64 x47_2)) (fun _ hk => hk.2) (.int .i64 x35_1)) (fun _ h_ => h_.1))))) (g := gb101) (o := .cells #[.int .i64 x102000_2, .int .i64 x102001_2] 41 (0, 0)) (by refine bf NB101_116 ?_; refine bf NB101_116 ?_; refine bd ?_; exact BK101.out)) (g := gb106) (o := .cells #[.int .i64 t102, .int .i64 t103] 41 (0, 0)) (by refine bf NB106_116 ?_; refine bf NB106_116 ?_; refine bd ?_; exact BK106.out)) (g := gb107) (o := .cells #[.int .i64 t104, .int .i64 t105] 41 (0, 0)) (by refine bf NB107_116 ?_; refine bf NB107_116 ?_; refine bd ?_; exact BK107.out)) (g := gb115) (o := .cells #[.int .i64 t113, .int .i64 t114] 41 (0, 0)) (by refine bf NB115_116 ?_; refine bf NB115_116 ?_; refine bd ?_; exact BK115.out)) (g := gb116) (o := .cells #[.int .i64 x47_2, .int .i64 x35_1] 41 (0, 0)) (by refine bd ?_; refine blk_put (cs := #[.int .i64 x47_2, .int .i64 0]) ?_ 1 _ rfl; refine bd ?_; refine blk_put (cs := #[.int .i64 0, .int .i64 0]) ?_ 0 _ rfl; refine bd ?_; exact BK116.out)) (below_size bh)); replace HO_3 := Aside0.mk (Kd.R_elder' (by (with_reducible repeat (first | apply Kd.R_alloc | apply Kd.R_drewN | apply Kd.R_drew)); exact (Kd.R_mono (Kd.R_far (p := ⟨gb116, 1, none⟩) (Kd.R_far (p := ⟨gb116, 0, none⟩) (Kd.R_mono HO_3.out (fun k_ hk => (⟨hk, hk.2⟩ : _ ∧ k_ ≠ gb116))) (fun _ hk => hk.2) (.int .i64 x47_2)) (fun _ hk => hk.2) (.int .i64 x35_1)) (fun _ h_ => h_.1))) (Kd.R_base ho0) hb); replace BK101 := Aside0.mk (blk_below (g := gb101) (o := .cells #[.int .i64 x102000_2, .int .i64 x102001_2] 41 (0, 0)) (by refine bf NB101_116 ?_; refine bf NB101_116 ?_; refine bd ?_; exact BK101.out) hb); replace BK106 := Aside0.mk (blk_below (g := gb106) (o := .cells #[.int .i64 t102, .int .i64 t103] 41 (0, 0)) (by refine bf NB106_116 ?_; refine bf NB106_116 ?_; refine bd ?_; exact BK106.out) hb); replace BK107 := Aside0.mk (blk_below (g := gb107) (o := .cells #[.int .i64 t104, .int .i64 t105] 41 (0, 0)) (by refine bf NB107_116 ?_; refine bf NB107_116 ?_; refine bd ?_; exact BK107.out) hb); replace BK115 := Aside0.mk (blk_below (g := gb115) (o := .cells #[.int .i64 t113, .int .i64 t114] 41 (0, 0)) (by refine bf NB115_116 ?_; refine bf NB115_116 ?_; refine bd ?_; exact BK115.out) hb); replace BK116 := Aside0.mk (blk_below (g := gb116) (o := .cells #[.int .i64 x47_2, .int .i64 x35_1] 41 (0, 0)) (by refine bd ?_; refine blk_put (cs := #[.int .i64 x47_2, .int .i64 0]) ?_ 1 _ rfl; refine bd ?_; refine blk_put (cs := #[.int .i64 0, .int .i64 0]) ?_ 0 _ rfl; refine bd ?_; exact BK116.out) hb); replace HB := bz hb; (try clear hb); (try clear hk); (try clear ho0); obtain ⟨Ao62, co62, eo62⟩ := Kd.R_slice HO119.out; subst eo62) | (go_at_call 102; (with_reducible refine (shape_sheet_free.calls k2 _ _ l2 _ _ t117 false _ gS_ a0 a1 (blk_below HS0.out HB.out) ?side1 ?side2 ?side3 ?side4 A37.out).mono ?_); (case side1 => exact cs (Kd.C_below HR2.out HB.out)); (case side2 => exact HC2.out); (case side3 => exact cs (Kd.R_reads' HO119.out).2.2); (case side4 => exact (Kd.R_reads' HO119.out).2.1); rintro e w63 ⟨rfl, hb⟩; replace HO_3 := Aside0.mk (Kd.R_below (ro HO_3) hb); replace HO119 := Aside0.mk (Kd.R_below (ro HO119) hb); replace BK101 := kb BK101 hb; replace BK106 := kb BK106 hb; replace BK107 := kb BK107 hb; replace BK115 := kb BK115 hb; replace BK116 := kb BK116 hb; replace HB := bz hb; (try clear hb)))
        repeat (go_quiet (first | ((with_reducible refine gate_dst (N := 11) rfl ?_); refine bxe 11 #[.int .i64 0, .int .i64 0] 41 ?_; intro gb116 hg w54 hbox hb; have BK116 := Aside0.mk (hbox); have GW116 := ga w hg; have GE116 := GW116; have NB101_116 := nb hg (kl BK101); have NB116_101 := bn NB101_116; have NB106_116 := nb hg (kl BK106); have NB116_106 := bn NB106_116; have NB107_116 := nb hg (kl BK107); have NB116_107 := bn NB107_116; have NB115_116 := nb hg (kl BK115); have NB116_115 := bn NB115_116; replace HO_3 := Aside0.mk (Kd.R_below (Kd.R_elderB (ro HO_3) gb116 (Nat.le_of_eq hg.symm)) hb); replace BK101 := kb BK101 hb; replace BK106 := kb BK106 hb; replace BK107 := kb BK107 hb; replace BK115 := kb BK115 hb; replace HB := bz hb; clear hb hbox hg; have hnb55 := NB116_101.out; have hnc55 := NB101_116.out; have hnb56 := NB116_106.out; have hnc56 := NB106_116.out; have hnb57 := NB116_107.out; have hnc57 := NB107_116.out; have hnb58 := NB116_115.out; have hnc58 := NB115_116.out; obtain ⟨hcz59_0, hcz59_1, hfz59_0, hfz59_1⟩ := b2 BK116; obtain ⟨Ao60, co60, eo60⟩ := Kd.R_slice HO_3.out; subst eo60) | (go_at_call 79; (with_reducible refine (shape_moved.calls k2 _ _ t110 x47_2 x35_1 t117 _ ?side1 ?side2 A36.out).mono ?_); (case side1 => refine (Kd.R_reads' (e := 41) (base := w.heap.size) (ok := fun k_ => ((k_ ≠ gb101 ∧ (k_ ≠ gb106 ∧ (k_ ≠ gb107 ∧ k_ ≠ gb115))) ∧ k_ ≠ gb116)) (n := t110.length) (c := co60) ?_).2.2; exact (by (with_reducible repeat (first | apply Kd.R_alloc | apply Kd.R_drewN | apply Kd.R_drew)); exact (Kd.R_mono (Kd.R_far (p := ⟨gb116, 1, none⟩) (Kd.R_far (p := ⟨gb116, 0, none⟩) (Kd.R_mono HO_3.out (fun k_ hk => (⟨hk, hk.2⟩ : _ ∧ k_ ≠ gb116))) (fun _ hk => hk.2) (.int .i64 x47_2)) (fun _ hk => hk.2) (.int .i64 x35_1)) (fun _ h_ => h_.1)))); (case side2 => exact (Kd.R_reads' HO_3.out).2.1); rintro e w61 ⟨v118, rfl, ho0, hb⟩; have HO119 := Aside0.mk (Kd.R_lower (Kd.R_newB (Kd.R_newB (Kd.R_newB (Kd.R_newB (Kd.R_newB (Kd.R_new' ho0 (Kd.R_lt (by (with_reducible repeat (first | apply Kd.R_alloc | apply Kd.R_drewN | apply Kd.R_drew)); exact (Kd.R_mono (Kd.R_far (p := ⟨gb116, 1, none⟩) (Kd.R_far (p := ⟨gb116, 0, none⟩) (Kd.R_mono HO_3.out (fun k_ hk => (⟨hk, hk.2⟩ : _ ∧ k_ ≠ gb116))) (fun _ hk => hk.2) (.int .i64 x47_2)) (fun _ hk => hk.2) (.int .i64 x35_1)) (fun _ h_ => h_.1))))) (g := gb101) (o := .cells #[.int .i64 x102000_2, .int .i64 x102001_2] 41 (0, 0)) (by refine bf NB101_116 ?_; refine bf NB101_116 ?_; refine bd ?_; exact BK101.out)) (g := gb106) (o := .cells #[.int .i64 t102, .int .i64 t103] 41 (0, 0)) (by refine bf NB106_116 ?_; refine bf NB106_116 ?_; refine bd ?_; exact BK106.out)) (g := gb107) (o := .cells #[.int .i64 t104, .int .i64 t105] 41 (0, 0)) (by refine bf NB107_116 ?_; refine bf NB107_116 ?_; refine bd ?_; exact BK107.out)) (g := gb115) (o := .cells #[.int .i64 t113, .int .i64 t114] 41 (0, 0)) (by refine bf NB115_116 ?_; refine bf NB115_116 ?_; refine bd ?_; exact BK115.out)) (g := gb116) (o := .cells #[.int .i64 x47_2, .int .i64 x35_1] 41 (0, 0)) (by refine bd ?_; refine blk_put (cs := #[.int .i64 x47_2, .int .i64 0]) ?_ 1 _ rfl; refine bd ?_; refine blk_put (cs := #[.int .i64 0, .int .i64 0]) ?_ 0 _ rfl; refine bd ?_; exact BK116.out)) (below_size bh)); replace HO_3 := Aside0.mk (Kd.R_elder' (by (with_reducible repeat (first | apply Kd.R_alloc | apply Kd.R_drewN | apply Kd.R_drew)); exact (Kd.R_mono (Kd.R_far (p := ⟨gb116, 1, none⟩) (Kd.R_far (p := ⟨gb116, 0, none⟩) (Kd.R_mono HO_3.out (fun k_ hk => (⟨hk, hk.2⟩ : _ ∧ k_ ≠ gb116))) (fun _ hk => hk.2) (.int .i64 x47_2)) (fun _ hk => hk.2) (.int .i64 x35_1)) (fun _ h_ => h_.1))) (Kd.R_base ho0) hb); replace BK101 := Aside0.mk (blk_below (g := gb101) (o := .cells #[.int .i64 x102000_2, .int .i64 x102001_2] 41 (0, 0)) (by refine bf NB101_116 ?_; refine bf NB101_116 ?_; refine bd ?_; exact BK101.out) hb); replace BK106 := Aside0.mk (blk_below (g := gb106) (o := .cells #[.int .i64 t102, .int .i64 t103] 41 (0, 0)) (by refine bf NB106_116 ?_; refine bf NB106_116 ?_; refine bd ?_; exact BK106.out) hb); replace BK107 := Aside0.mk (blk_below (g := gb107) (o := .cells #[.int .i64 t104, .int .i64 t105] 41 (0, 0)) (by refine bf NB107_116 ?_; refine bf NB107_116 ?_; refine bd ?_; exact BK107.out) hb); replace BK115 := Aside0.mk (blk_below (g := gb115) (o := .cells #[.int .i64 t113, .int .i64 t114] 41 (0, 0)) (by refine bf NB115_116 ?_; refine bf NB115_116 ?_; refine bd ?_; exact BK115.out) hb); replace BK116 := Aside0.mk (blk_below (g := gb116) (o := .cells #[.int .i64 x47_2, .int .i64 x35_1] 41 (0, 0)) (by refine bd ?_; refine blk_put (cs := #[.int .i64 x47_2, .int .i64 0]) ?_ 1 _ rfl; refine bd ?_; refine blk_put (cs := #[.int .i64 0, .int .i64 0]) ?_ 0 _ rfl; refine bd ?_; exact BK116.out) hb); replace HB := bz hb; (try clear hb); (try clear hk); (try clear ho0); obtain ⟨Ao62, co62, eo62⟩ := Kd.R_slice HO119.out; subst eo62) | (go_at_call 102; (with_reducible refine (shape_sheet_free.calls k2 _ _ l2 _ _ t117 false _ gS_ a0 a1 (blk_below HS0.out HB.out) ?side1 ?side2 ?side3 ?side4 A37.out).mono ?_); (case side1 => exact cs (Kd.C_below HR2.out HB.out)); (case side2 => exact HC2.out); (case side3 => exact cs (Kd.R_reads' HO119.out).2.2); (case side4 => exact (Kd.R_reads' HO119.out).2.1); rintro e w63 ⟨rfl, hb⟩; replace HO_3 := Aside0.mk (Kd.R_below (ro HO_3) hb); replace HO119 := Aside0.mk (Kd.R_below (ro HO119) hb); replace BK101 := kb BK101 hb; replace BK106 := kb BK106 hb; replace BK107 := kb BK107 hb; replace BK115 := kb BK115 hb; replace BK116 := kb BK116 hb; replace HB := bz hb; (try clear hb))); try go_wp2_with (first | ((with_reducible refine gate_dst (N := 11) rfl ?_); refine bxe 11 #[.int .i64 0, .int .i64 0] 41 ?_; intro gb116 hg w54 hbox hb; have BK116 := Aside0.mk (hbox); have GW116 := ga w hg; have GE116 := GW116; have NB101_116 := nb hg (kl BK101); have NB116_101 := bn NB101_116; have NB106_116 := nb hg (kl BK106); have NB116_106 := bn NB106_116; have NB107_116 := nb hg (kl BK107); have NB116_107 := bn NB107_116; have NB115_116 := nb hg (kl BK115); have NB116_115 := bn NB115_116; replace HO_3 := Aside0.mk (Kd.R_below (Kd.R_elderB (ro HO_3) gb116 (Nat.le_of_eq hg.symm)) hb); replace BK101 := kb BK101 hb; replace BK106 := kb BK106 hb; replace BK107 := kb BK107 hb; replace BK115 := kb BK115 hb; replace HB := bz hb; clear hb hbox hg; have hnb55 := NB116_101.out; have hnc55 := NB101_116.out; have hnb56 := NB116_106.out; have hnc56 := NB106_116.out; have hnb57 := NB116_107.out; have hnc57 := NB107_116.out; have hnb58 := NB116_115.out; have hnc58 := NB115_116.out; obtain ⟨hcz59_0, hcz59_1, hfz59_0, hfz59_1⟩ := b2 BK116; obtain ⟨Ao60, co60, eo60⟩ := Kd.R_slice HO_3.out; subst eo60) | (go_at_call 79; (with_reducible refine (shape_moved.calls k2 _ _ t110 x47_2 x35_1 t117 _ ?side1 ?side2 A36.out).mono ?_); (case side1 => refine (Kd.R_reads' (e := 41) (base := w.heap.size) (ok := fun k_ => ((k_ ≠ gb101 ∧ (k_ ≠ gb106 ∧ (k_ ≠ gb107 ∧ k_ ≠ gb115))) ∧ k_ ≠ gb116)) (n := t110.length) (c := co60) ?_).2.2; exact (by (with_reducible repeat (first | apply Kd.R_alloc | apply Kd.R_drewN | apply Kd.R_drew)); exact (Kd.R_mono (Kd.R_far (p := ⟨gb116, 1, none⟩) (Kd.R_far (p := ⟨gb116, 0, none⟩) (Kd.R_mono HO_3.out (fun k_ hk => (⟨hk, hk.2⟩ : _ ∧ k_ ≠ gb116))) (fun _ hk => hk.2) (.int .i64 x47_2)) (fun _ hk => hk.2) (.int .i64 x35_1)) (fun _ h_ => h_.1)))); (case side2 => exact (Kd.R_reads' HO_3.out).2.1); rintro e w61 ⟨v118, rfl, ho0, hb⟩; have HO119 := Aside0.mk (Kd.R_lower (Kd.R_newB (Kd.R_newB (Kd.R_newB (Kd.R_newB (Kd.R_newB (Kd.R_new' ho0 (Kd.R_lt (by (with_reducible repeat (first | apply Kd.R_alloc | apply Kd.R_drewN | apply Kd.R_drew)); exact (Kd.R_mono (Kd.R_far (p := ⟨gb116, 1, none⟩) (Kd.R_far (p := ⟨gb116, 0, none⟩) (Kd.R_mono HO_3.out (fun k_ hk => (⟨hk, hk.2⟩ : _ ∧ k_ ≠ gb116))) (fun _ hk => hk.2) (.int .i64 x47_2)) (fun _ hk => hk.2) (.int .i64 x35_1)) (fun _ h_ => h_.1))))) (g := gb101) (o := .cells #[.int .i64 x102000_2, .int .i64 x102001_2] 41 (0, 0)) (by refine bf NB101_116 ?_; refine bf NB101_116 ?_; refine bd ?_; exact BK101.out)) (g := gb106) (o := .cells #[.int .i64 t102, .int .i64 t103] 41 (0, 0)) (by refine bf NB106_116 ?_; refine bf NB106_116 ?_; refine bd ?_; exact BK106.out)) (g := gb107) (o := .cells #[.int .i64 t104, .int .i64 t105] 41 (0, 0)) (by refine bf NB107_116 ?_; refine bf NB107_116 ?_; refine bd ?_; exact BK107.out)) (g := gb115) (o := .cells #[.int .i64 t113, .int .i64 t114] 41 (0, 0)) (by refine bf NB115_116 ?_; refine bf NB115_116 ?_; refine bd ?_; exact BK115.out)) (g := gb116) (o := .cells #[.int .i64 x47_2, .int .i64 x35_1] 41 (0, 0)) (by refine bd ?_; refine blk_put (cs := #[.int .i64 x47_2, .int .i64 0]) ?_ 1 _ rfl; refine bd ?_; refine blk_put (cs := #[.int .i64 0, .int .i64 0]) ?_ 0 _ rfl; refine bd ?_; exact BK116.out)) (below_size bh)); replace HO_3 := Aside0.mk (Kd.R_elder' (by (with_reducible repeat (first | apply Kd.R_alloc | apply Kd.R_drewN | apply Kd.R_drew)); exact (Kd.R_mono (Kd.R_far (p := ⟨gb116, 1, none⟩) (Kd.R_far (p := ⟨gb116, 0, none⟩) (Kd.R_mono HO_3.out (fun k_ hk => (⟨hk, hk.2⟩ : _ ∧ k_ ≠ gb116))) (fun _ hk => hk.2) (.int .i64 x47_2)) (fun _ hk => hk.2) (.int .i64 x35_1)) (fun _ h_ => h_.1))) (Kd.R_base ho0) hb); replace BK101 := Aside0.mk (blk_below (g := gb101) (o := .cells #[.int .i64 x102000_2, .int .i64 x102001_2] 41 (0, 0)) (by refine bf NB101_116 ?_; refine bf NB101_116 ?_; refine bd ?_; exact BK101.out) hb); replace BK106 := Aside0.mk (blk_below (g := gb106) (o := .cells #[.int .i64 t102, .int .i64 t103] 41 (0, 0)) (by refine bf NB106_116 ?_; refine bf NB106_116 ?_; refine bd ?_; exact BK106.out) hb); replace BK107 := Aside0.mk (blk_below (g := gb107) (o := .cells #[.int .i64 t104, .int .i64 t105] 41 (0, 0)) (by refine bf NB107_116 ?_; refine bf NB107_116 ?_; refine bd ?_; exact BK107.out) hb); replace BK115 := Aside0.mk (blk_below (g := gb115) (o := .cells #[.int .i64 t113, .int .i64 t114] 41 (0, 0)) (by refine bf NB115_116 ?_; refine bf NB115_116 ?_; refine bd ?_; exact BK115.out) hb); replace BK116 := Aside0.mk (blk_below (g := gb116) (o := .cells #[.int .i64 x47_2, .int .i64 x35_1] 41 (0, 0)) (by refine bd ?_; refine blk_put (cs := #[.int .i64 x47_2, .int .i64 0]) ?_ 1 _ rfl; refine bd ?_; refine blk_put (cs := #[.int .i64 0, .int .i64 0]) ?_ 0 _ rfl; refine bd ?_; exact BK116.out) hb); replace HB := bz hb; (try clear hb); (try clear hk); (try clear ho0); obtain ⟨Ao62, co62, eo62⟩ := Kd.R_slice HO119.out; subst eo62) | (go_at_call 102; (with_reducible refine (shape_sheet_free.calls k2 _ _ l2 _ _ t117 false _ gS_ a0 a1 (blk_below HS0.out HB.out) ?side1 ?side2 ?side3 ?side4 A37.out).mono ?_); (case side1 => exact cs (Kd.C_below HR2.out HB.out)); (case side2 => exact HC2.out); (case side3 => exact cs (Kd.R_reads' HO119.out).2.2); (case side4 => exact (Kd.R_reads' HO119.out).2.1); rintro e w63 ⟨rfl, hb⟩; replace HO_3 := Aside0.mk (Kd.R_below (ro HO_3) hb); replace HO119 := Aside0.mk (Kd.R_below (ro HO119) hb); replace BK101 := kb BK101 hb; replace BK106 := kb BK106 hb; replace BK107 := kb BK107 hb; replace BK115 := kb BK115 hb; replace BK116 := kb BK116 hb; replace HB := bz hb; (try clear hb))))
        go_roundg k2
        case measure => have := HK1.out; have := HK2.out; omega
        case rel => exact ⟨(wrap64 (x47_2 + 1)), (x102000_2), (x102001_2), sd, H', ⟨by have := HK1.out; have := HK2.out; omega⟩, ⟨by (with_reducible repeat (first | apply Kd.R_alloc | apply Kd.R_drewN | apply Kd.R_drew)); exact Kd.R_mono HO_3.out (fun _ hk => ⟨hk.1.1.1, ⟨hk.1.1.2.1, ⟨hk.1.1.2.2.1, hk.1.1.2.2.2⟩⟩⟩)⟩, ⟨bk BK101⟩, ⟨bk BK106⟩, ⟨bk BK107⟩, ⟨bk BK115⟩, ⟨bh⟩⟩
      ·rw [if_neg c35] at H
       have c35b0 := decide_eq_false c35
       clear c35
       have H' := Aside0.mk H
       clear H
       go_wp2
       repeat (go_quiet (fail); try go_wp2)
       go_roundg k2
       case measure => have := HK1.out; have := HK2.out; omega
       case rel => exact ⟨(wrap64 (x35_1 + 1)), (x102000_2), (x102001_2), sd, H', ⟨by have := HK1.out; have := HK2.out; omega⟩, ⟨ro HO_3⟩, ⟨bk BK101⟩, ⟨bk BK106⟩, ⟨bk BK107⟩, ⟨bk BK115⟩, ⟨bh⟩⟩
   ·rw [if_neg c29] at H
    have c29b0 := decide_eq_false c29
    clear c29
    simp only [Option.some.injEq, Prod.mk.injEq] at H
    obtain ⟨rfl, rfl, rfl, rfl⟩ := H
    have hnb64 := NB101_106.out
    have hnc64 := NB106_101.out
    have hnb65 := NB101_107.out
    have hnc65 := NB107_101.out
    have hnb66 := NB101_115.out
    have hnc66 := NB115_101.out
    obtain ⟨hcz67_0, hcz67_1, hfz67_0, hfz67_1⟩ := b2 BK101
    go_wp2
    repeat (go_quiet (fail); try go_wp2)
    refine bodyPost_ret (results_ct rfl _ _ gb101 41 #[.int .i64 0, .int .i64 0] (0, 0) _ rfl (by refine bd ?_; refine blk_put (cs := #[.int .i64 0, .int .i64 x102001_1]) ?_ 1 _ rfl; refine bd ?_; refine blk_put (cs := #[.int .i64 x102000_1, .int .i64 x102001_1]) ?_ 0 _ rfl; refine bd ?_; exact BK101.out) Try.underlying41 rfl (by kernel_rfl)) rfl ?_
    exact ⟨by first | rfl | (simp; done), (place_none (x := 0) (y := 0) bh HB0.out HS0.out HSS.out).2⟩
end Go.Proofs.Ythehmkpcddafnaa.PG
end
section
namespace Go.Proofs.Ythehmkpcddafnaa.PG
open Go.RowKit Go.Proofs.YthehmkpcddafnaaW.PrintWords Go.Proofs.YthehmkpcddafnaaW.PrintLast Go.Proofs.YthehmkpcddafnaaW.PrintMore
theorem ite_some_ {α : Type} {P : Prop} [Decidable P] {x : Option α} {r : α} (h : (if P then x else none) = some r) : P ∧ x = some r := by
 by_cases c : P
 ·rw [if_pos c] at h; exact ⟨c, h⟩
 ·rw [if_neg c] at h; exact absurd h (by simp)
theorem place_keeps_out {W W' : World} {base gS_ : Nat} {v u : Value} {out : List S48} {pl : List (List S41)} {c0 c1 : Value} (HO : Kd.R k48 48 W base (fun _ => True) v out) (hx : W.heap[gS_]? = some (.cells #[c0, c1, u] 75 (0, 0)))
  (HS : Kd.S (Kd.slice 41 k41) 22 W base (fun _ => True) u pl) (hk : KeepBut W W' gS_ u.ownBlock) : Kd.R k48 48 W' base (fun _ => True) v out := by
 have h1 := Kd.R_apart' (Kd.R_types HO hx (by decide)) (Kd.S_typed HS) (by decide)
 have h2 : Kept W W' (fun k => k = gS_ ∨ some k = u.ownBlock) := ⟨hk.1, fun i hi hn => hk.2 i hi (fun e => hn (Or.inl e)) (fun e => hn (Or.inr e))⟩
 exact Kd.R_mono (Kd.R_kept h1 h2 (fun k hk2 hb => hb.elim (fun e => hk2.1.2 e) (fun e => hk2.2 e))) (fun _ _ => trivial)
theorem grown_round0 {w1 w2 : World} {g : Nat} {a b : Value} (hb : Below w1.heap.size w1 w2) (hg : w1.heap.size ≤ g) (row : Option Nat) : w1.grownBy ((w2.setCell ⟨g, 0, none⟩ a).setCell ⟨g, 1, none⟩ b) row := by
 have h1 := below_set (j := 1) (v := b) (below_set (j := 0) (v := a) hb hg) hg
 exact grown_of_below h1 row
theorem grown_round {w1 w2 w3 : World} {g : Nat} {a b : Value} {row : Option Nat} (hb : Below w1.heap.size w1 w2) (hg : w1.heap.size ≤ g) (h : ((w2.setCell ⟨g, 0, none⟩ a).setCell ⟨g, 1, none⟩ b).grownBy w3 row) : w1.grownBy w3 row := by
 have h0 := grown_round0 (a := a) (b := b) hb hg row
 exact ⟨h.os.trans h0.os, h.tape.trans h0.tape, h.output.trans h0.output, Nat.le_trans h0.size h.size, fun i hi hr => (h.block i (Nat.lt_of_lt_of_le hi h0.size) hr).trans (h0.block i hi hr)⟩
theorem round_keep {W W' : World} {base gS_ : Nat} {v u : Value} {out : List S48} {pl : List (List S41)} {c0 c1 : Value} (hG : W.grownBy W' v.ownBlock) (HO : Kd.R k48 48 W base (fun _ => True) v out) (hx : W.heap[gS_]? = some (.cells #[c0, c1, u] 75 (0, 0)))
  (HS : Kd.S (Kd.slice 41 k41) 22 W base (fun _ => True) u pl) : W'.heap[gS_]? = some (.cells #[c0, c1, u] 75 (0, 0)) ∧ Kd.S (Kd.slice 41 k41) 22 W' base (fun _ => True) u pl :=
 ⟨blk_grown hx hG (Kd.R_ne HO hx (by decide)), Kd.S_over' HS (Kd.R_typed HO) (by decide) hG⟩
end Go.Proofs.Ythehmkpcddafnaa.PG
end
section
namespace Go.Proofs.Ythehmkpcddafnaa.PG
open Go.RowKit Go.Proofs.YthehmkpcddafnaaW.PrintWords Go.Proofs.YthehmkpcddafnaaW.PrintLast Go.Proofs.YthehmkpcddafnaaW.PrintMore
attribute [local go_sem] max2_int min2_int max_two min_two max_three min_three max_four min_four
set_option linter.unusedVariables false
set_option linter.unusedSimpArgs false
/-! ### shape_Nest: function 14 -/
mutual
def shape_Nest.j0 : Nat → (Int × Int × List (List (S41))) → List (List (S41)) → Bool → Option ((List (S48)) × Int)
 | 0, _, _, _ => none
 | k + 1, xs, x2, x35 => if x35 = true then (some (([] : List (S48)), 1)) else (shape_Nest.l0 k xs x2 x2 (x2.length : Int) 0)
def shape_Nest.l0 : Nat → (Int × Int × List (List (S41))) → List (List (S41)) → List (List (S41)) → Int → Int → Option ((List (S48)) × Int)
 | 0, _, _, _, _, _ => none
 | k + 1, xs, x2, x36, x37, x38 => if x38 < x37 then (if 0 ≤ x38 then (if x38 < (x36.length : Int) then ((shape_refused_normal.f k (rd_L2 x36 x38)).bind fun t102 => (if t102 = 0 then (shape_Nest.l0 k xs x2 x36 x37 (wrap64 (x38 + 1))) else (some (([] : List (S48)), t102)))) else (none)) else (none)) else (shape_Nest.l1 k xs ([] : List (S48)) x2 (x2.length : Int) 0)
def shape_Nest.l1 : Nat → (Int × Int × List (List (S41))) → List (S48) → List (List (S41)) → Int → Int → Option ((List (S48)) × Int)
 | 0, _, _, _, _, _ => none
 | k + 1, x11, x12, x52, x53, x54 => if x54 < x53 then (if 0 ≤ x54 then (if x54 < (x52.length : Int) then (if x11.2.2.length < 1000000 then ((shape_sheet_place.f k x11.1 x11.2.1 x11.2.2 (rd_L2 x52 x54)).bind fun bt104 => (if bt104.2.2.1 = true then (if x12.length < 5864062014805 then (shape_Nest.l1 k (x11.1, x11.2.1, x11.2.2 ++ [bt104.2.2.2]) (x12 ++ [(⟨x54, (⟨bt104.1, bt104.2.1⟩ : S41)⟩ : S48)]) x52 x53 (wrap64 (x54 + 1))) else (none)) else (shape_Nest.l1 k x11 x12 x52 x53 (wrap64 (x54 + 1))))) else none) else (none)) else (none)) else (some (x12, 0))
end
def shape_Nest.f (k : Nat) (a0 : Int) (a1 : Int) (l2 : List (List (S41))) : Option ((List (S48)) × Int) := if a0 < 1 then (shape_Nest.j0 k (a0, a1, []) l2 true) else (if a0 > 100 then (shape_Nest.j0 k (a0, a1, []) l2 true) else (if a1 < 1 then (shape_Nest.j0 k (a0, a1, []) l2 true) else (if a1 > 100 then (shape_Nest.j0 k (a0, a1, []) l2 true) else (shape_Nest.j0 k (a0, a1, []) l2 (decide ((l2.length : Int) > 16))))))
set_option maxHeartbeats 8000000 in
set_option maxRecDepth 100000 in
theorem shape_Nest.calls (k : Nat) (a0 : Int) (a1 : Int) (A2 : Option Addr) (c2 : Nat) (l2 : List (List (S41))) (r1 : List (S48)) (r2 : Int) (w : World) (hr2 : Kd.C (Kd.slice 41 k41) w A2 l2.length l2) (hc2 : l2.length ≤ c2) (h : shape_Nest.f k a0 a1 l2 = some (r1, r2)) :
  Calls Try.prog 14 #[.int .i64 a0, .int .i64 a1, .slice A2 l2.length c2] w fun e w' => ∃ v0_ : Value, e = .returned (.tuple #[v0_, .int .i64 r2]) ∧ Kd.R k48 48 w' w.heap.size (fun _ => True) v0_ r1 ∧ Below w.heap.size w w' := by
 have hu41 := Try.underlying41
 have hu48 := Try.underlying48
 have HR2 := Aside0.mk hr2
 have HC2 := Aside0.mk hc2
 clear hr2 hc2
 have HB := Aside0.mk (Below.refl w.heap.size w)
 have H : (if a0 < 1 then (shape_Nest.j0 k (a0, a1, []) l2 true) else (if a0 > 100 then (shape_Nest.j0 k (a0, a1, []) l2 true) else (if a1 < 1 then (shape_Nest.j0 k (a0, a1, []) l2 true) else (if a1 > 100 then (shape_Nest.j0 k (a0, a1, []) l2 true) else (shape_Nest.j0 k (a0, a1, []) l2 (decide ((l2.length : Int) > 16))))))) = some (r1, r2) := h
 clear h
 have HC4 := Aside0.mk H
 clear H
 go_enter Try.func14, Try.ntmps14
 go_upto_region 1 with (fail)
 go_cut [35] (fun v35 wc => ∃ (kq : Nat) (x35_3 : Bool), v35 = .bool x35_3 ∧ Aside0 (shape_Nest.j0 kq (a0, a1, []) l2 x35_3 = some (r1, r2)) ∧ Aside0 (kq ≤ k) ∧ Aside0 (Below w.heap.size w wc))
 case first =>
  have H := HC4.out
  clear HC4
  by_cases c5 : a0 < 1
  ·rw [if_pos c5] at H
   have c5b0 := decide_eq_true c5
   clear c5
   (first | rw [c5b0] | (simp only [i64_w, i32_w]; rw [c5b0]) | skip)
   have H' := Aside0.mk H
   clear H
   go_wp2
   go_meet
   case rel => exact ⟨_, (true), sd, H', ⟨om⟩, ⟨bh⟩⟩
  ·rw [if_neg c5] at H
   have c5b0 := decide_eq_false c5
   clear c5
   (first | rw [c5b0] | (simp only [i64_w, i32_w]; rw [c5b0]) | skip)
   by_cases c6 : a0 > 100
   ·rw [if_pos c6] at H
    have c6b0 := decide_eq_true c6
    clear c6
    have H' := Aside0.mk H
    clear H
    go_wp2
    go_meet
    case rel => exact ⟨_, (true), sd, H', ⟨om⟩, ⟨bh⟩⟩
   ·rw [if_neg c6] at H
    have c6b0 := decide_eq_false c6
    clear c6
    by_cases c7 : a1 < 1
    ·rw [if_pos c7] at H
     have c7b0 := decide_eq_true c7
     clear c7
     have H' := Aside0.mk H
     clear H
     go_wp2
     go_meet
     case rel => exact ⟨_, (true), sd, H', ⟨om⟩, ⟨bh⟩⟩
    ·rw [if_neg c7] at H
     have c7b0 := decide_eq_false c7
     clear c7
     by_cases c8 : a1 > 100
     ·rw [if_pos c8] at H
      have c8b0 := decide_eq_true c8
      clear c8
      have H' := Aside0.mk H
      clear H
      go_wp2
      go_meet
      case rel => exact ⟨_, (true), sd, H', ⟨om⟩, ⟨bh⟩⟩
     ·rw [if_neg c8] at H
      have c8b0 := decide_eq_false c8
      clear c8
      have H' := Aside0.mk H
      clear H
      go_wp2
      go_meet
      case rel => exact ⟨_, (decide ((l2.length : Int) > 16)), sd, H', ⟨om⟩, ⟨bh⟩⟩
 case rest =>
  clear HC4
  (try clear c2)
  obtain ⟨kq, x35_3, rfl, HA, HJ3, HB⟩ := hcut
  cases kq with
  | zero => exact absurd HA.out (by simp [shape_Nest.j0])
  | succ kj3 =>
   have H := HA.out
   clear HA
   simp only [shape_Nest.j0] at H
   by_cases c9 : x35_3 = true
   ·subst c9
    rw [if_pos rfl] at H
    simp only [Option.some.injEq, Prod.mk.injEq] at H
    obtain ⟨rfl, rfl⟩ := H
    go_wp2
    go_ret2
    exact ⟨_, by exact er, by first | exact Kd.R_nil _ _ _ _ _ | exact Kd.N_nil _ _ _ _ _ | exact Kd.V_nil _ _ _ _ _ | exact Kd.Q_nil _ _ _ _ _ | exact Kd.S_nil _ _ _ _ _, bh⟩
   ·replace c9 := Bool.eq_false_iff.mpr c9
    subst c9
    rw [if_neg (show ¬ (false = true) by decide)] at H
    have H' := Aside0.mk H
    clear H
    go_wp2
    go_loopg [38] kj3 (fun kq v38 w' => ∃ (x38_2 : Int), v38 = .int .i64 x38_2 ∧ Aside0 (shape_Nest.l0 kq (a0, a1, []) l2 l2 (l2.length : Int) x38_2 = some (r1, r2)) ∧ Aside0 (kq ≤ kj3) ∧ Aside0 (Below w.heap.size w w'))
    case atStart => exact ⟨(0), sd, H', ⟨Nat.le_refl _⟩, ⟨bh⟩⟩
    case round =>
     clear H'
     (try clear c9)
     obtain ⟨x38_2, rfl, HA, HK2, HB⟩ := hrel
     cases gk with
     | zero => exact absurd HA.out (by simp [shape_Nest.l0])
     | succ k2 =>
      have H := HA.out
      clear HA
      simp only [shape_Nest.l0] at H
      by_cases c10 : x38_2 < (l2.length : Int)
      ·rw [if_pos c10] at H
       have c10b0 := decide_eq_true c10
       clear c10
       obtain ⟨c11, H⟩ := oi H
       have c11b0 := decide_eq_true c11
       clear c11
       obtain ⟨c12, H⟩ := oi H
       have c12b0 := decide_eq_true c12
       clear c12
       replace H := Option.bind_eq_some_iff.mp H
       obtain ⟨t102, A130, H⟩ := H
       replace H : (if t102 = 0 then (shape_Nest.l0 k2 (a0, a1, []) l2 l2 (l2.length : Int) (wrap64 (x38_2 + 1))) else (some (([] : List (S48)), t102))) = some (r1, r2) := H
       have A13 := Aside0.mk A130
       clear A130
       by_cases c14 : t102 = 0
       ·rw [if_pos c14] at H
        have c14b0 : (t102 == 0) = true := beq_iff_eq.mpr c14
        have c14b1 : (t102 != 0) = false := bne_eq_false_iff_eq.mpr c14
        clear c14
        have H' := Aside0.mk H
        clear H
        have p101 : 0 ≤ (x38_2 : Int) := dt
        have q101 : x38_2 < (l2.length : Int) := dt
        obtain ⟨ad101, A101_0, c101_0, e101, hx101_0, hl101_0, hi101_0⟩ := at_L2 HR2.out x38_2 p101 q101
        cases e101
        replace hx101_0 := hc HB hx101_0
        have HR101_0 := Aside0.mk hi101_0
        have HC101_0 := Aside0.mk hl101_0
        clear hi101_0 hl101_0
        replace p101 := eq_true p101
        replace q101 := eq_true q101
        go_wp2_with (first | ((with_reducible refine gc 36 rfl ?_); refine goesL_ (some 43) rfl rfl Try.func36 (by kernel_rfl) rfl #[.slice A101_0 (rd_L2 l2 x38_2).length c101_0, .func (.func 46) #[] #[]] rfl sg ?_; (with_reducible refine (shape_refused_normal.calls k2 _ _ (rd_L2 l2 x38_2)  t102 _ ?side1 ?side2 A13.out).mono ?_); (case side1 => exact cs (Kd.C_below HR101_0.out HB.out)); (case side2 => exact HC101_0.out); rintro e w15 ⟨rfl, hb⟩; refine ⟨_, rfl, ?_⟩; replace HB := bz hb; (try clear hb)))
        go_roundg k2
        case measure => have := HJ3.out; have := HK2.out; omega
        case rel => exact ⟨(wrap64 (x38_2 + 1)), sd, H', ⟨by have := HJ3.out; have := HK2.out; omega⟩, ⟨bh⟩⟩
       ·rw [if_neg c14] at H
        have c14b0 : (t102 == 0) = false := beq_eq_false_iff_ne.mpr c14
        have c14b1 : (t102 != 0) = true := bne_iff_ne.mpr c14
        simp only [Option.some.injEq, Prod.mk.injEq] at H
        obtain ⟨rfl, rfl⟩ := H
        have p101 : 0 ≤ (x38_2 : Int) := dt
        have q101 : x38_2 < (l2.length : Int) := dt
        obtain ⟨ad101, A101_0, c101_0, e101, hx101_0, hl101_0, hi101_0⟩ := at_L2 HR2.out x38_2 p101 q101
        cases e101
        replace hx101_0 := hc HB hx101_0
        have HR101_0 := Aside0.mk hi101_0
        have HC101_0 := Aside0.mk hl101_0
        clear hi101_0 hl101_0
        replace p101 := eq_true p101
        replace q101 := eq_true q101
        go_wp2_with (first | ((with_reducible refine gc 36 rfl ?_); refine goesL_ (some 43) rfl rfl Try.func36 (by kernel_rfl) rfl #[.slice A101_0 (rd_L2 l2 x38_2).length c101_0, .func (.func 46) #[] #[]] rfl sg ?_; (with_reducible refine (shape_refused_normal.calls k2 _ _ (rd_L2 l2 x38_2)  t102 _ ?side1 ?side2 A13.out).mono ?_); (case side1 => exact cs (Kd.C_below HR101_0.out HB.out)); (case side2 => exact HC101_0.out); rintro e w16 ⟨rfl, hb⟩; refine ⟨_, rfl, ?_⟩; replace HB := bz hb; (try clear hb)))
        go_ret2
        exact ⟨_, by exact er, by first | exact Kd.R_nil _ _ _ _ _ | exact Kd.N_nil _ _ _ _ _ | exact Kd.V_nil _ _ _ _ _ | exact Kd.Q_nil _ _ _ _ _ | exact Kd.S_nil _ _ _ _ _, bh⟩
      ·rw [if_neg c10] at H
       have c10b0 := decide_eq_false c10
       clear c10
       have H' := Aside0.mk H
       clear H
       go_wp2_with ((with_reducible refine gate_dst (N := 51) rfl ?_); refine bxe 51 #[.int .i64 a0, .int .i64 a1, .slice none 0 0] 75 ?_; intro gsh hg w9 hbox hb; have n0_ := Aside0.mk (below_step HB.out hb); have GSH : Aside0 (w.heap.size ≤ gsh) := ⟨by rw [hg]; exact below_size HB.out⟩; have XS0 := Aside0.mk hbox; clear HB; have HB := n0_; clear n0_ hb hbox hg)
       go_loopg [12, 54] k2 (fun kq v12 v54 w' => ∃ (x12_3 : List (S48)) (x54_3 : Int) (pl : List (List (S41))) (u : Value), v54 = .int .i64 x54_3 ∧ Aside0 (shape_Nest.l1 kq (a0, a1, pl) x12_3 l2 (l2.length : Int) x54_3 = some (r1, r2)) ∧ Aside0 (kq ≤ k2) ∧ Aside0 (Kd.R k48 48 w' w.heap.size (fun _ => True) v12 x12_3) ∧ Aside0 (Below w.heap.size w w') ∧ Aside0 (w'.heap[gsh]? = some (.cells #[.int .i64 a0, .int .i64 a1, u] 75 (0, 0))) ∧ Aside0 (Kd.S (Kd.slice 41 k41) 22 w' w.heap.size (fun _ => True) u pl))
       case atStart => exact ⟨(([] : List (S48))), (0), [], .slice none 0 0, sd, H', ⟨Nat.le_refl _⟩, ⟨by first | exact Kd.R_nil _ _ _ _ _ | exact Kd.N_nil _ _ _ _ _ | exact Kd.V_nil _ _ _ _ _ | exact Kd.Q_nil _ _ _ _ _ | exact Kd.S_nil _ _ _ _ _⟩, ⟨bh⟩, XS0, ⟨Kd.S_nil _ _ _ _ _⟩⟩
       case round =>
        clear H'
        (try clear c10b0)
        obtain ⟨x12_3, x54_3, pl, u, rfl, HA, HK3, HO_12, HB, XS, SS⟩ := hrel
        obtain ⟨Au, cu, eu, _, _⟩ := Kd.S_reads SS.out
        subst eu
        cases gk with
        | zero => exact absurd HA.out (by simp [shape_Nest.l1])
        | succ k3 =>
         have H := HA.out
         clear HA
         simp only [shape_Nest.l1] at H
         by_cases c17 : x54_3 < (l2.length : Int)
         ·rw [if_pos c17] at H
          have c17b0 := decide_eq_true c17
          clear c17
          obtain ⟨c18, H⟩ := oi H
          have c18b0 := decide_eq_true c18
          clear c18
          obtain ⟨c19, H⟩ := oi H
          have c19b0 := decide_eq_true c19
          clear c19
          obtain ⟨hLPL, H⟩ := ite_some_ H
          have LPL := Aside0.mk hLPL
          clear hLPL
          replace H := Option.bind_eq_some_iff.mp H
          obtain ⟨⟨t104, t105, t106, tq⟩, A200, H⟩ := H
          replace H : (if t106 = true then (if x12_3.length < 5864062014805 then (shape_Nest.l1 k3 (a0, a1, pl ++ [tq]) (x12_3 ++ [(⟨x54_3, (⟨t104, t105⟩ : S41)⟩ : S48)]) l2 (l2.length : Int) (wrap64 (x54_3 + 1))) else (none)) else (shape_Nest.l1 k3 (a0, a1, pl) x12_3 l2 (l2.length : Int) (wrap64 (x54_3 + 1)))) = some (r1, r2) := H
          have A20 := Aside0.mk A200
          clear A200
          by_cases c21 : t106 = true
          ·subst c21
           rw [if_pos rfl] at H
           obtain ⟨c22, H⟩ := oi H
           have LMc22 := Aside0.mk c22
           clear c22
           obtain ⟨y108, hy108⟩ : ∃ y_ : List (S48), y_ = (x12_3 ++ [(⟨x54_3, (⟨t104, t105⟩ : S41)⟩ : S48)]) := ⟨_, rfl⟩
           replace H : (shape_Nest.l1 k3 (a0, a1, pl ++ [tq]) y108 l2 (l2.length : Int) (wrap64 (x54_3 + 1))) = some (r1, r2) := by first | (rw [hy108]; with_reducible exact H) | (have H2_ := (Option.bind_some _ _).symm.trans H; rw [hy108]; with_reducible exact H2_) | (have H2_ := (Option.bind_some _ _).symm.trans H; with_reducible exact H2_) | with_reducible exact H | (rw [hy108]; exact H) | exact H
           have Ny108 := Aside0.mk hy108
           clear hy108
           have H' := Aside0.mk H
           clear H
           have p103 : 0 ≤ (x54_3 : Int) := dt
           have q103 : x54_3 < (l2.length : Int) := dt
           obtain ⟨ad103, A103_0, c103_0, e103, hx103_0, hl103_0, hi103_0⟩ := at_L2 HR2.out x54_3 p103 q103
           cases e103
           replace hx103_0 := hc HB hx103_0
           have HR103_0 := Aside0.mk hi103_0
           have HC103_0 := Aside0.mk hl103_0
           clear hi103_0 hl103_0
           replace p103 := eq_true p103
           replace q103 := eq_true q103
           go_wp2_with (first | ((with_reducible refine gc 47 rfl ?_); refine goesL_ (some 62) rfl rfl Try.func47 (by kernel_rfl) rfl #[.pointer (some ⟨gsh, 0, none⟩), .slice A103_0 (rd_L2 l2 x54_3).length c103_0] rfl sg ?_; (with_reducible refine (shape_sheet_place.calls k3 a0 a1 Au cu pl _ _ (rd_L2 l2 x54_3) t104 t105 true tq _ gsh w HB.out GSH.out LPL.out XS.out SS.out ?side1 ?side2 A20.out).mono ?_); (case side1 => exact cs (Kd.C_below HR103_0.out HB.out)); (case side2 => exact HC103_0.out); rintro e w23 ⟨rfl, hbP, hkP, u', hxP, hSP⟩; refine ⟨_, rfl, ?_⟩; have n0_ := Aside0.mk (place_keeps_out HO_12.out XS.out SS.out hkP); have n1_ := Aside0.mk hbP; have XP := Aside0.mk hxP; have SP := Aside0.mk hSP; have HOX := n0_; clear hbP hkP hxP hSP; clear HO_12; clear HB; have HO_12 := n0_; have HB := n1_; clear n0_ n1_; skip) | ((with_reducible refine gate_dst (N := 15) rfl ?_); (try (refine gate_guard (by rfl) ?_; dsimp only)); refine bxe 15 #[.int .i64 0, .int .i64 0] 41 ?_; intro gb107 hg w24 hbox hb; have HBX := Aside0.mk hb; have HGX := Aside0.mk (Nat.le_of_eq hg.symm); have BK107 := Aside0.mk (hbox); have GW107 := ga w hg; have GE107 := GW107; replace HO_12 := Aside0.mk (Kd.R_below (ro HO_12) hb); replace HB := bz hb; clear hb hbox hg; obtain ⟨hcz25_0, hcz25_1, hfz25_0, hfz25_1⟩ := b2 BK107) | ((with_reducible refine gate_builtin (b := .append) (xs := #[.tmp 66, .tmp 70]) rfl ?_); (try (refine gate_guard (by rfl) ?_; dsimp only)); at_builtin; refine Kd.R_append k48 (w0 := w) w.heap.size rfl (.tmp 66) (.tmp 70) 33 48 (.agg #[(.int .i64 0), (.int .i64 0), (.int .i64 0)]) 24 rfl Try.underlying33 info48 rfl (by decide) (by omega) u12 x12_3 (⟨x54_3, (⟨t104, t105⟩ : S41)⟩ : S48) [.int .i64 x54_3, .int .i64 t104, .int .i64 t105] (fun _ => True) (fun _ => False) rfl (by first | (go_simp; done) | (go_simp; rfl)) ?aP (fun _ hk => hk.elim) ?aF ?aO ?aB ?aS ?aL ?_; (case aP => exact k48_mkM _ _ _ (⟨x54_3, (⟨t104, t105⟩ : S41)⟩ : S48)); (case aB => exact bh); (case aF => exact (fun _ _ => trivial)); (case aO => exact (by (with_reducible repeat (first | apply Kd.R_alloc | apply Kd.R_drewN | apply Kd.R_drew)); exact Kd.R_mono (Kd.R_far (p := ⟨gb107, 1, none⟩) (Kd.R_far (p := ⟨gb107, 0, none⟩) (Kd.R_types HO_12.out BK107.out (by decide)) (fun _ hk => hk.2) (.int .i64 t104)) (fun _ hk => hk.2) (.int .i64 t105)) (fun _ hk => trivial))); (case aS => exact (below_size bh)); (case aL => have := LMc22.out; omega); intro v109 w26 ho hb hg hat; have HGR := Aside0.mk (grown_round HBX.out HGX.out hg); rw [← Ny108.out] at ho; have HO110 := Aside0.mk (ho); replace BK107 := Aside0.mk (blk_grown (g := gb107) (o := .cells #[.int .i64 t104, .int .i64 t105] 41 (0, 0)) (by refine bd ?_; refine blk_put (cs := #[.int .i64 t104, .int .i64 0]) ?_ 1 _ rfl; refine bd ?_; refine blk_put (cs := #[.int .i64 0, .int .i64 0]) ?_ 0 _ rfl; refine bd ?_; exact BK107.out) hg (Kd.R_ne HO_12.out BK107.out (by decide))); replace HB := Aside0.mk (hb); clear HO_12; clear ho hb hg hat))
           go_roundg k3
           case measure => have := HJ3.out; have := HK2.out; have := HK3.out; omega
           case rel => exact ⟨(y108), (wrap64 (x54_3 + 1)), (pl ++ [tq]), u', sd, H', ⟨by have := HJ3.out; have := HK2.out; have := HK3.out; omega⟩, ⟨ro HO110⟩, ⟨bh⟩, ⟨(round_keep HGR.out HOX.out XP.out SP.out).1⟩, ⟨by have hh := (round_keep HGR.out HOX.out XP.out SP.out).2; simpa using hh⟩⟩
          ·replace c21 := Bool.eq_false_iff.mpr c21
           subst c21
           rw [if_neg (show ¬ (false = true) by decide)] at H
           have H' := Aside0.mk H
           clear H
           have p103 : 0 ≤ (x54_3 : Int) := dt
           have q103 : x54_3 < (l2.length : Int) := dt
           obtain ⟨ad103, A103_0, c103_0, e103, hx103_0, hl103_0, hi103_0⟩ := at_L2 HR2.out x54_3 p103 q103
           cases e103
           replace hx103_0 := hc HB hx103_0
           have HR103_0 := Aside0.mk hi103_0
           have HC103_0 := Aside0.mk hl103_0
           clear hi103_0 hl103_0
           replace p103 := eq_true p103
           replace q103 := eq_true q103
           go_wp2_with (first | ((with_reducible refine gc 47 rfl ?_); refine goesL_ (some 62) rfl rfl Try.func47 (by kernel_rfl) rfl #[.pointer (some ⟨gsh, 0, none⟩), .slice A103_0 (rd_L2 l2 x54_3).length c103_0] rfl sg ?_; (with_reducible refine (shape_sheet_place.calls k3 a0 a1 Au cu pl _ _ (rd_L2 l2 x54_3) t104 t105 false tq _ gsh w HB.out GSH.out LPL.out XS.out SS.out ?side1 ?side2 A20.out).mono ?_); (case side1 => exact cs (Kd.C_below HR103_0.out HB.out)); (case side2 => exact HC103_0.out); rintro e w27 ⟨rfl, hbP, hkP, u', hxP, hSP⟩; refine ⟨_, rfl, ?_⟩; have n0_ := Aside0.mk (place_keeps_out HO_12.out XS.out SS.out hkP); have n1_ := Aside0.mk hbP; have XP := Aside0.mk hxP; have SP := Aside0.mk hSP; have HOX := n0_; clear hbP hkP hxP hSP; clear HO_12; clear HB; have HO_12 := n0_; have HB := n1_; clear n0_ n1_; skip) | ((with_reducible refine gate_dst (N := 15) rfl ?_); (try (refine gate_guard (by rfl) ?_; dsimp only)); refine bxe 15 #[.int .i64 0, .int .i64 0] 41 ?_; intro gb107 hg w28 hbox hb; have HBX := Aside0.mk hb; have HGX := Aside0.mk (Nat.le_of_eq hg.symm); have BK107 := Aside0.mk (hbox); have GW107 := ga w hg; have GE107 := GW107; replace HO_12 := Aside0.mk (Kd.R_below (ro HO_12) hb); replace HB := bz hb; clear hb hbox hg; obtain ⟨hcz29_0, hcz29_1, hfz29_0, hfz29_1⟩ := b2 BK107))
           go_roundg k3
           case measure => have := HJ3.out; have := HK2.out; have := HK3.out; omega
           case rel => exact ⟨(x12_3), (wrap64 (x54_3 + 1)), pl, u', sd, H', ⟨by have := HJ3.out; have := HK2.out; have := HK3.out; omega⟩, ⟨by (with_reducible repeat (first | apply Kd.R_alloc | apply Kd.R_drewN | apply Kd.R_drew)); exact Kd.R_mono (Kd.R_far (p := ⟨gb107, 1, none⟩) (Kd.R_far (p := ⟨gb107, 0, none⟩) (Kd.R_types HO_12.out BK107.out (by decide)) (fun _ hk => hk.2) (.int .i64 t104)) (fun _ hk => hk.2) (.int .i64 t105)) (fun _ hk => trivial)⟩, ⟨bh⟩, ⟨(round_keep (grown_round0 (a := .int .i64 t104) (b := .int .i64 t105) HBX.out HGX.out _) HOX.out XP.out SP.out).1⟩, ⟨by have hh := (round_keep (grown_round0 (a := .int .i64 t104) (b := .int .i64 t105) HBX.out HGX.out _) HOX.out XP.out SP.out).2; simpa using hh⟩⟩
         ·rw [if_neg c17] at H
          have c17b0 := decide_eq_false c17
          clear c17
          simp only [Option.some.injEq, Prod.mk.injEq] at H
          obtain ⟨rfl, rfl⟩ := H
          go_wp2
          go_ret2
          exact ⟨_, by exact er, by (with_reducible repeat (first | apply Kd.R_alloc | apply Kd.R_drewN | apply Kd.R_drew)); exact HO_12.out, bh⟩
/-! ### cracknellaw04_ShapeNests: function 4 -/
mutual
def cracknellaw04_ShapeNests.j2 : Nat → List (List (S41)) → Int → Int → Option (Bool)
 | 0, _, _, _ => none
 | k + 1, x5, x102000, x102001 => if x102000 > 24 then (cracknellaw04_ShapeNests.j3 k x5 x102000 x102001 (decide (x102000 ≤ 100))) else (cracknellaw04_ShapeNests.j3 k x5 x102000 x102001 false)
def cracknellaw04_ShapeNests.j3 : Nat → List (List (S41)) → Int → Int → Bool → Option (Bool)
 | 0, _, _, _, _ => none
 | k + 1, x5, x7, x8, x48 => if x48 = true then (cracknellaw04_ShapeNests.j4 k x5 (wrap64 ((Int.tmod x7 24) + 1)) x8) else (cracknellaw04_ShapeNests.j4 k x5 x7 x8)
def cracknellaw04_ShapeNests.j4 : Nat → List (List (S41)) → Int → Int → Option (Bool)
 | 0, _, _, _ => none
 | k + 1, x5, x7, x8 => if x8 > 24 then (cracknellaw04_ShapeNests.j5 k x5 x7 x8 (decide (x8 ≤ 100))) else (cracknellaw04_ShapeNests.j5 k x5 x7 x8 false)
def cracknellaw04_ShapeNests.j5 : Nat → List (List (S41)) → Int → Int → Bool → Option (Bool)
 | 0, _, _, _, _ => none
 | k + 1, x5, x7, x8, x57 => if x57 = true then (cracknellaw04_ShapeNests.j6 k x5 x7 (wrap64 ((Int.tmod x8 24) + 1))) else (cracknellaw04_ShapeNests.j6 k x5 x7 x8)
def cracknellaw04_ShapeNests.j6 : Nat → List (List (S41)) → Int → Int → Option (Bool)
 | 0, _, _, _ => none
 | k + 1, x5, x7, x8 => (shape_Nest.f k x7 x8 x5).bind fun bt119 => (if x7 < 1 then (cracknellaw04_ShapeNests.j7 k x5 x7 x8 bt119.1 bt119.2 0 true) else (if x7 > 100 then (cracknellaw04_ShapeNests.j7 k x5 x7 x8 bt119.1 bt119.2 0 true) else (if x8 < 1 then (cracknellaw04_ShapeNests.j7 k x5 x7 x8 bt119.1 bt119.2 0 true) else (if x8 > 100 then (cracknellaw04_ShapeNests.j7 k x5 x7 x8 bt119.1 bt119.2 0 true) else (cracknellaw04_ShapeNests.j7 k x5 x7 x8 bt119.1 bt119.2 0 (decide ((x5.length : Int) > 16)))))))
def cracknellaw04_ShapeNests.j7 : Nat → List (List (S41)) → Int → Int → List (S48) → Int → Int → Bool → Option (Bool)
 | 0, _, _, _, _, _, _, _ => none
 | k + 1, x5, x7, x8, x9, x10, x11, x86 => if x86 = true then (cracknellaw04_ShapeNests.j8 k x5 x7 x8 x9 x10 1) else (cracknellaw04_ShapeNests.j8 k x5 x7 x8 x9 x10 x11)
def cracknellaw04_ShapeNests.j8 : Nat → List (List (S41)) → Int → Int → List (S48) → Int → Int → Option (Bool)
 | 0, _, _, _, _, _, _ => none
 | k + 1, x5, x7, x8, x9, x10, x11 => cracknellaw04_ShapeNests.l1 k x5 x7 x8 x9 x10 x11 0
def cracknellaw04_ShapeNests.j10 : Nat → List (List (S41)) → Int → Int → List (S48) → Int → Int → Option (Bool)
 | 0, _, _, _, _, _, _ => none
 | k + 1, x5, x7, x8, x9, x10, x11 => if x11 = 0 then ((cracknelref04_Nest.f k x7 x8 x5).bind fun t126 => ((cracknellaw04_placed.f k x9 t126).bind fun t129 => (if t129 = true then (if x10 = 0 then ((cracknellaw04_lives.f k).bind fun t130 => (some t130)) else (some false)) else (some false)))) else (if (x9.length : Int) = 0 then (if x10 = x11 then ((cracknellaw04_lives.f k).bind fun t125 => (some t125)) else (some false)) else (some false))
def cracknellaw04_ShapeNests.l1 : Nat → List (List (S41)) → Int → Int → List (S48) → Int → Int → Int → Option (Bool)
 | 0, _, _, _, _, _, _, _ => none
 | k + 1, x5, x7, x8, x9, x10, x11, x12 => if x12 < (x5.length : Int) then (if x11 = 0 then (if 0 ≤ x12 then ((cracknellaw04_convex.f k (rd_L2 x5 x12)).bind fun t124 => (cracknellaw04_ShapeNests.l1 k x5 x7 x8 x9 x10 t124 (wrap64 (x12 + 1)))) else (none)) else (cracknellaw04_ShapeNests.j10 k x5 x7 x8 x9 x10 x11)) else (cracknellaw04_ShapeNests.j10 k x5 x7 x8 x9 x10 x11)
def cracknellaw04_ShapeNests.l0 : Nat → List (List (S41)) → List (List (S41)) → Int → Int → Int → Option (Bool)
 | 0, _, _, _, _, _ => none
 | k + 1, x1, x5, x6, x102000, x102001 => if x6 < (x1.length : Int) then (cracknellaw04_ShapeNests.j1 k x1 x5 x6 (decide (x6 ≤ 16)) x102000 x102001) else (cracknellaw04_ShapeNests.j1 k x1 x5 x6 false x102000 x102001)
def cracknellaw04_ShapeNests.j1 : Nat → List (List (S41)) → List (List (S41)) → Int → Bool → Int → Int → Option (Bool)
 | 0, _, _, _, _, _, _ => none
 | k + 1, x1, x5, x6, x21, x102000, x102001 => if x21 = true then (if x6 ≥ 6 then (if (x1.length : Int) ≤ 16 then (cracknellaw04_ShapeNests.j2 k x5 x102000 x102001) else (if 0 ≤ x6 then (if x6 < (x1.length : Int) then ((cracknellaw04_cut.f (rd_L2 x1 x6) 8).bind fun t106 => (if x5.length < 5864062014805 then (cracknellaw04_ShapeNests.l0 k x1 (x5 ++ [t106]) (wrap64 (x6 + 1)) x102000 x102001) else (none))) else (none)) else (none))) else (if 0 ≤ x6 then (if x6 < (x1.length : Int) then ((cracknellaw04_cut.f (rd_L2 x1 x6) 8).bind fun t113 => (if x5.length < 5864062014805 then (cracknellaw04_ShapeNests.l0 k x1 (x5 ++ [t113]) (wrap64 (x6 + 1)) x102000 x102001) else (none))) else (none)) else (none))) else (cracknellaw04_ShapeNests.j2 k x5 x102000 x102001)
end
def cracknellaw04_ShapeNests.f (k : Nat) (a0_0 : Int) (a0_1 : Int) (l1 : List (List (S41))) : Option (Bool) := cracknellaw04_ShapeNests.l0 k l1 (([] : List (List (S41)))) 0 a0_0 a0_1
set_option maxHeartbeats 8000000 in
set_option maxRecDepth 100000 in
theorem cracknellaw04_ShapeNests.calls (k : Nat) (a0_0 : Int) (a0_1 : Int) (A1 : Option Addr) (c1 : Nat) (l1 : List (List (S41))) (r : Bool) (w : World) (hr1 : Kd.C (Kd.slice 41 k41) w A1 l1.length l1) (hc1 : l1.length ≤ c1) (h : cracknellaw04_ShapeNests.f k a0_0 a0_1 l1 = some r) (hr : r = true) :
  Calls Try.prog 4 #[.agg #[.int .i64 a0_0, .int .i64 a0_1], .slice A1 l1.length c1] w fun e w' => e = .returned (.bool r) ∧ Below w.heap.size w w' := by
 have hu31 := Try.underlying31
 have HR1 := Aside0.mk hr1
 have HC1 := Aside0.mk hc1
 clear hr1 hc1
 have HB := Aside0.mk (Below.refl w.heap.size w)
 have H : (cracknellaw04_ShapeNests.l0 k l1 (([] : List (List (S41)))) 0 a0_0 a0_1) = some r := h
 clear h
 obtain ⟨y102, hy102⟩ : ∃ y_ : List (List (S41)), y_ = (([] : List (List (S41)))) := ⟨_, rfl⟩
 replace H : (cracknellaw04_ShapeNests.l0 k l1 y102 0 a0_0 a0_1) = some r := by first | (rw [hy102]; with_reducible exact H) | (have H2_ := (Option.bind_some _ _).symm.trans H; rw [hy102]; with_reducible exact H2_) | (have H2_ := (Option.bind_some _ _).symm.trans H; with_reducible exact H2_) | with_reducible exact H | (rw [hy102]; exact H) | exact H
 have Ny102 := Aside0.mk hy102
 clear hy102
 have HC3 := Aside0.mk H
 clear H
 go_enter Try.func4, Try.ntmps4
 go_upto_block 0 with (first | ((with_reducible refine gate_dst (N := 2) rfl ?_); (try (refine gate_guard (by rfl) ?_; dsimp only)); refine bxe 2 #[.int .i64 a0_0, .int .i64 a0_1] 31 ?_; intro gb101 hg w4 hbox hb; have BK101 := Aside0.mk (hbox); have GW101 := ga w hg; have GE101 := GW101; replace HB := bz hb; clear hb hbox hg) | ((with_reducible refine gate_dst (N := 13) rfl ?_); (try (refine gate_guard (by rfl) ?_; dsimp only)); refine Kd.S_lit (Kd.slice 41 k41) _ 22 ?hg (N := 13) ?hd (xs := ([] : List (List (S41)))) (inner := []) (ok := fun _ => True) (okp := fun _ => True) ?hr ?hp (fun _ hk => hk) trivial (Below.refl _ _) (Nat.le_refl _) (by simp) ?_; (case hd => rfl); (case hg => rfl); (case hr => first | (go_simp; done) | (go_simp; rfl)); (case hp => exact (Reps.none _ _)); intro v103 w5 ho6 hb hg_ hnew_; clear hg_ hnew_; (first | rw [← Ny102.out] at ho6 | (simp only [Int.reduceToNat] at ho6; rw [← Ny102.out] at ho6)); have HO104 := Aside0.mk (Kd.S_lower ho6 (below_size bh)); replace BK101 := kb BK101 hb; replace HB := bz hb; clear hb ho6))
 repeat (go_quiet (first | ((with_reducible refine gate_dst (N := 2) rfl ?_); (try (refine gate_guard (by rfl) ?_; dsimp only)); refine bxe 2 #[.int .i64 a0_0, .int .i64 a0_1] 31 ?_; intro gb101 hg w4 hbox hb; have BK101 := Aside0.mk (hbox); have GW101 := ga w hg; have GE101 := GW101; replace HB := bz hb; clear hb hbox hg) | ((with_reducible refine gate_dst (N := 13) rfl ?_); (try (refine gate_guard (by rfl) ?_; dsimp only)); refine Kd.S_lit (Kd.slice 41 k41) _ 22 ?hg (N := 13) ?hd (xs := ([] : List (List (S41)))) (inner := []) (ok := fun _ => True) (okp := fun _ => True) ?hr ?hp (fun _ hk => hk) trivial (Below.refl _ _) (Nat.le_refl _) (by simp) ?_; (case hd => rfl); (case hg => rfl); (case hr => first | (go_simp; done) | (go_simp; rfl)); (case hp => exact (Reps.none _ _)); intro v103 w5 ho6 hb hg_ hnew_; clear hg_ hnew_; (first | rw [← Ny102.out] at ho6 | (simp only [Int.reduceToNat] at ho6; rw [← Ny102.out] at ho6)); have HO104 := Aside0.mk (Kd.S_lower ho6 (below_size bh)); replace BK101 := kb BK101 hb; replace HB := bz hb; clear hb ho6)); go_upto_block 0 with (first | ((with_reducible refine gate_dst (N := 2) rfl ?_); (try (refine gate_guard (by rfl) ?_; dsimp only)); refine bxe 2 #[.int .i64 a0_0, .int .i64 a0_1] 31 ?_; intro gb101 hg w4 hbox hb; have BK101 := Aside0.mk (hbox); have GW101 := ga w hg; have GE101 := GW101; replace HB := bz hb; clear hb hbox hg) | ((with_reducible refine gate_dst (N := 13) rfl ?_); (try (refine gate_guard (by rfl) ?_; dsimp only)); refine Kd.S_lit (Kd.slice 41 k41) _ 22 ?hg (N := 13) ?hd (xs := ([] : List (List (S41)))) (inner := []) (ok := fun _ => True) (okp := fun _ => True) ?hr ?hp (fun _ hk => hk) trivial (Below.refl _ _) (Nat.le_refl _) (by simp) ?_; (case hd => rfl); (case hg => rfl); (case hr => first | (go_simp; done) | (go_simp; rfl)); (case hp => exact (Reps.none _ _)); intro v103 w5 ho6 hb hg_ hnew_; clear hg_ hnew_; (first | rw [← Ny102.out] at ho6 | (simp only [Int.reduceToNat] at ho6; rw [← Ny102.out] at ho6)); have HO104 := Aside0.mk (Kd.S_lower ho6 (below_size bh)); replace BK101 := kb BK101 hb; replace HB := bz hb; clear hb ho6)))
 (try simp only [Act.put, List.setIfInBounds_toArray, List.set_cons_zero, List.set_cons_succ])
 go_cut [5] (fun v5 wc => ∃ (kq : Nat) (x5_2 : List (List (S41))), Aside0 (cracknellaw04_ShapeNests.j2 kq x5_2 a0_0 a0_1 = some r) ∧ Aside0 (kq ≤ k) ∧ Aside0 (Kd.S (Kd.slice 41 k41) 22 wc w.heap.size (fun _ => True) v5 x5_2) ∧ Aside0 (wc.heap[gb101]? = some (.cells #[.int .i64 a0_0, .int .i64 a0_1] 31 (0, 0))) ∧ Aside0 (Below w.heap.size w wc))
 case first =>
  have H := HC3.out
  clear HC3
  have H' := Aside0.mk H
  clear H
  go_wp2
  repeat (go_quiet (fail); try go_wp2)
  go_loopg [5, 6] k (fun kq v5 v6 w' => ∃ (x5_1 : List (List (S41))) (x6_1 : Int), v6 = .int .i64 x6_1 ∧ Aside0 (cracknellaw04_ShapeNests.l0 kq l1 x5_1 x6_1 a0_0 a0_1 = some r) ∧ Aside0 (kq ≤ k) ∧ Aside0 (Kd.S (Kd.slice 41 k41) 22 w' w.heap.size (fun _ => True) v5 x5_1) ∧ Aside0 (w'.heap[gb101]? = some (.cells #[.int .i64 a0_0, .int .i64 a0_1] 31 (0, 0))) ∧ Aside0 (Below w.heap.size w w'))
  case atStart => exact ⟨(y102), (0), sd, H', ⟨Nat.le_refl _⟩, ⟨so HO104⟩, ⟨bk BK101⟩, ⟨bh⟩⟩
  case round =>
   clear H'
   (try clear c1)
   obtain ⟨x5_1, x6_1, rfl, HA, HK1, HO_5, BK101, HB⟩ := hrel
   cases gk with
   | zero => exact absurd HA.out (by simp [cracknellaw04_ShapeNests.l0])
   | succ k1 =>
    have H := HA.out
    clear HA
    simp only [cracknellaw04_ShapeNests.l0] at H
    have HC7 := Aside0.mk H
    clear H
    go_upto_region 3 with (fail)
    repeat (go_quiet (fail); go_upto_region 3 with (fail))
    go_cut [21] (fun v21 wc => ∃ (kq : Nat) (x21_6 : Bool), v21 = .bool x21_6 ∧ Aside0 (cracknellaw04_ShapeNests.j1 kq l1 x5_1 x6_1 x21_6 a0_0 a0_1 = some r) ∧ Aside0 (kq ≤ k1) ∧ Aside0 (Kd.S (Kd.slice 41 k41) 22 wc w.heap.size (fun _ => True) u5 x5_1) ∧ Aside0 (wc.heap[gb101]? = some (.cells #[.int .i64 a0_0, .int .i64 a0_1] 31 (0, 0))) ∧ Aside0 (Below w.heap.size w wc))
    case first =>
     have H := HC7.out
     clear HC7
     by_cases c8 : x6_1 < (l1.length : Int)
     ·rw [if_pos c8] at H
      have c8b0 := decide_eq_true c8
      clear c8
      (first | rw [c8b0] | (simp only [i64_w, i32_w]; rw [c8b0]) | skip)
      have H' := Aside0.mk H
      clear H
      go_wp2
      repeat (go_quiet (fail); try go_wp2)
      go_meet
      case rel => exact ⟨_, (decide (x6_1 ≤ 16)), sd, H', ⟨by have := HK1.out; first | omega | exact Nat.le_refl _⟩, ⟨so HO_5⟩, ⟨bk BK101⟩, ⟨bh⟩⟩
     ·rw [if_neg c8] at H
      have c8b0 := decide_eq_false c8
      clear c8
      (first | rw [c8b0] | (simp only [i64_w, i32_w]; rw [c8b0]) | skip)
      have H' := Aside0.mk H
      clear H
      go_wp2
      repeat (go_quiet (fail); try go_wp2)
      go_meet
      case rel => exact ⟨_, (false), sd, H', ⟨by have := HK1.out; first | omega | exact Nat.le_refl _⟩, ⟨so HO_5⟩, ⟨bk BK101⟩, ⟨bh⟩⟩
    case rest =>
     clear HC7
     skip
     obtain ⟨kq, x21_6, rfl, HA, HJ6, HO_5, BK101, HB⟩ := hcut
     cases kq with
     | zero => exact absurd HA.out (by simp [cracknellaw04_ShapeNests.j1])
     | succ kj6 =>
      have H := HA.out
      clear HA
      simp only [cracknellaw04_ShapeNests.j1] at H
      by_cases c9 : x21_6 = true
      ·subst c9
       rw [if_pos rfl] at H
       by_cases c10 : x6_1 ≥ 6
       ·rw [if_pos c10] at H
        have c10b0 := decide_eq_true c10
        clear c10
        by_cases c11 : (l1.length : Int) ≤ 16
        ·rw [if_pos c11] at H
         have c11b0 := decide_eq_true c11
         have c11b1 : decide (l1.length ≤ 16) = true := decide_eq_true (by omega)
         clear c11
         have H' := Aside0.mk H
         clear H
         go_wp2
         repeat (go_quiet (fail); try go_wp2)
         go_meet
         case rel => exact ⟨_, (x5_1), H', ⟨by have := HK1.out; have := HJ6.out; first | omega | exact Nat.le_refl _⟩, ⟨so HO_5⟩, ⟨bk BK101⟩, ⟨bh⟩⟩
        ·rw [if_neg c11] at H
         have c11b0 := decide_eq_false c11
         have c11b1 : decide (l1.length ≤ 16) = false := decide_eq_false (by omega)
         clear c11
         obtain ⟨c12, H⟩ := oi H
         have c12b0 := decide_eq_true c12
         clear c12
         obtain ⟨c13, H⟩ := oi H
         have c13b0 := decide_eq_true c13
         clear c13
         replace H := Option.bind_eq_some_iff.mp H
         obtain ⟨t106, A140, H⟩ := H
         try dsimp only at H
         have A14 := Aside0.mk A140
         clear A140
         obtain ⟨c15, H⟩ := oi H
         have LMc15 := Aside0.mk c15
         clear c15
         obtain ⟨y109, hy109⟩ : ∃ y_ : List (List (S41)), y_ = (x5_1 ++ [t106]) := ⟨_, rfl⟩
         replace H : (cracknellaw04_ShapeNests.l0 kj6 l1 y109 (wrap64 (x6_1 + 1)) a0_0 a0_1) = some r := by first | (rw [hy109]; with_reducible exact H) | (have H2_ := (Option.bind_some _ _).symm.trans H; rw [hy109]; with_reducible exact H2_) | (have H2_ := (Option.bind_some _ _).symm.trans H; with_reducible exact H2_) | with_reducible exact H | (rw [hy109]; exact H) | exact H
         have Ny109 := Aside0.mk hy109
         clear hy109
         have H' := Aside0.mk H
         clear H
         have p105 : 0 ≤ (x6_1 : Int) := dt
         have q105 : x6_1 < (l1.length : Int) := dt
         obtain ⟨ad105, A105_0, c105_0, e105, hx105_0, hl105_0, hi105_0⟩ := at_L2 HR1.out x6_1 p105 q105
         cases e105
         replace hx105_0 := hc HB hx105_0
         have HR105_0 := Aside0.mk hi105_0
         have HC105_0 := Aside0.mk hl105_0
         clear hi105_0 hl105_0
         replace p105 := eq_true p105
         replace q105 := eq_true q105
         go_wp2_with (first | (go_at_call 9; (with_reducible refine (cracknellaw04_cut.calls _ _ (rd_L2 l1 x6_1) 8 t106 _ ?side1 ?side2 A14.out).mono ?_); (case side1 => exact cs (Kd.C_below HR105_0.out HB.out)); (case side2 => exact HC105_0.out); rintro e w16 ⟨v107, rfl, ho0, hb⟩; have HO108 := Aside0.mk (Kd.R_lower ho0 (below_size bh)); replace HO_5 := Aside0.mk (Kd.S_elder' (so HO_5) (Kd.R_base ho0) hb); replace BK101 := kb BK101 hb; replace HB := bz hb; (try clear hb); (try clear ho0); obtain ⟨Ao18, co18, eo18⟩ := Kd.R_slice HO108.out; subst eo18) | ((with_reducible refine gate_builtin (b := .append) (xs := #[.tmp 31, .tmp 37]) rfl ?_); (try (refine gate_guard (by rfl) ?_; dsimp only)); at_builtin; refine Kd.S_append (Kd.slice 41 k41) (w0 := w) w.heap.size rfl (.tmp 31) (.tmp 37) 32 22 (.slice none 0 0) 24 rfl Try.underlying32 info22 rfl (by decide) (by omega) u5 x5_1 t106 [.slice Ao18 t106.length co18] (fun _ => True) (fun k_ => some k_ = (.slice Ao18 t106.length co18 : Value).ownBlock) rfl rfl ?aP (fun k_ hk_ => ((Kd.R_mono (ok' := fun k_ => ((fun _ => True)) k_ ∧ some k_ ≠ (u5 : Value).ownBlock) (Kd.R_apart' (HO108.out) (Kd.S_typed HO_5.out) (by decide)) (fun k_ hk => ⟨trivial, hk.2⟩))).1 k_ hk_.symm) ?aF ?aO ?aB ?aS ?aL ?_; (case aP => exact Kd.M_row (Kd.R_mono (Kd.R_tight rfl (Kd.R_mono (ok' := fun k_ => ((fun _ => True)) k_ ∧ some k_ ≠ (u5 : Value).ownBlock) (Kd.R_apart' (HO108.out) (Kd.S_typed HO_5.out) (by decide)) (fun k_ hk => ⟨trivial, hk.2⟩))) (fun _ h_ => h_))); (case aB => exact bh); (case aF => exact (fun _ _ => trivial)); (case aO => exact (by (with_reducible repeat (first | apply Kd.S_alloc | apply Kd.S_drewN | apply Kd.S_drew)); exact Kd.S_mono HO_5.out (fun k_ hk => ⟨trivial, fun e_ => hk.2 e_⟩))); (case aS => exact (below_size bh)); (case aL => have := LMc15.out; omega); intro v110 w17 ho hb hg hat; rw [← Ny109.out] at ho; have HO111 := Aside0.mk (ho); replace BK101 := Aside0.mk (blk_grown (g := gb101) (o := .cells #[.int .i64 a0_0, .int .i64 a0_1] 31 (0, 0)) (bk BK101) hg (Kd.S_ne HO_5.out BK101.out (by decide))); replace HB := Aside0.mk (hb); clear HO_5 HO108; clear ho hb hg hat))
         repeat (go_quiet (first | (go_at_call 9; (with_reducible refine (cracknellaw04_cut.calls _ _ (rd_L2 l1 x6_1) 8 t106 _ ?side1 ?side2 A14.out).mono ?_); (case side1 => exact cs (Kd.C_below HR105_0.out HB.out)); (case side2 => exact HC105_0.out); rintro e w16 ⟨v107, rfl, ho0, hb⟩; have HO108 := Aside0.mk (Kd.R_lower ho0 (below_size bh)); replace HO_5 := Aside0.mk (Kd.S_elder' (so HO_5) (Kd.R_base ho0) hb); replace BK101 := kb BK101 hb; replace HB := bz hb; (try clear hb); (try clear ho0); obtain ⟨Ao18, co18, eo18⟩ := Kd.R_slice HO108.out; subst eo18) | ((with_reducible refine gate_builtin (b := .append) (xs := #[.tmp 31, .tmp 37]) rfl ?_); (try (refine gate_guard (by rfl) ?_; dsimp only)); at_builtin; refine Kd.S_append (Kd.slice 41 k41) (w0 := w) w.heap.size rfl (.tmp 31) (.tmp 37) 32 22 (.slice none 0 0) 24 rfl Try.underlying32 info22 rfl (by decide) (by omega) u5 x5_1 t106 [.slice Ao18 t106.length co18] (fun _ => True) (fun k_ => some k_ = (.slice Ao18 t106.length co18 : Value).ownBlock) rfl rfl ?aP (fun k_ hk_ => ((Kd.R_mono (ok' := fun k_ => ((fun _ => True)) k_ ∧ some k_ ≠ (u5 : Value).ownBlock) (Kd.R_apart' (HO108.out) (Kd.S_typed HO_5.out) (by decide)) (fun k_ hk => ⟨trivial, hk.2⟩))).1 k_ hk_.symm) ?aF ?aO ?aB ?aS ?aL ?_; (case aP => exact Kd.M_row (Kd.R_mono (Kd.R_tight rfl (Kd.R_mono (ok' := fun k_ => ((fun _ => True)) k_ ∧ some k_ ≠ (u5 : Value).ownBlock) (Kd.R_apart' (HO108.out) (Kd.S_typed HO_5.out) (by decide)) (fun k_ hk => ⟨trivial, hk.2⟩))) (fun _ h_ => h_))); (case aB => exact bh); (case aF => exact (fun _ _ => trivial)); (case aO => exact (by (with_reducible repeat (first | apply Kd.S_alloc | apply Kd.S_drewN | apply Kd.S_drew)); exact Kd.S_mono HO_5.out (fun k_ hk => ⟨trivial, fun e_ => hk.2 e_⟩))); (case aS => exact (below_size bh)); (case aL => have := LMc15.out; omega); intro v110 w17 ho hb hg hat; rw [← Ny109.out] at ho; have HO111 := Aside0.mk (ho); replace BK101 := Aside0.mk (blk_grown (g := gb101) (o := .cells #[.int .i64 a0_0, .int .i64 a0_1] 31 (0, 0)) (bk BK101) hg (Kd.S_ne HO_5.out BK101.out (by decide))); replace HB := Aside0.mk (hb); clear HO_5 HO108; clear ho hb hg hat)); try go_wp2_with (first | (go_at_call 9; (with_reducible refine (cracknellaw04_cut.calls _ _ (rd_L2 l1 x6_1) 8 t106 _ ?side1 ?side2 A14.out).mono ?_); (case side1 => exact cs (Kd.C_below HR105_0.out HB.out)); (case side2 => exact HC105_0.out); rintro e w16 ⟨v107, rfl, ho0, hb⟩; have HO108 := Aside0.mk (Kd.R_lower ho0 (below_size bh)); replace HO_5 := Aside0.mk (Kd.S_elder' (so HO_5) (Kd.R_base ho0) hb); replace BK101 := kb BK101 hb; replace HB := bz hb; (try clear hb); (try clear ho0); obtain ⟨Ao18, co18, eo18⟩ := Kd.R_slice HO108.out; subst eo18) | ((with_reducible refine gate_builtin (b := .append) (xs := #[.tmp 31, .tmp 37]) rfl ?_); (try (refine gate_guard (by rfl) ?_; dsimp only)); at_builtin; refine Kd.S_append (Kd.slice 41 k41) (w0 := w) w.heap.size rfl (.tmp 31) (.tmp 37) 32 22 (.slice none 0 0) 24 rfl Try.underlying32 info22 rfl (by decide) (by omega) u5 x5_1 t106 [.slice Ao18 t106.length co18] (fun _ => True) (fun k_ => some k_ = (.slice Ao18 t106.length co18 : Value).ownBlock) rfl rfl ?aP (fun k_ hk_ => ((Kd.R_mono (ok' := fun k_ => ((fun _ => True)) k_ ∧ some k_ ≠ (u5 : Value).ownBlock) (Kd.R_apart' (HO108.out) (Kd.S_typed HO_5.out) (by decide)) (fun k_ hk => ⟨trivial, hk.2⟩))).1 k_ hk_.symm) ?aF ?aO ?aB ?aS ?aL ?_; (case aP => exact Kd.M_row (Kd.R_mono (Kd.R_tight rfl (Kd.R_mono (ok' := fun k_ => ((fun _ => True)) k_ ∧ some k_ ≠ (u5 : Value).ownBlock) (Kd.R_apart' (HO108.out) (Kd.S_typed HO_5.out) (by decide)) (fun k_ hk => ⟨trivial, hk.2⟩))) (fun _ h_ => h_))); (case aB => exact bh); (case aF => exact (fun _ _ => trivial)); (case aO => exact (by (with_reducible repeat (first | apply Kd.S_alloc | apply Kd.S_drewN | apply Kd.S_drew)); exact Kd.S_mono HO_5.out (fun k_ hk => ⟨trivial, fun e_ => hk.2 e_⟩))); (case aS => exact (below_size bh)); (case aL => have := LMc15.out; omega); intro v110 w17 ho hb hg hat; rw [← Ny109.out] at ho; have HO111 := Aside0.mk (ho); replace BK101 := Aside0.mk (blk_grown (g := gb101) (o := .cells #[.int .i64 a0_0, .int .i64 a0_1] 31 (0, 0)) (bk BK101) hg (Kd.S_ne HO_5.out BK101.out (by decide))); replace HB := Aside0.mk (hb); clear HO_5 HO108; clear ho hb hg hat)))
         go_roundg kj6
         case measure => have := HK1.out; have := HJ6.out; omega
         case rel => exact ⟨(y109), (wrap64 (x6_1 + 1)), sd, H', ⟨by have := HK1.out; have := HJ6.out; omega⟩, ⟨so HO111⟩, ⟨bk BK101⟩, ⟨bh⟩⟩
       ·rw [if_neg c10] at H
        have c10b0 := decide_eq_false c10
        clear c10
        obtain ⟨c19, H⟩ := oi H
        have c19b0 := decide_eq_true c19
        clear c19
        obtain ⟨c20, H⟩ := oi H
        have c20b0 := decide_eq_true c20
        clear c20
        replace H := Option.bind_eq_some_iff.mp H
        obtain ⟨t113, A210, H⟩ := H
        try dsimp only at H
        have A21 := Aside0.mk A210
        clear A210
        obtain ⟨c22, H⟩ := oi H
        have LMc22 := Aside0.mk c22
        clear c22
        obtain ⟨y116, hy116⟩ : ∃ y_ : List (List (S41)), y_ = (x5_1 ++ [t113]) := ⟨_, rfl⟩
        replace H : (cracknellaw04_ShapeNests.l0 kj6 l1 y116 (wrap64 (x6_1 + 1)) a0_0 a0_1) = some r := by first | (rw [hy116]; with_reducible exact H) | (have H2_ := (Option.bind_some _ _).symm.trans H; rw [hy116]; with_reducible exact H2_) | (have H2_ := (Option.bind_some _ _).symm.trans H; with_reducible exact H2_) | with_reducible exact H | (rw [hy116]; exact H) | exact H
        have Ny116 := Aside0.mk hy116
        clear hy116
        have H' := Aside0.mk H
        clear H
        have p112 : 0 ≤ (x6_1 : Int) := dt
        have q112 : x6_1 < (l1.length : Int) := dt
        obtain ⟨ad112, A112_0, c112_0, e112, hx112_0, hl112_0, hi112_0⟩ := at_L2 HR1.out x6_1 p112 q112
        cases e112
        replace hx112_0 := hc HB hx112_0
        have HR112_0 := Aside0.mk hi112_0
        have HC112_0 := Aside0.mk hl112_0
        clear hi112_0 hl112_0
        replace p112 := eq_true p112
        replace q112 := eq_true q112
        go_wp2_with (first | (go_at_call 9; (with_reducible refine (cracknellaw04_cut.calls _ _ (rd_L2 l1 x6_1) 8 t113 _ ?side1 ?side2 A21.out).mono ?_); (case side1 => exact cs (Kd.C_below HR112_0.out HB.out)); (case side2 => exact HC112_0.out); rintro e w23 ⟨v114, rfl, ho0, hb⟩; have HO115 := Aside0.mk (Kd.R_lower ho0 (below_size bh)); replace HO_5 := Aside0.mk (Kd.S_elder' (so HO_5) (Kd.R_base ho0) hb); replace BK101 := kb BK101 hb; replace HB := bz hb; (try clear hb); (try clear ho0); obtain ⟨Ao25, co25, eo25⟩ := Kd.R_slice HO115.out; subst eo25) | ((with_reducible refine gate_builtin (b := .append) (xs := #[.tmp 31, .tmp 37]) rfl ?_); (try (refine gate_guard (by rfl) ?_; dsimp only)); at_builtin; refine Kd.S_append (Kd.slice 41 k41) (w0 := w) w.heap.size rfl (.tmp 31) (.tmp 37) 32 22 (.slice none 0 0) 24 rfl Try.underlying32 info22 rfl (by decide) (by omega) u5 x5_1 t113 [.slice Ao25 t113.length co25] (fun _ => True) (fun k_ => some k_ = (.slice Ao25 t113.length co25 : Value).ownBlock) rfl rfl ?aP (fun k_ hk_ => ((Kd.R_mono (ok' := fun k_ => ((fun _ => True)) k_ ∧ some k_ ≠ (u5 : Value).ownBlock) (Kd.R_apart' (HO115.out) (Kd.S_typed HO_5.out) (by decide)) (fun k_ hk => ⟨trivial, hk.2⟩))).1 k_ hk_.symm) ?aF ?aO ?aB ?aS ?aL ?_; (case aP => exact Kd.M_row (Kd.R_mono (Kd.R_tight rfl (Kd.R_mono (ok' := fun k_ => ((fun _ => True)) k_ ∧ some k_ ≠ (u5 : Value).ownBlock) (Kd.R_apart' (HO115.out) (Kd.S_typed HO_5.out) (by decide)) (fun k_ hk => ⟨trivial, hk.2⟩))) (fun _ h_ => h_))); (case aB => exact bh); (case aF => exact (fun _ _ => trivial)); (case aO => exact (by (with_reducible repeat (first | apply Kd.S_alloc | apply Kd.S_drewN | apply Kd.S_drew)); exact Kd.S_mono HO_5.out (fun k_ hk => ⟨trivial, fun e_ => hk.2 e_⟩))); (case aS => exact (below_size bh)); (case aL => have := LMc22.out; omega); intro v117 w24 ho hb hg hat; rw [← Ny116.out] at ho; have HO118 := Aside0.mk (ho); replace BK101 := Aside0.mk (blk_grown (g := gb101) (o := .cells #[.int .i64 a0_0, .int .i64 a0_1] 31 (0, 0)) (bk BK101) hg (Kd.S_ne HO_5.out BK101.out (by decide))); replace HB := Aside0.mk (hb); clear HO_5 HO115; clear ho hb hg hat))
        repeat (go_quiet (first | (go_at_call 9; (with_reducible refine (cracknellaw04_cut.calls _ _ (rd_L2 l1 x6_1) 8 t113 _ ?side1 ?side2 A21.out).mono ?_); (case side1 => exact cs (Kd.C_below HR112_0.out HB.out)); (case side2 => exact HC112_0.out); rintro e w23 ⟨v114, rfl, ho0, hb⟩; have HO115 := Aside0.mk (Kd.R_lower ho0 (below_size bh)); replace HO_5 := Aside0.mk (Kd.S_elder' (so HO_5) (Kd.R_base ho0) hb); replace BK101 := kb BK101 hb; replace HB := bz hb; (try clear hb); (try clear ho0); obtain ⟨Ao25, co25, eo25⟩ := Kd.R_slice HO115.out; subst eo25) | ((with_reducible refine gate_builtin (b := .append) (xs := #[.tmp 31, .tmp 37]) rfl ?_); (try (refine gate_guard (by rfl) ?_; dsimp only)); at_builtin; refine Kd.S_append (Kd.slice 41 k41) (w0 := w) w.heap.size rfl (.tmp 31) (.tmp 37) 32 22 (.slice none 0 0) 24 rfl Try.underlying32 info22 rfl (by decide) (by omega) u5 x5_1 t113 [.slice Ao25 t113.length co25] (fun _ => True) (fun k_ => some k_ = (.slice Ao25 t113.length co25 : Value).ownBlock) rfl rfl ?aP (fun k_ hk_ => ((Kd.R_mono (ok' := fun k_ => ((fun _ => True)) k_ ∧ some k_ ≠ (u5 : Value).ownBlock) (Kd.R_apart' (HO115.out) (Kd.S_typed HO_5.out) (by decide)) (fun k_ hk => ⟨trivial, hk.2⟩))).1 k_ hk_.symm) ?aF ?aO ?aB ?aS ?aL ?_; (case aP => exact Kd.M_row (Kd.R_mono (Kd.R_tight rfl (Kd.R_mono (ok' := fun k_ => ((fun _ => True)) k_ ∧ some k_ ≠ (u5 : Value).ownBlock) (Kd.R_apart' (HO115.out) (Kd.S_typed HO_5.out) (by decide)) (fun k_ hk => ⟨trivial, hk.2⟩))) (fun _ h_ => h_))); (case aB => exact bh); (case aF => exact (fun _ _ => trivial)); (case aO => exact (by (with_reducible repeat (first | apply Kd.S_alloc | apply Kd.S_drewN | apply Kd.S_drew)); exact Kd.S_mono HO_5.out (fun k_ hk => ⟨trivial, fun e_ => hk.2 e_⟩))); (case aS => exact (below_size bh)); (case aL => have := LMc22.out; omega); intro v117 w24 ho hb hg hat; rw [← Ny116.out] at ho; have HO118 := Aside0.mk (ho); replace BK101 := Aside0.mk (blk_grown (g := gb101) (o := .cells #[.int .i64 a0_0, .int .i64 a0_1] 31 (0, 0)) (bk BK101) hg (Kd.S_ne HO_5.out BK101.out (by decide))); replace HB := Aside0.mk (hb); clear HO_5 HO115; clear ho hb hg hat)); try go_wp2_with (first | (go_at_call 9; (with_reducible refine (cracknellaw04_cut.calls _ _ (rd_L2 l1 x6_1) 8 t113 _ ?side1 ?side2 A21.out).mono ?_); (case side1 => exact cs (Kd.C_below HR112_0.out HB.out)); (case side2 => exact HC112_0.out); rintro e w23 ⟨v114, rfl, ho0, hb⟩; have HO115 := Aside0.mk (Kd.R_lower ho0 (below_size bh)); replace HO_5 := Aside0.mk (Kd.S_elder' (so HO_5) (Kd.R_base ho0) hb); replace BK101 := kb BK101 hb; replace HB := bz hb; (try clear hb); (try clear ho0); obtain ⟨Ao25, co25, eo25⟩ := Kd.R_slice HO115.out; subst eo25) | ((with_reducible refine gate_builtin (b := .append) (xs := #[.tmp 31, .tmp 37]) rfl ?_); (try (refine gate_guard (by rfl) ?_; dsimp only)); at_builtin; refine Kd.S_append (Kd.slice 41 k41) (w0 := w) w.heap.size rfl (.tmp 31) (.tmp 37) 32 22 (.slice none 0 0) 24 rfl Try.underlying32 info22 rfl (by decide) (by omega) u5 x5_1 t113 [.slice Ao25 t113.length co25] (fun _ => True) (fun k_ => some k_ = (.slice Ao25 t113.length co25 : Value).ownBlock) rfl rfl ?aP (fun k_ hk_ => ((Kd.R_mono (ok' := fun k_ => ((fun _ => True)) k_ ∧ some k_ ≠ (u5 : Value).ownBlock) (Kd.R_apart' (HO115.out) (Kd.S_typed HO_5.out) (by decide)) (fun k_ hk => ⟨trivial, hk.2⟩))).1 k_ hk_.symm) ?aF ?aO ?aB ?aS ?aL ?_; (case aP => exact Kd.M_row (Kd.R_mono (Kd.R_tight rfl (Kd.R_mono (ok' := fun k_ => ((fun _ => True)) k_ ∧ some k_ ≠ (u5 : Value).ownBlock) (Kd.R_apart' (HO115.out) (Kd.S_typed HO_5.out) (by decide)) (fun k_ hk => ⟨trivial, hk.2⟩))) (fun _ h_ => h_))); (case aB => exact bh); (case aF => exact (fun _ _ => trivial)); (case aO => exact (by (with_reducible repeat (first | apply Kd.S_alloc | apply Kd.S_drewN | apply Kd.S_drew)); exact Kd.S_mono HO_5.out (fun k_ hk => ⟨trivial, fun e_ => hk.2 e_⟩))); (case aS => exact (below_size bh)); (case aL => have := LMc22.out; omega); intro v117 w24 ho hb hg hat; rw [← Ny116.out] at ho; have HO118 := Aside0.mk (ho); replace BK101 := Aside0.mk (blk_grown (g := gb101) (o := .cells #[.int .i64 a0_0, .int .i64 a0_1] 31 (0, 0)) (bk BK101) hg (Kd.S_ne HO_5.out BK101.out (by decide))); replace HB := Aside0.mk (hb); clear HO_5 HO115; clear ho hb hg hat)))
        go_roundg kj6
        case measure => have := HK1.out; have := HJ6.out; omega
        case rel => exact ⟨(y116), (wrap64 (x6_1 + 1)), sd, H', ⟨by have := HK1.out; have := HJ6.out; omega⟩, ⟨so HO118⟩, ⟨bk BK101⟩, ⟨bh⟩⟩
      ·replace c9 := Bool.eq_false_iff.mpr c9
       subst c9
       rw [if_neg (show ¬ (false = true) by decide)] at H
       have H' := Aside0.mk H
       clear H
       go_wp2
       repeat (go_quiet (fail); try go_wp2)
       go_meet
       case rel => exact ⟨_, (x5_1), H', ⟨by have := HK1.out; have := HJ6.out; first | omega | exact Nat.le_refl _⟩, ⟨so HO_5⟩, ⟨bk BK101⟩, ⟨bh⟩⟩
 case rest =>
  clear HC3
  (try clear c1)
  obtain ⟨kq, x5_2, HA, HJ2, HO_5, BK101, HB⟩ := hcut
  cases kq with
  | zero => exact absurd HA.out (by simp [cracknellaw04_ShapeNests.j2])
  | succ kj2 =>
   have H := HA.out
   clear HA
   simp only [cracknellaw04_ShapeNests.j2] at H
   have HC26 := Aside0.mk H
   clear H
   obtain ⟨hcz27_0, hcz27_1, hfz27_0, hfz27_1⟩ := b2 BK101
   go_upto_region 8 with (fail)
   repeat (go_quiet (fail); go_upto_region 8 with (fail))
   go_cut [48] (fun v48 wc => ∃ (kq : Nat) (x48_25 : Bool), v48 = .bool x48_25 ∧ Aside0 (cracknellaw04_ShapeNests.j3 kq x5_2 a0_0 a0_1 x48_25 = some r) ∧ Aside0 (kq ≤ kj2) ∧ Aside0 (Kd.S (Kd.slice 41 k41) 22 wc w.heap.size (fun _ => True) u5 x5_2) ∧ Aside0 (wc.heap[gb101]? = some (.cells #[.int .i64 a0_0, .int .i64 a0_1] 31 (0, 0))) ∧ Aside0 (Below w.heap.size w wc))
   case first =>
    have H := HC26.out
    clear HC26
    by_cases c28 : a0_0 > 24
    ·rw [if_pos c28] at H
     have c28b0 := decide_eq_true c28
     clear c28
     (first | rw [c28b0] | (simp only [i64_w, i32_w]; rw [c28b0]) | skip)
     have H' := Aside0.mk H
     clear H
     go_wp2
     repeat (go_quiet (fail); try go_wp2)
     go_meet
     case rel => exact ⟨_, (decide (a0_0 ≤ 100)), sd, H', ⟨by have := HJ2.out; first | omega | exact Nat.le_refl _⟩, ⟨so HO_5⟩, ⟨bk BK101⟩, ⟨bh⟩⟩
    ·rw [if_neg c28] at H
     have c28b0 := decide_eq_false c28
     clear c28
     (first | rw [c28b0] | (simp only [i64_w, i32_w]; rw [c28b0]) | skip)
     have H' := Aside0.mk H
     clear H
     go_wp2
     repeat (go_quiet (fail); try go_wp2)
     go_meet
     case rel => exact ⟨_, (false), sd, H', ⟨by have := HJ2.out; first | omega | exact Nat.le_refl _⟩, ⟨so HO_5⟩, ⟨bk BK101⟩, ⟨bh⟩⟩
   case rest =>
    clear HC26
    (try clear hcz27_0); (try clear hcz27_1); (try clear hfz27_0); (try clear hfz27_1)
    obtain ⟨kq, x48_25, rfl, HA, HJ25, HO_5, BK101, HB⟩ := hcut
    cases kq with
    | zero => exact absurd HA.out (by simp [cracknellaw04_ShapeNests.j3])
    | succ kj25 =>
     have H := HA.out
     clear HA
     simp only [cracknellaw04_ShapeNests.j3] at H
     have HC29 := Aside0.mk H
     clear H
     go_upto_if 48 with (fail)
     repeat (go_quiet (fail); go_upto_if 48 with (fail))
     go_cut [7] (fun v7 wc => ∃ (kq : Nat) (x7_28 : Int), v7 = .int .i64 x7_28 ∧ Aside0 (cracknellaw04_ShapeNests.j4 kq x5_2 x7_28 a0_1 = some r) ∧ Aside0 (kq ≤ kj25) ∧ Aside0 (Kd.S (Kd.slice 41 k41) 22 wc w.heap.size (fun _ => True) u5 x5_2) ∧ Aside0 (wc.heap[gb101]? = some (.cells #[.int .i64 a0_0, .int .i64 a0_1] 31 (0, 0))) ∧ Aside0 (Below w.heap.size w wc))
     case first =>
      have H := HC29.out
      clear HC29
      by_cases c30 : x48_25 = true
      ·subst c30
       rw [if_pos rfl] at H
       have H' := Aside0.mk H
       clear H
       go_wp2
       repeat (go_quiet (fail); try go_wp2)
       go_meet
       case rel => exact ⟨_, (wrap64 ((Int.tmod a0_0 24) + 1)), sd, H', ⟨by have := HJ2.out; have := HJ25.out; first | omega | exact Nat.le_refl _⟩, ⟨so HO_5⟩, ⟨bk BK101⟩, ⟨bh⟩⟩
      ·replace c30 := Bool.eq_false_iff.mpr c30
       subst c30
       rw [if_neg (show ¬ (false = true) by decide)] at H
       have H' := Aside0.mk H
       clear H
       go_wp2
       repeat (go_quiet (fail); try go_wp2)
       go_meet
       case rel => exact ⟨_, (a0_0), sd, H', ⟨by have := HJ2.out; have := HJ25.out; first | omega | exact Nat.le_refl _⟩, ⟨so HO_5⟩, ⟨bk BK101⟩, ⟨bh⟩⟩
     case rest =>
      clear HC29
      skip
      obtain ⟨kq, x7_28, rfl, HA, HJ28, HO_5, BK101, HB⟩ := hcut
      cases kq with
      | zero => exact absurd HA.out (by simp [cracknellaw04_ShapeNests.j4])
      | succ kj28 =>
       have H := HA.out
       clear HA
       simp only [cracknellaw04_ShapeNests.j4] at H
       have HC31 := Aside0.mk H
       clear H
       go_upto_region 10 with (fail)
       repeat (go_quiet (fail); go_upto_region 10 with (fail))
       go_cut [57] (fun v57 wc => ∃ (kq : Nat) (x57_30 : Bool), v57 = .bool x57_30 ∧ Aside0 (cracknellaw04_ShapeNests.j5 kq x5_2 x7_28 a0_1 x57_30 = some r) ∧ Aside0 (kq ≤ kj28) ∧ Aside0 (Kd.S (Kd.slice 41 k41) 22 wc w.heap.size (fun _ => True) u5 x5_2) ∧ Aside0 (wc.heap[gb101]? = some (.cells #[.int .i64 a0_0, .int .i64 a0_1] 31 (0, 0))) ∧ Aside0 (Below w.heap.size w wc))
       case first =>
        have H := HC31.out
        clear HC31
        by_cases c32 : a0_1 > 24
        ·rw [if_pos c32] at H
         have c32b0 := decide_eq_true c32
         clear c32
         (first | rw [c32b0] | (simp only [i64_w, i32_w]; rw [c32b0]) | skip)
         have H' := Aside0.mk H
         clear H
         go_wp2
         repeat (go_quiet (fail); try go_wp2)
         go_meet
         case rel => exact ⟨_, (decide (a0_1 ≤ 100)), sd, H', ⟨by have := HJ2.out; have := HJ25.out; have := HJ28.out; first | omega | exact Nat.le_refl _⟩, ⟨so HO_5⟩, ⟨bk BK101⟩, ⟨bh⟩⟩
        ·rw [if_neg c32] at H
         have c32b0 := decide_eq_false c32
         clear c32
         (first | rw [c32b0] | (simp only [i64_w, i32_w]; rw [c32b0]) | skip)
         have H' := Aside0.mk H
         clear H
         go_wp2
         repeat (go_quiet (fail); try go_wp2)
         go_meet
         case rel => exact ⟨_, (false), sd, H', ⟨by have := HJ2.out; have := HJ25.out; have := HJ28.out; first | omega | exact Nat.le_refl _⟩, ⟨so HO_5⟩, ⟨bk BK101⟩, ⟨bh⟩⟩
       case rest =>
        clear HC31
        skip
        obtain ⟨kq, x57_30, rfl, HA, HJ30, HO_5, BK101, HB⟩ := hcut
        cases kq with
        | zero => exact absurd HA.out (by simp [cracknellaw04_ShapeNests.j5])
        | succ kj30 =>
         have H := HA.out
         clear HA
         simp only [cracknellaw04_ShapeNests.j5] at H
         have HC33 := Aside0.mk H
         clear H
         go_upto_if 57 with (fail)
         repeat (go_quiet (fail); go_upto_if 57 with (fail))
         go_cut [8] (fun v8 wc => ∃ (kq : Nat) (x8_32 : Int), v8 = .int .i64 x8_32 ∧ Aside0 (cracknellaw04_ShapeNests.j6 kq x5_2 x7_28 x8_32 = some r) ∧ Aside0 (kq ≤ kj30) ∧ Aside0 (Kd.S (Kd.slice 41 k41) 22 wc w.heap.size (fun _ => True) u5 x5_2) ∧ Aside0 (wc.heap[gb101]? = some (.cells #[.int .i64 a0_0, .int .i64 a0_1] 31 (0, 0))) ∧ Aside0 (Below w.heap.size w wc))
         case first =>
          have H := HC33.out
          clear HC33
          by_cases c34 : x57_30 = true
          ·subst c34
           rw [if_pos rfl] at H
           have H' := Aside0.mk H
           clear H
           go_wp2
           repeat (go_quiet (fail); try go_wp2)
           go_meet
           case rel => exact ⟨_, (wrap64 ((Int.tmod a0_1 24) + 1)), sd, H', ⟨by have := HJ2.out; have := HJ25.out; have := HJ28.out; have := HJ30.out; first | omega | exact Nat.le_refl _⟩, ⟨so HO_5⟩, ⟨bk BK101⟩, ⟨bh⟩⟩
          ·replace c34 := Bool.eq_false_iff.mpr c34
           subst c34
           rw [if_neg (show ¬ (false = true) by decide)] at H
           have H' := Aside0.mk H
           clear H
           go_wp2
           repeat (go_quiet (fail); try go_wp2)
           go_meet
           case rel => exact ⟨_, (a0_1), sd, H', ⟨by have := HJ2.out; have := HJ25.out; have := HJ28.out; have := HJ30.out; first | omega | exact Nat.le_refl _⟩, ⟨so HO_5⟩, ⟨bk BK101⟩, ⟨bh⟩⟩
         case rest =>
          clear HC33
          skip
          obtain ⟨kq, x8_32, rfl, HA, HJ32, HO_5, BK101, HB⟩ := hcut
          cases kq with
          | zero => exact absurd HA.out (by simp [cracknellaw04_ShapeNests.j6])
          | succ kj32 =>
           have H := HA.out
           clear HA
           simp only [cracknellaw04_ShapeNests.j6] at H
           replace H := Option.bind_eq_some_iff.mp H
           obtain ⟨⟨t119, t120⟩, A350, H⟩ := H
           try dsimp only at H
           have A35 := Aside0.mk A350
           clear A350
           have HC36 := Aside0.mk H
           clear H
           obtain ⟨Ao37, co37, eo37⟩ := Kd.S_slice HO_5.out
           subst eo37
           go_upto_region 14 with (first | (go_at_call 14; (with_reducible refine (shape_Nest.calls kj32 x7_28 x8_32 _ _ x5_2 t119 t120 _ ?side1 ?side2 A35.out).mono ?_); (case side1 => exact cs (Kd.S_reads' HO_5.out).2.2); (case side2 => exact (Kd.S_reads' HO_5.out).2.1); rintro e w38 ⟨v121, rfl, ho0, hb⟩; have HO122 := Aside0.mk (Kd.R_lower ho0 (below_size bh)); replace HO_5 := Aside0.mk (Kd.S_below (so HO_5) hb); replace BK101 := kb BK101 hb; replace HB := bz hb; (try clear hb); (try clear ho0)))
           repeat (go_quiet (first | (go_at_call 14; (with_reducible refine (shape_Nest.calls kj32 x7_28 x8_32 _ _ x5_2 t119 t120 _ ?side1 ?side2 A35.out).mono ?_); (case side1 => exact cs (Kd.S_reads' HO_5.out).2.2); (case side2 => exact (Kd.S_reads' HO_5.out).2.1); rintro e w38 ⟨v121, rfl, ho0, hb⟩; have HO122 := Aside0.mk (Kd.R_lower ho0 (below_size bh)); replace HO_5 := Aside0.mk (Kd.S_below (so HO_5) hb); replace BK101 := kb BK101 hb; replace HB := bz hb; (try clear hb); (try clear ho0))); go_upto_region 14 with (first | (go_at_call 14; (with_reducible refine (shape_Nest.calls kj32 x7_28 x8_32 _ _ x5_2 t119 t120 _ ?side1 ?side2 A35.out).mono ?_); (case side1 => exact cs (Kd.S_reads' HO_5.out).2.2); (case side2 => exact (Kd.S_reads' HO_5.out).2.1); rintro e w38 ⟨v121, rfl, ho0, hb⟩; have HO122 := Aside0.mk (Kd.R_lower ho0 (below_size bh)); replace HO_5 := Aside0.mk (Kd.S_below (so HO_5) hb); replace BK101 := kb BK101 hb; replace HB := bz hb; (try clear hb); (try clear ho0))))
           (try simp only [Act.put, List.setIfInBounds_toArray, List.set_cons_zero, List.set_cons_succ])
           go_cut [86] (fun v86 wc => ∃ (kq : Nat) (x86_35 : Bool), v86 = .bool x86_35 ∧ Aside0 (cracknellaw04_ShapeNests.j7 kq x5_2 x7_28 x8_32 t119 t120 0 x86_35 = some r) ∧ Aside0 (kq ≤ kj32) ∧ Aside0 (Kd.S (Kd.slice 41 k41) 22 wc w.heap.size (fun _ => True) (.slice Ao37 x5_2.length co37) x5_2) ∧ Aside0 (Kd.R k48 48 wc w.heap.size (fun _ => True) v121 t119) ∧ Aside0 (wc.heap[gb101]? = some (.cells #[.int .i64 a0_0, .int .i64 a0_1] 31 (0, 0))) ∧ Aside0 (Below w.heap.size w wc))
           case first =>
            have H := HC36.out
            clear HC36
            by_cases c39 : x7_28 < 1
            ·rw [if_pos c39] at H
             have c39b0 := decide_eq_true c39
             clear c39
             (first | rw [c39b0] | (simp only [i64_w, i32_w]; rw [c39b0]) | skip)
             have H' := Aside0.mk H
             clear H
             go_wp2
             repeat (go_quiet (fail); try go_wp2)
             go_meet
             case rel => exact ⟨_, (true), sd, H', ⟨by have := HJ2.out; have := HJ25.out; have := HJ28.out; have := HJ30.out; have := HJ32.out; first | omega | exact Nat.le_refl _⟩, ⟨so HO_5⟩, ⟨ro HO122⟩, ⟨bk BK101⟩, ⟨bh⟩⟩
            ·rw [if_neg c39] at H
             have c39b0 := decide_eq_false c39
             clear c39
             (first | rw [c39b0] | (simp only [i64_w, i32_w]; rw [c39b0]) | skip)
             by_cases c40 : x7_28 > 100
             ·rw [if_pos c40] at H
              have c40b0 := decide_eq_true c40
              clear c40
              have H' := Aside0.mk H
              clear H
              go_wp2
              repeat (go_quiet (fail); try go_wp2)
              go_meet
              case rel => exact ⟨_, (true), sd, H', ⟨by have := HJ2.out; have := HJ25.out; have := HJ28.out; have := HJ30.out; have := HJ32.out; first | omega | exact Nat.le_refl _⟩, ⟨so HO_5⟩, ⟨ro HO122⟩, ⟨bk BK101⟩, ⟨bh⟩⟩
             ·rw [if_neg c40] at H
              have c40b0 := decide_eq_false c40
              clear c40
              by_cases c41 : x8_32 < 1
              ·rw [if_pos c41] at H
               have c41b0 := decide_eq_true c41
               clear c41
               have H' := Aside0.mk H
               clear H
               go_wp2
               repeat (go_quiet (fail); try go_wp2)
               go_meet
               case rel => exact ⟨_, (true), sd, H', ⟨by have := HJ2.out; have := HJ25.out; have := HJ28.out; have := HJ30.out; have := HJ32.out; first | omega | exact Nat.le_refl _⟩, ⟨so HO_5⟩, ⟨ro HO122⟩, ⟨bk BK101⟩, ⟨bh⟩⟩
              ·rw [if_neg c41] at H
               have c41b0 := decide_eq_false c41
               clear c41
               by_cases c42 : x8_32 > 100
               ·rw [if_pos c42] at H
                have c42b0 := decide_eq_true c42
                clear c42
                have H' := Aside0.mk H
                clear H
                go_wp2
                repeat (go_quiet (fail); try go_wp2)
                go_meet
                case rel => exact ⟨_, (true), sd, H', ⟨by have := HJ2.out; have := HJ25.out; have := HJ28.out; have := HJ30.out; have := HJ32.out; first | omega | exact Nat.le_refl _⟩, ⟨so HO_5⟩, ⟨ro HO122⟩, ⟨bk BK101⟩, ⟨bh⟩⟩
               ·rw [if_neg c42] at H
                have c42b0 := decide_eq_false c42
                clear c42
                have H' := Aside0.mk H
                clear H
                go_wp2
                repeat (go_quiet (fail); try go_wp2)
                go_meet
                case rel => exact ⟨_, (decide ((x5_2.length : Int) > 16)), sd, H', ⟨by have := HJ2.out; have := HJ25.out; have := HJ28.out; have := HJ30.out; have := HJ32.out; first | omega | exact Nat.le_refl _⟩, ⟨so HO_5⟩, ⟨ro HO122⟩, ⟨bk BK101⟩, ⟨bh⟩⟩
           case rest =>
            clear HC36
            skip
            obtain ⟨kq, x86_35, rfl, HA, HJ35, HO_5, HO_9, BK101, HB⟩ := hcut
            cases kq with
            | zero => exact absurd HA.out (by simp [cracknellaw04_ShapeNests.j7])
            | succ kj35 =>
             have H := HA.out
             clear HA
             simp only [cracknellaw04_ShapeNests.j7] at H
             have HC43 := Aside0.mk H
             clear H
             go_upto_if 86 with (fail)
             repeat (go_quiet (fail); go_upto_if 86 with (fail))
             go_cut [11] (fun v11 wc => ∃ (kq : Nat) (x11_42 : Int), v11 = .int .i64 x11_42 ∧ Aside0 (cracknellaw04_ShapeNests.j8 kq x5_2 x7_28 x8_32 t119 t120 x11_42 = some r) ∧ Aside0 (kq ≤ kj35) ∧ Aside0 (Kd.S (Kd.slice 41 k41) 22 wc w.heap.size (fun _ => True) (.slice Ao37 x5_2.length co37) x5_2) ∧ Aside0 (Kd.R k48 48 wc w.heap.size (fun _ => True) v121 t119) ∧ Aside0 (wc.heap[gb101]? = some (.cells #[.int .i64 a0_0, .int .i64 a0_1] 31 (0, 0))) ∧ Aside0 (Below w.heap.size w wc))
             case first =>
              have H := HC43.out
              clear HC43
              by_cases c44 : x86_35 = true
              ·subst c44
               rw [if_pos rfl] at H
               have H' := Aside0.mk H
               clear H
               go_wp2
               repeat (go_quiet (fail); try go_wp2)
               go_meet
               case rel => exact ⟨_, (1), sd, H', ⟨by have := HJ2.out; have := HJ25.out; have := HJ28.out; have := HJ30.out; have := HJ32.out; have := HJ35.out; first | omega | exact Nat.le_refl _⟩, ⟨so HO_5⟩, ⟨ro HO_9⟩, ⟨bk BK101⟩, ⟨bh⟩⟩
              ·replace c44 := Bool.eq_false_iff.mpr c44
               subst c44
               rw [if_neg (show ¬ (false = true) by decide)] at H
               have H' := Aside0.mk H
               clear H
               go_wp2
               repeat (go_quiet (fail); try go_wp2)
               go_meet
               case rel => exact ⟨_, (0), sd, H', ⟨by have := HJ2.out; have := HJ25.out; have := HJ28.out; have := HJ30.out; have := HJ32.out; have := HJ35.out; first | omega | exact Nat.le_refl _⟩, ⟨so HO_5⟩, ⟨ro HO_9⟩, ⟨bk BK101⟩, ⟨bh⟩⟩
             case rest =>
              clear HC43
              skip
              obtain ⟨kq, x11_42, rfl, HA, HJ42, HO_5, HO_9, BK101, HB⟩ := hcut
              cases kq with
              | zero => exact absurd HA.out (by simp [cracknellaw04_ShapeNests.j8])
              | succ kj42 =>
               have H := HA.out
               clear HA
               simp only [cracknellaw04_ShapeNests.j8] at H
               have HC45 := Aside0.mk H
               clear H
               go_upto_block 2 with (fail)
               repeat (go_quiet (fail); go_upto_block 2 with (fail))
               go_cut [11] (fun v11 wc => ∃ (kq : Nat) (x11_44 : Int), v11 = .int .i64 x11_44 ∧ Aside0 (cracknellaw04_ShapeNests.j10 kq x5_2 x7_28 x8_32 t119 t120 x11_44 = some r) ∧ Aside0 (kq ≤ kj42) ∧ Aside0 (Kd.S (Kd.slice 41 k41) 22 wc w.heap.size (fun _ => True) (.slice Ao37 x5_2.length co37) x5_2) ∧ Aside0 (Kd.R k48 48 wc w.heap.size (fun _ => True) v121 t119) ∧ Aside0 (wc.heap[gb101]? = some (.cells #[.int .i64 a0_0, .int .i64 a0_1] 31 (0, 0))) ∧ Aside0 (Below w.heap.size w wc))
               case first =>
                have H := HC45.out
                clear HC45
                have H' := Aside0.mk H
                clear H
                go_wp2
                repeat (go_quiet (fail); try go_wp2)
                go_loopg [11, 12] kj42 (fun kq v11 v12 w' => ∃ (x11_8 : Int) (x12_8 : Int), v11 = .int .i64 x11_8 ∧ v12 = .int .i64 x12_8 ∧ Aside0 (cracknellaw04_ShapeNests.l1 kq x5_2 x7_28 x8_32 t119 t120 x11_8 x12_8 = some r) ∧ Aside0 (kq ≤ kj42) ∧ Aside0 (Kd.S (Kd.slice 41 k41) 22 w' w.heap.size (fun _ => True) (.slice Ao37 x5_2.length co37) x5_2) ∧ Aside0 (Kd.R k48 48 w' w.heap.size (fun _ => True) v121 t119) ∧ Aside0 (w'.heap[gb101]? = some (.cells #[.int .i64 a0_0, .int .i64 a0_1] 31 (0, 0))) ∧ Aside0 (Below w.heap.size w w'))
                case atStart => exact ⟨(x11_42), (0), sd, sd, H', ⟨Nat.le_refl _⟩, ⟨so HO_5⟩, ⟨ro HO_9⟩, ⟨bk BK101⟩, ⟨bh⟩⟩
                case round =>
                 clear H'
                 skip
                 obtain ⟨x11_8, x12_8, rfl, rfl, HA, HK8, HO_5, HO_9, BK101, HB⟩ := hrel
                 cases gk with
                 | zero => exact absurd HA.out (by simp [cracknellaw04_ShapeNests.l1])
                 | succ k8 =>
                  have H := HA.out
                  clear HA
                  simp only [cracknellaw04_ShapeNests.l1] at H
                  by_cases c46 : x12_8 < (x5_2.length : Int)
                  ·rw [if_pos c46] at H
                   have c46b0 := decide_eq_true c46
                   clear c46
                   (first | rw [c46b0] | (simp only [i64_w, i32_w]; rw [c46b0]) | skip)
                   by_cases c47 : x11_8 = 0
                   ·rw [if_pos c47] at H
                    have c47b0 : (x11_8 == 0) = true := beq_iff_eq.mpr c47
                    have c47b1 : (x11_8 != 0) = false := bne_eq_false_iff_eq.mpr c47
                    clear c47
                    obtain ⟨c48, H⟩ := oi H
                    have c48b0 := decide_eq_true c48
                    clear c48
                    replace H := Option.bind_eq_some_iff.mp H
                    obtain ⟨t124, A490, H⟩ := H
                    try dsimp only at H
                    have A49 := Aside0.mk A490
                    clear A490
                    have H' := Aside0.mk H
                    clear H
                    have p123 : 0 ≤ (x12_8 : Int) := dt
                    have q123 : x12_8 < (x5_2.length : Int) := dt
                    obtain ⟨ad123, A123_0, c123_0, e123, hx123_0, hl123_0, hi123_0⟩ := at_L2 (Kd.S_reads' HO_5.out).2.2 x12_8 p123 q123
                    cases e123
                    obtain ⟨ce123, hce123, hMe123, hcc123⟩ := Kd.S_get HO_5.out [] x12_8 p123 (by first | exact q123 | exact dt | (have e_ := (Kd.S_reads' HO_5.out).1; omega))
                    obtain ⟨ve123_0, rfl, ge123_0⟩ := hMe123
                    have hv123_0 := hcc123 0 _ rfl
                    rw [Nat.add_zero, show ((Kd.slice 41 k41)).sz = 1 from rfl, Nat.mul_one] at hv123_0
                    replace hv123_0 := Option.some.inj (hv123_0.symm.trans hx123_0)
                    rw [hv123_0] at ge123_0
                    have HL123_0 := Aside0.mk (show Kd.R k41 41 _ _ _ _ (rd_L2 x5_2 x12_8) from ge123_0)
                    clear hv123_0 ge123_0
                    clear hcc123 hce123
                    have HR123_0 := Aside0.mk hi123_0
                    have HC123_0 := Aside0.mk hl123_0
                    clear hi123_0 hl123_0
                    replace p123 := eq_true p123
                    replace q123 := eq_true q123
                    go_wp2_with (first | (go_at_call 15; (with_reducible refine (cracknellaw04_convex.calls k8 _ _ (rd_L2 x5_2 x12_8) t124 _ ?side1 ?side2 A49.out).mono ?_); (case side1 => repeat (first | exact (by repeat (first | (with_reducible exact HR123_0.out) | (with_reducible refine Kd.C_alloc ?_ _) | (with_reducible refine Kd.C_drewN ?_ _) | (with_reducible refine Kd.C_drew ?_) | exact HR123_0.out)) | (with_reducible refine Kd.C_alloc ?_ _) | (with_reducible refine Kd.C_drewN ?_ _) | (with_reducible refine Kd.C_drew ?_))); (case side2 => exact HC123_0.out); rintro e w50 ⟨rfl, hb⟩; replace HO_5 := Aside0.mk (Kd.S_below (so HO_5) hb); replace HO_9 := Aside0.mk (Kd.R_below (ro HO_9) hb); replace HL123_0 := Aside0.mk (Kd.R_below (ro HL123_0) hb); replace BK101 := kb BK101 hb; replace HR123_0 := Aside0.mk (Kd.C_below (by repeat (first | (with_reducible exact HR123_0.out) | (with_reducible refine Kd.C_alloc ?_ _) | (with_reducible refine Kd.C_drewN ?_ _) | (with_reducible refine Kd.C_drew ?_) | exact HR123_0.out)) hb); replace HB := bz hb; (try clear hb)))
                    repeat (go_quiet (first | (go_at_call 15; (with_reducible refine (cracknellaw04_convex.calls k8 _ _ (rd_L2 x5_2 x12_8) t124 _ ?side1 ?side2 A49.out).mono ?_); (case side1 => repeat (first | exact (by repeat (first | (with_reducible exact HR123_0.out) | (with_reducible refine Kd.C_alloc ?_ _) | (with_reducible refine Kd.C_drewN ?_ _) | (with_reducible refine Kd.C_drew ?_) | exact HR123_0.out)) | (with_reducible refine Kd.C_alloc ?_ _) | (with_reducible refine Kd.C_drewN ?_ _) | (with_reducible refine Kd.C_drew ?_))); (case side2 => exact HC123_0.out); rintro e w50 ⟨rfl, hb⟩; replace HO_5 := Aside0.mk (Kd.S_below (so HO_5) hb); replace HO_9 := Aside0.mk (Kd.R_below (ro HO_9) hb); replace HL123_0 := Aside0.mk (Kd.R_below (ro HL123_0) hb); replace BK101 := kb BK101 hb; replace HR123_0 := Aside0.mk (Kd.C_below (by repeat (first | (with_reducible exact HR123_0.out) | (with_reducible refine Kd.C_alloc ?_ _) | (with_reducible refine Kd.C_drewN ?_ _) | (with_reducible refine Kd.C_drew ?_) | exact HR123_0.out)) hb); replace HB := bz hb; (try clear hb))); try go_wp2_with (first | (go_at_call 15; (with_reducible refine (cracknellaw04_convex.calls k8 _ _ (rd_L2 x5_2 x12_8) t124 _ ?side1 ?side2 A49.out).mono ?_); (case side1 => repeat (first | exact (by repeat (first | (with_reducible exact HR123_0.out) | (with_reducible refine Kd.C_alloc ?_ _) | (with_reducible refine Kd.C_drewN ?_ _) | (with_reducible refine Kd.C_drew ?_) | exact HR123_0.out)) | (with_reducible refine Kd.C_alloc ?_ _) | (with_reducible refine Kd.C_drewN ?_ _) | (with_reducible refine Kd.C_drew ?_))); (case side2 => exact HC123_0.out); rintro e w50 ⟨rfl, hb⟩; replace HO_5 := Aside0.mk (Kd.S_below (so HO_5) hb); replace HO_9 := Aside0.mk (Kd.R_below (ro HO_9) hb); replace HL123_0 := Aside0.mk (Kd.R_below (ro HL123_0) hb); replace BK101 := kb BK101 hb; replace HR123_0 := Aside0.mk (Kd.C_below (by repeat (first | (with_reducible exact HR123_0.out) | (with_reducible refine Kd.C_alloc ?_ _) | (with_reducible refine Kd.C_drewN ?_ _) | (with_reducible refine Kd.C_drew ?_) | exact HR123_0.out)) hb); replace HB := bz hb; (try clear hb))))
                    go_roundg k8
                    case measure => have := HJ2.out; have := HJ25.out; have := HJ28.out; have := HJ30.out; have := HJ32.out; have := HJ35.out; have := HJ42.out; have := HK8.out; omega
                    case rel => exact ⟨(t124), (wrap64 (x12_8 + 1)), sd, sd, H', ⟨by have := HJ2.out; have := HJ25.out; have := HJ28.out; have := HJ30.out; have := HJ32.out; have := HJ35.out; have := HJ42.out; have := HK8.out; omega⟩, ⟨so HO_5⟩, ⟨ro HO_9⟩, ⟨bk BK101⟩, ⟨bh⟩⟩
                   ·rw [if_neg c47] at H
                    have c47b0 : (x11_8 == 0) = false := beq_eq_false_iff_ne.mpr c47
                    have c47b1 : (x11_8 != 0) = true := bne_iff_ne.mpr c47
                    have H' := Aside0.mk H
                    clear H
                    go_wp2
                    repeat (go_quiet (fail); try go_wp2)
                    go_meet
                    case rel => exact ⟨_, (x11_8), sd, H', ⟨by have := HJ2.out; have := HJ25.out; have := HJ28.out; have := HJ30.out; have := HJ32.out; have := HJ35.out; have := HJ42.out; have := HK8.out; first | omega | exact Nat.le_refl _⟩, ⟨so HO_5⟩, ⟨ro HO_9⟩, ⟨bk BK101⟩, ⟨bh⟩⟩
                  ·rw [if_neg c46] at H
                   have c46b0 := decide_eq_false c46
                   clear c46
                   (first | rw [c46b0] | (simp only [i64_w, i32_w]; rw [c46b0]) | skip)
                   have H' := Aside0.mk H
                   clear H
                   go_wp2
                   repeat (go_quiet (fail); try go_wp2)
                   go_meet
                   case rel => exact ⟨_, (x11_8), sd, H', ⟨by have := HJ2.out; have := HJ25.out; have := HJ28.out; have := HJ30.out; have := HJ32.out; have := HJ35.out; have := HJ42.out; have := HK8.out; first | omega | exact Nat.le_refl _⟩, ⟨so HO_5⟩, ⟨ro HO_9⟩, ⟨bk BK101⟩, ⟨bh⟩⟩
               case rest =>
                clear HC45
                skip
                obtain ⟨kq, x11_44, rfl, HA, HJ44, HO_5, HO_9, BK101, HB⟩ := hcut
                cases kq with
                | zero => exact absurd HA.out (by simp [cracknellaw04_ShapeNests.j10])
                | succ kj44 =>
                 have H := HA.out
                 clear HA
                 simp only [cracknellaw04_ShapeNests.j10] at H
                 by_cases c51 : x11_44 = 0
                 ·rw [if_pos c51] at H
                  have c51b0 : (x11_44 == 0) = true := beq_iff_eq.mpr c51
                  have c51b1 : (x11_44 != 0) = false := bne_eq_false_iff_eq.mpr c51
                  clear c51
                  replace H := Option.bind_eq_some_iff.mp H
                  obtain ⟨t126, A520, H⟩ := H
                  try dsimp only at H
                  have A52 := Aside0.mk A520
                  clear A520
                  replace H := Option.bind_eq_some_iff.mp H
                  obtain ⟨t129, A530, H⟩ := H
                  try dsimp only at H
                  have A53 := Aside0.mk A530
                  clear A530
                  by_cases c54 : t129 = true
                  ·subst c54
                   rw [if_pos rfl] at H
                   by_cases c55 : t120 = 0
                   ·rw [if_pos c55] at H
                    have c55b0 : (t120 == 0) = true := beq_iff_eq.mpr c55
                    have c55b1 : (t120 != 0) = false := bne_eq_false_iff_eq.mpr c55
                    clear c55
                    replace H := Option.bind_eq_some_iff.mp H
                    obtain ⟨t130, A560, H⟩ := H
                    try dsimp only at H
                    have A56 := Aside0.mk A560
                    clear A560
                    obtain rfl := Option.some.inj H
                    go_wp2_with (first | (go_at_call 17; (with_reducible refine (cracknelref04_Nest.calls kj44 x7_28 x8_32 _ _ x5_2 t126 _ ?side1 ?side2 A52.out).mono ?_); (case side1 => exact cs (Kd.S_reads' HO_5.out).2.2); (case side2 => exact (Kd.S_reads' HO_5.out).2.1); rintro e w57 ⟨v127, rfl, ho0, hb⟩; have HO128 := Aside0.mk (Kd.R_lower (Kd.R_new' ho0 (Kd.R_lt (ro HO_9))) (below_size bh)); replace HO_5 := Aside0.mk (Kd.S_below (so HO_5) hb); replace HO_9 := Aside0.mk (Kd.R_elder' (ro HO_9) (Kd.R_base ho0) hb); replace BK101 := kb BK101 hb; replace HB := bz hb; (try clear hb); (try clear ho0); obtain ⟨Ao58, co58, eo58⟩ := Kd.R_slice HO_9.out; subst eo58; obtain ⟨Ao59, co59, eo59⟩ := Kd.R_slice HO128.out; subst eo59) | (go_at_call 16; (with_reducible refine (cracknellaw04_placed.calls kj44 _ _ t119 _ _ t126 true _ ?side1 ?side2 ?side3 ?side4 A53.out).mono ?_); (case side1 => exact cs (Kd.R_reads' HO_9.out).2.2); (case side2 => exact (Kd.R_reads' HO_9.out).2.1); (case side3 => exact cs (Kd.R_reads' HO128.out).2.2); (case side4 => exact (Kd.R_reads' HO128.out).2.1); rintro e w' ⟨rfl, ⟨nd, rfl⟩⟩; (try first | exact ⟨rfl, _, World.drewN_drewN _ _ _⟩ | exact ⟨rfl, _, Eq.trans (World.drewN_drewN _ _ _) (congrArg (World.drewN _) (Nat.add_assoc _ _ _))⟩)) | (go_at_call 12; (with_reducible refine (cracknellaw04_lives.calls kj44  t130 _ A56.out hr).mono ?_); rintro e w60 ⟨rfl, hb⟩; replace HO_5 := Aside0.mk (Kd.S_below (so HO_5) hb); replace HO_9 := Aside0.mk (Kd.R_below (ro HO_9) hb); replace HO128 := Aside0.mk (Kd.R_below (ro HO128) hb); replace BK101 := kb BK101 hb; replace HB := bz hb; (try clear hb)))
                    repeat (go_quiet (first | (go_at_call 17; (with_reducible refine (cracknelref04_Nest.calls kj44 x7_28 x8_32 _ _ x5_2 t126 _ ?side1 ?side2 A52.out).mono ?_); (case side1 => exact cs (Kd.S_reads' HO_5.out).2.2); (case side2 => exact (Kd.S_reads' HO_5.out).2.1); rintro e w57 ⟨v127, rfl, ho0, hb⟩; have HO128 := Aside0.mk (Kd.R_lower (Kd.R_new' ho0 (Kd.R_lt (ro HO_9))) (below_size bh)); replace HO_5 := Aside0.mk (Kd.S_below (so HO_5) hb); replace HO_9 := Aside0.mk (Kd.R_elder' (ro HO_9) (Kd.R_base ho0) hb); replace BK101 := kb BK101 hb; replace HB := bz hb; (try clear hb); (try clear ho0); obtain ⟨Ao58, co58, eo58⟩ := Kd.R_slice HO_9.out; subst eo58; obtain ⟨Ao59, co59, eo59⟩ := Kd.R_slice HO128.out; subst eo59) | (go_at_call 16; (with_reducible refine (cracknellaw04_placed.calls kj44 _ _ t119 _ _ t126 true _ ?side1 ?side2 ?side3 ?side4 A53.out).mono ?_); (case side1 => exact cs (Kd.R_reads' HO_9.out).2.2); (case side2 => exact (Kd.R_reads' HO_9.out).2.1); (case side3 => exact cs (Kd.R_reads' HO128.out).2.2); (case side4 => exact (Kd.R_reads' HO128.out).2.1); rintro e w' ⟨rfl, ⟨nd, rfl⟩⟩; (try first | exact ⟨rfl, _, World.drewN_drewN _ _ _⟩ | exact ⟨rfl, _, Eq.trans (World.drewN_drewN _ _ _) (congrArg (World.drewN _) (Nat.add_assoc _ _ _))⟩)) | (go_at_call 12; (with_reducible refine (cracknellaw04_lives.calls kj44  t130 _ A56.out hr).mono ?_); rintro e w60 ⟨rfl, hb⟩; replace HO_5 := Aside0.mk (Kd.S_below (so HO_5) hb); replace HO_9 := Aside0.mk (Kd.R_below (ro HO_9) hb); replace HO128 := Aside0.mk (Kd.R_below (ro HO128) hb); replace BK101 := kb BK101 hb; replace HB := bz hb; (try clear hb))); try go_wp2_with (first | (go_at_call 17; (with_reducible refine (cracknelref04_Nest.calls kj44 x7_28 x8_32 _ _ x5_2 t126 _ ?side1 ?side2 A52.out).mono ?_); (case side1 => exact cs (Kd.S_reads' HO_5.out).2.2); (case side2 => exact (Kd.S_reads' HO_5.out).2.1); rintro e w57 ⟨v127, rfl, ho0, hb⟩; have HO128 := Aside0.mk (Kd.R_lower (Kd.R_new' ho0 (Kd.R_lt (ro HO_9))) (below_size bh)); replace HO_5 := Aside0.mk (Kd.S_below (so HO_5) hb); replace HO_9 := Aside0.mk (Kd.R_elder' (ro HO_9) (Kd.R_base ho0) hb); replace BK101 := kb BK101 hb; replace HB := bz hb; (try clear hb); (try clear ho0); obtain ⟨Ao58, co58, eo58⟩ := Kd.R_slice HO_9.out; subst eo58; obtain ⟨Ao59, co59, eo59⟩ := Kd.R_slice HO128.out; subst eo59) | (go_at_call 16; (with_reducible refine (cracknellaw04_placed.calls kj44 _ _ t119 _ _ t126 true _ ?side1 ?side2 ?side3 ?side4 A53.out).mono ?_); (case side1 => exact cs (Kd.R_reads' HO_9.out).2.2); (case side2 => exact (Kd.R_reads' HO_9.out).2.1); (case side3 => exact cs (Kd.R_reads' HO128.out).2.2); (case side4 => exact (Kd.R_reads' HO128.out).2.1); rintro e w' ⟨rfl, ⟨nd, rfl⟩⟩; (try first | exact ⟨rfl, _, World.drewN_drewN _ _ _⟩ | exact ⟨rfl, _, Eq.trans (World.drewN_drewN _ _ _) (congrArg (World.drewN _) (Nat.add_assoc _ _ _))⟩)) | (go_at_call 12; (with_reducible refine (cracknellaw04_lives.calls kj44  t130 _ A56.out hr).mono ?_); rintro e w60 ⟨rfl, hb⟩; replace HO_5 := Aside0.mk (Kd.S_below (so HO_5) hb); replace HO_9 := Aside0.mk (Kd.R_below (ro HO_9) hb); replace HO128 := Aside0.mk (Kd.R_below (ro HO128) hb); replace BK101 := kb BK101 hb; replace HB := bz hb; (try clear hb))))
                    go_ret
                    exact ⟨by exact er, bh⟩
                   ·rw [if_neg c55] at H
                    have c55b0 : (t120 == 0) = false := beq_eq_false_iff_ne.mpr c55
                    have c55b1 : (t120 != 0) = true := bne_iff_ne.mpr c55
                    obtain rfl := Option.some.inj H
                    cases hr
                  ·replace c54 := Bool.eq_false_iff.mpr c54
                   subst c54
                   rw [if_neg (show ¬ (false = true) by decide)] at H
                   obtain rfl := Option.some.inj H
                   cases hr
                 ·rw [if_neg c51] at H
                  have c51b0 : (x11_44 == 0) = false := beq_eq_false_iff_ne.mpr c51
                  have c51b1 : (x11_44 != 0) = true := bne_iff_ne.mpr c51
                  by_cases c67 : (t119.length : Int) = 0
                  ·rw [if_pos c67] at H
                   have c67b0 : ((t119.length : Int) == 0) = true := beq_iff_eq.mpr c67
                   have c67b1 : ((t119.length : Int) != 0) = false := bne_eq_false_iff_eq.mpr c67
                   clear c67
                   by_cases c68 : t120 = x11_44
                   ·rw [if_pos c68] at H
                    have c68b0 : (t120 == x11_44) = true := beq_iff_eq.mpr c68
                    have c68b1 : (t120 != x11_44) = false := bne_eq_false_iff_eq.mpr c68
                    clear c68
                    replace H := Option.bind_eq_some_iff.mp H
                    obtain ⟨t125, A690, H⟩ := H
                    try dsimp only at H
                    have A69 := Aside0.mk A690
                    clear A690
                    obtain rfl := Option.some.inj H
                    obtain ⟨Ao70, co70, eo70⟩ := Kd.R_slice HO_9.out
                    subst eo70
                    go_wp2_with (first | (go_at_call 12; (with_reducible refine (cracknellaw04_lives.calls kj44  t125 _ A69.out hr).mono ?_); rintro e w71 ⟨rfl, hb⟩; replace HO_5 := Aside0.mk (Kd.S_below (so HO_5) hb); replace HO_9 := Aside0.mk (Kd.R_below (ro HO_9) hb); replace BK101 := kb BK101 hb; replace HB := bz hb; (try clear hb)))
                    repeat (go_quiet (first | (go_at_call 12; (with_reducible refine (cracknellaw04_lives.calls kj44  t125 _ A69.out hr).mono ?_); rintro e w71 ⟨rfl, hb⟩; replace HO_5 := Aside0.mk (Kd.S_below (so HO_5) hb); replace HO_9 := Aside0.mk (Kd.R_below (ro HO_9) hb); replace BK101 := kb BK101 hb; replace HB := bz hb; (try clear hb))); try go_wp2_with (first | (go_at_call 12; (with_reducible refine (cracknellaw04_lives.calls kj44  t125 _ A69.out hr).mono ?_); rintro e w71 ⟨rfl, hb⟩; replace HO_5 := Aside0.mk (Kd.S_below (so HO_5) hb); replace HO_9 := Aside0.mk (Kd.R_below (ro HO_9) hb); replace BK101 := kb BK101 hb; replace HB := bz hb; (try clear hb))))
                    go_ret
                    exact ⟨by exact er, bh⟩
                   ·rw [if_neg c68] at H
                    have c68b0 : (t120 == x11_44) = false := beq_eq_false_iff_ne.mpr c68
                    have c68b1 : (t120 != x11_44) = true := bne_iff_ne.mpr c68
                    obtain rfl := Option.some.inj H
                    cases hr
                  ·rw [if_neg c67] at H
                   have c67b0 : ((t119.length : Int) == 0) = false := beq_eq_false_iff_ne.mpr c67
                   have c67b1 : ((t119.length : Int) != 0) = true := bne_iff_ne.mpr c67
                   have c67b2 : ¬ (t119 = []) := fun h_ => c67 (by rw [h_]; rfl)
                   obtain rfl := Option.some.inj H
                   cases hr
end Go.Proofs.Ythehmkpcddafnaa.PG
end
section
namespace Go.Proofs.Ythehmkpcddafnaa.M
open Go.Proofs.Ythehmkpcddafnaa.PG
abbrev Pt := S41
instance decS29 : DecidableEq S41 := fun a b => if h : a.f0 = b.f0 ∧ a.f1 = b.f1 then isTrue (by cases a; cases b; simp_all) else isFalse (by intro e; exact h (by rw [e]; exact ⟨rfl, rfl⟩))
def cr (a b c : Pt) : Int := (b.f0-a.f0)*(c.f1-a.f1) - (c.f0-a.f0)*(b.f1-a.f1)
def btw (a b p : Pt) : Prop := min a.f0 b.f0 ≤ p.f0 ∧ p.f0 ≤ max a.f0 b.f0 ∧ min a.f1 b.f1 ≤ p.f1 ∧ p.f1 ≤ max a.f1 b.f1
theorem pt_ext {a b : Pt} (h0 : a.f0 = b.f0) (h1 : a.f1 = b.f1) : a = b := by
 cases a; cases b; simp_all
theorem cr_swap (a b c : Pt) : cr a c b = -(cr a b c) := by unfold cr; grind
theorem cr_rot (a b c : Pt) : cr b c a = cr a b c := by unfold cr; grind
theorem cr_self1 (a b : Pt) : cr a b a = 0 := by unfold cr; grind
theorem cr_self2 (a b : Pt) : cr a b b = 0 := by unfold cr; grind
def HE (S : List Pt) (a b : Pt) : Prop := a ≠ b ∧ a ∈ S ∧ b ∈ S ∧ ∀ p ∈ S, 0 ≤ cr a b p ∧ (cr a b p = 0 → btw a b p)
theorem btw_eq {a b c : Pt} (h1 : btw a b c) (h2 : btw a c b) : b = c := by
 unfold btw at h1 h2
 apply pt_ext <;> omega
theorem btw_eq' {a b c : Pt} (h1 : btw a c b) (h2 : btw b c a) : a = b := by
 unfold btw at h1 h2
 apply pt_ext <;> omega
theorem he_pred {S : List Pt} {a b c : Pt} (h1 : HE S a c) (h2 : HE S b c) : a = b := by
 obtain ⟨_, ha, _, hA⟩ := h1
 obtain ⟨_, hb, _, hB⟩ := h2
 have h3 := hA b hb
 have h4 := hB a ha
 have h5 : cr b c a = -(cr a c b) := by unfold cr; grind
 exact btw_eq' (h3.2 (by omega)) (h4.2 (by omega))
def fn (p q : Int) (a b : Pt) : Int := p * (b.f0 - a.f0) + q * (b.f1 - a.f1)
theorem pos_of_mul {a b : Int} (ha : 0 < a) (h : 0 < a * b) : 0 < b := by
 rcases Int.lt_trichotomy b 0 with h1 | h1 | h1
 ·have := Int.mul_neg_of_pos_of_neg ha h1; omega
 ·subst h1; simp at h
 ·exact h1
theorem nonneg_of_mul {a b : Int} (ha : 0 < a) (h : 0 ≤ a * b) : 0 ≤ b := by
 rcases Int.lt_trichotomy b 0 with h1 | h1 | h1
 ·have := Int.mul_neg_of_pos_of_neg ha h1; omega
 ·omega
 ·omega
theorem tr {p q : Int} {o u v w : Pt} (hu : 0 < fn p q o u) (hv : 0 < fn p q o v) (hw : 0 < fn p q o w)
  (h1 : 0 ≤ cr o u v) (h2 : 0 ≤ cr o v w) : 0 ≤ cr o u w ∧ (0 < cr o u v ∨ 0 < cr o v w → 0 < cr o u w) := by
 have e : fn p q o v * cr o u w = fn p q o u * cr o v w + fn p q o w * cr o u v := by unfold fn cr; grind
 have a1 := Int.mul_nonneg (Int.le_of_lt hu) h2
 have a2 := Int.mul_nonneg (Int.le_of_lt hw) h1
 constructor
 ·exact nonneg_of_mul hv (by omega)
 ·intro h
  apply pos_of_mul hv
  rcases h with h | h
  ·have := Int.mul_pos hw h; omega
  ·have := Int.mul_pos hu h; omega
theorem le_of_mul_le {a b c : Int} (ha : 0 < a) (h : a * b ≤ a * c) : b ≤ c := Int.le_of_mul_le_mul_left h ha
theorem btw_of_fn {p q : Int} {a b c : Pt} (hb : 0 < fn p q a b) (h0 : 0 ≤ fn p q a c) (h1 : fn p q a c ≤ fn p q a b) (h : cr a b c = 0) : btw a b c := by
 have e0 : fn p q a b * (c.f0 - a.f0) = fn p q a c * (b.f0 - a.f0) := by unfold fn; unfold cr at h; grind
 have e1 : fn p q a b * (c.f1 - a.f1) = fn p q a c * (b.f1 - a.f1) := by unfold fn; unfold cr at h; grind
 have key : ∀ x y : Int, fn p q a b * x = fn p q a c * y → (0 ≤ y → 0 ≤ x ∧ x ≤ y) ∧ (y ≤ 0 → y ≤ x ∧ x ≤ 0) := by
  intro x y e
  constructor
  ·intro hy
   have m1 := Int.mul_nonneg h0 hy
   have m2 := Int.mul_le_mul_of_nonneg_right h1 hy
   exact ⟨nonneg_of_mul hb (by omega), le_of_mul_le hb (by omega)⟩
  ·intro hy
   have m1 := Int.mul_nonneg h0 (show 0 ≤ -y by omega)
   have m2 := Int.mul_le_mul_of_nonneg_right h1 (show 0 ≤ -y by omega)
   rw [Int.mul_neg] at m1 m2
   rw [Int.mul_neg] at m2
   exact ⟨le_of_mul_le hb (by omega), le_of_mul_le hb (by omega)⟩
 have k0 := key _ _ e0
 have k1 := key _ _ e1
 unfold btw
 omega
theorem fn_add (p q : Int) (a b c : Pt) : fn p q a c = fn p q a b + fn p q b c := by unfold fn; grind
theorem fn_neg (p q : Int) (a b : Pt) : fn p q b a = - fn p q a b := by unfold fn; grind
theorem fn_btw_le {p q : Int} {a b c : Pt} (h : btw a b c) (hc : cr a b c = 0) (hb : 0 < fn p q a b) : 0 ≤ fn p q a c ∧ fn p q a c ≤ fn p q a b := by
 unfold btw at h
 have e0 : fn p q a b * (c.f0 - a.f0) = fn p q a c * (b.f0 - a.f0) := by unfold fn; unfold cr at hc; grind
 have e1 : fn p q a b * (c.f1 - a.f1) = fn p q a c * (b.f1 - a.f1) := by unfold fn; unfold cr at hc; grind
 have hne : b.f0 - a.f0 ≠ 0 ∨ b.f1 - a.f1 ≠ 0 := by
  rcases Int.decEq (b.f0 - a.f0) 0 with h | h
  ·exact .inl h
  ·rcases Int.decEq (b.f1 - a.f1) 0 with h' | h'
   ·exact .inr h'
   ·unfold fn at hb; rw [h, h'] at hb; simp at hb
 have key : ∀ x y : Int, fn p q a b * x = fn p q a c * y → y ≠ 0 → (0 ≤ y → 0 ≤ x ∧ x ≤ y) → (y ≤ 0 → y ≤ x ∧ x ≤ 0) → 0 ≤ fn p q a c ∧ fn p q a c ≤ fn p q a b := by
  intro x y e hy h1 h2
  rcases Int.lt_trichotomy y 0 with h3 | h3 | h3
  ·have h4 := h2 (by omega)
   have m1 := Int.mul_nonneg (Int.le_of_lt hb) (show 0 ≤ -x by omega)
   have m2 := Int.mul_nonneg (Int.le_of_lt hb) (show 0 ≤ x - y by omega)
   rw [Int.mul_neg] at m1
   rw [Int.mul_sub] at m2
   constructor
   ·apply nonneg_of_mul (show 0 < -y by omega)
    rw [Int.neg_mul, Int.mul_comm]; omega
   ·apply le_of_mul_le (show 0 < -y by omega)
    rw [Int.neg_mul, Int.neg_mul, Int.mul_comm y, Int.mul_comm y]; omega
  ·exact absurd h3 hy
  ·have h4 := h1 (by omega)
   have m1 := Int.mul_nonneg (Int.le_of_lt hb) (show 0 ≤ x by omega)
   have m2 := Int.mul_nonneg (Int.le_of_lt hb) (show 0 ≤ y - x by omega)
   rw [Int.mul_sub] at m2
   constructor
   ·apply nonneg_of_mul h3
    rw [Int.mul_comm]; omega
   ·apply le_of_mul_le h3
    rw [Int.mul_comm y, Int.mul_comm y]; omega
 rcases hne with h' | h'
 ·exact key _ _ e0 h' (by omega) (by omega)
 ·exact key _ _ e1 h' (by omega) (by omega)
def Pairs (R : Pt → Pt → Prop) : List Pt → Prop
 | [] => True
 | [_] => True
 | a :: b :: l => R a b ∧ Pairs R (b :: l)
theorem Pairs.append {R : Pt → Pt → Prop} {m : Pt} : ∀ (l l' : List Pt), Pairs R (l ++ [m]) → Pairs R (m :: l') → Pairs R (l ++ m :: l')
 | [], _, _, h => h
 | [_], _, ⟨h1, _⟩, h => ⟨h1, h⟩
 | _ :: b :: l, l', ⟨h1, h2⟩, h => ⟨h1, Pairs.append (b :: l) l' h2 h⟩
theorem Pairs.tail {R : Pt → Pt → Prop} {a : Pt} {l : List Pt} (h : Pairs R (a :: l)) : Pairs R l := by
 cases l with
 | nil => trivial
 | cons b l => exact h.2
theorem Pairs.right {R : Pt → Pt → Prop} : ∀ (l l' : List Pt), Pairs R (l ++ l') → Pairs R l'
 | [], _, h => h
 | _ :: l, l', h => Pairs.right l l' h.tail
theorem Pairs.at_ {R : Pt → Pt → Prop} {a b : Pt} {l l' : List Pt} (h : Pairs R (l ++ a :: b :: l')) : R a b := (Pairs.right l _ h).1
def Ring (S : List Pt) (h : List Pt) : Prop := ∃ a t, h = a :: t ∧ a ∉ t ∧ Pairs (HE S) (a :: (t ++ [a]))
instance (a b c : Pt) : Decidable (btw a b c) := by unfold btw; infer_instance
def wrapStep (o tq p : Pt) : Pt := if p = o then tq else if tq = o ∨ cr o tq p < 0 ∨ (cr o tq p = 0 ∧ cr o p tq = 0 ∧ btw o p tq) then p else tq
def wrap (S : List Pt) (o : Pt) : Pt := S.foldl (wrapStep o) o
def Found (T : List Pt) (o tq : Pt) : Prop := (tq = o ∧ ∀ t ∈ T, t = o) ∨ (tq ≠ o ∧ tq ∈ T ∧ ∀ t ∈ T, 0 ≤ cr o tq t ∧ (cr o tq t = 0 → btw o tq t))
theorem btw_end (o a : Pt) : btw o a a := by unfold btw; omega
theorem btw_start (o a : Pt) : btw o a o := by unfold btw; omega
theorem step_ok {p q : Int} {T : List Pt} {o tq x : Pt} (hT : ∀ t ∈ T ++ [x], t = o ∨ 0 < fn p q o t) (h : Found T o tq) : Found (T ++ [x]) o (wrapStep o tq x) := by
 unfold wrapStep
 split
 ·rename_i hx
  subst hx
  rcases h with ⟨rfl, h⟩ | ⟨h1, h2, h3⟩
  ·exact .inl ⟨rfl, by intro t ht; rcases List.mem_append.mp ht with ht | ht; exact h t ht; simpa using ht⟩
  ·refine .inr ⟨h1, by simp [h2], ?_⟩
   intro t ht
   rcases List.mem_append.mp ht with ht | ht
   ·exact h3 t ht
   ·simp at ht; subst ht; rw [cr_self1]; exact ⟨by omega, fun _ => btw_start _ _⟩
 ·rename_i hx
  have fx : 0 < fn p q o x := (hT x (by simp)).resolve_left hx
  rcases h with ⟨rfl, h⟩ | ⟨h1, h2, h3⟩
  ·rw [if_pos (.inl rfl)]
   refine .inr ⟨hx, by simp, ?_⟩
   intro t ht
   rcases List.mem_append.mp ht with ht | ht
   ·rw [h t ht, cr_self1]; exact ⟨by omega, fun _ => btw_start _ _⟩
   ·simp at ht; subst ht; rw [cr_self2]; exact ⟨by omega, fun _ => btw_end _ _⟩
  ·have ft : 0 < fn p q o tq := (hT tq (by simp [h2])).resolve_left h1
   split
   ·rename_i hc
    refine .inr ⟨hx, by simp, ?_⟩
    have h0 : 0 ≤ cr o x tq ∧ (cr o x tq = 0 → btw o x tq) := by
     rcases hc with hc | hc | hc
     ·exact absurd hc h1
     ·have := cr_swap o tq x; exact ⟨by omega, fun h => by omega⟩
     ·exact ⟨by omega, fun _ => hc.2.2⟩
    intro t ht
    rcases List.mem_append.mp ht with ht | ht
    ·rcases hT t (by simp [ht]) with rfl | hf
     ·rw [cr_self1]; exact ⟨by omega, fun _ => btw_start _ _⟩
     ·have := tr fx ft hf h0.1 (h3 t ht).1
      refine ⟨this.1, fun hz => ?_⟩
      have z1 : cr o x tq = 0 := by
       rcases Int.lt_trichotomy 0 (cr o x tq) with h5 | h5 | h5
       ·have := this.2 (.inl h5); omega
       ·exact h5.symm
       ·omega
      have z2 : cr o tq t = 0 := by
       rcases Int.lt_trichotomy 0 (cr o tq t) with h5 | h5 | h5
       ·have := this.2 (.inr h5); omega
       ·exact h5.symm
       ·have := (h3 t ht).1; omega
      have b1 := fn_btw_le (h0.2 z1) z1 fx
      have b2 := fn_btw_le ((h3 t ht).2 z2) z2 ft
      exact btw_of_fn fx b2.1 (by omega) hz
    ·simp at ht; subst ht; rw [cr_self2]; exact ⟨by omega, fun _ => btw_end _ _⟩
   ·rename_i hc
    refine .inr ⟨h1, by simp [h2], ?_⟩
    intro t ht
    rcases List.mem_append.mp ht with ht | ht
    ·exact h3 t ht
    ·simp at ht; subst ht
     have n1 : ¬ cr o tq t < 0 := fun h => hc (.inr (.inl h))
     refine ⟨by omega, fun hz => ?_⟩
     have n2 : ¬ btw o t tq := fun h => hc (.inr (.inr ⟨hz, by rw [cr_swap]; omega, h⟩))
     have hz' : cr o t tq = 0 := by rw [cr_swap]; omega
     by_cases hle : fn p q o t ≤ fn p q o tq
     ·exact btw_of_fn ft (Int.le_of_lt fx) hle hz
     ·exact absurd (btw_of_fn fx (Int.le_of_lt ft) (by omega) hz') n2
theorem wrap_ok {p q : Int} {S : List Pt} {o : Pt} (ho : o ∈ S) (hS : ∀ t ∈ S, t = o ∨ 0 < fn p q o t) (h2 : ∃ t ∈ S, t ≠ o) : HE S o (wrap S o) := by
 have H : ∀ (R T : List Pt) (tq : Pt), T ++ R = S → Found T o tq → Found S o (R.foldl (wrapStep o) tq) := by
  intro R
  induction R with
  | nil => intro T tq e h; rw [← e, List.append_nil]; exact h
  | cons x R ih =>
   intro T tq e h
   rw [List.foldl_cons]
   apply ih (T ++ [x]) _ (by rw [← e]; simp)
   apply step_ok (p := p) (q := q) _ h
   intro t ht
   apply hS
   rw [← e]
   rcases List.mem_append.mp ht with ht | ht
   ·simp [ht]
   ·simp at ht; simp [ht]
 have := H S [] o rfl (.inl ⟨rfl, by simp⟩)
 unfold wrap
 rcases this with ⟨_, h3⟩ | ⟨h3, h4, h5⟩
 ·obtain ⟨t, ht, hn⟩ := h2
  exact absurd (h3 t ht) hn
 ·exact ⟨fun e => h3 e.symm, ho, h4, h5⟩
def Corner (S : List Pt) (o : Pt) : Prop := ∃ p q, ∀ t ∈ S, t = o ∨ 0 < fn p q o t
theorem bounded (f : Pt → Int) : ∀ S : List Pt, ∃ B, ∀ t ∈ S, f t < B
 | [] => ⟨0, by simp⟩
 | a :: S => by
  obtain ⟨B, hB⟩ := bounded f S
  refine ⟨max B (f a + 1), ?_⟩
  intro t ht
  rcases List.mem_cons.mp ht with rfl | ht
  ·omega
  ·have := hB t ht; omega
theorem corner_of_he {S : List Pt} {a b : Pt} (h : HE S a b) : Corner S b := by
 obtain ⟨hab, ha, hb, hS⟩ := h
 let g : Pt → Int := fun t => (b.f0 - a.f0) * (t.f0 - b.f0) + (b.f1 - a.f1) * (t.f1 - b.f1)
 obtain ⟨B, hB⟩ := bounded g S
 have hB0 : 0 < B := by have := hB b hb; simp [g] at this; exact this
 refine ⟨B * -(b.f1 - a.f1) - (b.f0 - a.f0), B * (b.f0 - a.f0) - (b.f1 - a.f1), ?_⟩
 intro t ht
 by_cases e : t = b
 ·exact .inl e
 ·right
  have e1 : fn (B * -(b.f1 - a.f1) - (b.f0 - a.f0)) (B * (b.f0 - a.f0) - (b.f1 - a.f1)) b t = B * cr a b t - g t := by simp only [g, fn, cr]; grind
  rw [e1]
  have h1 := hS t ht
  have h2 := hB t ht
  rcases Int.lt_trichotomy 0 (cr a b t) with h3 | h3 | h3
  ·have := Int.mul_le_mul_of_nonneg_left (show 1 ≤ cr a b t by omega) (Int.le_of_lt hB0)
   omega
  ·rw [← h3]
   have hbt := h1.2 h3.symm
   have hc : cr a b t = 0 := h3.symm
   have : g t < 0 := by
    have k0 : (b.f0 - a.f0) * (t.f0 - b.f0) ≤ 0 := by
     unfold btw at hbt
     rcases Int.le_total a.f0 b.f0 with h5 | h5
     ·have := Int.mul_nonneg (show 0 ≤ b.f0 - a.f0 by omega) (show 0 ≤ b.f0 - t.f0 by omega); grind
     ·have := Int.mul_nonneg (show 0 ≤ a.f0 - b.f0 by omega) (show 0 ≤ t.f0 - b.f0 by omega); grind
    have k1 : (b.f1 - a.f1) * (t.f1 - b.f1) ≤ 0 := by
     unfold btw at hbt
     rcases Int.le_total a.f1 b.f1 with h5 | h5
     ·have := Int.mul_nonneg (show 0 ≤ b.f1 - a.f1 by omega) (show 0 ≤ b.f1 - t.f1 by omega); grind
     ·have := Int.mul_nonneg (show 0 ≤ a.f1 - b.f1 by omega) (show 0 ≤ t.f1 - b.f1 by omega); grind
    rcases Int.lt_trichotomy (g t) 0 with h5 | h5 | h5
    ·exact h5
    ·exfalso
     simp only [g] at h5
     have z0 : (b.f0 - a.f0) * (t.f0 - b.f0) = 0 := by omega
     have z1 : (b.f1 - a.f1) * (t.f1 - b.f1) = 0 := by omega
     have z2 : (b.f0 - a.f0) * (t.f1 - b.f1) = (b.f1 - a.f1) * (t.f0 - b.f0) := by unfold cr at hc; grind
     have hne : b.f0 - a.f0 ≠ 0 ∨ b.f1 - a.f1 ≠ 0 := by
      rcases Int.decEq (b.f0 - a.f0) 0 with y | y
      ·exact .inl y
      ·exact .inr fun y1 => hab (pt_ext (by omega) (by omega))
     have fin : t.f0 - b.f0 = 0 ∧ t.f1 - b.f1 = 0 := by
      rcases hne with y | y
      ·have w0 := (Int.mul_eq_zero.mp z0).resolve_left y
       rw [w0, Int.mul_zero] at z2
       exact ⟨w0, (Int.mul_eq_zero.mp z2).resolve_left y⟩
      ·have w0 := (Int.mul_eq_zero.mp z1).resolve_left y
       rw [w0, Int.mul_zero] at z2
       exact ⟨(Int.mul_eq_zero.mp z2.symm).resolve_left y, w0⟩
     exact e (pt_ext (by omega) (by omega))
    ·simp only [g] at h5; omega
   omega
  ·omega
def first (a b : Pt) : Prop := a.f1 < b.f1 ∨ (a.f1 = b.f1 ∧ a.f0 < b.f0)
instance (a b : Pt) : Decidable (first a b) := by unfold first; infer_instance
theorem corner_of_first {S : List Pt} {o : Pt} (h : ∀ t ∈ S, t = o ∨ first o t) : Corner S o := by
 obtain ⟨B, hB⟩ := bounded (fun t => o.f0 - t.f0) S
 refine ⟨1, max B 1, ?_⟩
 intro t ht
 rcases h t ht with h1 | h1
 ·exact .inl h1
 ·right
  have h2 := hB t ht
  unfold fn
  rcases h1 with h1 | h1
  ·have := Int.mul_le_mul_of_nonneg_left (show 1 ≤ t.f1 - o.f1 by omega) (show 0 ≤ max B 1 by omega)
   omega
  ·rw [show t.f1 - o.f1 = 0 by omega]; omega
def around (S : List Pt) : Nat → Pt → List Pt
 | 0, o => [o]
 | n + 1, o => o :: around S n (wrap S o)
theorem length_le_of_nodup {l S : List Pt} (hn : l.Nodup) (h : ∀ a ∈ l, a ∈ S) : l.length ≤ S.length := by
 induction l generalizing S with
 | nil => simp
 | cons a l ih =>
  have ha := h a (by simp)
  have h2 : ∀ b ∈ l, b ∈ S.erase a := by
   intro b hb
   have hne : b ≠ a := by rintro rfl; exact (List.nodup_cons.mp hn).1 hb
   exact (List.mem_erase_of_ne hne).2 (h b (by simp [hb]))
  have := ih (List.nodup_cons.mp hn).2 h2
  have hl := List.length_erase_of_mem ha
  have : 0 < S.length := List.length_pos_of_mem ha
  simp only [List.length_cons]; omega
theorem ring_around {S : List Pt} {o : Pt} (ho : o ∈ S) (hmin : ∀ t ∈ S, t = o ∨ first o t) (h2 : ∃ a b, a ∈ S ∧ b ∈ S ∧ a ≠ b) :
  ∃ n, n < S.length ∧ Ring S (around S n o) ∧ (∃ x, (around S n o).getLast? = some x ∧ wrap S x = o) ∧ (∀ m, m < n → ∃ x, (around S m o).getLast? = some x ∧ wrap S x ≠ o) := by
 have other : ∀ x ∈ S, ∃ t ∈ S, t ≠ x := by
  intro x _
  obtain ⟨a, b, ha, hb, hab⟩ := h2
  by_cases e : a = x
  ·exact ⟨b, hb, fun e' => hab (e.trans e'.symm)⟩
  ·exact ⟨a, ha, e⟩
 have step : ∀ x, x ∈ S → Corner S x → HE S x (wrap S x) := by
  intro x hx hc
  obtain ⟨p, q, h⟩ := hc
  exact wrap_ok hx h (other x hx)
 have snoc : ∀ n x, ∃ y, (around S n x).getLast? = some y ∧ around S (n + 1) x = around S n x ++ [wrap S y] := by
  intro n
  induction n with
  | zero => intro x; exact ⟨x, rfl, rfl⟩
  | succ n ih =>
   intro x
   obtain ⟨y, h1, h2⟩ := ih (wrap S x)
   refine ⟨y, ?_, ?_⟩
   ·rw [around, List.getLast?_cons, h1]; rfl
   ·rw [around, h2]; rfl
 have pairs : ∀ n x, x ∈ S → Corner S x → Pairs (HE S) (around S n x) ∧ (∀ y ∈ around S n x, y ∈ S ∧ Corner S y) := by
  intro n
  induction n with
  | zero => intro x hx hc; exact ⟨trivial, by intro y hy; simp [around] at hy; subst hy; exact ⟨hx, hc⟩⟩
  | succ n ih =>
   intro x hx hc
   have he := step x hx hc
   obtain ⟨h1, h2⟩ := ih (wrap S x) he.2.2.1 (corner_of_he he)
   refine ⟨?_, ?_⟩
   ·cases n with
    | zero => exact ⟨he, trivial⟩
    | succ n => exact ⟨he, h1⟩
   ·intro y hy
    rw [around] at hy
    rcases List.mem_cons.mp hy with rfl | hy
    ·exact ⟨hx, hc⟩
    ·exact h2 y hy
 have hco := corner_of_first hmin
 have nodup : ∀ n, (∀ m, m < n → ∃ x, (around S m o).getLast? = some x ∧ wrap S x ≠ o) → (around S n o).Nodup ∧ o ∉ (around S n o).tail := by
  intro n
  induction n with
  | zero => intro _; simp [around]
  | succ n ih =>
   intro h
   obtain ⟨h1, h2⟩ := ih (fun m hm => h m (by omega))
   obtain ⟨y, e1, e2⟩ := snoc n o
   obtain ⟨y', e1', hn⟩ := h n (by omega)
   obtain rfl : y = y' := by rw [e1] at e1'; simpa using e1'
   have hy : y ∈ around S n o := List.mem_of_getLast? e1
   have hP := (pairs n o ho hco).1
   have hS := (pairs n o ho hco).2 y hy
   have hey := step y hS.1 hS.2
   rw [e2]
   obtain ⟨t, et⟩ : ∃ t, around S n o = o :: t := by cases n <;> exact ⟨_, rfl⟩
   rw [et] at h1 h2 e1 hy hP ⊢
   have hnot : wrap S y ∉ o :: t := by
    intro hm
    rcases List.mem_cons.mp hm with hm | hm
    ·exact hn hm
    ·-- it has one before it, which is y: but y is the last
     obtain ⟨l1, l2, el⟩ := List.append_of_mem hm
     have el' : o :: t = (o :: l1) ++ wrap S y :: l2 := by rw [el]; rfl
     obtain ⟨l0, z, ez⟩ : ∃ l0 z, o :: l1 = l0 ++ [z] := ⟨(o :: l1).dropLast, (o :: l1).getLast (by simp), (List.dropLast_concat_getLast (by simp)).symm⟩
     rw [el', ez, List.append_assoc] at hP
     have hz : HE S z (wrap S y) := Pairs.at_ hP
     have hzy := he_pred hz hey
     subst hzy
     rw [el', ez] at h1 e1
     rw [List.nodup_append] at h1
     have e3 : (wrap S z :: l2).getLast? = some z := by
      rw [List.getLast?_append, List.getLast?_eq_some_getLast (by simp : wrap S z :: l2 ≠ []), Option.some_or] at e1
      rw [List.getLast?_eq_some_getLast (by simp : wrap S z :: l2 ≠ [])]
      exact e1
     exact h1.2.2 z (by simp) z (List.mem_of_getLast? e3) rfl
   refine ⟨?_, ?_⟩
   ·rw [List.nodup_append]
    refine ⟨h1, by simp, ?_⟩
    intro a ha b hb e
    simp at hb
    subst hb; subst e
    exact hnot ha
   ·simp only [List.cons_append, List.tail_cons] at h2 ⊢
    intro hm
    rcases List.mem_append.mp hm with hm | hm
    ·exact h2 hm
    ·simp at hm; exact hn hm.symm
 have len : ∀ n x, (around S n x).length = n + 1 := by
  intro n
  induction n with
  | zero => intro x; rfl
  | succ n ih => intro x; simp [around, ih]
 have ex : ∃ n, n < S.length ∧ (∃ x, (around S n o).getLast? = some x ∧ wrap S x = o) ∧ (∀ m, m < n → ∃ x, (around S m o).getLast? = some x ∧ wrap S x ≠ o) := by
  apply Classical.byContradiction
  intro hno
  have all : ∀ n, n ≤ S.length → ∀ m, m < n → ∃ x, (around S m o).getLast? = some x ∧ wrap S x ≠ o := by
   intro n
   induction n with
   | zero => intro _ m hm; omega
   | succ n ih =>
    intro hn m hm
    have hb := ih (by omega)
    by_cases e : m < n
    ·exact hb m e
    ·obtain rfl : m = n := by omega
     obtain ⟨y, e1, _⟩ := snoc m o
     by_cases hw : wrap S y = o
     ·exact absurd ⟨m, by omega, ⟨y, e1, hw⟩, hb⟩ hno
     ·exact ⟨y, e1, hw⟩
  have h1 := (nodup S.length (all _ (Nat.le_refl _))).1
  have := length_le_of_nodup h1 (fun a ha => ((pairs S.length o ho hco).2 a ha).1)
  rw [len] at this
  omega
 obtain ⟨n, hn, ⟨x, e1, hw⟩, hm⟩ := ex
 refine ⟨n, hn, ?_, ⟨x, e1, hw⟩, hm⟩
 obtain ⟨h1, h2⟩ := nodup n hm
 obtain ⟨t, et⟩ : ∃ t, around S n o = o :: t := by cases n <;> exact ⟨_, rfl⟩
 have hP := (pairs n o ho hco).1
 have hx := (pairs n o ho hco).2 x (List.mem_of_getLast? e1)
 have he := step x hx.1 hx.2
 rw [hw] at he
 rw [et] at h2 e1 hP ⊢
 refine ⟨o, t, rfl, h2, ?_⟩
 obtain ⟨l0, z, ez⟩ : ∃ l0 z, o :: t = l0 ++ [z] := ⟨(o :: t).dropLast, (o :: t).getLast (by simp), (List.dropLast_concat_getLast (by simp)).symm⟩
 have : z = x := by rw [ez, List.getLast?_concat] at e1; simpa using e1
 subst this
 rw [← List.cons_append, ez, List.append_assoc]
 rw [ez] at hP
 exact Pairs.append l0 [o] hP ⟨he, trivial⟩
def at_ (h : List Pt) (i : Nat) : Pt := h.getD i ⟨0, 0⟩
theorem at_eq {h : List Pt} {i : Nat} (hi : i < h.length) : at_ h i = h[i] := by
 unfold at_; rw [List.getD_eq_getElem?_getD, List.getElem?_eq_getElem hi]; rfl
theorem at_mem {h : List Pt} {i : Nat} (hi : i < h.length) : at_ h i ∈ h := by
 rw [at_eq hi]; exact List.getElem_mem hi
theorem pairs_at {R : Pt → Pt → Prop} : ∀ (l : List Pt), Pairs R l → ∀ i, i + 1 < l.length → R (at_ l i) (at_ l (i + 1))
 | a :: b :: l, h, 0, _ => h.1
 | a :: b :: l, h, i + 1, hi => pairs_at (b :: l) h.2 i (by simpa using hi)
 | [_], _, _, hi => by simp at hi
 | [], _, _, hi => by simp at hi
theorem ring_at {S h : List Pt} (r : Ring S h) : ∀ i, i < h.length → HE S (at_ h i) (at_ h ((i + 1) % h.length)) := by
 obtain ⟨a, t, rfl, _, hp⟩ := r
 intro i hi
 have h1 := pairs_at _ hp i (by simpa using hi)
 have e1 : at_ (a :: (t ++ [a])) i = at_ (a :: t) i := by
  unfold at_; rw [List.getD_eq_getElem?_getD, List.getD_eq_getElem?_getD, ← List.cons_append, List.getElem?_append_left hi]
 have e2 : at_ (a :: (t ++ [a])) (i + 1) = at_ (a :: t) ((i + 1) % (a :: t).length) := by
  by_cases e : i + 1 = (a :: t).length
  ·rw [e, Nat.mod_self]; unfold at_; rw [List.getD_eq_getElem?_getD, ← List.cons_append, List.getElem?_append_right (by simp)]; simp
  ·have : i + 1 < (a :: t).length := by omega
   rw [Nat.mod_eq_of_lt this]
   unfold at_; rw [List.getD_eq_getElem?_getD, List.getD_eq_getElem?_getD, ← List.cons_append, List.getElem?_append_left this]
 rw [e1, e2] at h1
 exact h1
theorem ring_inj {S h : List Pt} (r : Ring S h) : ∀ i j, i < h.length → j < h.length → at_ h i = at_ h j → i = j := by
 have hr := ring_at r
 have h0 : ∀ j, 0 < j → j < h.length → at_ h 0 ≠ at_ h j := by
  obtain ⟨a, t, rfl, ha, _⟩ := r
  intro j hj hl e
  apply ha
  have : at_ (a :: t) j ∈ t := by
   match j, hj with
   | j + 1, _ => rw [at_eq hl]; simp
  rw [← e] at this
  exact this
 have back : ∀ i j, i < j → j < h.length → at_ h i ≠ at_ h j := by
  intro i
  induction i with
  | zero => exact fun j hj hl => h0 j hj hl
  | succ i ih =>
   intro j hj hl e
   have a1 := hr i (by omega)
   have a2 := hr (j - 1) (by omega)
   rw [Nat.mod_eq_of_lt (by omega)] at a1
   rw [show j - 1 + 1 = j by omega, Nat.mod_eq_of_lt hl, ← e] at a2
   exact ih (j - 1) (by omega) (by omega) (he_pred a1 a2)
 intro i j hi hj e
 rcases Nat.lt_trichotomy i j with h1 | h1 | h1
 ·exact absurd e (back i j h1 hj)
 ·exact h1
 ·exact absurd e.symm (back j i h1 hi)
theorem ring_corner {S h : List Pt} (r : Ring S h) : ∀ i, i < h.length → Corner S (at_ h i) ∧ at_ h i ∈ S := by
 intro i hi
 have hr := ring_at r
 rcases Nat.eq_zero_or_pos i with rfl | h0
 ·have := hr (h.length - 1) (by omega)
  rw [show h.length - 1 + 1 = h.length by omega, Nat.mod_self] at this
  exact ⟨corner_of_he this, this.2.2.1⟩
 ·have := hr (i - 1) (by omega)
  rw [show i - 1 + 1 = i by omega, Nat.mod_eq_of_lt hi] at this
  exact ⟨corner_of_he this, this.2.2.1⟩
theorem corner_not_between {S : List Pt} {v a b : Pt} (hv : Corner S v) (ha : a ∈ S) (hb : b ∈ S) (hab : a ≠ b) (hc : cr a b v = 0) (hbt : btw a b v) : v = a ∨ v = b := by
 obtain ⟨p, q, hF⟩ := hv
 rcases hF a ha with h1 | h1
 ·exact .inl h1.symm
 ·rcases hF b hb with h2 | h2
  ·exact .inr h2.symm
  ·exfalso
   have e0 : (v.f0 - a.f0) * fn p q v b + (b.f0 - v.f0) * fn p q v a = 0 := by unfold fn; unfold cr at hc; grind
   have e1 : (v.f1 - a.f1) * fn p q v b + (b.f1 - v.f1) * fn p q v a = 0 := by unfold fn; unfold cr at hc; grind
   have key : ∀ x y z : Int, (v.f0 = v.f0) → (min x z ≤ y ∧ y ≤ max x z) → (y - x) * fn p q v b + (z - y) * fn p q v a = 0 → x = z := by
    intro x y z _ hb e
    rcases Int.lt_trichotomy x z with h | h | h
    ·have m1 := Int.mul_nonneg (show 0 ≤ y - x by omega) (Int.le_of_lt h2)
     have m2 := Int.mul_nonneg (show 0 ≤ z - y by omega) (Int.le_of_lt h1)
     have k1 : (y - x) * fn p q v b = 0 := by omega
     have k2 : (z - y) * fn p q v a = 0 := by omega
     rcases Int.mul_eq_zero.mp k1 with k | k <;> rcases Int.mul_eq_zero.mp k2 with k' | k' <;> omega
    ·exact h
    ·have m1 := Int.mul_nonneg (show 0 ≤ x - y by omega) (Int.le_of_lt h2)
     have m2 := Int.mul_nonneg (show 0 ≤ y - z by omega) (Int.le_of_lt h1)
     have w1 : (y - x) * fn p q v b = - ((x - y) * fn p q v b) := by rw [← Int.neg_mul]; congr 1; omega
     have w2 : (z - y) * fn p q v a = - ((y - z) * fn p q v a) := by rw [← Int.neg_mul]; congr 1; omega
     have k1 : (y - x) * fn p q v b = 0 := by omega
     have k2 : (z - y) * fn p q v a = 0 := by omega
     rcases Int.mul_eq_zero.mp k1 with k | k <;> rcases Int.mul_eq_zero.mp k2 with k' | k' <;> omega
   unfold btw at hbt
   exact hab (pt_ext (key _ _ _ rfl ⟨hbt.1, hbt.2.1⟩ e0) (key _ _ _ rfl ⟨hbt.2.2.1, hbt.2.2.2⟩ e1))
def Strong (h : List Pt) : Prop :=
 (∀ i, i < h.length → at_ h i ≠ at_ h ((i + 1) % h.length)) ∧
 (∀ i j, i < h.length → j < h.length → at_ h i = at_ h j → i = j) ∧
 ∀ i k, i < h.length → k < h.length → 0 ≤ cr (at_ h i) (at_ h ((i + 1) % h.length)) (at_ h k) ∧
  (cr (at_ h i) (at_ h ((i + 1) % h.length)) (at_ h k) = 0 → k = i ∨ k = (i + 1) % h.length)
theorem ring_strong {S h : List Pt} (r : Ring S h) : Strong h := by
 have hr := ring_at r
 have hi := ring_inj r
 refine ⟨fun i h1 => (hr i h1).1, hi, ?_⟩
 intro i k h1 h2
 have he := hr i h1
 have hk := ring_corner r k h2
 have hn : (i + 1) % h.length < h.length := Nat.mod_lt _ (by omega)
 have := he.2.2.2 _ hk.2
 refine ⟨this.1, fun h0 => ?_⟩
 rcases corner_not_between hk.1 he.2.1 he.2.2.1 he.1 h0 (this.2 h0) with e | e
 ·exact .inl (hi _ _ h2 h1 e)
 ·exact .inr (hi _ _ h2 hn e)
def On (a b p : Pt) : Prop := cr a b p = 0 ∧ btw a b p
instance (a b p : Pt) : Decidable (On a b p) := by unfold On; infer_instance
def Meet (a b c d : Pt) : Prop := On a b c ∨ On a b d ∨ On c d a ∨ On c d b ∨
 (((0 < cr a b c ∧ cr a b d < 0) ∨ (cr a b c < 0 ∧ 0 < cr a b d)) ∧ ((0 < cr c d a ∧ cr c d b < 0) ∨ (cr c d a < 0 ∧ 0 < cr c d b)))
instance (a b c d : Pt) : Decidable (Meet a b c d) := by unfold Meet; infer_instance
def Simple (l : List Pt) : Prop :=
 (∀ i, i < l.length → at_ l i ≠ at_ l ((i + 1) % l.length)) ∧
 ∀ i, i < l.length → ¬ On (at_ l i) (at_ l ((i + 1) % l.length)) (at_ l ((i + 1 + 1) % l.length)) ∧
  ¬ On (at_ l ((i + 1) % l.length)) (at_ l ((i + 1 + 1) % l.length)) (at_ l i) ∧
  ∀ k, i + 2 ≤ k → k < l.length → (k + 1) % l.length ≠ i → ¬ Meet (at_ l i) (at_ l ((i + 1) % l.length)) (at_ l k) (at_ l ((k + 1) % l.length))
def Convex (l : List Pt) : Prop :=
 Simple l ∧ ∀ i, i < l.length → 0 < cr (at_ l i) (at_ l ((i + 1) % l.length)) (at_ l ((i + 1 + 1) % l.length)) ∧ (0 < i → first (at_ l 0) (at_ l i))
theorem mod_two {n i : Nat} (hn : 3 ≤ n) (hi : i < n) : (i + 1 + 1) % n ≠ i ∧ (i + 1 + 1) % n ≠ (i + 1) % n ∧ (i + 1) % n ≠ i := by
 by_cases h1 : i + 1 + 1 < n
 ·rw [Nat.mod_eq_of_lt h1, Nat.mod_eq_of_lt (by omega : i + 1 < n)]; omega
 ·by_cases h2 : i + 1 < n
  ·rw [Nat.mod_eq_of_lt h2, show i + 1 + 1 = n by omega, Nat.mod_self]; omega
  ·rw [show i + 1 = n by omega, Nat.mod_self, show n + 1 = 1 + n by omega, Nat.add_mod_right, Nat.mod_eq_of_lt (by omega)]; omega
theorem strong_turn {l : List Pt} (hn : 3 ≤ l.length) (h : Strong l) (i : Nat) (hi : i < l.length) : 0 < cr (at_ l i) (at_ l ((i + 1) % l.length)) (at_ l ((i + 1 + 1) % l.length)) := by
 have hm := mod_two hn hi
 have hk : (i + 1 + 1) % l.length < l.length := Nat.mod_lt _ (by omega)
 have := h.2.2 i _ hi hk
 rcases Int.lt_trichotomy 0 (cr (at_ l i) (at_ l ((i + 1) % l.length)) (at_ l ((i + 1 + 1) % l.length))) with h1 | h1 | h1
 ·exact h1
 ·rcases this.2 h1.symm with e | e
  ·exact absurd e hm.1
  ·exact absurd e hm.2.1
 ·omega
def Flat (S : List Pt) : Prop := ∀ a ∈ S, ∀ b ∈ S, ∀ c ∈ S, cr a b c = 0
theorem flat_of_edge {S : List Pt} {a b : Pt} (hab : a ≠ b) (h : ∀ c ∈ S, cr a b c = 0) : Flat S := by
 intro x hx y hy z hz
 have e1 := h x hx
 have e2 := h y hy
 have e3 := h z hz
 have k0 : (b.f0 - a.f0) * cr x y z = 0 := by unfold cr at *; grind
 have k1 : (b.f1 - a.f1) * cr x y z = 0 := by unfold cr at *; grind
 rcases Int.mul_eq_zero.mp k0 with k | k
 ·rcases Int.mul_eq_zero.mp k1 with k' | k'
  ·exact absurd (pt_ext (by omega) (by omega)) hab
  ·exact k'
 ·exact k
theorem ring_three {S h : List Pt} (r : Ring S h) (hf : ¬ Flat S) : 3 ≤ h.length := by
 have hr := ring_at r
 have h0 : 0 < h.length := by obtain ⟨a, t, rfl, _⟩ := r; simp
 rcases Nat.lt_or_ge h.length 3 with h3 | h3
 ·exfalso
  have a1 := hr 0 h0
  by_cases e : h.length = 1
  ·rw [e] at a1; exact a1.1 rfl
  ·have e2 : h.length = 2 := by omega
   have a2 := hr 1 (by omega)
   rw [e2] at a1 a2
   simp only [Nat.zero_add, Nat.mod_self, Nat.one_mod] at a1 a2
   apply hf
   apply flat_of_edge a1.1
   intro c hc
   have b1 := (a1.2.2.2 c hc).1
   have b2 := (a2.2.2.2 c hc).1
   have : cr (at_ h (1 % 2)) (at_ h 0) c = - cr (at_ h 0) (at_ h (1 % 2)) c := by unfold cr; grind
   simp only [Nat.one_mod] at *
   omega
 ·exact h3
theorem first_tri (a b : Pt) : a = b ∨ first a b ∨ first b a := by
 unfold first
 rcases Int.lt_trichotomy a.f1 b.f1 with h | h | h
 ·exact .inr (.inl (.inl h))
 ·rcases Int.lt_trichotomy a.f0 b.f0 with h' | h' | h'
  ·exact .inr (.inl (.inr ⟨h, h'⟩))
  ·exact .inl (pt_ext h' h)
  ·exact .inr (.inr (.inr ⟨h.symm, h'⟩))
 ·exact .inr (.inr (.inl h))
theorem first_trans {a b c : Pt} (h : first a b) (h' : first b c) : first a c := by unfold first at *; omega
theorem first_irrefl (a : Pt) : ¬ first a a := by unfold first; omega
theorem flat_ring {S h : List Pt} (r : Ring S h) (hf : Flat S) : h.length < 3 := by
 rcases Nat.lt_or_ge h.length 3 with h3 | h3
 ·exact h3
 ·have hs := (ring_strong r).2.2 0 2 (by omega) (by omega)
  have c0 := (ring_corner r 0 (by omega)).2
  have c1 := (ring_corner r ((0 + 1) % h.length) (Nat.mod_lt _ (by omega))).2
  have c2 := (ring_corner r 2 (by omega)).2
  have := hs.2 (hf _ c0 _ c1 _ c2)
  rw [Nat.mod_eq_of_lt (by omega)] at this
  omega
theorem two_of_not_flat {S : List Pt} (hf : ¬ Flat S) : ∃ a b, a ∈ S ∧ b ∈ S ∧ a ≠ b := by
 apply Classical.byContradiction
 intro hn
 apply hf
 intro a ha b hb c hc
 have e : ∀ x ∈ S, x = a := fun x hx => Classical.byContradiction fun hne => hn ⟨x, a, hx, ha, hne⟩
 rw [e b hb, e c hc, cr_self1]
end Go.Proofs.Ythehmkpcddafnaa.M
end
section
namespace Go.Proofs.Ythehmkpcddafnaa.M
open Go.RowKit Go.Proofs.Ythehmkpcddafnaa.PG Go.Proofs.YthehmkpcddafnaaW.PrintMore Go.Proofs.YthehmkpcddafnaaW.PrintWords
def Rt {α : Type} (g : Nat → Option α) (v : α) : Prop := ∃ K, ∀ k, K ≤ k → g k = some v
theorem wz (n : Int) (h0 : -9223372036854775808 ≤ n) (h1 : n ≤ 9223372036854775807) : wrap64 n = n := by unfold wrap64; omega
def Bd (p : Pt) : Prop := -1000000 ≤ p.f0 ∧ p.f0 ≤ 1000000 ∧ -1000000 ≤ p.f1 ∧ p.f1 ≤ 1000000
theorem mulb {a b : Int} (h0 : -2000000 ≤ a) (h1 : a ≤ 2000000) (h2 : -2000000 ≤ b) (h3 : b ≤ 2000000) : -4000000000000 ≤ a * b ∧ a * b ≤ 4000000000000 := by
 have h : (a * b).natAbs = a.natAbs * b.natAbs := Int.natAbs_mul a b
 have h' : a.natAbs * b.natAbs ≤ 2000000 * 2000000 := Nat.mul_le_mul (by omega) (by omega)
 omega
theorem cr_eq (a b c : Pt) : cr a b c = (b.f0 - a.f0) * (c.f1 - a.f1) - (c.f0 - a.f0) * (b.f1 - a.f1) := rfl
theorem cr_bd {a b c : Pt} (ha : Bd a) (hb : Bd b) (hc : Bd c) : -8000000000000 ≤ cr a b c ∧ cr a b c ≤ 8000000000000 := by
 obtain ⟨a0, a1, a2, a3⟩ := ha; obtain ⟨b0, b1, b2, b3⟩ := hb; obtain ⟨c0, c1, c2, c3⟩ := hc
 have h1 := @mulb (b.f0 - a.f0) (c.f1 - a.f1) (by omega) (by omega) (by omega) (by omega)
 have h2 := @mulb (c.f0 - a.f0) (b.f1 - a.f1) (by omega) (by omega) (by omega) (by omega)
 rw [cr_eq]; omega
theorem Cross_f {a b c : Pt} (ha : Bd a) (hb : Bd b) (hc : Bd c) : cracknelref04_Cross.f a.f0 a.f1 b.f0 b.f1 c.f0 c.f1 = some (cr a b c) := by
 obtain ⟨a0, a1, a2, a3⟩ := ha; obtain ⟨b0, b1, b2, b3⟩ := hb; obtain ⟨c0, c1, c2, c3⟩ := hc
 have h1 := @mulb (b.f0 - a.f0) (c.f1 - a.f1) (by omega) (by omega) (by omega) (by omega)
 have h2 := @mulb (c.f0 - a.f0) (b.f1 - a.f1) (by omega) (by omega) (by omega) (by omega)
 unfold cracknelref04_Cross.f
 rw [wz (b.f0 - a.f0) (by omega) (by omega), wz (c.f1 - a.f1) (by omega) (by omega), wz (c.f0 - a.f0) (by omega) (by omega), wz (b.f1 - a.f1) (by omega) (by omega), wz ((b.f0 - a.f0) * (c.f1 - a.f1)) (by omega) (by omega), wz ((c.f0 - a.f0) * (b.f1 - a.f1)) (by omega) (by omega), wz _ (by omega) (by omega), cr_eq]
theorem side_f {a b c : Pt} (ha : Bd a) (hb : Bd b) (hc : Bd c) : shape_side.f a.f0 a.f1 b.f0 b.f1 c.f0 c.f1 = some (cr a b c) := by
 obtain ⟨a0, a1, a2, a3⟩ := ha; obtain ⟨b0, b1, b2, b3⟩ := hb; obtain ⟨c0, c1, c2, c3⟩ := hc
 have h1 := @mulb (b.f0 - a.f0) (c.f1 - a.f1) (by omega) (by omega) (by omega) (by omega)
 have h2 := @mulb (b.f1 - a.f1) (c.f0 - a.f0) (by omega) (by omega) (by omega) (by omega)
 unfold shape_side.f shape_sub.f shape_cross.f
 simp only [Option.bind_some]
 rw [wz (b.f0 - a.f0) (by omega) (by omega), wz (c.f1 - a.f1) (by omega) (by omega), wz (c.f0 - a.f0) (by omega) (by omega), wz (b.f1 - a.f1) (by omega) (by omega), wz ((b.f0 - a.f0) * (c.f1 - a.f1)) (by omega) (by omega), wz ((b.f1 - a.f1) * (c.f0 - a.f0)) (by omega) (by omega), wz _ (by omega) (by omega), cr_eq]
 congr 1; grind
theorem in_f (v a b : Int) : cracknelref04_in.f v a b = some (decide (a ≤ v ∧ v ≤ b)) := by
 unfold cracknelref04_in.f
 by_cases h : v ≥ a
 ·rw [if_pos h]; simp; omega
 ·rw [if_neg h]; simp; omega
theorem mn_eq (a b : Int) : mn a b = min a b := by unfold mn; split <;> omega
theorem mx_eq (a b : Int) : mx a b = max a b := by unfold mx; split <;> omega
theorem On_f {a b c : Pt} (ha : Bd a) (hb : Bd b) (hc : Bd c) : cracknelref04_On.f a.f0 a.f1 b.f0 b.f1 c.f0 c.f1 = some (decide (On a b c)) := by
 unfold cracknelref04_On.f
 rw [Cross_f ha hb hc]
 simp only [Option.bind_some, in_f, mn_eq, mx_eq]
 by_cases h : cr a b c = 0
 ·rw [if_pos h]
  by_cases h2 : min a.f0 b.f0 ≤ c.f0 ∧ c.f0 ≤ max a.f0 b.f0
  ·simp only [h2, and_self, decide_true, if_true]; simp only [On, btw, h, h2, true_and]
  ·rw [if_neg (by simpa using h2)]; simp only [On, btw, h, true_and]; rw [decide_eq_false]; intro h3; exact h2 ⟨h3.1, h3.2.1⟩
 ·rw [if_neg h]; simp only [On, h, false_and, decide_false]
theorem sq_nn (x : Int) : 0 ≤ x * x := by
 rcases Int.le_total 0 x with h | h
 ·exact Int.mul_nonneg h h
 ·exact Int.mul_nonneg_of_nonpos_of_nonpos h h
theorem dot_on {a b p : Pt} (h : cr a b p = 0) : (a.f0 - p.f0) * (b.f0 - p.f0) + (a.f1 - p.f1) * (b.f1 - p.f1) ≤ 0 ↔ btw a b p := by
 have hx : (a.f0 - p.f0) * (b.f1 - p.f1) = (a.f1 - p.f1) * (b.f0 - p.f0) := by rw [cr_eq] at h; grind
 generalize hu : a.f0 - p.f0 = u at *
 generalize hv : b.f0 - p.f0 = v at *
 generalize hs : a.f1 - p.f1 = s at *
 generalize ht : b.f1 - p.f1 = t at *
 have key : u * v + s * t ≤ 0 ↔ (u * v ≤ 0 ∧ s * t ≤ 0) := by
  constructor
  ·intro h0
   have e : (u * v) * (s * t) = (u * t) * (u * t) := by grind
   have sq : 0 ≤ (u * v) * (s * t) := by rw [e]; exact sq_nn _
   constructor
   ·rcases Int.lt_or_le 0 (u * v) with h1 | h1
    ·have h2 : s * t < 0 := by omega
     have := Int.mul_neg_of_pos_of_neg h1 h2; omega
    ·exact h1
   ·rcases Int.lt_or_le 0 (s * t) with h1 | h1
    ·have h2 : u * v < 0 := by omega
     have := Int.mul_neg_of_neg_of_pos h2 h1; omega
    ·exact h1
  ·omega
 have sgn : ∀ x y : Int, x * y ≤ 0 ↔ ((x ≤ 0 ∧ 0 ≤ y) ∨ (0 ≤ x ∧ y ≤ 0)) := by
  intro x y
  constructor
  ·intro h
   rcases Int.lt_trichotomy x 0 with h1 | h1 | h1
   ·rcases Int.lt_or_le y 0 with h2 | h2
    ·have := Int.mul_pos_of_neg_of_neg h1 h2; omega
    ·omega
   ·omega
   ·rcases Int.lt_or_le 0 y with h2 | h2
    ·have := Int.mul_pos h1 h2; omega
    ·omega
  ·rintro (⟨h1, h2⟩ | ⟨h1, h2⟩)
   ·exact Int.mul_nonpos_of_nonpos_of_nonneg h1 h2
   ·exact Int.mul_nonpos_of_nonneg_of_nonpos h1 h2
 rw [key, sgn, sgn]; unfold btw; omega
theorem dot_f {a b p : Pt} (ha : Bd a) (hb : Bd b) (hp : Bd p) : shape_dot.f (a.f0 - p.f0) (a.f1 - p.f1) (b.f0 - p.f0) (b.f1 - p.f1) = some ((a.f0 - p.f0) * (b.f0 - p.f0) + (a.f1 - p.f1) * (b.f1 - p.f1)) := by
 obtain ⟨a0, a1, a2, a3⟩ := ha; obtain ⟨b0, b1, b2, b3⟩ := hb; obtain ⟨c0, c1, c2, c3⟩ := hp
 have h1 := @mulb (a.f0 - p.f0) (b.f0 - p.f0) (by omega) (by omega) (by omega) (by omega)
 have h2 := @mulb (a.f1 - p.f1) (b.f1 - p.f1) (by omega) (by omega) (by omega) (by omega)
 unfold shape_dot.f
 rw [wz ((a.f0 - p.f0) * (b.f0 - p.f0)) (by omega) (by omega), wz ((a.f1 - p.f1) * (b.f1 - p.f1)) (by omega) (by omega), wz _ (by omega) (by omega)]
theorem sub_f {a b : Pt} (ha : Bd a) (hb : Bd b) : shape_sub.f a.f0 a.f1 b.f0 b.f1 = some (a.f0 - b.f0, a.f1 - b.f1) := by
 obtain ⟨a0, a1, a2, a3⟩ := ha; obtain ⟨b0, b1, b2, b3⟩ := hb
 unfold shape_sub.f
 rw [wz _ (by omega) (by omega), wz _ (by omega) (by omega)]
theorem on_f {a b c : Pt} (ha : Bd a) (hb : Bd b) (hc : Bd c) : shape_on.f a.f0 a.f1 b.f0 b.f1 c.f0 c.f1 = some (decide (On a b c)) := by
 unfold shape_on.f
 rw [side_f ha hb hc, sub_f ha hc, sub_f hb hc]
 simp only [Option.bind_some]
 rw [dot_f ha hb hc]
 simp only [Option.bind_some]
 by_cases h : cr a b c = 0
 ·rw [if_pos h]; have e := dot_on h; simp only [e, On, h, true_and]
 ·rw [if_neg h]; simp only [On, h, false_and, decide_false]
def sg (n : Int) : Int := if n > 0 then 1 else if n < 0 then -1 else 0
theorem compare_f (a b : Int) : cmp_Compare_int.f a b = some (sg (a - b)) := by
 unfold cmp_Compare_int.f cmp_isNaN_int.f sg
 simp
 split <;> (try split) <;> (try split) <;> (try split) <;> first | rfl | omega | (simp; done) | skip
theorem sign_f (n : Int) : shape_sign.f n = some (sg n) := by
 unfold shape_sign.f; rw [compare_f]; simp
theorem sg_neg (x y : Int) : wrap64 (sg x * sg y) < 0 ↔ ((0 < x ∧ y < 0) ∨ (x < 0 ∧ 0 < y)) := by
 unfold sg
 split <;> (try split) <;> (try split) <;> (try split) <;> simp only [wrap64] <;> omega
theorem meet_f {a b c d : Pt} (ha : Bd a) (hb : Bd b) (hc : Bd c) (hd : Bd d) (k : Nat) : shape_meet.f (k + 1) a.f0 a.f1 b.f0 b.f1 c.f0 c.f1 d.f0 d.f1 = some (decide (Meet a b c d)) := by
 unfold shape_meet.f
 simp only [shape_meet.j0, on_f ha hb hc, on_f ha hb hd, on_f hc hd ha, on_f hc hd hb, side_f ha hb hc, side_f ha hb hd, side_f hc hd ha, side_f hc hd hb, sign_f, Option.bind_some, sg_neg, decide_eq_true_eq]
 unfold Meet
 split
 ·simp_all
 ·split
  ·simp_all
  ·split
   ·simp_all
   ·split
    ·simp_all
    ·split <;> simp_all <;> omega
theorem rd_at (l : List Pt) (i : Nat) : rd_T41 l (i : Int) = at_ l i := rfl
theorem tmod_nat (i n : Nat) (h : (i : Int) ≤ 9223372036854775806) : Int.tmod (wrap64 ((i : Int) + 1)) (n : Int) = (((i + 1) % n : Nat) : Int) := by
 rw [wz _ (by omega) (by omega)]
 rw [show ((i : Int) + 1) = ((i + 1 : Nat) : Int) by omega, ← Int.ofNat_tmod]
theorem first_f (a b : Pt) : cracknelref04_first.f a.f0 a.f1 b.f0 b.f1 = some (decide (first a b)) := by
 unfold cracknelref04_first.f first
 split
 ·simp_all
 ·split
  ·simp_all
  ·simp_all
theorem pt_beq (a b : Pt) : (a.f0 == b.f0 && a.f1 == b.f1) = decide (a = b) := by
 by_cases h : a = b
 ·subst h; simp
 ·simp only [h, decide_false, Bool.and_eq_false_imp, beq_iff_eq]
  intro h0
  simp only [beq_eq_false_iff_ne, ne_eq]
  intro h1; exact h (pt_ext h0 h1)
theorem from_split {n i : Nat} (hi : i < n) (P : Nat → Prop) : (∀ i', i ≤ i' → i' < n → P i') ↔ (P i ∧ ∀ i', i + 1 ≤ i' → i' < n → P i') := by
 constructor
 ·intro h; exact ⟨h i (Nat.le_refl _) hi, fun j' h1 h2 => h j' (by omega) h2⟩
 ·rintro ⟨h0, h⟩ j' h1 h2
  rcases Nat.eq_or_lt_of_le h1 with rfl | h3
  ·exact h0
  ·exact h j' h3 h2
theorem fuel1 {k K : Nat} (h : K + 1 ≤ k) : ∃ m, k = m + 1 := ⟨k - 1, by omega⟩
theorem fuel2 {k K : Nat} (h : K + 2 ≤ k) : ∃ m, k = m + 1 + 1 := ⟨k - 2, by omega⟩
theorem rt_step {α : Type} {g h : Nat → Option α} {v : α} (e : ∀ k, g (k + 1) = h k) (r : Rt h v) : Rt g v := by
 obtain ⟨K, hK⟩ := r
 refine ⟨K + 1, fun k hk => ?_⟩
 obtain ⟨k, rfl⟩ := fuel1 hk
 rw [e]; exact hK k (by omega)
theorem rt_ret {α : Type} {g : Nat → Option α} {v : α} (e : ∀ k, g (k + 1) = some v) : Rt g v := by
 refine ⟨0 + 1, fun k hk => ?_⟩
 obtain ⟨k, rfl⟩ := fuel1 hk
 exact e k
theorem wrap_succ (i : Nat) (h : i ≤ 1000000) : wrap64 ((i : Int) + 1) = ((i + 1 : Nat) : Int) := by rw [wz _ (by omega) (by omega)]; omega
theorem wrap_succ2 (i : Nat) (h : i ≤ 1000000) : wrap64 ((i : Int) + 2) = ((i + 2 : Nat) : Int) := by rw [wz _ (by omega) (by omega)]; omega
theorem tmod_nat' (i n : Nat) (_h : i ≤ 1000000) : Int.tmod (((i + 1 : Nat)) : Int) (n : Int) = (((i + 1) % n : Nat) : Int) := by
 rw [← Int.ofNat_tmod]
theorem at_bd {l : List Pt} (hb : ∀ p ∈ l, Bd p) {i : Nat} (hi : i < l.length) : Bd (at_ l i) := hb _ (at_mem hi)
theorem tmod_in (i n : Nat) (hn : 0 < n) : (0 : Int) ≤ (((i % n : Nat)) : Int) ∧ (((i % n : Nat)) : Int) < (n : Int) := by
 have := Nat.mod_lt i hn; omega
end Go.Proofs.Ythehmkpcddafnaa.M
end
section
namespace Go.Proofs.Ythehmkpcddafnaa.M
open Go.RowKit Go.Proofs.Ythehmkpcddafnaa.PG Go.Proofs.YthehmkpcddafnaaW.PrintMore Go.Proofs.YthehmkpcddafnaaW.PrintWords
theorem on_line {a b c : Pt} (h : cr a b c = 0) : btw a c b ∨ btw a b c ∨ btw b c a := by
 have h2 : cr a c b = 0 := by rw [cr_swap]; omega
 have h3 : cr b c a = 0 := by rw [cr_rot]; exact h
 rw [← dot_on h, ← dot_on h2, ← dot_on h3]
 rcases Int.lt_or_le 0 ((a.f0 - b.f0) * (c.f0 - b.f0) + (a.f1 - b.f1) * (c.f1 - b.f1)) with q1 | q1
 ·rcases Int.lt_or_le 0 ((a.f0 - c.f0) * (b.f0 - c.f0) + (a.f1 - c.f1) * (b.f1 - c.f1)) with q2 | q2
  ·rcases Int.lt_or_le 0 ((b.f0 - a.f0) * (c.f0 - a.f0) + (b.f1 - a.f1) * (c.f1 - a.f1)) with q3 | q3
   ·exfalso
    rw [cr_eq] at h
    have e2 : (a.f0 - c.f0) * (b.f0 - c.f0) + (a.f1 - c.f1) * (b.f1 - c.f1) = ((c.f0 - b.f0) * (c.f0 - b.f0) + (c.f1 - b.f1) * (c.f1 - b.f1)) - ((a.f0 - b.f0) * (c.f0 - b.f0) + (a.f1 - b.f1) * (c.f1 - b.f1)) := by grind
    have e3 : (b.f0 - a.f0) * (c.f0 - a.f0) + (b.f1 - a.f1) * (c.f1 - a.f1) = ((a.f0 - b.f0) * (a.f0 - b.f0) + (a.f1 - b.f1) * (a.f1 - b.f1)) - ((a.f0 - b.f0) * (c.f0 - b.f0) + (a.f1 - b.f1) * (c.f1 - b.f1)) := by grind
    have e4 : ((a.f0 - b.f0) * (c.f0 - b.f0) + (a.f1 - b.f1) * (c.f1 - b.f1)) * ((a.f0 - b.f0) * (c.f0 - b.f0) + (a.f1 - b.f1) * (c.f1 - b.f1)) = ((a.f0 - b.f0) * (a.f0 - b.f0) + (a.f1 - b.f1) * (a.f1 - b.f1)) * ((c.f0 - b.f0) * (c.f0 - b.f0) + (c.f1 - b.f1) * (c.f1 - b.f1)) := by grind
    rw [e2] at q2; rw [e3] at q3
    generalize (a.f0 - b.f0) * (c.f0 - b.f0) + (a.f1 - b.f1) * (c.f1 - b.f1) = P at *
    generalize (a.f0 - b.f0) * (a.f0 - b.f0) + (a.f1 - b.f1) * (a.f1 - b.f1) = Q at *
    generalize (c.f0 - b.f0) * (c.f0 - b.f0) + (c.f1 - b.f1) * (c.f1 - b.f1) = R at *
    have : P * P < Q * R := Int.lt_of_lt_of_le (Int.mul_lt_mul_of_pos_left (show P < R by omega) q1) (Int.mul_le_mul_of_nonneg_right (by omega) (by omega))
    omega
   ·right; right; have : (b.f0 - a.f0) * (c.f0 - a.f0) + (b.f1 - a.f1) * (c.f1 - a.f1) ≤ 0 := q3; exact this
  ·right; left; exact q2
 ·left; exact q1
theorem spike {a b c : Pt} (hab : a ≠ b) (hbc : b ≠ c) : (cr b a c = 0 ∧ 0 < (a.f0 - b.f0) * (c.f0 - b.f0) + (a.f1 - b.f1) * (c.f1 - b.f1)) ↔ (On a b c ∨ On b c a) := by
 have e1 : cr b a c = - cr a b c := by rw [cr_eq, cr_eq]; grind
 have e2 : cr a c b = - cr a b c := cr_swap a b c
 have e3 : cr b c a = cr a b c := cr_rot a b c
 by_cases h : cr a b c = 0
 ·have d := dot_on (show cr a c b = 0 by omega)
  have t := on_line h
  have x1 : btw a c b → btw a b c → False := fun p q => hbc (btw_eq q p)
  have x2 : btw a c b → btw b c a → False := fun p q => hab (btw_eq' p q)
  unfold On
  rw [e1, e3, h]
  constructor
  ·rintro ⟨_, h1⟩
   have : ¬ btw a c b := by rw [← d]; omega
   rcases t with t | t | t
   ·exact absurd t this
   ·exact Or.inl ⟨rfl, t⟩
   ·exact Or.inr ⟨rfl, t⟩
  ·intro h1
   refine ⟨by omega, ?_⟩
   have : ¬ btw a c b := by
    intro hb
    rcases h1 with ⟨_, h1⟩ | ⟨_, h1⟩
    ·exact x1 hb h1
    ·exact x2 hb h1
   rw [← d] at this; omega
 ·unfold On; rw [e1, e3]
  constructor
  ·rintro ⟨h1, _⟩; omega
  ·rintro (⟨h1, _⟩ | ⟨h1, _⟩) <;> omega
theorem Meet_comm (a b c d : Pt) : Meet a b c d ↔ Meet c d a b := by
 unfold Meet
 constructor
 ·rintro (h | h | h | h | h)
  ·exact Or.inr (Or.inr (Or.inl h))
  ·exact Or.inr (Or.inr (Or.inr (Or.inl h)))
  ·exact Or.inl h
  ·exact Or.inr (Or.inl h)
  ·exact Or.inr (Or.inr (Or.inr (Or.inr h.symm)))
 ·rintro (h | h | h | h | h)
  ·exact Or.inr (Or.inr (Or.inl h))
  ·exact Or.inr (Or.inr (Or.inr (Or.inl h)))
  ·exact Or.inl h
  ·exact Or.inr (Or.inl h)
  ·exact Or.inr (Or.inr (Or.inr (Or.inr h.symm)))
def CSimple (l : List Pt) : Prop := ∀ i, i < l.length →
 at_ l i ≠ at_ l ((i + 1) % l.length) ∧
 ¬ (cr (at_ l i) (at_ l ((i + l.length - 1) % l.length)) (at_ l ((i + 1) % l.length)) = 0 ∧ 0 < ((at_ l ((i + l.length - 1) % l.length)).f0 - (at_ l i).f0) * ((at_ l ((i + 1) % l.length)).f0 - (at_ l i).f0) + ((at_ l ((i + l.length - 1) % l.length)).f1 - (at_ l i).f1) * ((at_ l ((i + 1) % l.length)).f1 - (at_ l i).f1)) ∧
 ∀ j, j < i → j + 1 ≠ i → (j ≠ 0 ∨ i + 1 ≠ l.length) → ¬ Meet (at_ l i) (at_ l ((i + 1) % l.length)) (at_ l j) (at_ l (j + 1))
theorem csimple_iff (l : List Pt) (hn : 3 ≤ l.length) : CSimple l ↔ Simple l := by
 unfold CSimple Simple
 generalize hl : l.length = n at *
 have prev : ∀ i, i < n → (((i + n - 1) % n) + 1) % n = i ∧ (i + n - 1) % n < n := by
  intro i hi
  refine ⟨?_, Nat.mod_lt _ (by omega)⟩
  by_cases h0 : i = 0
  ·subst h0; rw [show 0 + n - 1 = n - 1 by omega, Nat.mod_eq_of_lt (show n - 1 < n by omega), show n - 1 + 1 = n by omega, Nat.mod_self]
  ·rw [show i + n - 1 = (i - 1) + n by omega, Nat.add_mod_right, Nat.mod_eq_of_lt (show i - 1 < n by omega), show i - 1 + 1 = i by omega, Nat.mod_eq_of_lt hi]
 have nxt : ∀ i, i < n → ((i + 1) % n + n - 1) % n = i ∧ (i + 1) % n < n := by
  intro i hi
  refine ⟨?_, Nat.mod_lt _ (by omega)⟩
  by_cases h0 : i + 1 = n
  ·rw [h0, Nat.mod_self, show 0 + n - 1 = n - 1 by omega, Nat.mod_eq_of_lt (by omega)]; omega
  ·rw [Nat.mod_eq_of_lt (show i + 1 < n by omega), show i + 1 + n - 1 = i + n by omega, Nat.add_mod_right, Nat.mod_eq_of_lt hi]
 have two : ∀ i, ((i + 1) % n + 1) % n = (i + 1 + 1) % n := fun i => by rw [Nat.mod_add_mod]
 constructor
 ·intro h
  refine ⟨fun i hi => (h i hi).1, fun i hi => ?_⟩
  obtain ⟨p1, p2⟩ := nxt i hi
  have q := (h _ p2).2.1
  rw [p1, two i] at q
  have e1 := (h i hi).1
  have e2 := (h _ p2).1
  rw [two i] at e2
  rw [spike e1 e2] at q
  refine ⟨fun h1 => q (Or.inl h1), fun h1 => q (Or.inr h1), fun k hk hkn hki hm => ?_⟩
  have hw : i ≠ 0 ∨ k + 1 ≠ n := by
   rcases Nat.lt_or_ge (k + 1) n with h1 | h1
   ·right; omega
   ·left; intro h0; apply hki; rw [show k + 1 = n by omega, Nat.mod_self, h0]
  have := (h k hkn).2.2 i (by omega) (by omega) hw
  apply this
  rw [Meet_comm]
  rwa [Nat.mod_eq_of_lt (show i + 1 < n by omega)] at hm
 ·rintro ⟨h0, h⟩ i hi
  obtain ⟨p1, p2⟩ := prev i hi
  refine ⟨h0 i hi, ?_, fun j hj hji hw hm => ?_⟩
  ·have e1 := h0 _ p2
   rw [p1] at e1
   rw [spike e1 (h0 i hi)]
   have q := h _ p2
   rw [← two ((i + n - 1) % n), p1] at q
   rintro (h1 | h1)
   ·exact q.1 h1
   ·exact q.2.1 h1
  ·have q := (h j (by omega)).2.2 i (by omega) hi (by
    rcases Nat.lt_or_ge (i + 1) n with h1 | h1
    ·rw [Nat.mod_eq_of_lt h1]; omega
    ·rw [show i + 1 = n by omega, Nat.mod_self]; omega)
   apply q
   rw [Nat.mod_eq_of_lt (show j + 1 < n by omega), Meet_comm]
   exact hm
theorem simple_l1 {l : List Pt} (hb : ∀ p ∈ l, Bd p) (hn : 3 ≤ l.length) (hN : l.length ≤ 1000000) {i : Nat} (hi : i < l.length) {b' : Bool} (hnext : Rt (fun k => shape_simple.l0 k l (l.length : Int) (l.length : Int) ((i + 1 : Nat) : Int)) b') :
  ∀ d j, i = j + d → ∃ b, Rt (fun k => shape_simple.l1 k l (l.length : Int) (i : Int) (l.length : Int) (i : Int) (i : Int) (j : Int) (at_ l ((i + 1) % l.length)).f0 (at_ l ((i + 1) % l.length)).f1) b ∧ (b = true ↔ (∀ j', j ≤ j' → j' < i → j' + 1 ≠ i → (j' ≠ 0 ∨ i + 1 ≠ l.length) → ¬ Meet (at_ l i) (at_ l ((i + 1) % l.length)) (at_ l j') (at_ l (j' + 1))) ∧ b' = true) := by
 intro d
 induction d with
 | zero =>
  intro j hj
  obtain ⟨K, hK⟩ := hnext
  refine ⟨b', ⟨K + 1, fun k hk => ?_⟩, ⟨fun h => ⟨fun j' h1 h2 => by omega, h⟩, fun h => h.2⟩⟩
  obtain ⟨k, rfl⟩ : ∃ m, k = m + 1 := ⟨k - 1, by omega⟩
  dsimp only; rw [shape_simple.l1, if_neg (by omega), wz _ (by omega) (by omega)]
  exact hK k (by omega)
 | succ d ih =>
  intro j hj
  obtain ⟨b1, ⟨K, hK⟩, hb1⟩ := ih (j + 1) (by omega)
  have skip : ∀ k, K + 1 ≤ k → shape_simple.j3 k l (l.length : Int) (i : Int) (l.length : Int) (i : Int) (i : Int) (j : Int) false (at_ l ((i + 1) % l.length)).f0 (at_ l ((i + 1) % l.length)).f1 = some b1 := by
   intro k hk
   obtain ⟨k, rfl⟩ : ∃ m, k = m + 1 := ⟨k - 1, by omega⟩
   rw [shape_simple.j3, if_neg (by simp), wz _ (by omega) (by omega)]
   exact hK k (by omega)
  have split_ : ∀ (P : Nat → Prop), (∀ j', j ≤ j' → j' < i → P j') ↔ (P j ∧ ∀ j', j + 1 ≤ j' → j' < i → P j') := by
   intro P
   constructor
   ·intro h; exact ⟨h j (Nat.le_refl _) (by omega), fun j' h1 h2 => h j' (by omega) h2⟩
   ·rintro ⟨h0, h⟩ j' h1 h2
    rcases Nat.eq_or_lt_of_le h1 with rfl | h3
    ·exact h0
    ·exact h j' h3 h2
  rw [show (∃ b, Rt (fun k => shape_simple.l1 k l (l.length : Int) (i : Int) (l.length : Int) (i : Int) (i : Int) (j : Int) (at_ l ((i + 1) % l.length)).f0 (at_ l ((i + 1) % l.length)).f1) b ∧ (b = true ↔ (∀ j', j ≤ j' → j' < i → j' + 1 ≠ i → (j' ≠ 0 ∨ i + 1 ≠ l.length) → ¬ Meet (at_ l i) (at_ l ((i + 1) % l.length)) (at_ l j') (at_ l (j' + 1))) ∧ b' = true)) ↔ (∃ b, Rt (fun k => shape_simple.l1 k l (l.length : Int) (i : Int) (l.length : Int) (i : Int) (i : Int) (j : Int) (at_ l ((i + 1) % l.length)).f0 (at_ l ((i + 1) % l.length)).f1) b ∧ (b = true ↔ ((j + 1 ≠ i → (j ≠ 0 ∨ i + 1 ≠ l.length) → ¬ Meet (at_ l i) (at_ l ((i + 1) % l.length)) (at_ l j) (at_ l (j + 1))) ∧ b1 = true))) from by
   rw [split_]; simp only [hb1, and_assoc]]
  by_cases h1 : j + 1 = i
  ·refine ⟨b1, ⟨K + 2, fun k hk => ?_⟩, ⟨fun h => ⟨fun h2 => absurd h1 h2, h⟩, fun h => h.2⟩⟩
   obtain ⟨k, rfl⟩ : ∃ m, k = m + 1 := ⟨k - 1, by omega⟩
   dsimp only; rw [shape_simple.l1, if_pos (by omega), wz _ (by omega) (by omega), if_pos (by omega)]
   exact skip k (by omega)
  ·have hBi := at_bd hb hi
   have hBn := at_bd hb (show (i + 1) % l.length < l.length from Nat.mod_lt _ (by omega))
   have hBj := at_bd hb (show j < l.length by omega)
   have hBk := at_bd hb (show j + 1 < l.length by omega)
   have go : (j ≠ 0 ∨ i + 1 ≠ l.length) → ∀ k, K + 2 ≤ k → ((shape_meet.f k (rd_T41 l i).f0 (rd_T41 l i).f1 (at_ l ((i + 1) % l.length)).f0 (at_ l ((i + 1) % l.length)).f1 (rd_T41 l j).f0 (rd_T41 l j).f1 (rd_T41 l (((j + 1 : Nat)) : Int)).f0 (rd_T41 l ((j + 1 : Nat) : Int)).f1).bind fun t => shape_simple.j3 k l (l.length : Int) (i : Int) (l.length : Int) (i : Int) (i : Int) (j : Int) t (at_ l ((i + 1) % l.length)).f0 (at_ l ((i + 1) % l.length)).f1) = some (!decide (Meet (at_ l i) (at_ l ((i + 1) % l.length)) (at_ l j) (at_ l (j + 1))) && b1) := by
    intro hw k hk
    obtain ⟨k, rfl⟩ : ∃ m, k = m + 1 := ⟨k - 1, by omega⟩
    rw [rd_at, rd_at, rd_at, meet_f hBi hBn hBj hBk, Option.bind_some]
    by_cases hm : Meet (at_ l i) (at_ l ((i + 1) % l.length)) (at_ l j) (at_ l (j + 1))
    ·simp only [hm, decide_true, Bool.not_true, Bool.false_and]
     rw [shape_simple.j3, if_pos rfl]
    ·simp only [hm, decide_false, Bool.not_false, Bool.true_and]
     exact skip (k + 1) (by omega)
   by_cases h2 : j = 0
   ·by_cases h3 : i + 1 = l.length
    ·refine ⟨b1, ⟨K + 2, fun k hk => ?_⟩, ⟨fun h => ⟨fun _ h2 => by omega, h⟩, fun h => h.2⟩⟩
     obtain ⟨k, rfl⟩ : ∃ m, k = m + 1 := ⟨k - 1, by omega⟩
     dsimp only; rw [shape_simple.l1, if_pos (by omega), wz ((j : Int) + 1) (by omega) (by omega), if_neg (by omega), if_pos (by omega), wz _ (by omega) (by omega), if_pos (by omega)]
     exact skip k (by omega)
    ·refine ⟨(!decide (Meet (at_ l i) (at_ l ((i + 1) % l.length)) (at_ l j) (at_ l (j + 1))) && b1), ⟨K + 3, fun k hk => ?_⟩, ?_⟩
     ·obtain ⟨k, rfl⟩ : ∃ m, k = m + 1 := ⟨k - 1, by omega⟩
      dsimp only; rw [shape_simple.l1, if_pos (by omega), wz ((j : Int) + 1) (by omega) (by omega), if_neg (by omega), if_pos (by omega), wz _ (by omega) (by omega), if_neg (by omega), if_pos (by omega), if_pos (by omega), if_pos (by omega), if_pos (by omega), if_pos (by omega), if_pos (by omega)]
      exact go (by omega) k (by omega)
     ·simp only [Bool.and_eq_true, Bool.not_eq_true', decide_eq_false_iff_not]
      exact ⟨fun h => ⟨fun _ _ => h.1, h.2⟩, fun h => ⟨h.1 h1 (Or.inr h3), h.2⟩⟩
   ·refine ⟨(!decide (Meet (at_ l i) (at_ l ((i + 1) % l.length)) (at_ l j) (at_ l (j + 1))) && b1), ⟨K + 3, fun k hk => ?_⟩, ?_⟩
    ·obtain ⟨k, rfl⟩ : ∃ m, k = m + 1 := ⟨k - 1, by omega⟩
     dsimp only; rw [shape_simple.l1, if_pos (by omega), wz ((j : Int) + 1) (by omega) (by omega), if_neg (by omega), if_neg (by omega), if_pos (by omega), if_pos (by omega), if_pos (by omega), if_pos (by omega), if_pos (by omega), if_pos (by omega)]
     exact go (by omega) k (by omega)
    ·simp only [Bool.and_eq_true, Bool.not_eq_true', decide_eq_false_iff_not]
     exact ⟨fun h => ⟨fun _ _ => h.1, h.2⟩, fun h => ⟨h.1 h1 (Or.inl h2), h.2⟩⟩
theorem tmod_last (i n : Nat) (hi : i < n) (hN : n ≤ 1000000) : Int.tmod (wrap64 (wrap64 ((i : Int) + (n : Int)) - 1)) (n : Int) = (((i + n - 1) % n : Nat) : Int) := by
 rw [wz ((i : Int) + (n : Int)) (by omega) (by omega), wz _ (by omega) (by omega), show ((i : Int) + (n : Int)) - 1 = ((i + n - 1 : Nat) : Int) by omega, ← Int.ofNat_tmod]
theorem simple_l0 {l : List Pt} (hb : ∀ p ∈ l, Bd p) (hn : 3 ≤ l.length) (hN : l.length ≤ 1000000) :
  ∀ d i, l.length = i + d → ∃ b, Rt (fun k => shape_simple.l0 k l (l.length : Int) (l.length : Int) (i : Int)) b ∧ (b = true ↔ ∀ i', i ≤ i' → i' < l.length →
   at_ l i' ≠ at_ l ((i' + 1) % l.length) ∧
   ¬ (cr (at_ l i') (at_ l ((i' + l.length - 1) % l.length)) (at_ l ((i' + 1) % l.length)) = 0 ∧ 0 < ((at_ l ((i' + l.length - 1) % l.length)).f0 - (at_ l i').f0) * ((at_ l ((i' + 1) % l.length)).f0 - (at_ l i').f0) + ((at_ l ((i' + l.length - 1) % l.length)).f1 - (at_ l i').f1) * ((at_ l ((i' + 1) % l.length)).f1 - (at_ l i').f1)) ∧
   ∀ j, j < i' → j + 1 ≠ i' → (j ≠ 0 ∨ i' + 1 ≠ l.length) → ¬ Meet (at_ l i') (at_ l ((i' + 1) % l.length)) (at_ l j) (at_ l (j + 1))) := by
 intro d
 induction d with
 | zero =>
  intro i hi
  refine ⟨true, ⟨1, fun k hk => ?_⟩, ⟨fun _ i' h1 h2 => by omega, fun _ => rfl⟩⟩
  obtain ⟨k, rfl⟩ : ∃ m, k = m + 1 := ⟨k - 1, by omega⟩
  dsimp only; rw [shape_simple.l0, if_neg (by omega)]
 | succ d ih =>
  intro i hi
  obtain ⟨b1, hR1, hb1⟩ := ih (i + 1) (by omega)
  obtain ⟨b2, ⟨K, hK⟩, hb2⟩ := simple_l1 hb hn hN (show i < l.length by omega) hR1 i 0 (by omega)
  have hlt : i < l.length := by omega
  have hBi := at_bd hb hlt
  have hBn := at_bd hb (show (i + 1) % l.length < l.length from Nat.mod_lt _ (by omega))
  have hBl := at_bd hb (show (i + l.length - 1) % l.length < l.length from Nat.mod_lt _ (by omega))
  have t1 := tmod_in (i + 1) l.length (by omega)
  have t2 := tmod_in (i + l.length - 1) l.length (by omega)
  have hcross : shape_cross.f ((at_ l ((i + l.length - 1) % l.length)).f0 - (at_ l i).f0) ((at_ l ((i + l.length - 1) % l.length)).f1 - (at_ l i).f1) ((at_ l ((i + 1) % l.length)).f0 - (at_ l i).f0) ((at_ l ((i + 1) % l.length)).f1 - (at_ l i).f1) = some (cr (at_ l i) (at_ l ((i + l.length - 1) % l.length)) (at_ l ((i + 1) % l.length))) := by
   have := side_f hBi hBl hBn
   unfold shape_side.f at this
   rw [sub_f hBl hBi, sub_f hBn hBi] at this
   simpa using this
  have split_ : ∀ (P : Nat → Prop), (∀ i', i ≤ i' → i' < l.length → P i') ↔ (P i ∧ ∀ i', i + 1 ≤ i' → i' < l.length → P i') := by
   intro P
   constructor
   ·intro h; exact ⟨h i (Nat.le_refl _) hlt, fun j' h1 h2 => h j' (by omega) h2⟩
   ·rintro ⟨h0, h⟩ j' h1 h2
    rcases Nat.eq_or_lt_of_le h1 with rfl | h3
    ·exact h0
    ·exact h j' h3 h2
  by_cases e1 : at_ l i = at_ l ((i + 1) % l.length)
  ·refine ⟨false, ⟨1, fun k hk => ?_⟩, ⟨fun h => by simp at h, fun h => absurd e1 (h i (Nat.le_refl _) hlt).1⟩⟩
   obtain ⟨k, rfl⟩ : ∃ m, k = m + 1 := ⟨k - 1, by omega⟩
   dsimp only
   rw [shape_simple.l0, if_pos (by omega), if_neg (by omega), tmod_last i l.length hlt hN, tmod_nat i l.length (by omega), if_pos (by omega), if_pos (by omega), if_pos (by omega), if_pos (by omega), if_pos (by omega), if_pos (by omega), rd_at, rd_at, rd_at, pt_beq, if_pos (by simpa using e1)]
  ·by_cases e2 : (cr (at_ l i) (at_ l ((i + l.length - 1) % l.length)) (at_ l ((i + 1) % l.length)) = 0 ∧ 0 < ((at_ l ((i + l.length - 1) % l.length)).f0 - (at_ l i).f0) * ((at_ l ((i + 1) % l.length)).f0 - (at_ l i).f0) + ((at_ l ((i + l.length - 1) % l.length)).f1 - (at_ l i).f1) * ((at_ l ((i + 1) % l.length)).f1 - (at_ l i).f1))
   ·refine ⟨false, ⟨2, fun k hk => ?_⟩, ⟨fun h => by simp at h, fun h => absurd e2 (h i (Nat.le_refl _) hlt).2.1⟩⟩
    obtain ⟨k, rfl⟩ : ∃ m, k = m + 1 + 1 := ⟨k - 2, by omega⟩
    dsimp only
    rw [shape_simple.l0, if_pos (by omega), if_neg (by omega), tmod_last i l.length hlt hN, tmod_nat i l.length (by omega), if_pos (by omega), if_pos (by omega), if_pos (by omega), if_pos (by omega), if_pos (by omega), if_pos (by omega), rd_at, rd_at, rd_at, pt_beq, if_neg (by simpa using e1), sub_f hBl hBi, Option.bind_some, sub_f hBn hBi, Option.bind_some, hcross, Option.bind_some, if_pos e2.1, dot_f hBl hBn hBi, Option.bind_some, shape_simple.j1, if_pos (by simpa using e2.2)]
   ·refine ⟨b2, ⟨K + 2, fun k hk => ?_⟩, ?_⟩
    ·obtain ⟨k, rfl⟩ : ∃ m, k = m + 1 + 1 := ⟨k - 2, by omega⟩
     dsimp only
     rw [shape_simple.l0, if_pos (by omega), if_neg (by omega), tmod_last i l.length hlt hN, tmod_nat i l.length (by omega), if_pos (by omega), if_pos (by omega), if_pos (by omega), if_pos (by omega), if_pos (by omega), if_pos (by omega), rd_at, rd_at, rd_at, pt_beq, if_neg (by simpa using e1), sub_f hBl hBi, Option.bind_some, sub_f hBn hBi, Option.bind_some, hcross, Option.bind_some]
     have := hK k (by omega)
     by_cases h3 : cr (at_ l i) (at_ l ((i + l.length - 1) % l.length)) (at_ l ((i + 1) % l.length)) = 0
     ·rw [if_pos h3, dot_f hBl hBn hBi, Option.bind_some, shape_simple.j1, if_neg (by simpa using fun h4 => e2 ⟨h3, h4⟩)]
      exact this
     ·rw [if_neg h3, shape_simple.j1, if_neg (by simp)]
      exact this
    ·rw [split_, hb2, hb1]
     constructor
     ·rintro ⟨h1, h2⟩
      exact ⟨⟨e1, e2, fun j hj h3 h4 => h1 j (Nat.zero_le _) hj h3 h4⟩, h2⟩
     ·rintro ⟨⟨_, _, h1⟩, h2⟩
      exact ⟨fun j _ hj h3 h4 => h1 j hj h3 h4, h2⟩
theorem simple_run {l : List Pt} (hb : ∀ p ∈ l, Bd p) (hn : 3 ≤ l.length) (hN : l.length ≤ 1000000) : ∃ b, Rt (fun k => shape_simple.f k l) b ∧ (b = true ↔ Simple l) := by
 obtain ⟨b, hR, h⟩ := simple_l0 hb hn hN l.length 0 (by omega)
 refine ⟨b, hR, ?_⟩
 rw [← csimple_iff l hn, h]
 exact ⟨fun h i hi => h i (Nat.zero_le _) hi, fun h i _ hi => h i hi⟩
end Go.Proofs.Ythehmkpcddafnaa.M
end
section
namespace Go.Proofs.Ythehmkpcddafnaa.M
open Go.RowKit Go.Proofs.Ythehmkpcddafnaa.PG Go.Proofs.YthehmkpcddafnaaW.PrintMore Go.Proofs.YthehmkpcddafnaaW.PrintWords
theorem or_f (a b : Int) (k : Nat) (hk : 3 ≤ k) : cmp_Or_int.f k [a, b] = some (if a = 0 then b else a) := by
 obtain ⟨k, rfl⟩ : ∃ m, k = m + 3 := ⟨k - 3, by omega⟩
 unfold cmp_Or_int.f
 rw [cmp_Or_int.l0]
 simp only [List.length_cons, List.length_nil]
 rw [if_pos (by omega), if_pos (by omega), if_pos (by omega)]
 by_cases h : a = 0
 ·rw [if_pos (show rd [a, b] 0 = 0 from h), cmp_Or_int.l0]
  rw [show wrap64 (0 + 1) = 1 from by unfold wrap64; omega]
  simp only [List.length_cons, List.length_nil]
  rw [if_pos (by omega), if_pos (by omega), if_pos (by omega), if_pos h]
  by_cases h2 : b = 0
  ·rw [if_pos (show rd [a, b] 1 = 0 from h2), cmp_Or_int.l0]
   rw [show wrap64 (1 + 1) = 2 from by unfold wrap64; omega]
   simp only [List.length_cons, List.length_nil]
   rw [if_neg (by omega), h2]
  ·rw [if_neg (show ¬ rd [a, b] 1 = 0 from h2)]; rfl
 ·rw [if_neg (show ¬ rd [a, b] 0 = 0 from h), if_neg h]; rfl
theorem lower_f (a b : Pt) (k : Nat) (hk : 3 ≤ k) : ∃ c, shape_lower.f k a.f0 a.f1 b.f0 b.f1 = some c ∧ (c < 0 ↔ first a b) := by
 refine ⟨_, by unfold shape_lower.f; rw [compare_f, Option.bind_some, compare_f, Option.bind_some, or_f _ _ _ hk, Option.bind_some], ?_⟩
 unfold sg first
 split <;> (try split) <;> (try split) <;> (try split) <;> (try split) <;> omega
theorem min_l0 {l : List Pt} (hN : l.length ≤ 1000000) : ∀ d i (m : Pt), l.length = i + d → ∃ r : Pt, Rt (fun k => slices_MinFunc_lower.l0 k l (i : Int) m.f0 m.f1) (r.f0, r.f1) ∧ (r = m ∨ ∃ j, i ≤ j ∧ j < l.length ∧ r = at_ l j) ∧ ¬ first m r ∧ ∀ j, i ≤ j → j < l.length → ¬ first (at_ l j) r := by
 intro d
 induction d with
 | zero =>
  intro i m hi
  refine ⟨m, ⟨0 + 1, fun k hk => ?_⟩, Or.inl rfl, first_irrefl m, fun j h1 h2 => by omega⟩
  obtain ⟨k, rfl⟩ := fuel1 hk
  dsimp only; rw [slices_MinFunc_lower.l0, if_neg (by omega)]
 | succ d ih =>
  intro i m hi
  have hlt : i < l.length := by omega
  by_cases h : first (at_ l i) m
  ·obtain ⟨r, ⟨K, hK⟩, h1, h2, h3⟩ := ih (i + 1) (at_ l i) (by omega)
   refine ⟨r, ⟨K + 4, fun k hk => ?_⟩, ?_, ?_, ?_⟩
   ·obtain ⟨k, rfl⟩ : ∃ m, k = m + 1 := ⟨k - 1, by omega⟩
    obtain ⟨c, hc, hc'⟩ := lower_f (at_ l i) m k (by omega)
    dsimp only; rw [slices_MinFunc_lower.l0, if_pos (by omega), if_pos (by omega), rd_at, hc, Option.bind_some, if_pos (hc'.mpr h), wrap_succ i (by omega)]
    exact hK k (by omega)
   ·right
    rcases h1 with h1 | ⟨j, h4, h5, h6⟩
    ·exact ⟨i, Nat.le_refl _, hlt, h1⟩
    ·exact ⟨j, by omega, h5, h6⟩
   ·intro h4
    exact h2 (first_trans h h4)
   ·intro j h4 h5
    rcases Nat.eq_or_lt_of_le h4 with rfl | h6
    ·exact h2
    ·exact h3 j h6 h5
  ·obtain ⟨r, ⟨K, hK⟩, h1, h2, h3⟩ := ih (i + 1) m (by omega)
   refine ⟨r, ⟨K + 4, fun k hk => ?_⟩, ?_, h2, ?_⟩
   ·obtain ⟨k, rfl⟩ : ∃ m, k = m + 1 := ⟨k - 1, by omega⟩
    obtain ⟨c, hc, hc'⟩ := lower_f (at_ l i) m k (by omega)
    dsimp only; rw [slices_MinFunc_lower.l0, if_pos (by omega), if_pos (by omega), rd_at, hc, Option.bind_some, if_neg (fun h4 => h (hc'.mp h4)), wrap_succ i (by omega)]
    exact hK k (by omega)
   ·rcases h1 with h1 | ⟨j, h4, h5, h6⟩
    ·exact Or.inl h1
    ·exact Or.inr ⟨j, by omega, h5, h6⟩
   ·intro j h4 h5
    rcases Nat.eq_or_lt_of_le h4 with rfl | h6
    ·intro h7
     rcases first_tri m r with e | e | e
     ·rw [e] at h; exact h h7
     ·exact h2 e
     ·exact h (first_trans h7 e)
    ·exact h3 j h6 h5
theorem min_run {l : List Pt} (h0 : 0 < l.length) (hN : l.length ≤ 1000000) : ∃ r : Pt, Rt (fun k => slices_MinFunc_lower.f k l) (r.f0, r.f1) ∧ r ∈ l ∧ ∀ p ∈ l, ¬ first p r := by
 obtain ⟨r, ⟨K, hK⟩, h1, h2, h3⟩ := min_l0 hN (l.length - 1) 1 (at_ l 0) (by omega)
 refine ⟨r, ⟨K, fun k hk => ?_⟩, ?_, ?_⟩
 ·unfold slices_MinFunc_lower.f
  dsimp only; rw [if_neg (by omega), if_pos (by omega)]
  exact hK k hk
 ·rcases h1 with rfl | ⟨j, _, h5, rfl⟩
  ·exact at_mem h0
  ·exact at_mem h5
 ·intro p hp
  obtain ⟨j, hj, rfl⟩ := List.mem_iff_getElem.mp hp
  rw [← at_eq hj]
  by_cases h4 : j = 0
  ·subst h4; exact h2
  ·exact h3 j (by omega) hj
theorem tmod_two (i n : Nat) (h : i ≤ 1000000) : Int.tmod (wrap64 ((i : Int) + 2)) (n : Int) = (((i + 1 + 1) % n : Nat) : Int) := by
 rw [wrap_succ2 i h, ← Int.ofNat_tmod]
theorem normal_l0 {l : List Pt} (hb : ∀ p ∈ l, Bd p) (hn : 3 ≤ l.length) (hN : l.length ≤ 1000000) {r : Pt} (hmin : Rt (fun k => slices_MinFunc_lower.f k l) (r.f0, r.f1)) {b' : Bool} (hs : Rt (fun k => shape_simple.f k l) b') :
  ∀ d i, l.length = i + d → ∃ b, Rt (fun k => shape_normal.l0 k l (l.length : Int) (i : Int)) b ∧ (b = true ↔ (∀ i', i ≤ i' → i' < l.length → 0 < cr (at_ l i') (at_ l ((i' + 1) % l.length)) (at_ l ((i' + 1 + 1) % l.length))) ∧ at_ l 0 = r ∧ b' = true) := by
 intro d
 induction d with
 | zero =>
  intro i hi
  obtain ⟨K1, hK1⟩ := hmin
  obtain ⟨K2, hK2⟩ := hs
  refine ⟨decide (at_ l 0 = r) && b', ⟨K1 + K2 + 1, fun k hk => ?_⟩, ?_⟩
  ·obtain ⟨k, rfl⟩ := fuel1 hk
   have e1 := hK1 k (by omega)
   have e2 := hK2 k (by omega)
   dsimp only at e1 e2 ⊢
   rw [shape_normal.l0, if_neg (by omega), if_pos (by omega), e1, Option.bind_some]
   dsimp only
   rw [show rd_T41 l 0 = at_ l 0 from rfl, pt_beq]
   by_cases h : at_ l 0 = r
   ·rw [if_pos (by simpa using h), e2, Option.bind_some]; simp [h]
   ·rw [if_neg (by simpa using h)]; simp [h]
  ·simp only [Bool.and_eq_true, decide_eq_true_eq]
   exact ⟨fun h => ⟨fun i' h1 h2 => by omega, h⟩, fun h => h.2⟩
 | succ d ih =>
  intro i hi
  have hlt : i < l.length := by omega
  obtain ⟨b1, ⟨K, hK⟩, hb1⟩ := ih (i + 1) (by omega)
  have hBi := at_bd hb hlt
  have hBn := at_bd hb (show (i + 1) % l.length < l.length from Nat.mod_lt _ (by omega))
  have hBm := at_bd hb (show (i + 1 + 1) % l.length < l.length from Nat.mod_lt _ (by omega))
  have t1 := tmod_in (i + 1) l.length (by omega)
  have t2 := tmod_in (i + 1 + 1) l.length (by omega)
  rw [from_split hlt]
  by_cases h1 : cr (at_ l i) (at_ l ((i + 1) % l.length)) (at_ l ((i + 1 + 1) % l.length)) ≤ 0
  ·refine ⟨false, ⟨0 + 1, fun k hk => ?_⟩, ⟨fun h => by simp at h, fun h => absurd h.1.1 (by omega)⟩⟩
   obtain ⟨k, rfl⟩ := fuel1 hk
   dsimp only
   rw [shape_normal.l0, if_pos (by omega), if_pos (by omega), if_pos (by omega), if_neg (by omega), tmod_nat i _ (by omega), tmod_two i _ (by omega), if_pos (by omega), if_pos (by omega), if_pos (by omega), if_pos (by omega), rd_at, rd_at, rd_at, side_f hBi hBn hBm, Option.bind_some, if_pos h1]
  ·refine ⟨b1, ⟨K + 1, fun k hk => ?_⟩, ?_⟩
   ·obtain ⟨k, rfl⟩ := fuel1 hk
    dsimp only
    rw [shape_normal.l0, if_pos (by omega), if_pos (by omega), if_pos (by omega), if_neg (by omega), tmod_nat i _ (by omega), tmod_two i _ (by omega), if_pos (by omega), if_pos (by omega), if_pos (by omega), if_pos (by omega), rd_at, rd_at, rd_at, side_f hBi hBn hBm, Option.bind_some, if_neg h1, wrap_succ i (by omega)]
    exact hK k (by omega)
   ·rw [hb1]; exact ⟨fun h => ⟨⟨by omega, h.1⟩, h.2⟩, fun h => ⟨h.1.2, h.2⟩⟩
theorem simple_once {l : List Pt} (hn : 3 ≤ l.length) (h : Simple l) {i : Nat} (hi : i < l.length) (h0 : 0 < i) : at_ l 0 ≠ at_ l i := by
 intro e
 by_cases h1 : i = 1
 ·subst h1
  have := h.1 0 (by omega)
  rw [Nat.mod_eq_of_lt (by omega)] at this; exact this e
 ·by_cases h2 : i + 1 = l.length
  ·have := h.1 i hi
   rw [h2, Nat.mod_self] at this; exact this e.symm
  ·have := (h.2 0 (by omega)).2.2 i (by omega) hi (by rw [Nat.mod_eq_of_lt (by omega)]; omega)
   apply this
   left
   rw [← e]
   exact ⟨cr_self1 _ _, btw_start _ _⟩
theorem normal_run {l : List Pt} (hb : ∀ p ∈ l, Bd p) (hn : 3 ≤ l.length) (hN : l.length ≤ 1000000) : ∃ b, Rt (fun k => shape_normal.f k l) b ∧ (b = true ↔ Convex l) := by
 obtain ⟨r, hR, hr1, hr2⟩ := min_run (show 0 < l.length by omega) hN
 obtain ⟨b1, hS, hb1⟩ := simple_run hb hn hN
 obtain ⟨b, hB, hb2⟩ := normal_l0 hb hn hN hR hS l.length 0 (by omega)
 refine ⟨b, hB, ?_⟩
 rw [hb2, hb1]
 constructor
 ·rintro ⟨h1, h2, h3⟩
  refine ⟨h3, fun i hi => ⟨h1 i (Nat.zero_le _) hi, fun h0 => ?_⟩⟩
  rcases first_tri (at_ l 0) (at_ l i) with e | e | e
  ·exact absurd e (simple_once hn h3 hi h0)
  ·exact e
  ·rw [h2] at e; exact absurd e (hr2 _ (at_mem hi))
 ·rintro ⟨h3, h4⟩
  refine ⟨fun i _ hi => (h4 i hi).1, ?_, h3⟩
  obtain ⟨j, hj, rfl⟩ := List.mem_iff_getElem.mp hr1
  rw [← at_eq hj] at hr2 ⊢
  by_cases h5 : j = 0
  ·rw [h5]
  ·exact absurd ((h4 j hj).2 (by omega)) (hr2 _ (at_mem (by omega)))
end Go.Proofs.Ythehmkpcddafnaa.M
end
section
namespace Go.Proofs.Ythehmkpcddafnaa.M
open Go.RowKit Go.Proofs.Ythehmkpcddafnaa.PG Go.Proofs.YthehmkpcddafnaaW.PrintMore Go.Proofs.YthehmkpcddafnaaW.PrintWords
def In (m : Int) (p : Pt) : Prop := -m ≤ p.f0 ∧ p.f0 ≤ m ∧ -m ≤ p.f1 ∧ p.f1 ≤ m
instance (m : Int) (p : Pt) : Decidable (In m p) := by unfold In; infer_instance
def Poly (l : List Pt) : Prop := 3 ≤ l.length ∧ l.length ≤ 32 ∧ ∀ p ∈ l, In 10000 p
instance (l : List Pt) : Decidable (Poly l) := by unfold Poly; infer_instance
theorem beyond_f (m : Int) (h0 : 0 ≤ m) (h1 : m ≤ 1000000) (p : Pt) : beyond m p = !decide (In m p) := by
 unfold beyond
 rw [wz _ (by omega) (by omega), Bool.eq_iff_iff]
 simp only [Bool.or_eq_true, decide_eq_true_eq, Bool.not_eq_true']
 rw [decide_eq_false_iff_not]
 unfold In
 omega
theorem within_f (l : List Pt) (m : Int) (h0 : 0 ≤ m) (h1 : m ≤ 1000000) : shape_within.f l m = some (decide (∀ p ∈ l, In m p)) := by
 unfold shape_within.f
 congr 1
 rw [Bool.eq_iff_iff]
 simp only [Bool.not_eq_true', List.any_eq_false, beyond_f m h0 h1, decide_eq_true_eq, Bool.not_eq_true', decide_eq_false_iff_not, Decidable.not_not]
theorem polygon_f (l : List Pt) : shape_polygon.f l = some (decide (Poly l)) := by
 unfold shape_polygon.f
 by_cases h : (l.length : Int) ≥ 3
 ·rw [if_pos h]
  by_cases h2 : (l.length : Int) ≤ 32
  ·rw [if_pos h2, within_f _ _ (by omega) (by omega), Option.bind_some]
   congr 1; rw [decide_eq_decide]
   exact ⟨fun h3 => ⟨by omega, by omega, h3⟩, fun h3 => h3.2.2⟩
  ·rw [if_neg h2]
   congr 1; symm; rw [decide_eq_false_iff_not]
   intro h3; have := h3.2.1; omega
 ·rw [if_neg h]
  congr 1; symm; rw [decide_eq_false_iff_not]
  intro h3; have := h3.1; omega
theorem in_bd {p : Pt} (h : In 10000 p) : Bd p := by unfold In at h; unfold Bd; omega
def term (l : List Pt) (i : Nat) : Int := (at_ l i).f0 * (at_ l ((i + 1) % l.length)).f1 - (at_ l i).f1 * (at_ l ((i + 1) % l.length)).f0
def areaTo (l : List Pt) : Nat → Int
 | 0 => 0
 | i + 1 => areaTo l i + term l i
def area (l : List Pt) : Int := areaTo l l.length
end Go.Proofs.Ythehmkpcddafnaa.M
end
section
namespace Go.Proofs.Ythehmkpcddafnaa.M
open Go.RowKit Go.Proofs.Ythehmkpcddafnaa.PG Go.Proofs.YthehmkpcddafnaaW.PrintMore Go.Proofs.YthehmkpcddafnaaW.PrintWords
def Hit (a b p : Pt) : Prop := (a.f1 ≤ p.f1 ∧ p.f1 < b.f1 ∧ 0 < cr a b p) ∨ (b.f1 ≤ p.f1 ∧ p.f1 < a.f1 ∧ 0 < cr b a p)
instance (a b p : Pt) : Decidable (Hit a b p) := by unfold Hit; infer_instance
end Go.Proofs.Ythehmkpcddafnaa.M
end
section
namespace Go.Proofs.Ythehmkpcddafnaa.M
open Go.RowKit Go.Proofs.Ythehmkpcddafnaa.PG Go.Proofs.YthehmkpcddafnaaW.PrintMore Go.Proofs.YthehmkpcddafnaaW.PrintWords
theorem ring_sub {S h : List Pt} (r : Ring S h) : ∀ p ∈ h, p ∈ S := by
 intro p hp
 obtain ⟨j, hj, rfl⟩ := List.mem_iff_getElem.mp hp
 rw [← at_eq hj]; exact (ring_corner r j hj).2
end Go.Proofs.Ythehmkpcddafnaa.M
end
section
namespace Go.Proofs.Ythehmkpcddafnaa.M
open Go.RowKit Go.Proofs.Ythehmkpcddafnaa.PG Go.Proofs.YthehmkpcddafnaaW.PrintMore Go.Proofs.YthehmkpcddafnaaW.PrintWords
def nx (h : List Pt) (i : Nat) : Nat := (i + 1) % h.length
theorem nx_lt {h : List Pt} {i : Nat} (hi : i < h.length) : nx h i < h.length := Nat.mod_lt _ (by omega)
theorem prev_of {h : List Pt} {i : Nat} (hi : i < h.length) : ∃ j, j < h.length ∧ nx h j = i := by
 unfold nx
 by_cases h0 : i = 0
 ·exact ⟨h.length - 1, by omega, by rw [show h.length - 1 + 1 = h.length by omega, Nat.mod_self, h0]⟩
 ·exact ⟨i - 1, by omega, by rw [show i - 1 + 1 = i by omega, Nat.mod_eq_of_lt hi]⟩
end Go.Proofs.Ythehmkpcddafnaa.M
end
section
namespace Go.Proofs.Ythehmkpcddafnaa.M
open Go.RowKit Go.Proofs.Ythehmkpcddafnaa.PG Go.Proofs.YthehmkpcddafnaaW.PrintMore Go.Proofs.YthehmkpcddafnaaW.PrintWords
theorem pairs_sub {S h : List Pt} (hS : ∀ p ∈ h, p ∈ S) : ∀ l : List Pt, (∀ p ∈ l, p ∈ h) → Pairs (HE S) l → Pairs (HE h) l
 | [], _, _ => trivial
 | [_], _, _ => trivial
 | a :: b :: l, hm, hp => by
  refine ⟨?_, pairs_sub hS (b :: l) (fun p h => hm p (List.mem_cons_of_mem _ h)) hp.2⟩
  obtain ⟨n, _, _, L⟩ := hp.1
  exact ⟨n, hm a (by simp), hm b (by simp), fun p h => L p (hS p h)⟩
theorem ring_self {S h : List Pt} (r : Ring S h) : Ring h h := by
 have hs := ring_sub r
 obtain ⟨a, t, e, n, p⟩ := r
 refine ⟨a, t, e, n, pairs_sub hs _ (fun x hx => ?_) p⟩
 rw [e]
 have : x = a ∨ x ∈ t ∨ x = a := by simpa using hx
 rcases this with h1 | h1 | h1
 ·rw [h1]; simp
 ·exact List.mem_cons_of_mem _ h1
 ·rw [h1]; simp
theorem ring_not_flat {S h : List Pt} (r : Ring S h) (hf : ¬ Flat S) : ¬ Flat h := by
 intro h1
 have := flat_ring (ring_self r) h1
 have := ring_three r hf
 omega
end Go.Proofs.Ythehmkpcddafnaa.M
end
section
namespace Go.Proofs.Ythehmkpcddafnaa.M
open Go.Proofs.Ythehmkpcddafnaa.PG
def vec (a b : Pt) : Pt := ⟨b.f0 - a.f0, b.f1 - a.f1⟩
def cx (u v : Pt) : Int := u.f0 * v.f1 - u.f1 * v.f0
def ph (p q : Int) (u : Pt) : Int := p * u.f0 + q * u.f1
def plus (u v : Pt) : Pt := ⟨u.f0 + v.f0, u.f1 + v.f1⟩
theorem id3 (p q : Int) (u v w : Pt) : ph p q u * cx v w = ph p q v * cx u w - ph p q w * cx u v := by unfold ph cx; grind
theorem cx_swap (u v : Pt) : cx v u = - cx u v := by unfold cx; grind
theorem cr_cx (a b c : Pt) : cr a b c = cx (vec a b) (vec a c) := by unfold cr cx vec; dsimp only; grind
def P (l : List Pt) (i : Nat) : Pt := at_ l (i % l.length)
def ed (l : List Pt) (i : Nat) : Pt := vec (P l i) (P l (i + 1))
structure Cvx (p q : Int) (l : List Pt) : Prop where
 three : 3 ≤ l.length
 strong : Strong l
 low : ∀ k, k < l.length → k = 0 ∨ 0 < fn p q (at_ l 0) (at_ l k)
 some_ : ∀ i, ph p q (ed l i) ≠ 0
section
variable {p q : Int} {l : List Pt}
theorem P_lt {i : Nat} (h : i < l.length) : P l i = at_ l i := by unfold P; rw [Nat.mod_eq_of_lt h]
theorem P_len (l : List Pt) : P l l.length = P l 0 := by unfold P; rw [Nat.mod_self, Nat.zero_mod]
theorem P_add (l : List Pt) (i : Nat) : P l (i + l.length) = P l i := by unfold P; rw [Nat.add_mod_right]
theorem ed_add (l : List Pt) (i : Nat) : ed l (i + l.length) = ed l i := by unfold ed; rw [P_add, show i + l.length + 1 = (i + 1) + l.length by omega, P_add]
def Bf (p q : Int) (u v : Pt) : Prop := (0 < ph p q u ∧ ph p q v < 0) ∨ (0 < ph p q u ∧ 0 < ph p q v ∧ 0 < cx u v) ∨ (ph p q u < 0 ∧ ph p q v < 0 ∧ 0 < cx u v)
theorem Bf.trans {u v w : Pt} (h1 : Bf p q u v) (h2 : Bf p q v w) : Bf p q u w := by
 have id := id3 p q v u w
 have s : cx v u = - cx u v := cx_swap u v
 rw [s] at id
 rcases h1 with ⟨a, b⟩ | ⟨a, b, c⟩ | ⟨a, b, c⟩ <;> rcases h2 with ⟨d, e⟩ | ⟨d, e, f⟩ | ⟨d, e, f⟩
 ·omega
 ·omega
 ·exact Or.inl ⟨a, e⟩
 ·exact Or.inl ⟨a, e⟩
 ·refine Or.inr (Or.inl ⟨a, e, ?_⟩)
  have m1 : 0 < ph p q u * cx v w := Int.mul_pos a f
  have m2 : ph p q w * - cx u v < 0 := Int.mul_neg_of_pos_of_neg e (by omega)
  exact pos_of_mul d (by omega)
 ·omega
 ·omega
 ·omega
 ·refine Or.inr (Or.inr ⟨a, e, ?_⟩)
  have m1 : ph p q u * cx v w < 0 := Int.mul_neg_of_neg_of_pos a f
  have m2 : 0 < ph p q w * - cx u v := Int.mul_pos_of_neg_of_neg e (by omega)
  rcases Int.lt_or_le 0 (cx u w) with h | h
  ·exact h
  ·have : 0 ≤ ph p q v * cx u w := Int.mul_nonneg_of_nonpos_of_nonpos (by omega) h
   omega
end
end Go.Proofs.Ythehmkpcddafnaa.M
end
section
namespace Go.Proofs.Ythehmkpcddafnaa.M
open Go.Proofs.Ythehmkpcddafnaa.PG
section
variable {p q : Int} {a b : List Pt} {S : List Pt}
def Sums (a b S : List Pt) : Prop := ∀ s, s ∈ S ↔ ∃ k l, k < a.length ∧ l < b.length ∧ s = plus (at_ a k) (at_ b l)
def V (a b : List Pt) (i j : Nat) : Pt := plus (P a i) (P b j)
end
end Go.Proofs.Ythehmkpcddafnaa.M
end
section
namespace Go.Proofs.Ythehmkpcddafnaa.M
open Go.Proofs.Ythehmkpcddafnaa.PG
def path (a b : List Pt) : Nat → Nat → Nat → List Pt
 | 0, _, _ => []
 | d + 1, i, j =>
  if i < a.length ∧ (j < b.length → 0 < cx (ed a i) (ed b j)) then V a b (i + 1) j :: path a b d (i + 1) j
  else if j < b.length ∧ (i < a.length → cx (ed a i) (ed b j) < 0) then V a b i (j + 1) :: path a b d i (j + 1)
  else if i < a.length ∧ j < b.length then V a b (i + 1) (j + 1) :: path a b d (i + 1) (j + 1)
  else []
end Go.Proofs.Ythehmkpcddafnaa.M
end
section
namespace Go.Proofs.Ythehmkpcddafnaa.M
open Go.RowKit Go.Proofs.Ythehmkpcddafnaa.PG Go.Proofs.YthehmkpcddafnaaW.PrintMore Go.Proofs.YthehmkpcddafnaaW.PrintWords
theorem snoc_last (x : List Pt) (v : Pt) : at_ (x ++ [v]) x.length = v := by
 rw [at_eq (by simp)]; simp
end Go.Proofs.Ythehmkpcddafnaa.M
end
section
namespace Go.Proofs.Ythehmkpcddafnaa.M
open Go.RowKit Go.Proofs.Ythehmkpcddafnaa.PG Go.Proofs.YthehmkpcddafnaaW.PrintMore Go.Proofs.YthehmkpcddafnaaW.PrintWords
end Go.Proofs.Ythehmkpcddafnaa.M
end
section
namespace Go.Proofs.Ythehmkpcddafnaa.M
open Go.RowKit Go.Proofs.Ythehmkpcddafnaa.PG Go.Proofs.YthehmkpcddafnaaW.PrintMore Go.Proofs.YthehmkpcddafnaaW.PrintWords
structure Nf (m : Int) (h : List Pt) : Prop where
 ring : Ring h h
 flat : ¬ Flat h
 fst : ∀ p ∈ h, p = at_ h 0 ∨ first (at_ h 0) p
 inb : ∀ p ∈ h, In m p
theorem Nf.of_ring {m : Int} {S h : List Pt} (r : Ring S h) (hf : ¬ Flat S) (hm : ∀ p ∈ S, p = at_ h 0 ∨ first (at_ h 0) p) (hin : ∀ p ∈ S, In m p) : Nf m h :=
 ⟨ring_self r, ring_not_flat r hf, fun p hp => hm p (ring_sub r p hp), fun p hp => hin p (ring_sub r p hp)⟩
section
variable {m : Int} {h : List Pt}
theorem Nf.three (n : Nf m h) : 3 ≤ h.length := ring_three n.ring n.flat
theorem Nf.bd (n : Nf m h) (hm : m ≤ 10000) : ∀ p ∈ h, Bd p := fun p hp => by have := n.inb p hp; unfold In at this; unfold Bd; omega
theorem fn_first {a b : Pt} (ha : Bd a) (hb : Bd b) : first a b ↔ 0 < fn 1 10000000 a b := by
 unfold Bd at ha hb; unfold first fn; omega
end
def sums (a b : List Pt) : List Pt := a.flatMap fun x => b.map (plus x)
theorem sums_mem {a b : List Pt} {s : Pt} : s ∈ sums a b ↔ ∃ x ∈ a, ∃ y ∈ b, s = plus x y := by
 unfold sums
 rw [List.mem_flatMap]
 constructor
 ·rintro ⟨x, hx, hs⟩
  obtain ⟨y, hy, rfl⟩ := List.mem_map.mp hs
  exact ⟨x, hx, y, hy, rfl⟩
 ·rintro ⟨x, hx, y, hy, rfl⟩
  exact ⟨x, hx, List.mem_map.mpr ⟨y, hy, rfl⟩⟩
theorem sums_flat {a b : List Pt} (hb : 0 < b.length) (h : Flat (sums a b)) : Flat a := by
 intro x hx y hy z hz
 have m := at_mem hb
 have := h _ (sums_mem.mpr ⟨x, hx, _, m, rfl⟩) _ (sums_mem.mpr ⟨y, hy, _, m, rfl⟩) _ (sums_mem.mpr ⟨z, hz, _, m, rfl⟩)
 rw [cr_eq] at this ⊢
 unfold plus at this
 dsimp only at this
 rw [← this]; grind
end Go.Proofs.Ythehmkpcddafnaa.M
end
section
namespace Go.Proofs.Ythehmkpcddafnaa.M
open Go.RowKit Go.Proofs.Ythehmkpcddafnaa.PG Go.Proofs.YthehmkpcddafnaaW.PrintMore Go.Proofs.YthehmkpcddafnaaW.PrintWords
theorem has_min (f : Nat → Int) : ∀ n, 0 < n → ∃ i, i < n ∧ ∀ j, j < n → f i ≤ f j := by
 intro n
 induction n with
 | zero => intro h; omega
 | succ n ih =>
  intro _
  by_cases h0 : n = 0
  ·subst h0; exact ⟨0, by omega, fun j hj => by rw [show j = 0 by omega]; exact Int.le_refl _⟩
  ·obtain ⟨i, hi, hm⟩ := ih (by omega)
   by_cases hc : f i ≤ f n
   ·exact ⟨i, by omega, fun j hj => by
     rcases Nat.lt_or_ge j n with h1 | h1
     ·exact hm j h1
     ·rw [show j = n by omega]; exact hc⟩
   ·exact ⟨n, by omega, fun j hj => by
     rcases Nat.lt_or_ge j n with h1 | h1
     ·have := hm j h1; omega
     ·rw [show j = n by omega]; exact Int.le_refl _⟩
end Go.Proofs.Ythehmkpcddafnaa.M
end
section
namespace Go.Proofs.Ythehmkpcddafnaa.M
open Go.RowKit Go.Proofs.Ythehmkpcddafnaa.PG Go.Proofs.YthehmkpcddafnaaW.PrintMore Go.Proofs.YthehmkpcddafnaaW.PrintWords
def Inside (h : List Pt) (p : Pt) : Prop := ∀ i, i < h.length → 0 < cr (at_ h i) (at_ h (nx h i)) p
theorem e_zero {u v w e : Pt} (T : 0 < cr u v w) (h1 : cx e (vec v w) = 0) (h2 : cx e (vec v u) = 0) : e.f0 = 0 ∧ e.f1 = 0 := by
 have k0 : cr u v w * e.f0 = 0 := by
  have : cr u v w * e.f0 = cx e (vec v w) * (v.f0 - u.f0) + cx e (vec v u) * (w.f0 - v.f0) := by unfold cr cx vec; dsimp only; grind
  rw [this, h1, h2]; simp
 have k1 : cr u v w * e.f1 = 0 := by
  have : cr u v w * e.f1 = cx e (vec v w) * (v.f1 - u.f1) + cx e (vec v u) * (w.f1 - v.f1) := by unfold cr cx vec; dsimp only; grind
  rw [this, h1, h2]; simp
 constructor
 ·rcases Int.mul_eq_zero.mp k0 with h | h
  ·omega
  ·exact h
 ·rcases Int.mul_eq_zero.mp k1 with h | h
  ·omega
  ·exact h
theorem least {x : List Pt} (h3 : 3 ≤ x.length) (st : Strong x) (e : Pt) : ∃ i j, i < x.length ∧ j < x.length ∧ nx x j = i ∧ (∀ k, k < x.length → 0 ≤ cx e (vec (at_ x i) (at_ x k))) ∧ 0 < cr (at_ x j) (at_ x i) (at_ x (nx x i)) := by
 obtain ⟨i, hi, hmin⟩ := has_min (fun k => cx e (at_ x k)) x.length (by omega)
 obtain ⟨j, hj, hji⟩ := prev_of hi
 have T := strong_turn h3 st j hj
 have e1 : (j + 1) % x.length = i := hji
 have e2 : (j + 1 + 1) % x.length = nx x i := by unfold nx; rw [← e1, Nat.mod_add_mod]
 rw [e1, e2] at T
 refine ⟨i, j, hi, hj, hji, fun k hk => ?_, T⟩
 have := hmin k hk
 have e1 : cx e (vec (at_ x i) (at_ x k)) = cx e (at_ x k) - cx e (at_ x i) := by unfold cx vec; dsimp only; grind
 omega
theorem inside_far {x : List Pt} (h3 : 3 ≤ x.length) (st : Strong x) {p e : Pt} (hp : Inside x p) (he : ¬ (e.f0 = 0 ∧ e.f1 = 0)) : ∃ i, i < x.length ∧ 0 < cx e (vec (at_ x i) p) := by
 obtain ⟨i, j, hi, hj, hji, hmin, T⟩ := least h3 st e
 have p1 := hmin j hj
 have p2 := hmin _ (nx_lt hi)
 have q1 := hp j hj
 rw [hji] at q1
 have q2 := hp i hi
 refine ⟨i, hi, ?_⟩
 generalize at_ x j = u at *
 generalize at_ x i = v at *
 generalize at_ x (nx x i) = w at *
 have id : cr u v w * cx e (vec v p) = cr u v p * cx e (vec v w) + cr v w p * cx e (vec v u) := by unfold cr cx vec; dsimp only; grind
 have m1 : 0 ≤ cr u v p * cx e (vec v w) := Int.mul_nonneg (by omega) p2
 have m2 : 0 ≤ cr v w p * cx e (vec v u) := Int.mul_nonneg (by omega) p1
 refine pos_of_mul T ?_
 rcases Int.lt_or_le 0 (cr u v w * cx e (vec v p)) with h | h
 ·exact h
 ·exfalso
  apply he
  refine e_zero T ?_ ?_
  ·rcases Int.mul_eq_zero.mp (show cr u v p * cx e (vec v w) = 0 by omega) with h | h
   ·omega
   ·exact h
  ·rcases Int.mul_eq_zero.mp (show cr v w p * cx e (vec v u) = 0 by omega) with h | h
   ·omega
   ·exact h
theorem par_edge {x : List Pt} (h3 : 3 ≤ x.length) (st : Strong x) {e y z : Pt} (he : ¬ (e.f0 = 0 ∧ e.f1 = 0)) (hy : y ∈ x) (hz : z ∈ x) (hyz : y ≠ z) (hl : ∀ k, k < x.length → 0 ≤ cx e (vec y (at_ x k))) (hz0 : cx e (vec y z) = 0) :
  ∃ i, i < x.length ∧ cx e (vec (at_ x i) y) = 0 ∧ ∀ v, cx e v ≤ 0 → cx (vec (at_ x i) (at_ x (nx x i))) v ≤ 0 := by
 obtain ⟨i, j, hi, hj, hji, hmin, T⟩ := least h3 st e
 obtain ⟨ky, hky, ey⟩ := List.mem_iff_getElem.mp hy
 obtain ⟨kz, hkz, ez⟩ := List.mem_iff_getElem.mp hz
 rw [← at_eq hky] at ey
 rw [← at_eq hkz] at ez
 have y0 : cx e (vec (at_ x i) y) = 0 := by
  have a1 := hmin ky hky
  rw [ey] at a1
  have a2 := hl i hi
  have : cx e (vec y (at_ x i)) = - cx e (vec (at_ x i) y) := by unfold cx vec; dsimp only; grind
  omega
 have z0 : cx e (vec (at_ x i) z) = 0 := by
  have : cx e (vec (at_ x i) z) = cx e (vec (at_ x i) y) + cx e (vec y z) := by unfold cx vec; dsimp only; grind
  omega
 have p1 := hmin j hj
 have p2 := hmin _ (nx_lt hi)
 have key : cx e (vec (at_ x i) (at_ x (nx x i))) = 0 ∨ cx e (vec (at_ x i) (at_ x j)) = 0 := by
  apply Classical.byContradiction
  intro hn
  have n1 : cx e (vec (at_ x i) (at_ x (nx x i))) ≠ 0 := fun h => hn (Or.inl h)
  have n2 : cx e (vec (at_ x i) (at_ x j)) ≠ 0 := fun h => hn (Or.inr h)
  have only : ∀ k, k < x.length → cx e (vec (at_ x i) (at_ x k)) = 0 → at_ x k = at_ x i := by
   intro k hk h0
   obtain ⟨s1, _⟩ := st.2.2 j k hj hk
   obtain ⟨s2, _⟩ := st.2.2 i k hi hk
   rw [show (j + 1) % x.length = i from hji] at s1
   rw [show (i + 1) % x.length = nx x i from rfl] at s2
   generalize at_ x k = s at *
   generalize at_ x j = u at *
   generalize at_ x i = v at *
   generalize at_ x (nx x i) = w at *
   have id : cr u v w * cx e (vec v s) = cr u v s * cx e (vec v w) + cr v w s * cx e (vec v u) := by unfold cr cx vec; dsimp only; grind
   rw [h0, Int.mul_zero] at id
   have m1 : 0 ≤ cr u v s * cx e (vec v w) := Int.mul_nonneg s1 p2
   have m2 : 0 ≤ cr v w s * cx e (vec v u) := Int.mul_nonneg s2 p1
   have c1 : cr u v s = 0 := by
    rcases Int.mul_eq_zero.mp (show cr u v s * cx e (vec v w) = 0 by omega) with h | h
    ·exact h
    ·exact absurd h n1
   have c2 : cr v w s = 0 := by
    rcases Int.mul_eq_zero.mp (show cr v w s * cx e (vec v u) = 0 by omega) with h | h
    ·exact h
    ·exact absurd h n2
   have k0 : cr u v w * (s.f0 - v.f0) = 0 := by
    have : cr u v w * (s.f0 - v.f0) = cr u v s * (w.f0 - v.f0) - cr v w s * (v.f0 - u.f0) := by unfold cr; grind
    rw [this, c1, c2]; simp
   have k1 : cr u v w * (s.f1 - v.f1) = 0 := by
    have : cr u v w * (s.f1 - v.f1) = cr u v s * (w.f1 - v.f1) - cr v w s * (v.f1 - u.f1) := by unfold cr; grind
    rw [this, c1, c2]; simp
   refine pt_ext ?_ ?_
   ·rcases Int.mul_eq_zero.mp k0 with h | h <;> omega
   ·rcases Int.mul_eq_zero.mp k1 with h | h <;> omega
  apply hyz
  have q1 := only ky hky (by rw [ey]; exact y0)
  have q2 := only kz hkz (by rw [ez]; exact z0)
  rw [ey] at q1; rw [ez] at q2
  rw [q1, q2]
 rcases key with c | c
 ·refine ⟨i, hi, y0, fun v hv => ?_⟩
  have p1' : 0 < cx e (vec (at_ x i) (at_ x j)) := by
   rcases Int.lt_or_le 0 (cx e (vec (at_ x i) (at_ x j))) with h | h
   ·exact h
   ·exact absurd (e_zero T c (by omega)) he
  generalize at_ x j = a at *
  generalize at_ x i = b at *
  generalize at_ x (nx x i) = d at *
  have id : cx e (vec b a) * cx (vec b d) v = cr a b d * cx e v + cx e (vec b d) * cx (vec b a) v := by unfold cr cx vec; dsimp only; grind
  rw [c, Int.zero_mul, Int.add_zero] at id
  have m : cr a b d * cx e v ≤ 0 := Int.mul_nonpos_of_nonneg_of_nonpos (by omega) hv
  rcases Int.lt_or_le 0 (cx (vec b d) v) with h | h
  ·have := Int.mul_pos p1' h; omega
  ·exact h
 ·refine ⟨j, hj, ?_, fun v hv => ?_⟩
  ·have : cx e (vec (at_ x j) y) = cx e (vec (at_ x i) y) - cx e (vec (at_ x i) (at_ x j)) := by unfold cx vec; dsimp only; grind
   omega
  ·have p2' : 0 < cx e (vec (at_ x i) (at_ x (nx x i))) := by
    rcases Int.lt_or_le 0 (cx e (vec (at_ x i) (at_ x (nx x i)))) with h | h
    ·exact h
    ·exact absurd (e_zero T (by omega) c) he
   rw [hji]
   generalize at_ x j = a at *
   generalize at_ x i = b at *
   generalize at_ x (nx x i) = d at *
   have id : cx e (vec b d) * cx (vec a b) v = cr a b d * cx e v - cx e (vec b a) * cx (vec b d) v := by unfold cr cx vec; dsimp only; grind
   rw [c, Int.zero_mul, Int.sub_zero] at id
   have m : cr a b d * cx e v ≤ 0 := Int.mul_nonpos_of_nonneg_of_nonpos (by omega) hv
   rcases Int.lt_or_le 0 (cx (vec a b) v) with h | h
   ·have := Int.mul_pos p2' h; omega
   ·exact h
end Go.Proofs.Ythehmkpcddafnaa.M
end
section
namespace Go.Proofs.Ythehmkpcddafnaa.M
open Go.RowKit Go.Proofs.Ythehmkpcddafnaa.PG Go.Proofs.YthehmkpcddafnaaW.PrintMore Go.Proofs.YthehmkpcddafnaaW.PrintWords
end Go.Proofs.Ythehmkpcddafnaa.M
end
section
namespace Go.Proofs.Ythehmkpcddafnaa.M
open Go.RowKit Go.Proofs.Ythehmkpcddafnaa.PG Go.Proofs.YthehmkpcddafnaaW.PrintMore Go.Proofs.YthehmkpcddafnaaW.PrintWords
end Go.Proofs.Ythehmkpcddafnaa.M
end
section
namespace Go.Proofs.Ythehmkpcddafnaa.M
open Go.RowKit Go.Proofs.Ythehmkpcddafnaa.PG Go.Proofs.YthehmkpcddafnaaW.PrintMore Go.Proofs.YthehmkpcddafnaaW.PrintWords
def neg (p : Pt) : Pt := ⟨-p.f0, -p.f1⟩
def negs (l : List Pt) : List Pt := l.map neg
theorem neg_neg (p : Pt) : neg (neg p) = p := by unfold neg; apply pt_ext <;> dsimp only <;> omega
theorem negs_mem {l : List Pt} {p : Pt} : p ∈ negs l ↔ neg p ∈ l := by
 unfold negs
 rw [List.mem_map]
 exact ⟨fun ⟨x, hx, e⟩ => by rw [← e, neg_neg]; exact hx, fun h => ⟨neg p, h, neg_neg p⟩⟩
end Go.Proofs.Ythehmkpcddafnaa.M
end
section
namespace Go.Proofs.Ythehmkpcddafnaa.M
open Go.RowKit Go.Proofs.Ythehmkpcddafnaa.PG Go.Proofs.YthehmkpcddafnaaW.PrintMore Go.Proofs.YthehmkpcddafnaaW.PrintWords
end Go.Proofs.Ythehmkpcddafnaa.M
end
section
namespace Go.Proofs.Ythehmkpcddafnaa.M
open Go.RowKit Go.Proofs.Ythehmkpcddafnaa.PG Go.Proofs.YthehmkpcddafnaaW.PrintMore Go.Proofs.YthehmkpcddafnaaW.PrintWords
def shift (v p : Pt) : Pt := ⟨p.f0 + v.f0, p.f1 + v.f1⟩
def shifted (v : Pt) (l : List Pt) : List Pt := l.map (shift v)
theorem take_snoc {l : List Pt} {i : Nat} (h : i < l.length) : l.take (i + 1) = l.take i ++ [at_ l i] := by
 rw [at_eq h, List.take_append_getElem]
theorem moved_run {l : List Pt} {v : Pt} (hb : ∀ p ∈ l, Bd p) (hv : Bd v) (hN : l.length ≤ 1000000) : Rt (fun k => shape_moved.f k l v.f0 v.f1) (shifted v l) := by
 have H : ∀ d i, l.length = i + d → Rt (fun k => shape_moved.l0 k (shifted v (l.take i)) l (l.length : Int) (i : Int) v.f0 v.f1) (shifted v l) := by
  intro d
  induction d with
  | zero =>
   intro i hi
   refine rt_ret fun k => ?_
   rw [shape_moved.l0, if_neg (by omega), List.take_of_length_le (by omega)]
  | succ d ih =>
   intro i hi
   have hlt : i < l.length := by omega
   obtain ⟨b0, b1, b2, b3⟩ := at_bd hb hlt
   obtain ⟨v0, v1, v2, v3⟩ := hv
   have e : shifted v (l.take (i + 1)) = shifted v (l.take i) ++ [shift v (at_ l i)] := by rw [take_snoc hlt]; unfold shifted; rw [List.map_append]; rfl
   refine rt_step (fun k => ?_) (ih (i + 1) (by omega))
   rw [e, shape_moved.l0, if_pos (by omega), if_pos (by omega), if_pos (by omega), rd_at]
   unfold shape_add.f
   rw [Option.bind_some, wz ((at_ l i).f0 + _) (by omega) (by omega), wz ((at_ l i).f1 + _) (by omega) (by omega), if_pos (by unfold shifted; rw [List.length_map, List.length_take]; omega), wrap_succ i (by omega)]
   rfl
 obtain ⟨K, hK⟩ := H l.length 0 (by omega)
 exact ⟨K, fun k hk => hK k hk⟩
def SepAt (a b : List Pt) (i : Nat) : Prop := ∀ q ∈ b, cr (at_ a i) (at_ a ((i + 1) % a.length)) q ≤ 0
def Sep (a b : List Pt) : Prop := ∃ i, i < a.length ∧ SepAt a b i
theorem ex_split {n i : Nat} (hi : i < n) (P : Nat → Prop) : (∃ i', i ≤ i' ∧ i' < n ∧ P i') ↔ (P i ∨ ∃ i', i + 1 ≤ i' ∧ i' < n ∧ P i') := by
 constructor
 ·rintro ⟨j, h1, h2, h3⟩
  rcases Nat.eq_or_lt_of_le h1 with rfl | h4
  ·exact Or.inl h3
  ·exact Or.inr ⟨j, h4, h2, h3⟩
 ·rintro (h | ⟨j, h1, h2, h3⟩)
  ·exact ⟨i, Nat.le_refl _, hi, h⟩
  ·exact ⟨j, by omega, h2, h3⟩
theorem left_f {a b : Pt} {l : List Pt} (ha : Bd a) (hb : Bd b) (hl : ∀ q ∈ l, Bd q) : ∃ c, left_any.f l a.f0 a.f1 b.f0 b.f1 = some c ∧ (c = true ↔ ¬ ∀ q ∈ l, cr a b q ≤ 0) := by
 refine ⟨_, rfl, ?_⟩
 rw [List.any_eq_true]
 constructor
 ·rintro ⟨q, hq, h⟩ hn
  unfold PG.leftOf at h
  rw [side_f ha hb (hl q hq), decide_eq_true_eq, Option.getD_some] at h
  have := hn q hq; omega
 ·intro hn
  apply Classical.byContradiction
  intro h
  apply hn
  intro q hq
  apply Classical.byContradiction
  intro h2
  apply h
  refine ⟨q, hq, ?_⟩
  unfold PG.leftOf
  rw [side_f ha hb (hl q hq), decide_eq_true_eq, Option.getD_some]; omega
theorem parted_run {a b : List Pt} (ha : ∀ p ∈ a, Bd p) (hb : ∀ p ∈ b, Bd p) (hN : a.length ≤ 1000000) : ∃ c, Rt (fun k => shape_parted.f k a b) c ∧ (c = true ↔ Sep a b) := by
 have H : ∀ d i, a.length = i + d → ∃ c, Rt (fun k => shape_parted.l0 k a b (a.length : Int) (i : Int)) c ∧ (c = true ↔ ∃ i', i ≤ i' ∧ i' < a.length ∧ SepAt a b i') := by
  intro d
  induction d with
  | zero =>
   intro i hi
   refine ⟨false, rt_ret fun k => ?_, ⟨fun h => by simp at h, fun ⟨j, h1, h2, _⟩ => by omega⟩⟩
   rw [shape_parted.l0, if_neg (by omega)]
  | succ d ih =>
   intro i hi
   have hlt : i < a.length := by omega
   have t1 := tmod_in (i + 1) a.length (by omega)
   obtain ⟨c1, hc1, hc2⟩ := ih (i + 1) (by omega)
   obtain ⟨e, he1, he2⟩ := left_f (at_bd ha hlt) (at_bd ha (show (i + 1) % a.length < a.length from Nat.mod_lt _ (by omega))) hb
   rw [ex_split hlt]
   have st : ∀ k, shape_parted.l0 (k + 1) a b (a.length : Int) (i : Int) = if e = true then shape_parted.l0 k a b (a.length : Int) ((i + 1 : Nat) : Int) else some true := by
    intro k
    rw [shape_parted.l0, if_pos (by omega), if_pos (by omega), if_pos (by omega), if_neg (by omega), tmod_nat i _ (by omega), if_pos (by omega), if_pos (by omega), rd_at, rd_at, he1, Option.bind_some, wrap_succ i (by omega)]
   cases e with
   | true =>
    refine ⟨c1, rt_step (fun k => by rw [st, if_pos rfl]) hc1, ?_⟩
    rw [hc2]
    exact ⟨Or.inr, fun h => h.resolve_left (he2.mp rfl)⟩
   | false =>
    refine ⟨true, rt_ret (fun k => by rw [st, if_neg (by simp)]), ⟨fun _ => Or.inl ?_, fun _ => rfl⟩⟩
    apply Classical.byContradiction
    intro h
    have := he2.mpr h
    simp at this
 obtain ⟨c, ⟨K, hK⟩, h⟩ := H a.length 0 (by omega)
 refine ⟨c, ⟨K, fun k hk => hK k hk⟩, ?_⟩
 rw [h]
 exact ⟨fun ⟨i, _, h1, h2⟩ => ⟨i, h1, h2⟩, fun ⟨i, h1, h2⟩ => ⟨i, Nat.zero_le _, h1, h2⟩⟩
end Go.Proofs.Ythehmkpcddafnaa.M
end
section
namespace Go.Proofs.Ythehmkpcddafnaa.M
open Go.RowKit Go.Proofs.Ythehmkpcddafnaa.PG Go.Proofs.YthehmkpcddafnaaW.PrintMore Go.Proofs.YthehmkpcddafnaaW.PrintWords
theorem sort5 : slices_SortFunc_xy.f [(⟨0, 0⟩ : S41), (⟨1, 0⟩ : S41), (⟨2, 0⟩ : S41), (⟨0, 2⟩ : S41), (⟨1, 1⟩ : S41)] = some [(⟨0, 0⟩ : S41), (⟨0, 2⟩ : S41), (⟨1, 0⟩ : S41), (⟨1, 1⟩ : S41), (⟨2, 0⟩ : S41)] := by
 simp [slices_SortFunc_xy.f, List.mergeSort, List.MergeSort.Internal.splitInTwo, xyLt]
theorem area_ok (k : Nat) : shape_Area2.f (k + 60) [(⟨0, 0⟩ : S41), (⟨2, 0⟩ : S41), (⟨2, 2⟩ : S41), (⟨0, 2⟩ : S41)] = some (8, 0) := by kernel_rfl
theorem simple_ok (k : Nat) : shape_simple.f (k + 60) [(⟨0, 0⟩ : S41), (⟨2, 0⟩ : S41), (⟨2, 2⟩ : S41), (⟨0, 2⟩ : S41)] = some true := by kernel_rfl
theorem lattice_l0 (k : Nat) : shape_Lattice.l0 (k + 60) [(⟨0, 0⟩ : S41), (⟨2, 0⟩ : S41), (⟨2, 2⟩ : S41), (⟨0, 2⟩ : S41)] 0 4 0 = some (1, 8, 0) := by kernel_rfl
theorem lattice_ok (k : Nat) : shape_Lattice.f (k + 60) [(⟨0, 0⟩ : S41), (⟨2, 0⟩ : S41), (⟨2, 2⟩ : S41), (⟨0, 2⟩ : S41)] = some (1, 8, 0) := by
 unfold shape_Lattice.f shape_refused_simple.f
 rw [simple_ok, show shape_polygon.f [(⟨0, 0⟩ : S41), (⟨2, 0⟩ : S41), (⟨2, 2⟩ : S41), (⟨0, 2⟩ : S41)] = some true by decide +kernel, Option.bind_some, if_pos rfl, Option.bind_some, if_pos rfl, Option.bind_some, if_pos rfl]
 exact lattice_l0 k
theorem same_ok (k : Nat) : cracknelref04_Same.f (k + 60) [(⟨0, 0⟩ : S41), (⟨2, 0⟩ : S41), (⟨0, 2⟩ : S41)] [(⟨0, 0⟩ : S41), (⟨2, 0⟩ : S41), (⟨0, 2⟩ : S41)] = some true := by kernel_rfl
theorem hull_rest (k : Nat) : shape_Hull.j0 (k + 60) [(⟨0, 0⟩ : S41), (⟨1, 0⟩ : S41), (⟨2, 0⟩ : S41), (⟨0, 2⟩ : S41), (⟨1, 1⟩ : S41)] false = some ([(⟨0, 0⟩ : S41), (⟨2, 0⟩ : S41), (⟨0, 2⟩ : S41)], 0) := by
 rw [show k + 60 = (k + 59) + 1 from rfl, shape_Hull.j0, if_neg (by simp), show slices_Clone.f [(⟨0, 0⟩ : S41), (⟨1, 0⟩ : S41), (⟨2, 0⟩ : S41), (⟨0, 2⟩ : S41), (⟨1, 1⟩ : S41)] = some [(⟨0, 0⟩ : S41), (⟨1, 0⟩ : S41), (⟨2, 0⟩ : S41), (⟨0, 2⟩ : S41), (⟨1, 1⟩ : S41)] by decide +kernel, Option.bind_some, sort5, Option.bind_some]
 kernel_rfl
theorem hull_pre (k : Nat) : shape_Hull.f k [(⟨0, 0⟩ : S41), (⟨1, 0⟩ : S41), (⟨2, 0⟩ : S41), (⟨0, 2⟩ : S41), (⟨1, 1⟩ : S41)] = shape_Hull.j0 k [(⟨0, 0⟩ : S41), (⟨1, 0⟩ : S41), (⟨2, 0⟩ : S41), (⟨0, 2⟩ : S41), (⟨1, 1⟩ : S41)] false := by
 unfold shape_Hull.f
 rw [show shape_within.f [(⟨0, 0⟩ : S41), (⟨1, 0⟩ : S41), (⟨2, 0⟩ : S41), (⟨0, 2⟩ : S41), (⟨1, 1⟩ : S41)] 10000 = some true by decide +kernel, Option.bind_some]
 simp only [List.length_cons, List.length_nil]
 rw [if_neg (by omega), if_neg (by omega)]
 rfl
theorem lives_ok (k : Nat) (hk : 60 ≤ k) : cracknellaw04_lives.f k = some true := by
 obtain ⟨d, rfl⟩ : ∃ d, k = d + 60 := ⟨k - 60, by omega⟩
 unfold cracknellaw04_lives.f
 rw [hull_pre, hull_rest, Option.bind_some, area_ok, lattice_ok]
 simp only [Option.bind_some, if_true, same_ok]
end Go.Proofs.Ythehmkpcddafnaa.M
end
section
namespace Go.Proofs.Ythehmkpcddafnaa.M
open Go.RowKit Go.Proofs.Ythehmkpcddafnaa.PG Go.Proofs.YthehmkpcddafnaaW.PrintMore Go.Proofs.YthehmkpcddafnaaW.PrintWords
theorem shifted_at {v : Pt} {b : List Pt} {k : Nat} (hk : k < b.length) : at_ (shifted v b) k = shift v (at_ b k) := by
 have hl : (shifted v b).length = b.length := by unfold shifted; rw [List.length_map]
 rw [at_eq (by omega), at_eq hk]; unfold shifted; rw [List.getElem_map]
theorem shifted_len (v : Pt) (b : List Pt) : (shifted v b).length = b.length := by unfold shifted; rw [List.length_map]
theorem shifted_mem {v : Pt} {b : List Pt} {s : Pt} : s ∈ shifted v b ↔ ∃ q ∈ b, s = shift v q := by
 unfold shifted; rw [List.mem_map]
 exact ⟨fun ⟨q, h, e⟩ => ⟨q, h, e.symm⟩, fun ⟨q, h, e⟩ => ⟨q, h, e.symm⟩⟩
section
variable {m : Int} {a b s n : List Pt} {v : Pt}
theorem sep_ab : Sep a (shifted v b) ↔ ∃ i, i < a.length ∧ ∀ q ∈ b, cr (at_ a i) (at_ a (nx a i)) (shift v q) ≤ 0 := by
 unfold Sep SepAt
 constructor
 ·rintro ⟨i, hi, h⟩; exact ⟨i, hi, fun q hq => h _ (shifted_mem.mpr ⟨q, hq, rfl⟩)⟩
 ·rintro ⟨i, hi, h⟩
  refine ⟨i, hi, fun s hs => ?_⟩
  obtain ⟨q, hq, rfl⟩ := shifted_mem.mp hs
  exact h q hq
theorem sep_ba : Sep (shifted v b) a ↔ ∃ j, j < b.length ∧ ∀ x ∈ a, cr (shift v (at_ b j)) (shift v (at_ b (nx b j))) x ≤ 0 := by
 unfold Sep SepAt
 have hn : ∀ j, j < b.length → at_ (shifted v b) ((j + 1) % (shifted v b).length) = shift v (at_ b (nx b j)) := by
  intro j hj
  rw [shifted_len]; exact shifted_at (nx_lt hj)
 constructor
 ·rintro ⟨j, hj, h⟩
  rw [shifted_len] at hj
  refine ⟨j, hj, fun x hx => ?_⟩
  have := h x hx
  rw [hn j hj, shifted_at hj] at this; exact this
 ·rintro ⟨j, hj, h⟩
  refine ⟨j, by rw [shifted_len]; exact hj, fun x hx => ?_⟩
  rw [hn j hj, shifted_at hj]; exact h x hx
theorem nofit_sep (na : Nf m a) (nb : Nf m b) (hn : ∀ p, p ∈ n ↔ neg p ∈ b) {m' : Int} (ns : Nf m' s) (hs : Ring (sums a n) s) : ¬ Inside s v ↔ (Sep a (shifted v b) ∨ Sep (shifted v b) a) := by
 have ha3 := na.three
 have hb3 := nb.three
 have hs3 := ns.three
 rw [sep_ab, sep_ba]
 constructor
 ·intro hI
  obtain ⟨k, hk, hle⟩ : ∃ k, k < s.length ∧ cr (at_ s k) (at_ s (nx s k)) v ≤ 0 := by
   apply Classical.byContradiction
   intro hno
   apply hI
   intro i hi
   rcases Int.lt_or_le 0 (cr (at_ s i) (at_ s (nx s i)) v) with h | h
   ·exact h
   ·exact absurd ⟨i, hi, h⟩ hno
  have E := ring_at hs k hk
  obtain ⟨ne, hu, hv, L⟩ := E
  have hle' : cr (at_ s k) (at_ s ((k + 1) % s.length)) v ≤ 0 := hle
  generalize at_ s k = u at *
  generalize at_ s ((k + 1) % s.length) = w at *
  clear hle
  obtain ⟨x0, hx0, y0, hy0, rfl⟩ := sums_mem.mp hu
  obtain ⟨x1, hx1, y1, hy1, rfl⟩ := sums_mem.mp hv
  have he : ¬ ((vec (plus x0 y0) (plus x1 y1)).f0 = 0 ∧ (vec (plus x0 y0) (plus x1 y1)).f1 = 0) := by
   rintro ⟨h0, h1⟩
   apply ne
   unfold vec at h0 h1; dsimp only at h0 h1
   exact pt_ext (by omega) (by omega)
  have ax : ∀ x ∈ a, 0 ≤ cx (vec (plus x0 y0) (plus x1 y1)) (vec x0 x) := by
   intro x hx
   have := (L _ (sums_mem.mpr ⟨x, hx, y0, hy0, rfl⟩)).1
   rw [cr_cx] at this
   have e : vec (plus x0 y0) (plus x y0) = vec x0 x := by unfold vec plus; apply pt_ext <;> dsimp only <;> omega
   rw [e] at this; exact this
  have ay : ∀ y ∈ n, 0 ≤ cx (vec (plus x0 y0) (plus x1 y1)) (vec y0 y) := by
   intro y hy
   have := (L _ (sums_mem.mpr ⟨x0, hx0, y, hy, rfl⟩)).1
   rw [cr_cx] at this
   have e : vec (plus x0 y0) (plus x0 y) = vec y0 y := by unfold vec plus; apply pt_ext <;> dsimp only <;> omega
   rw [e] at this; exact this
  have sum0 : cx (vec (plus x0 y0) (plus x1 y1)) (vec x0 x1) + cx (vec (plus x0 y0) (plus x1 y1)) (vec y0 y1) = 0 := by unfold cx vec plus; dsimp only; grind
  have z1 := ax x1 hx1
  have z2 := ay y1 hy1
  have hv0 : cx (vec (plus x0 y0) (plus x1 y1)) (vec (plus x0 y0) v) ≤ 0 := by rw [← cr_cx]; exact hle'
  generalize hE : vec (plus x0 y0) (plus x1 y1) = e at *
  by_cases hx : x0 = x1
  ·right
   have hy : y0 ≠ y1 := by
    intro h
    apply ne; rw [hx, h]
   have hq : neg y0 ≠ neg y1 := fun h => hy (by have := congrArg neg h; rwa [neg_neg, neg_neg] at this)
   have cn : ∀ z, cx (neg e) z = - cx e z := by intro z; unfold cx neg; dsimp only; grind
   obtain ⟨j, hj, j0, jv⟩ := par_edge (e := neg e) hb3 (ring_strong nb.ring) (by unfold neg; dsimp only; intro ⟨h0, h1⟩; exact he ⟨by omega, by omega⟩) ((hn y0).mp hy0) ((hn y1).mp hy1) hq (fun k hk => by
    have := ay (neg (at_ b k)) ((hn _).mpr (by rw [neg_neg]; exact at_mem hk))
    have e1 : cx (neg e) (vec (neg y0) (at_ b k)) = cx e (vec y0 (neg (at_ b k))) := by unfold cx neg vec; dsimp only; grind
    rw [e1]; exact this) (by
    have e1 : cx (neg e) (vec (neg y0) (neg y1)) = cx e (vec y0 y1) := by unfold cx neg vec; dsimp only; grind
    rw [e1]; omega)
   refine ⟨j, hj, fun x hx' => ?_⟩
   have c1 := ax x hx'
   have e2 : cr (shift v (at_ b j)) (shift v (at_ b (nx b j))) x = cx (vec (at_ b j) (at_ b (nx b j))) (vec (shift v (at_ b j)) x) := by unfold cr cx vec shift; dsimp only; grind
   rw [e2]
   apply jv
   have e3 : cx (neg e) (vec (shift v (at_ b j)) x) = cx (neg e) (vec (at_ b j) (neg y0)) - cx e (vec x0 x) + cx e (vec (plus x0 y0) v) := by unfold cx neg vec shift plus; dsimp only; grind
   rw [e3]; omega
  ·left
   obtain ⟨i, hi, i0, iv⟩ := par_edge (e := e) ha3 (ring_strong na.ring) he hx0 hx1 hx (fun k hk => ax _ (at_mem hk)) (by omega)
   refine ⟨i, hi, fun q hq => ?_⟩
   have c1 := ay (neg q) ((hn _).mpr (by rw [neg_neg]; exact hq))
   rw [cr_cx]
   apply iv
   have e3 : cx e (vec (at_ a i) (shift v q)) = cx e (vec (at_ a i) x0) + cx e (vec (plus x0 y0) v) - cx e (vec y0 (neg q)) := by unfold cx neg vec shift plus; dsimp only; grind
   rw [e3]; omega
 ·intro hSep hI
  have st := ring_strong ns.ring
  have edge_ne : ∀ {c : List Pt} {m : Int}, Nf m c → ∀ i, i < c.length → ¬ ((vec (at_ c i) (at_ c (nx c i))).f0 = 0 ∧ (vec (at_ c i) (at_ c (nx c i))).f1 = 0) := by
   intro c m nc i hi
   rintro ⟨h0, h1⟩
   apply (ring_strong nc.ring).1 i hi
   unfold vec at h0 h1; dsimp only at h0 h1
   exact pt_ext (by show _ = (at_ c (nx c i)).f0; omega) (by show _ = (at_ c (nx c i)).f1; omega)
  rcases hSep with ⟨i, hi, h⟩ | ⟨j, hj, h⟩
  ·obtain ⟨k, hk, hpos⟩ := inside_far ns.three st hI (edge_ne na i hi)
   obtain ⟨x, hx, y, hy, e⟩ := sums_mem.mp (ring_sub hs _ (at_mem hk))
   have c1 := h _ ((hn y).mp hy)
   have c2 : 0 ≤ cr (at_ a i) (at_ a (nx a i)) x := ((ring_at na.ring i hi).2.2.2 x hx).1
   rw [e] at hpos
   have e1 : cx (vec (at_ a i) (at_ a (nx a i))) (vec (plus x y) v) = cr (at_ a i) (at_ a (nx a i)) (shift v (neg y)) - cr (at_ a i) (at_ a (nx a i)) x := by unfold cr cx neg vec shift plus; dsimp only; grind
   omega
  ·obtain ⟨k, hk, hpos⟩ := inside_far (e := neg (vec (at_ b j) (at_ b (nx b j)))) ns.three st hI (by
    have := edge_ne nb j hj
    unfold neg; dsimp only; intro ⟨h0, h1⟩; exact this ⟨by omega, by omega⟩)
   obtain ⟨x, hx, y, hy, e⟩ := sums_mem.mp (ring_sub hs _ (at_mem hk))
   have c1 := h x hx
   have c2 : 0 ≤ cr (at_ b j) (at_ b (nx b j)) (neg y) := ((ring_at nb.ring j hj).2.2.2 _ ((hn y).mp hy)).1
   rw [e] at hpos
   have e1 : cx (neg (vec (at_ b j) (at_ b (nx b j)))) (vec (plus x y) v) = cr (shift v (at_ b j)) (shift v (at_ b (nx b j))) x - cr (at_ b j) (at_ b (nx b j)) (neg y) := by unfold cr cx neg vec shift plus; dsimp only; grind
   omega
end
end Go.Proofs.Ythehmkpcddafnaa.M
end
section
namespace Go.Proofs.Ythehmkpcddafnaa.M
open Go.RowKit Go.Proofs.Ythehmkpcddafnaa.PG Go.Proofs.YthehmkpcddafnaaW.PrintMore Go.Proofs.YthehmkpcddafnaaW.PrintWords
theorem refsign_f (n : Int) : cracknelref04_sign.f n = some (sg n) := by
 unfold cracknelref04_sign.f sg; split <;> (try split) <;> rfl
theorem refMeet_f {a b c d : Pt} (ha : Bd a) (hb : Bd b) (hc : Bd c) (hd : Bd d) (k : Nat) : cracknelref04_Meet.f (k + 1) a.f0 a.f1 b.f0 b.f1 c.f0 c.f1 d.f0 d.f1 = some (decide (Meet a b c d)) := by
 unfold cracknelref04_Meet.f
 simp only [cracknelref04_Meet.j0, On_f ha hb hc, On_f ha hb hd, On_f hc hd ha, On_f hc hd hb, Cross_f ha hb hc, Cross_f ha hb hd, Cross_f hc hd ha, Cross_f hc hd hb, refsign_f, Option.bind_some, sg_neg, decide_eq_true_eq]
 unfold Meet
 split
 ·simp_all
 ·split
  ·simp_all
  ·split
   ·simp_all
   ·split
    ·simp_all
    ·split <;> simp_all <;> omega
theorem next_f {l : List Pt} {i : Nat} (hl : 0 < l.length) (hi : (i : Int) ≤ 9223372036854775806) : cracknelref04_next.f l (i : Int) = some ((at_ l ((i + 1) % l.length)).f0, (at_ l ((i + 1) % l.length)).f1) := by
 have h2 : (i + 1) % l.length < l.length := Nat.mod_lt _ hl
 unfold cracknelref04_next.f
 rw [tmod_nat i l.length hi, if_neg (by omega), if_pos (by omega), if_pos (by omega), rd_at]
end Go.Proofs.Ythehmkpcddafnaa.M
end
section
namespace Go.Proofs.Ythehmkpcddafnaa.M
open Go.RowKit Go.Proofs.Ythehmkpcddafnaa.PG Go.Proofs.YthehmkpcddafnaaW.PrintMore Go.Proofs.YthehmkpcddafnaaW.PrintWords
theorem ref_l2 {l : List Pt} (hb : ∀ p ∈ l, Bd p) (hn : 3 ≤ l.length) (hN : l.length ≤ 1000000) {i : Nat} (hi : i < l.length) {b' : Bool} (hnext : Rt (fun k => cracknelref04_Simple.l1 k l (l.length : Int) ((i + 1 : Nat) : Int)) b') :
  ∀ d j, l.length + 1 = j + d → ∃ b, Rt (fun k => cracknelref04_Simple.l2 k l (l.length : Int) (i : Int) (j : Int) (at_ l i).f0 (at_ l i).f1 (at_ l ((i + 1) % l.length)).f0 (at_ l ((i + 1) % l.length)).f1) b ∧ (b = true ↔ (∀ j', j ≤ j' → j' < l.length → (j' + 1) % l.length ≠ i → ¬ Meet (at_ l i) (at_ l ((i + 1) % l.length)) (at_ l j') (at_ l ((j' + 1) % l.length))) ∧ b' = true) := by
 intro d
 induction d with
 | zero =>
  intro j hj
  obtain ⟨K, hK⟩ := hnext
  refine ⟨b', ⟨K + 1, fun k hk => ?_⟩, ⟨fun h => ⟨fun j' h1 h2 => by omega, h⟩, fun h => h.2⟩⟩
  obtain ⟨k, rfl⟩ := fuel1 hk
  dsimp only; rw [cracknelref04_Simple.l2, if_neg (by omega), wrap_succ i (by omega)]
  exact hK k (by omega)
 | succ d ih =>
  intro j hj
  by_cases hlt : j < l.length
  rotate_left
  ·obtain ⟨K, hK⟩ := hnext
   refine ⟨b', ⟨K + 1, fun k hk => ?_⟩, ⟨fun h => ⟨fun j' h1 h2 => by omega, h⟩, fun h => h.2⟩⟩
   obtain ⟨k, rfl⟩ := fuel1 hk
   dsimp only; rw [cracknelref04_Simple.l2, if_neg (by omega), wrap_succ i (by omega)]
   exact hK k (by omega)
  obtain ⟨b1, ⟨K, hK⟩, hb1⟩ := ih (j + 1) (by omega)
  have hBi := at_bd hb hi
  have hBn := at_bd hb (show (i + 1) % l.length < l.length from Nat.mod_lt _ (by omega))
  have hBj := at_bd hb hlt
  have hBk := at_bd hb (show (j + 1) % l.length < l.length from Nat.mod_lt _ (by omega))
  rw [from_split hlt]
  by_cases h1 : (j + 1) % l.length = i
  ·refine ⟨b1, ⟨K + 1, fun k hk => ?_⟩, ?_⟩
   ·obtain ⟨k, rfl⟩ := fuel1 hk
    dsimp only; rw [cracknelref04_Simple.l2, if_pos (by omega), if_neg (by omega), wrap_succ j (by omega), tmod_nat' j _ (by omega), if_pos (by omega)]
    exact hK k (by omega)
   ·rw [hb1]; exact ⟨fun h => ⟨⟨fun h2 => absurd h1 h2, h.1⟩, h.2⟩, fun h => ⟨h.1.2, h.2⟩⟩
  ·by_cases hm : Meet (at_ l i) (at_ l ((i + 1) % l.length)) (at_ l j) (at_ l ((j + 1) % l.length))
   ·refine ⟨false, ⟨0 + 2, fun k hk => ?_⟩, ⟨fun h => by simp at h, fun h => absurd hm (h.1.1 h1)⟩⟩
    obtain ⟨k, rfl⟩ := fuel2 hk
    dsimp only; rw [cracknelref04_Simple.l2, if_pos (by omega), if_neg (by omega), wrap_succ j (by omega), tmod_nat' j _ (by omega), if_neg (by omega), if_pos (by omega), if_pos (by omega), next_f (by omega) (by omega), Option.bind_some, rd_at, refMeet_f hBi hBn hBj hBk, Option.bind_some, if_pos (by simpa using hm)]
   ·refine ⟨b1, ⟨K + 2, fun k hk => ?_⟩, ?_⟩
    ·obtain ⟨k, rfl⟩ := fuel2 hk
     dsimp only; rw [cracknelref04_Simple.l2, if_pos (by omega), if_neg (by omega), wrap_succ j (by omega), tmod_nat' j _ (by omega), if_neg (by omega), if_pos (by omega), if_pos (by omega), next_f (by omega) (by omega), Option.bind_some, rd_at, refMeet_f hBi hBn hBj hBk, Option.bind_some, if_neg (by simpa using hm)]
     exact hK _ (by omega)
    ·rw [hb1]; exact ⟨fun h => ⟨⟨fun _ => hm, h.1⟩, h.2⟩, fun h => ⟨h.1.2, h.2⟩⟩
theorem ref_l1 {l : List Pt} (hb : ∀ p ∈ l, Bd p) (hn : 3 ≤ l.length) (hN : l.length ≤ 1000000) :
  ∀ d i, l.length = i + d → ∃ b, Rt (fun k => cracknelref04_Simple.l1 k l (l.length : Int) (i : Int)) b ∧ (b = true ↔ ∀ i', i ≤ i' → i' < l.length →
   ¬ On (at_ l i') (at_ l ((i' + 1) % l.length)) (at_ l ((i' + 1 + 1) % l.length)) ∧
   ¬ On (at_ l ((i' + 1) % l.length)) (at_ l ((i' + 1 + 1) % l.length)) (at_ l i') ∧
   ∀ k, i' + 2 ≤ k → k < l.length → (k + 1) % l.length ≠ i' → ¬ Meet (at_ l i') (at_ l ((i' + 1) % l.length)) (at_ l k) (at_ l ((k + 1) % l.length))) := by
 intro d
 induction d with
 | zero =>
  intro i hi
  refine ⟨true, ⟨0 + 1, fun k hk => ?_⟩, ⟨fun _ i' h1 h2 => by omega, fun _ => rfl⟩⟩
  obtain ⟨k, rfl⟩ := fuel1 hk
  dsimp only; rw [cracknelref04_Simple.l1, if_neg (by omega)]
 | succ d ih =>
  intro i hi
  have hlt : i < l.length := by omega
  obtain ⟨b1, hR1, hb1⟩ := ih (i + 1) (by omega)
  obtain ⟨b2, ⟨K, hK⟩, hb2⟩ := ref_l2 hb hn hN hlt hR1 (l.length + 1 - (i + 2)) (i + 2) (by omega)
  have hBi := at_bd hb hlt
  have hBn := at_bd hb (show (i + 1) % l.length < l.length from Nat.mod_lt _ (by omega))
  have hBm := at_bd hb (show (i + 1 + 1) % l.length < l.length from Nat.mod_lt _ (by omega))
  rw [from_split hlt]
  by_cases h1 : On (at_ l i) (at_ l ((i + 1) % l.length)) (at_ l ((i + 1 + 1) % l.length))
  ·refine ⟨false, ⟨0 + 2, fun k hk => ?_⟩, ⟨fun h => by simp at h, fun h => absurd h1 h.1.1⟩⟩
   obtain ⟨k, rfl⟩ := fuel2 hk
   dsimp only; rw [cracknelref04_Simple.l1, if_pos (by omega), if_pos (by omega), if_pos (by omega), next_f (by omega) (by omega), Option.bind_some, wrap_succ i (by omega), next_f (by omega) (by omega), Option.bind_some, rd_at, On_f hBi hBn hBm, Option.bind_some, if_pos (by simpa using h1), cracknelref04_Simple.j2, if_pos rfl]
  ·by_cases h2 : On (at_ l ((i + 1) % l.length)) (at_ l ((i + 1 + 1) % l.length)) (at_ l i)
   ·refine ⟨false, ⟨0 + 2, fun k hk => ?_⟩, ⟨fun h => by simp at h, fun h => absurd h2 h.1.2.1⟩⟩
    obtain ⟨k, rfl⟩ := fuel2 hk
    dsimp only; rw [cracknelref04_Simple.l1, if_pos (by omega), if_pos (by omega), if_pos (by omega), next_f (by omega) (by omega), Option.bind_some, wrap_succ i (by omega), next_f (by omega) (by omega), Option.bind_some, rd_at, On_f hBi hBn hBm, Option.bind_some, if_neg (by simpa using h1), On_f hBn hBm hBi, Option.bind_some, cracknelref04_Simple.j2, if_pos (by simpa using h2)]
   ·refine ⟨b2, ⟨K + 2, fun k hk => ?_⟩, ?_⟩
    ·obtain ⟨k, rfl⟩ := fuel2 hk
     dsimp only; rw [cracknelref04_Simple.l1, if_pos (by omega), if_pos (by omega), if_pos (by omega), next_f (by omega) (by omega), Option.bind_some, wrap_succ i (by omega), next_f (by omega) (by omega), Option.bind_some, rd_at, On_f hBi hBn hBm, Option.bind_some, if_neg (by simpa using h1), On_f hBn hBm hBi, Option.bind_some, cracknelref04_Simple.j2, if_neg (by simpa using h2), wrap_succ2 i (by omega)]
     exact hK _ (by omega)
    ·rw [hb2, hb1]
     exact ⟨fun h => ⟨⟨h1, h2, fun k h3 h4 h5 => h.1 k h3 h4 h5⟩, h.2⟩, fun h => ⟨fun k h3 h4 h5 => h.1.2.2 k h3 h4 h5, h.2⟩⟩
theorem ref_l0 {l : List Pt} (hn : 3 ≤ l.length) (hN : l.length ≤ 1000000) {b' : Bool} (hnext : Rt (fun k => cracknelref04_Simple.l1 k l (l.length : Int) 0) b') :
  ∀ d i, l.length = i + d → ∃ b, Rt (fun k => cracknelref04_Simple.l0 k l (l.length : Int) (i : Int)) b ∧ (b = true ↔ (∀ i', i ≤ i' → i' < l.length → at_ l i' ≠ at_ l ((i' + 1) % l.length)) ∧ b' = true) := by
 intro d
 induction d with
 | zero =>
  intro i hi
  obtain ⟨K, hK⟩ := hnext
  refine ⟨b', ⟨K + 1, fun k hk => ?_⟩, ⟨fun h => ⟨fun i' h1 h2 => by omega, h⟩, fun h => h.2⟩⟩
  obtain ⟨k, rfl⟩ := fuel1 hk
  dsimp only; rw [cracknelref04_Simple.l0, if_neg (by omega)]
  exact hK k (by omega)
 | succ d ih =>
  intro i hi
  have hlt : i < l.length := by omega
  obtain ⟨b1, ⟨K, hK⟩, hb1⟩ := ih (i + 1) (by omega)
  rw [from_split hlt]
  by_cases h1 : at_ l i = at_ l ((i + 1) % l.length)
  ·refine ⟨false, ⟨0 + 1, fun k hk => ?_⟩, ⟨fun h => by simp at h, fun h => absurd h1 h.1.1⟩⟩
   obtain ⟨k, rfl⟩ := fuel1 hk
   dsimp only; rw [cracknelref04_Simple.l0, if_pos (by omega), if_pos (by omega), if_pos (by omega), next_f (by omega) (by omega), Option.bind_some, rd_at, pt_beq, if_pos (by simpa using h1)]
  ·refine ⟨b1, ⟨K + 1, fun k hk => ?_⟩, ?_⟩
   ·obtain ⟨k, rfl⟩ := fuel1 hk
    dsimp only; rw [cracknelref04_Simple.l0, if_pos (by omega), if_pos (by omega), if_pos (by omega), next_f (by omega) (by omega), Option.bind_some, rd_at, pt_beq, if_neg (by simpa using h1), wrap_succ i (by omega)]
    exact hK k (by omega)
   ·rw [hb1]; exact ⟨fun h => ⟨⟨h1, h.1⟩, h.2⟩, fun h => ⟨h.1.2, h.2⟩⟩
theorem refSimple_run {l : List Pt} (hb : ∀ p ∈ l, Bd p) (hn : 3 ≤ l.length) (hN : l.length ≤ 1000000) : ∃ b, Rt (fun k => cracknelref04_Simple.f k l) b ∧ (b = true ↔ Simple l) := by
 obtain ⟨b1, hR1, h1⟩ := ref_l1 hb hn hN l.length 0 (by omega)
 obtain ⟨b, hR, h⟩ := ref_l0 hn hN hR1 l.length 0 (by omega)
 refine ⟨b, hR, ?_⟩
 rw [h, h1]
 exact ⟨fun h => ⟨fun i hi => h.1 i (Nat.zero_le _) hi, fun i hi => h.2 i (Nat.zero_le _) hi⟩, fun h => ⟨fun i _ hi => h.1 i hi, fun i _ hi => h.2 i hi⟩⟩
end Go.Proofs.Ythehmkpcddafnaa.M
end
section
namespace Go.Proofs.Ythehmkpcddafnaa.M
open Go.RowKit Go.Proofs.Ythehmkpcddafnaa.PG Go.Proofs.YthehmkpcddafnaaW.PrintMore Go.Proofs.YthehmkpcddafnaaW.PrintWords
theorem refConvex_l0 {l : List Pt} (hb : ∀ p ∈ l, Bd p) (hn : 3 ≤ l.length) (hN : l.length ≤ 1000000) :
  ∀ d i, l.length = i + d → ∃ b, Rt (fun k => cracknelref04_Convex.l0 k l (i : Int)) b ∧ (b = true ↔ (∀ i', i ≤ i' → i' < l.length → 0 < cr (at_ l i') (at_ l ((i' + 1) % l.length)) (at_ l ((i' + 1 + 1) % l.length)) ∧ (0 < i' → first (at_ l 0) (at_ l i')))) := by
 intro d
 induction d with
 | zero =>
  intro i hi
  refine ⟨true, ⟨0 + 1, fun k hk => ?_⟩, ⟨fun _ i' h1 h2 => by omega, fun _ => rfl⟩⟩
  obtain ⟨k, rfl⟩ := fuel1 hk
  dsimp only; rw [cracknelref04_Convex.l0, if_neg (by omega)]
 | succ d ih =>
  intro i hi
  have hlt : i < l.length := by omega
  obtain ⟨b1, ⟨K, hK⟩, hb1⟩ := ih (i + 1) (by omega)
  have hBi := at_bd hb hlt
  have hBn := at_bd hb (show (i + 1) % l.length < l.length from Nat.mod_lt _ (by omega))
  have hBm := at_bd hb (show (i + 1 + 1) % l.length < l.length from Nat.mod_lt _ (by omega))
  rw [from_split hlt]
  by_cases h1 : cr (at_ l i) (at_ l ((i + 1) % l.length)) (at_ l ((i + 1 + 1) % l.length)) ≤ 0
  ·refine ⟨false, ⟨0 + 2, fun k hk => ?_⟩, ⟨fun h => by simp at h, fun h => absurd h.1.1 (by omega)⟩⟩
   obtain ⟨k, rfl⟩ := fuel2 hk
   dsimp only
   rw [cracknelref04_Convex.l0, if_pos (by omega), if_pos (by omega), next_f (by omega) (by omega), Option.bind_some, wrap_succ i (by omega), next_f (by omega) (by omega), Option.bind_some, rd_at, Cross_f hBi hBn hBm, Option.bind_some, if_pos h1, cracknelref04_Convex.j1, if_pos rfl]
  ·by_cases h2 : 0 < i
   ·by_cases h3 : first (at_ l 0) (at_ l i)
    ·refine ⟨b1, ⟨K + 2, fun k hk => ?_⟩, ?_⟩
     ·obtain ⟨k, rfl⟩ := fuel2 hk
      dsimp only
      rw [cracknelref04_Convex.l0, if_pos (by omega), if_pos (by omega), next_f (by omega) (by omega), Option.bind_some, wrap_succ i (by omega), next_f (by omega) (by omega), Option.bind_some, rd_at, Cross_f hBi hBn hBm, Option.bind_some, if_neg h1, if_pos (by omega), if_pos (by omega), show rd_T41 l 0 = at_ l 0 from rfl, first_f, Option.bind_some, cracknelref04_Convex.j1, if_neg (by simpa using h3), wrap_succ i (by omega)]
      exact hK _ (by omega)
     ·rw [hb1]; exact ⟨fun h => ⟨⟨by omega, fun _ => h3⟩, h⟩, fun h => h.2⟩
    ·refine ⟨false, ⟨0 + 2, fun k hk => ?_⟩, ⟨fun h => by simp at h, fun h => absurd (h.1.2 h2) h3⟩⟩
     obtain ⟨k, rfl⟩ := fuel2 hk
     dsimp only
     rw [cracknelref04_Convex.l0, if_pos (by omega), if_pos (by omega), next_f (by omega) (by omega), Option.bind_some, wrap_succ i (by omega), next_f (by omega) (by omega), Option.bind_some, rd_at, Cross_f hBi hBn hBm, Option.bind_some, if_neg h1, if_pos (by omega), if_pos (by omega), show rd_T41 l 0 = at_ l 0 from rfl, first_f, Option.bind_some, cracknelref04_Convex.j1, if_pos (by simpa using h3)]
   ·refine ⟨b1, ⟨K + 2, fun k hk => ?_⟩, ?_⟩
    ·obtain ⟨k, rfl⟩ := fuel2 hk
     dsimp only
     rw [cracknelref04_Convex.l0, if_pos (by omega), if_pos (by omega), next_f (by omega) (by omega), Option.bind_some, wrap_succ i (by omega), next_f (by omega) (by omega), Option.bind_some, rd_at, Cross_f hBi hBn hBm, Option.bind_some, if_neg h1, if_neg (by omega), cracknelref04_Convex.j1, if_neg (by simp), wrap_succ i (by omega)]
     exact hK _ (by omega)
    ·rw [hb1]; exact ⟨fun h => ⟨⟨by omega, fun h4 => absurd h4 h2⟩, h⟩, fun h => h.2⟩
theorem refConvex_run {l : List Pt} (hb : ∀ p ∈ l, Bd p) (hn : 3 ≤ l.length) (hN : l.length ≤ 1000000) : ∃ b, Rt (fun k => cracknelref04_Convex.f k l) b ∧ (b = true ↔ Convex l) := by
 obtain ⟨b1, ⟨K1, hS⟩, hb1⟩ := refSimple_run hb hn hN
 obtain ⟨b, ⟨K2, hB⟩, hb2⟩ := refConvex_l0 hb hn hN l.length 0 (by omega)
 refine ⟨b1 && b, ⟨K1 + K2, fun k hk => ?_⟩, ?_⟩
 ·have e1 := hS k (by omega)
  have e2 := hB k (by omega)
  dsimp only at e1 e2 ⊢
  unfold cracknelref04_Convex.f
  rw [e1, Option.bind_some]
  cases b1
  ·rw [if_neg (by simp)]; rfl
  ·rw [if_pos rfl]; exact e2
 ·rw [Bool.and_eq_true, hb1, hb2]
  unfold Convex
  exact ⟨fun h => ⟨h.1, fun i hi => h.2 i (Nat.zero_le _) hi⟩, fun h => ⟨h.1, fun i _ hi => h.2 i hi⟩⟩
end Go.Proofs.Ythehmkpcddafnaa.M
end
section
namespace Go.Proofs.Ythehmkpcddafnaa.M
open Go.RowKit Go.Proofs.Ythehmkpcddafnaa.PG Go.Proofs.YthehmkpcddafnaaW.PrintMore Go.Proofs.YthehmkpcddafnaaW.PrintWords
theorem cut_f (l : List Pt) (m : Nat) (hm : m ≤ 32) : ∃ r, cracknellaw04_cut.f l (m : Int) = some r ∧ r.length ≤ 33 := by
 unfold cracknellaw04_cut.f
 by_cases h : (l.length : Int) > 32
 ·rw [if_pos h, mn_eq, Option.bind_some, if_pos (by omega), if_pos (by omega), Option.bind_some, if_pos (by simp only [List.length_nil, List.length_take]; omega)]
  refine ⟨_, rfl, ?_⟩
  simp only [List.nil_append, List.length_take]; omega
 ·rw [if_neg h, mn_eq, Option.bind_some, if_pos (by omega), if_pos (by omega), Option.bind_some, if_pos (by simp only [List.length_nil, List.length_take]; omega)]
  refine ⟨_, rfl, ?_⟩
  simp only [List.nil_append, List.length_take]; omega
theorem valid_f (p : Pt) (m : Int) (h0 : 0 ≤ m) (h1 : m ≤ 1000000) : cracknelref04_Valid.f p.f0 p.f1 m = some (decide (In m p)) := by
 unfold cracknelref04_Valid.f
 rw [wz _ (by omega) (by omega), in_f, Option.bind_some, in_f]
 by_cases h : -m ≤ p.f0 ∧ p.f0 ≤ m
 ·rw [if_pos (by simpa using h), Option.bind_some]
  congr 1; rw [decide_eq_decide]; unfold In; omega
 ·rw [if_neg (by simpa using h)]
  congr 1; symm; rw [decide_eq_false_iff_not]; unfold In; omega
theorem refPolygon_l0 (l : List Pt) (hN : l.length ≤ 1000000) : ∀ d i, l.length = i + d → ∃ b, Rt (fun k => cracknelref04_Polygon.l0 k l (i : Int)) b ∧ (b = true ↔ ((∀ i', i ≤ i' → i' < l.length → In 10000 (at_ l i')) ∧ 3 ≤ l.length ∧ l.length ≤ 32)) := by
 intro d
 induction d with
 | zero =>
  intro i hi
  refine ⟨decide (3 ≤ l.length ∧ l.length ≤ 32), ⟨0 + 1, fun k hk => ?_⟩, ?_⟩
  ·obtain ⟨k, rfl⟩ := fuel1 hk
   dsimp only; rw [cracknelref04_Polygon.l0, if_neg (by omega), in_f, Option.bind_some]
   congr 1; rw [decide_eq_decide]; omega
  ·rw [decide_eq_true_eq]
   exact ⟨fun h => ⟨fun i' h1 h2 => by omega, by omega⟩, fun h => by omega⟩
 | succ d ih =>
  intro i hi
  have hlt : i < l.length := by omega
  obtain ⟨b, ⟨K, hK⟩, hb⟩ := ih (i + 1) (by omega)
  rw [from_split hlt]
  by_cases h : In 10000 (at_ l i)
  ·refine ⟨b, ⟨K + 1, fun k hk => ?_⟩, ?_⟩
   ·obtain ⟨k, rfl⟩ := fuel1 hk
    dsimp only; rw [cracknelref04_Polygon.l0, if_pos (by omega), if_pos (by omega), rd_at, valid_f _ _ (by omega) (by omega), Option.bind_some, if_pos (by simpa using h), wrap_succ i (by omega)]
    exact hK k (by omega)
   ·rw [hb]
    exact ⟨fun h1 => ⟨⟨h, h1.1⟩, h1.2⟩, fun h1 => ⟨h1.1.2, h1.2⟩⟩
  ·refine ⟨false, ⟨0 + 1, fun k hk => ?_⟩, ⟨fun h1 => by simp at h1, fun h1 => absurd h1.1.1 h⟩⟩
   obtain ⟨k, rfl⟩ := fuel1 hk
   dsimp only; rw [cracknelref04_Polygon.l0, if_pos (by omega), if_pos (by omega), rd_at, valid_f _ _ (by omega) (by omega), Option.bind_some, if_neg (by simpa using h)]
theorem refPolygon_run (l : List Pt) (hN : l.length ≤ 1000000) : Rt (fun k => cracknelref04_Polygon.f k l) (decide (Poly l)) := by
 obtain ⟨b, ⟨K, hK⟩, hb⟩ := refPolygon_l0 l hN l.length 0 (by omega)
 refine ⟨K, fun k hk => ?_⟩
 have := hK k hk
 unfold cracknelref04_Polygon.f
 dsimp only at this ⊢
 rw [show (0 : Int) = ((0 : Nat) : Int) from rfl, this]
 congr 1; rw [Bool.eq_iff_iff, hb, decide_eq_true_eq]
 unfold Poly
 constructor
 ·rintro ⟨h1, h2, h3⟩
  refine ⟨h2, h3, fun p hp => ?_⟩
  obtain ⟨j, hj, rfl⟩ := List.mem_iff_getElem.mp hp
  rw [← at_eq hj]; exact h1 j (Nat.zero_le _) hj
 ·rintro ⟨h1, h2, h3⟩
  exact ⟨fun i _ hi => h3 _ (at_mem hi), h1, h2⟩
end Go.Proofs.Ythehmkpcddafnaa.M
end
section
namespace Go.Proofs.Ythehmkpcddafnaa.M
open Go.RowKit Go.Proofs.Ythehmkpcddafnaa.PG Go.Proofs.YthehmkpcddafnaaW.PrintMore Go.Proofs.YthehmkpcddafnaaW.PrintWords
theorem bad_convex (r : List Pt) (hl : r.length ≤ 1000000) : ∃ c : Int, Rt (fun k => shape_refused_normal.f k r) c ∧ Rt (fun k => cracknellaw04_convex.f k r) c ∧ (c = 0 ↔ Poly r ∧ Convex r) := by
 obtain ⟨K1, h1⟩ := refPolygon_run r hl
 by_cases hp : Poly r
 ·have hb : ∀ p ∈ r, Bd p := fun p h => in_bd (hp.2.2 p h)
  obtain ⟨b4, ⟨K4, h4⟩, i4⟩ := normal_run hb hp.1 hl
  obtain ⟨b5, ⟨K5, h5⟩, i5⟩ := refConvex_run hb hp.1 hl
  have e1 : b4 = b5 := by rw [Bool.eq_iff_iff, i4, i5]
  subst e1
  refine ⟨if b4 = true then 0 else 2, ⟨K4, fun k hk => ?_⟩, ⟨K1 + K5, fun k hk => ?_⟩, ?_⟩
  ·have a4 := h4 k hk
   dsimp only at a4 ⊢
   unfold shape_refused_normal.f
   rw [polygon_f, Option.bind_some, if_pos (by simpa using hp), a4, Option.bind_some]
   cases b4 <;> rfl
  ·have a1 := h1 k (by omega)
   have a5 := h5 k (by omega)
   dsimp only at a1 a5 ⊢
   unfold cracknellaw04_convex.f
   rw [a1, Option.bind_some, if_pos (by simpa using hp), a5, Option.bind_some]
   cases b4 <;> rfl
  ·rw [← i4]; cases b4 <;> simp [hp]
 ·refine ⟨1, ⟨0, fun k hk => ?_⟩, ⟨K1, fun k hk => ?_⟩, ?_⟩
  ·dsimp only
   unfold shape_refused_normal.f
   rw [polygon_f, Option.bind_some, if_neg (by simpa using hp)]
  ·have a1 := h1 k (by omega)
   dsimp only at a1 ⊢
   unfold cracknellaw04_convex.f
   rw [a1, Option.bind_some, if_neg (by simpa using hp)]
  ·simp [hp]
theorem refMoved_run {l : List Pt} {v : Pt} (hb : ∀ p ∈ l, Bd p) (hv : Bd v) (hN : l.length ≤ 1000000) : Rt (fun k => cracknelref04_Moved.f k l v.f0 v.f1) (shifted v l) := by
 have H : ∀ d i, l.length = i + d → Rt (fun k => cracknelref04_Moved.l0 k l (shifted v (l.take i)) (i : Int) v.f0 v.f1) (shifted v l) := by
  intro d
  induction d with
  | zero =>
   intro i hi
   refine rt_ret fun k => ?_
   rw [cracknelref04_Moved.l0, if_neg (by omega), List.take_of_length_le (by omega)]
  | succ d ih =>
   intro i hi
   have hlt : i < l.length := by omega
   obtain ⟨b0, b1, b2, b3⟩ := at_bd hb hlt
   obtain ⟨v0, v1, v2, v3⟩ := hv
   have e : shifted v (l.take (i + 1)) = shifted v (l.take i) ++ [shift v (at_ l i)] := by rw [take_snoc hlt]; unfold shifted; rw [List.map_append]; rfl
   refine rt_step (fun k => ?_) (ih (i + 1) (by omega))
   rw [e, cracknelref04_Moved.l0, if_pos (by omega), if_pos (by omega), rd_at]
   rw [wz ((at_ l i).f0 + _) (by omega) (by omega), wz ((at_ l i).f1 + _) (by omega) (by omega), if_pos (by unfold shifted; rw [List.length_map, List.length_take]; omega), wrap_succ i (by omega)]
   rfl
 obtain ⟨K, hK⟩ := H l.length 0 (by omega)
 exact ⟨K, fun k hk => hK k hk⟩
theorem parts_run {a b : List Pt} (ha : ∀ p ∈ a, Bd p) (hb : ∀ p ∈ b, Bd p) (hN : a.length ≤ 1000000) (hM : b.length ≤ 1000000) : ∃ c, Rt (fun k => cracknelref04_parts.f k a b) c ∧ (c = true ↔ Sep a b) := by
 have H1 : ∀ i, i < a.length → ∀ c1, Rt (fun k => cracknelref04_parts.l0 k a b ((i + 1 : Nat) : Int)) c1 → ∀ d j (s : Bool), b.length = j + d → ∃ c, Rt (fun k => cracknelref04_parts.l1 k a b (i : Int) s (j : Int)) c ∧ (c = true ↔ (s = true ∧ ∀ j', j ≤ j' → j' < b.length → cr (at_ a i) (at_ a ((i + 1) % a.length)) (at_ b j') ≤ 0) ∨ c1 = true) := by
  intro i hlt c1 hc1 d
  induction d with
  | zero =>
   intro j s hj
   cases s with
   | true =>
    refine ⟨true, rt_ret fun k => ?_, ⟨fun _ => Or.inl ⟨rfl, fun j' h1 h2 => by omega⟩, fun _ => rfl⟩⟩
    rw [cracknelref04_parts.l1, if_neg (by omega), if_pos rfl]
   | false =>
    refine ⟨c1, rt_step (fun k => ?_) hc1, ⟨Or.inr, fun h => h.resolve_left (by simp)⟩⟩
    rw [cracknelref04_parts.l1, if_neg (by omega), if_neg (by simp), wrap_succ i (by omega)]
  | succ d ih =>
   intro j s hj
   have hltj : j < b.length := by omega
   cases s with
   | true =>
    obtain ⟨c, hr, hc⟩ := ih (j + 1) (decide (cr (at_ a i) (at_ a ((i + 1) % a.length)) (at_ b j) ≤ 0)) (by omega)
    refine ⟨c, rt_step (fun k => ?_) hr, ?_⟩
    ·rw [cracknelref04_parts.l1, if_pos (by omega), if_pos rfl, if_pos (by omega), if_pos (by omega), next_f (by omega) (by omega), Option.bind_some, if_pos (by omega), rd_at, rd_at, Cross_f (at_bd ha hlt) (at_bd ha (show (i + 1) % a.length < a.length from Nat.mod_lt _ (by omega))) (at_bd hb hltj), Option.bind_some, wrap_succ j (by omega)]
    ·rw [hc, decide_eq_true_eq, from_split hltj]
     exact ⟨fun h => h.imp (fun h => ⟨rfl, h⟩) id, fun h => h.imp (fun h => h.2) id⟩
   | false =>
    obtain ⟨c, hr, hc⟩ := ih (j + 1) false (by omega)
    refine ⟨c, rt_step (fun k => ?_) hr, ?_⟩
    ·rw [cracknelref04_parts.l1, if_pos (by omega), if_neg (by simp), wrap_succ j (by omega)]
    ·rw [hc]; simp
 have H : ∀ d i, a.length = i + d → ∃ c, Rt (fun k => cracknelref04_parts.l0 k a b (i : Int)) c ∧ (c = true ↔ ∃ i', i ≤ i' ∧ i' < a.length ∧ SepAt a b i') := by
  intro d
  induction d with
  | zero =>
   intro i hi
   refine ⟨false, rt_ret fun k => ?_, ⟨fun h => by simp at h, fun ⟨j, h1, h2, _⟩ => by omega⟩⟩
   rw [cracknelref04_parts.l0, if_neg (by omega)]
  | succ d ih =>
   intro i hi
   have hlt : i < a.length := by omega
   obtain ⟨c1, hc1, hc2⟩ := ih (i + 1) (by omega)
   obtain ⟨c, hr, hc⟩ := H1 i hlt c1 hc1 b.length 0 true (by omega)
   rw [ex_split hlt]
   refine ⟨c, rt_step (fun k => ?_) hr, ?_⟩
   ·rw [cracknelref04_parts.l0, if_pos (by omega)]; rfl
   ·rw [hc, hc2]
    unfold SepAt
    constructor
    ·rintro (⟨_, h⟩ | h)
     ·left
      intro q hq
      obtain ⟨j, hj, rfl⟩ := List.mem_iff_getElem.mp hq
      rw [← at_eq hj]; exact h j (Nat.zero_le _) hj
     ·exact Or.inr h
    ·rintro (h | h)
     ·exact Or.inl ⟨rfl, fun j _ hj => h _ (at_mem hj)⟩
     ·exact Or.inr h
 obtain ⟨c, ⟨K, hK⟩, h⟩ := H a.length 0 (by omega)
 refine ⟨c, ⟨K, fun k hk => hK k hk⟩, ?_⟩
 rw [h]
 exact ⟨fun ⟨i, _, h1, h2⟩ => ⟨i, h1, h2⟩, fun ⟨i, h1, h2⟩ => ⟨i, Nat.zero_le _, h1, h2⟩⟩
theorem apart_run {a b : List Pt} (ha : ∀ p ∈ a, Bd p) (hb : ∀ p ∈ b, Bd p) (hN : a.length ≤ 1000000) (hM : b.length ≤ 1000000) : ∃ c, Rt (fun k => shape_apart.f k a b) c ∧ Rt (fun k => cracknelref04_Apart.f k a b) c ∧ (c = true ↔ Sep a b ∨ Sep b a) := by
 obtain ⟨c1, ⟨K1, h1⟩, i1⟩ := parted_run ha hb hN
 obtain ⟨c2, ⟨K2, h2⟩, i2⟩ := parted_run hb ha hM
 obtain ⟨c3, ⟨K3, h3⟩, i3⟩ := parts_run ha hb hN hM
 obtain ⟨c4, ⟨K4, h4⟩, i4⟩ := parts_run hb ha hM hN
 have e1 : c1 = c3 := by rw [Bool.eq_iff_iff, i1, i3]
 have e2 : c2 = c4 := by rw [Bool.eq_iff_iff, i2, i4]
 subst e1 e2
 refine ⟨c1 || c2, ⟨K1 + K2, fun k hk => ?_⟩, ⟨K3 + K4, fun k hk => ?_⟩, ?_⟩
 ·have a1 := h1 k (by omega)
  have a2 := h2 k (by omega)
  dsimp only at a1 a2 ⊢
  unfold shape_apart.f
  rw [a1, Option.bind_some]
  cases c1
  ·rw [if_neg (by simp), a2, Option.bind_some]; rfl
  ·rw [if_pos rfl]; rfl
 ·have a1 := h3 k (by omega)
  have a2 := h4 k (by omega)
  dsimp only at a1 a2 ⊢
  unfold cracknelref04_Apart.f
  rw [a1, Option.bind_some]
  cases c1
  ·rw [if_neg (by simp), a2, Option.bind_some]; rfl
  ·rw [if_pos rfl]; rfl
 ·rw [Bool.or_eq_true, i1, i2]
end Go.Proofs.Ythehmkpcddafnaa.M
end
