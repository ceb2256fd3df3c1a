/- Parts of the proof: printed walks, their words, and plain laws. -/
import Derived.Test.YtoffmpkgickfhaaQB1
import Derived.Test.YtoffmpkgickfhaaQB2
import Derived.Test.YtoffmpkgickfhaaQB3
section
namespace Go.Proofs.Ytoffmpkgickfhaa.PG
open Go.RowKit Go.Proofs.YtoffmpkgickfhaaW.PrintWords Go.Proofs.YtoffmpkgickfhaaW.PrintLast Go.Proofs.YtoffmpkgickfhaaW.PrintMore
attribute [local go_sem] max2_int min2_int max_two min_two max_three min_three max_four min_four
set_option linter.unusedVariables false
set_option linter.unusedSimpArgs false
/-! ### cracknellaw04_lives: function 18 -/
def cracknellaw04_lives.f (k : Nat)  : Option (Bool) := (some (([(⟨0, 0⟩ : S29), (⟨2, 0⟩ : S29), (⟨2, 2⟩ : S29), (⟨0, 2⟩ : S29)] : List (S29)) : List (S29))).bind fun y101 => ((shape_Area2.f k y101).bind fun bt104 => ((shape_Lattice.f k y101).bind fun bt106 => ((shape_Hull.f k (([(⟨0, 0⟩ : S29), (⟨1, 0⟩ : S29), (⟨2, 0⟩ : S29), (⟨0, 2⟩ : S29), (⟨1, 1⟩ : S29)] : List (S29)))).bind fun bt112 => (if bt104.1 = 8 then (if bt104.2 = 0 then (if bt106.1 = 1 then (if bt106.2.1 = 8 then (if bt106.2.2 = 0 then (if bt112.2 = 0 then ((cracknelref04_Same.f k bt112.1 (([(⟨0, 0⟩ : S29), (⟨2, 0⟩ : S29), (⟨0, 2⟩ : S29)] : List (S29)))).bind fun t119 => (some t119)) else (some false)) else (some false)) else (some false)) else (some false)) else (some false)) else (some false)))))
theorem cracknellaw04_lives.mono : ∀ k, LeO (cracknellaw04_lives.f k ) (cracknellaw04_lives.f (k + 1) ) := by
 intro  k
 unfold cracknellaw04_lives.f
 repeat' first
  | (with_reducible exact cracknelref04_Same.mono _ _ _)
  | (with_reducible exact shape_Area2.mono _ _)
  | (with_reducible exact shape_Hull.mono _ _)
  | (with_reducible exact shape_Lattice.mono _ _)
  | (with_reducible exact LeO.refl _)
  | (with_reducible exact LeO.none _)
  | (with_reducible refine LeO.ite ?_ ?_)
  | (with_reducible refine LeO.bind ?_ (fun _ => ?_))
  | exact cracknelref04_Same.mono _ _ _
  | exact shape_Area2.mono _ _
  | exact shape_Hull.mono _ _
  | exact shape_Lattice.mono _ _
  | exact LeO.none _
  | refine LeO.ite ?_ ?_
  | refine LeO.bind ?_ (fun _ => ?_)
set_option maxHeartbeats 8000000 in
set_option maxRecDepth 100000 in
theorem cracknellaw04_lives.calls (k : Nat)  (r : Bool) (w : World) (h : cracknellaw04_lives.f k  = some r) :
  Calls Try.prog 18 #[] w fun e w' => e = .returned (.bool r) ∧ Below w.heap.size w w' := by
 have hu29 := Try.underlying29
 have HB := Aside0.mk (Below.refl w.heap.size w)
 have H : ((some (([(⟨0, 0⟩ : S29), (⟨2, 0⟩ : S29), (⟨2, 2⟩ : S29), (⟨0, 2⟩ : S29)] : List (S29)) : List (S29))).bind fun y101 => ((shape_Area2.f k y101).bind fun bt104 => ((shape_Lattice.f k y101).bind fun bt106 => ((shape_Hull.f k (([(⟨0, 0⟩ : S29), (⟨1, 0⟩ : S29), (⟨2, 0⟩ : S29), (⟨0, 2⟩ : S29), (⟨1, 1⟩ : S29)] : List (S29)))).bind fun bt112 => (if bt104.1 = 8 then (if bt104.2 = 0 then (if bt106.1 = 1 then (if bt106.2.1 = 8 then (if bt106.2.2 = 0 then (if bt112.2 = 0 then ((cracknelref04_Same.f k bt112.1 (([(⟨0, 0⟩ : S29), (⟨2, 0⟩ : S29), (⟨0, 2⟩ : S29)] : List (S29)))).bind fun t119 => (some t119)) else (some false)) else (some false)) else (some false)) else (some false)) else (some false)) else (some false)))))) = some r := h
 clear h
 obtain ⟨y101, hy101⟩ : ∃ y_ : List (S29), y_ = (([(⟨0, 0⟩ : S29), (⟨2, 0⟩ : S29), (⟨2, 2⟩ : S29), (⟨0, 2⟩ : S29)] : List (S29))) := ⟨_, rfl⟩
 replace H : ((shape_Area2.f k y101).bind fun bt104 => ((shape_Lattice.f k y101).bind fun bt106 => ((shape_Hull.f k (([(⟨0, 0⟩ : S29), (⟨1, 0⟩ : S29), (⟨2, 0⟩ : S29), (⟨0, 2⟩ : S29), (⟨1, 1⟩ : S29)] : List (S29)))).bind fun bt112 => (if bt104.1 = 8 then (if bt104.2 = 0 then (if bt106.1 = 1 then (if bt106.2.1 = 8 then (if bt106.2.2 = 0 then (if bt112.2 = 0 then ((cracknelref04_Same.f k bt112.1 (([(⟨0, 0⟩ : S29), (⟨2, 0⟩ : S29), (⟨0, 2⟩ : S29)] : List (S29)))).bind fun t119 => (some t119)) else (some false)) else (some false)) else (some false)) else (some false)) else (some false)) else (some false))))) = some r := by first | (rw [hy101]; with_reducible exact H) | (have H2_ := (Option.bind_some _ _).symm.trans H; rw [hy101]; with_reducible exact H2_) | (have H2_ := (Option.bind_some _ _).symm.trans H; with_reducible exact H2_) | with_reducible exact H | (rw [hy101]; exact H) | exact H
 have Ny101 := Aside0.mk hy101
 clear hy101
 replace H := Option.bind_eq_some_iff.mp H
 obtain ⟨⟨t104, t105⟩, A10, H⟩ := H
 replace H : ((shape_Lattice.f k y101).bind fun bt106 => ((shape_Hull.f k (([(⟨0, 0⟩ : S29), (⟨1, 0⟩ : S29), (⟨2, 0⟩ : S29), (⟨0, 2⟩ : S29), (⟨1, 1⟩ : S29)] : List (S29)))).bind fun bt112 => (if t104 = 8 then (if t105 = 0 then (if bt106.1 = 1 then (if bt106.2.1 = 8 then (if bt106.2.2 = 0 then (if bt112.2 = 0 then ((cracknelref04_Same.f k bt112.1 (([(⟨0, 0⟩ : S29), (⟨2, 0⟩ : S29), (⟨0, 2⟩ : S29)] : List (S29)))).bind fun t119 => (some t119)) else (some false)) else (some false)) else (some false)) else (some false)) else (some false)) else (some false)))) = some r := H
 have A1 := Aside0.mk A10
 clear A10
 replace H := Option.bind_eq_some_iff.mp H
 obtain ⟨⟨t106, t107, t108⟩, A20, H⟩ := H
 replace H : ((shape_Hull.f k (([(⟨0, 0⟩ : S29), (⟨1, 0⟩ : S29), (⟨2, 0⟩ : S29), (⟨0, 2⟩ : S29), (⟨1, 1⟩ : S29)] : List (S29)))).bind fun bt112 => (if t104 = 8 then (if t105 = 0 then (if t106 = 1 then (if t107 = 8 then (if t108 = 0 then (if bt112.2 = 0 then ((cracknelref04_Same.f k bt112.1 (([(⟨0, 0⟩ : S29), (⟨2, 0⟩ : S29), (⟨0, 2⟩ : S29)] : List (S29)))).bind fun t119 => (some t119)) else (some false)) else (some false)) else (some false)) else (some false)) else (some false)) else (some false))) = some r := H
 have A2 := Aside0.mk A20
 clear A20
 obtain ⟨y109, hy109⟩ : ∃ y_ : List (S29), y_ = (([(⟨0, 0⟩ : S29), (⟨1, 0⟩ : S29), (⟨2, 0⟩ : S29), (⟨0, 2⟩ : S29), (⟨1, 1⟩ : S29)] : List (S29))) := ⟨_, rfl⟩
 replace H : ((shape_Hull.f k y109).bind fun bt112 => (if t104 = 8 then (if t105 = 0 then (if t106 = 1 then (if t107 = 8 then (if t108 = 0 then (if bt112.2 = 0 then ((cracknelref04_Same.f k bt112.1 (([(⟨0, 0⟩ : S29), (⟨2, 0⟩ : S29), (⟨0, 2⟩ : S29)] : List (S29)))).bind fun t119 => (some t119)) else (some false)) else (some false)) else (some false)) else (some false)) else (some false)) else (some false))) = some r := by first | (rw [hy109]; with_reducible exact H) | (have H2_ := (Option.bind_some _ _).symm.trans H; rw [hy109]; with_reducible exact H2_) | (have H2_ := (Option.bind_some _ _).symm.trans H; with_reducible exact H2_) | with_reducible exact H | (rw [hy109]; exact H) | exact H
 have Ny109 := Aside0.mk hy109
 clear hy109
 replace H := Option.bind_eq_some_iff.mp H
 obtain ⟨⟨t112, t113⟩, A30, H⟩ := H
 replace H : (if t104 = 8 then (if t105 = 0 then (if t106 = 1 then (if t107 = 8 then (if t108 = 0 then (if t113 = 0 then ((cracknelref04_Same.f k t112 (([(⟨0, 0⟩ : S29), (⟨2, 0⟩ : S29), (⟨0, 2⟩ : S29)] : List (S29)))).bind fun t119 => (some t119)) else (some false)) else (some false)) else (some false)) else (some false)) else (some false)) else (some false)) = some r := H
 have A3 := Aside0.mk A30
 clear A30
 by_cases c4 : t104 = 8
 ·rw [if_pos c4] at H
  have c4b0 : (t104 == 8) = true := beq_iff_eq.mpr c4
  have c4b1 : (t104 != 8) = false := bne_eq_false_iff_eq.mpr c4
  clear c4
  by_cases c5 : t105 = 0
  ·rw [if_pos c5] at H
   have c5b0 : (t105 == 0) = true := beq_iff_eq.mpr c5
   have c5b1 : (t105 != 0) = false := bne_eq_false_iff_eq.mpr c5
   clear c5
   by_cases c6 : t106 = 1
   ·rw [if_pos c6] at H
    have c6b0 : (t106 == 1) = true := beq_iff_eq.mpr c6
    have c6b1 : (t106 != 1) = false := bne_eq_false_iff_eq.mpr c6
    clear c6
    by_cases c7 : t107 = 8
    ·rw [if_pos c7] at H
     have c7b0 : (t107 == 8) = true := beq_iff_eq.mpr c7
     have c7b1 : (t107 != 8) = false := bne_eq_false_iff_eq.mpr c7
     clear c7
     by_cases c8 : t108 = 0
     ·rw [if_pos c8] at H
      have c8b0 : (t108 == 0) = true := beq_iff_eq.mpr c8
      have c8b1 : (t108 != 0) = false := bne_eq_false_iff_eq.mpr c8
      clear c8
      by_cases c9 : t113 = 0
      ·rw [if_pos c9] at H
       have c9b0 : (t113 == 0) = true := beq_iff_eq.mpr c9
       have c9b1 : (t113 != 0) = false := bne_eq_false_iff_eq.mpr c9
       clear c9
       obtain ⟨y116, hy116⟩ : ∃ y_ : List (S29), y_ = (([(⟨0, 0⟩ : S29), (⟨2, 0⟩ : S29), (⟨0, 2⟩ : S29)] : List (S29))) := ⟨_, rfl⟩
       replace H : ((cracknelref04_Same.f k t112 y116).bind fun t119 => (some t119)) = some r := by first | (rw [hy116]; with_reducible exact H) | (have H2_ := (Option.bind_some _ _).symm.trans H; rw [hy116]; with_reducible exact H2_) | (have H2_ := (Option.bind_some _ _).symm.trans H; with_reducible exact H2_) | with_reducible exact H | (rw [hy116]; exact H) | exact H
       have Ny116 := Aside0.mk hy116
       clear hy116
       replace H := Option.bind_eq_some_iff.mp H
       obtain ⟨t119, A100, H⟩ := H
       replace H : (some t119) = some r := H
       have A10 := Aside0.mk A100
       clear A100
       obtain rfl := Option.some.inj H
       go_enter Try.func18, Try.ntmps18
       go_wp2_with (first | ((with_reducible refine gate_dst (N := 13) rfl ?_); (try (refine gate_guard (by rfl) ?_; dsimp only)); refine Kd.R_lit k29 _ 29 ?hg (N := 13) ?hd (xs := ([(⟨0, 0⟩ : S29), (⟨2, 0⟩ : S29), (⟨2, 2⟩ : S29), (⟨0, 2⟩ : S29)] : List (S29))) (inner := [.int .i64 0, .int .i64 0, .int .i64 2, .int .i64 0, .int .i64 2, .int .i64 2, .int .i64 0, .int .i64 2]) (ok := fun _ => True) (okp := fun _ => True) ?hr ?hp (fun _ hk => hk) trivial (Below.refl _ _) (Nat.le_refl _) (by simp) ?_; (case hd => rfl); (case hg => rfl); (case hr => first | (go_simp; done) | (go_simp; rfl)); (case hp => exact (Reps.c2 (show Kd.M k29 _ _ _ (⟨0, 0⟩ : S29) [.int .i64 0, .int .i64 0] from (k29_mkM _ _ _ (⟨0, 0⟩ : S29) )) (Reps.c2 (show Kd.M k29 _ _ _ (⟨2, 0⟩ : S29) [.int .i64 2, .int .i64 0] from (k29_mkM _ _ _ (⟨2, 0⟩ : S29) )) (Reps.c2 (show Kd.M k29 _ _ _ (⟨2, 2⟩ : S29) [.int .i64 2, .int .i64 2] from (k29_mkM _ _ _ (⟨2, 2⟩ : S29) )) (Reps.c2 (show Kd.M k29 _ _ _ (⟨0, 2⟩ : S29) [.int .i64 0, .int .i64 2] from (k29_mkM _ _ _ (⟨0, 2⟩ : S29) )) (Reps.none _ _)))))); intro v102 w11 ho12 hb hg_ hnew_; clear hg_ hnew_; (first | rw [← Ny101.out] at ho12 | (simp only [Int.reduceToNat] at ho12; rw [← Ny101.out] at ho12)); have n0_ := Aside0.mk (Kd.R_lower ho12 (below_size bh)); have n1_ := Aside0.mk (below_step bh hb); clear HB; have HO103 := n0_; have HB := n1_; clear n0_ n1_; clear hb ho12; obtain ⟨Ao13, co13, eo13⟩ := Kd.R_slice HO103.out; subst eo13) | ((with_reducible refine gate_callee (f := 24) rfl ?_); refine goesL_ (some 16) rfl rfl Try.func24 (by kernel_rfl) rfl #[.slice Ao13 y101.length co13] rfl sg ?_; (with_reducible refine (shape_Area2.calls k _ _ y101 t104 t105 _ ?side1 ?side2 A1.out).mono ?_); (case side1 => exact cs (Kd.R_reads' HO103.out).2.2); (case side2 => exact (Kd.R_reads' HO103.out).2.1); rintro e w14 ⟨rfl, hb⟩; refine ⟨_, rfl, ?_⟩; have n0_ := Aside0.mk (Kd.R_below (ro HO103) hb); have n1_ := Aside0.mk (below_step bh hb); clear HO103; clear HB; have HO103 := n0_; have HB := n1_; clear n0_ n1_; (try clear hb); (try clear hb2); (try clear hk); (try clear hi)) | ((with_reducible refine gate_callee (f := 25) rfl ?_); refine goesL_ (some 21) rfl rfl Try.func25 (by kernel_rfl) rfl #[.slice Ao13 y101.length co13] rfl sg ?_; (with_reducible refine (shape_Lattice.calls k _ _ y101 t106 t107 t108 _ ?side1 ?side2 A2.out).mono ?_); (case side1 => exact cs (Kd.R_reads' HO103.out).2.2); (case side2 => exact (Kd.R_reads' HO103.out).2.1); rintro e w15 ⟨rfl, hb⟩; refine ⟨_, rfl, ?_⟩; have n0_ := Aside0.mk (Kd.R_below (ro HO103) hb); have n1_ := Aside0.mk (below_step bh hb); clear HO103; clear HB; have HO103 := n0_; have HB := n1_; clear n0_ n1_; (try clear hb); (try clear hb2); (try clear hk); (try clear hi)) | ((with_reducible refine gate_dst (N := 31) rfl ?_); (try (refine gate_guard (by rfl) ?_; dsimp only)); refine Kd.R_lit k29 _ 29 ?hg (N := 31) ?hd (xs := ([(⟨0, 0⟩ : S29), (⟨1, 0⟩ : S29), (⟨2, 0⟩ : S29), (⟨0, 2⟩ : S29), (⟨1, 1⟩ : S29)] : List (S29))) (inner := [.int .i64 0, .int .i64 0, .int .i64 1, .int .i64 0, .int .i64 2, .int .i64 0, .int .i64 0, .int .i64 2, .int .i64 1, .int .i64 1]) (ok := fun _ => True) (okp := fun _ => True) ?hr ?hp (fun _ hk => hk) trivial (Below.refl _ _) (Nat.le_refl _) (by simp) ?_; (case hd => rfl); (case hg => rfl); (case hr => first | (go_simp; done) | (go_simp; rfl)); (case hp => exact (Reps.c2 (show Kd.M k29 _ _ _ (⟨0, 0⟩ : S29) [.int .i64 0, .int .i64 0] from (k29_mkM _ _ _ (⟨0, 0⟩ : S29) )) (Reps.c2 (show Kd.M k29 _ _ _ (⟨1, 0⟩ : S29) [.int .i64 1, .int .i64 0] from (k29_mkM _ _ _ (⟨1, 0⟩ : S29) )) (Reps.c2 (show Kd.M k29 _ _ _ (⟨2, 0⟩ : S29) [.int .i64 2, .int .i64 0] from (k29_mkM _ _ _ (⟨2, 0⟩ : S29) )) (Reps.c2 (show Kd.M k29 _ _ _ (⟨0, 2⟩ : S29) [.int .i64 0, .int .i64 2] from (k29_mkM _ _ _ (⟨0, 2⟩ : S29) )) (Reps.c2 (show Kd.M k29 _ _ _ (⟨1, 1⟩ : S29) [.int .i64 1, .int .i64 1] from (k29_mkM _ _ _ (⟨1, 1⟩ : S29) )) (Reps.none _ _))))))); intro v110 w16 ho17 hb hg_ hnew_; clear hg_ hnew_; (first | rw [← Ny109.out] at ho17 | (simp only [Int.reduceToNat] at ho17; rw [← Ny109.out] at ho17)); have n0_ := Aside0.mk (Kd.R_elder' (ro HO103) (Kd.R_base ho17) hb); have n1_ := Aside0.mk (Kd.R_lower (Kd.R_new' ho17 (Kd.R_lt (ro HO103))) (below_size bh)); have n2_ := Aside0.mk (below_step bh hb); clear HO103; clear HB; have HO103 := n0_; have HO111 := n1_; have HB := n2_; clear n0_ n1_ n2_; clear hb ho17; obtain ⟨Ao18, co18, eo18⟩ := Kd.R_slice HO111.out; subst eo18) | ((with_reducible refine gate_callee (f := 16) rfl ?_); refine goesL_ (some 32) rfl rfl Try.func16 (by kernel_rfl) rfl #[.slice Ao18 y109.length co18] rfl sg ?_; (with_reducible refine (shape_Hull.calls k _ _ y109 t112 t113 _ ?side1 ?side2 A3.out).mono ?_); (case side1 => exact cs (Kd.R_reads' HO111.out).2.2); (case side2 => exact (Kd.R_reads' HO111.out).2.1); rintro e w19 ⟨v114, rfl, ho0, hb⟩; refine ⟨_, rfl, ?_⟩; have n0_ := Aside0.mk (Kd.R_elder' (ro HO103) (Kd.R_base ho0) hb); have n1_ := Aside0.mk (Kd.R_elder' (ro HO111) (Kd.R_base ho0) hb); have n2_ := Aside0.mk (Kd.R_lower (Kd.R_new' (Kd.R_new' ho0 (Kd.R_lt (ro HO103))) (Kd.R_lt (ro HO111))) (below_size bh)); have n3_ := Aside0.mk (below_step bh hb); clear HO103; clear HO111; clear HB; have HO103 := n0_; have HO111 := n1_; have HO115 := n2_; have HB := n3_; clear n0_ n1_ n2_ n3_; (try clear hb); (try clear hb2); (try clear hk); (try clear hi); (try clear ho0)) | ((with_reducible refine gate_dst (N := 62) rfl ?_); (try (refine gate_guard (by rfl) ?_; dsimp only)); refine Kd.R_lit k29 _ 29 ?hg (N := 62) ?hd (xs := ([(⟨0, 0⟩ : S29), (⟨2, 0⟩ : S29), (⟨0, 2⟩ : S29)] : List (S29))) (inner := [.int .i64 0, .int .i64 0, .int .i64 2, .int .i64 0, .int .i64 0, .int .i64 2]) (ok := fun _ => True) (okp := fun _ => True) ?hr ?hp (fun _ hk => hk) trivial (Below.refl _ _) (Nat.le_refl _) (by simp) ?_; (case hd => rfl); (case hg => rfl); (case hr => first | (go_simp; done) | (go_simp; rfl)); (case hp => exact (Reps.c2 (show Kd.M k29 _ _ _ (⟨0, 0⟩ : S29) [.int .i64 0, .int .i64 0] from (k29_mkM _ _ _ (⟨0, 0⟩ : S29) )) (Reps.c2 (show Kd.M k29 _ _ _ (⟨2, 0⟩ : S29) [.int .i64 2, .int .i64 0] from (k29_mkM _ _ _ (⟨2, 0⟩ : S29) )) (Reps.c2 (show Kd.M k29 _ _ _ (⟨0, 2⟩ : S29) [.int .i64 0, .int .i64 2] from (k29_mkM _ _ _ (⟨0, 2⟩ : S29) )) (Reps.none _ _))))); intro v117 w20 ho21 hb hg_ hnew_; clear hg_ hnew_; (first | rw [← Ny116.out] at ho21 | (simp only [Int.reduceToNat] at ho21; rw [← Ny116.out] at ho21)); have n0_ := Aside0.mk (Kd.R_elder' (ro HO103) (Kd.R_base ho21) hb); have n1_ := Aside0.mk (Kd.R_elder' (ro HO111) (Kd.R_base ho21) hb); have n2_ := Aside0.mk (Kd.R_elder' (ro HO115) (Kd.R_base ho21) hb); have n3_ := Aside0.mk (Kd.R_lower (Kd.R_new' (Kd.R_new' (Kd.R_new' ho21 (Kd.R_lt (ro HO103))) (Kd.R_lt (ro HO111))) (Kd.R_lt (ro HO115))) (below_size bh)); have n4_ := Aside0.mk (below_step bh hb); clear HO103; clear HO111; clear HO115; clear HB; have HO103 := n0_; have HO111 := n1_; have HO115 := n2_; have HO118 := n3_; have HB := n4_; clear n0_ n1_ n2_ n3_ n4_; clear hb ho21; obtain ⟨Ao22, co22, eo22⟩ := Kd.R_slice HO115.out; subst eo22; obtain ⟨Ao23, co23, eo23⟩ := Kd.R_slice HO118.out; subst eo23) | (go_at_call 20; (with_reducible refine (cracknelref04_Same.calls k _ _ t112 _ _ y116 t119 _ ?side1 ?side2 ?side3 ?side4 A10.out).mono ?_); (case side1 => exact cs (Kd.R_reads' HO115.out).2.2); (case side2 => exact (Kd.R_reads' HO115.out).2.1); (case side3 => exact cs (Kd.R_reads' HO118.out).2.2); (case side4 => exact (Kd.R_reads' HO118.out).2.1); rintro e w' ⟨rfl, ⟨nd, rfl⟩⟩))
       go_ret
       exact ⟨by exact er, bh⟩
      ·rw [if_neg c9] at H
       have c9b0 : (t113 == 0) = false := beq_eq_false_iff_ne.mpr c9
       have c9b1 : (t113 != 0) = true := bne_iff_ne.mpr c9
       obtain rfl := Option.some.inj H
       go_enter Try.func18, Try.ntmps18
       go_wp2_with (first | ((with_reducible refine gate_dst (N := 13) rfl ?_); (try (refine gate_guard (by rfl) ?_; dsimp only)); refine Kd.R_lit k29 _ 29 ?hg (N := 13) ?hd (xs := ([(⟨0, 0⟩ : S29), (⟨2, 0⟩ : S29), (⟨2, 2⟩ : S29), (⟨0, 2⟩ : S29)] : List (S29))) (inner := [.int .i64 0, .int .i64 0, .int .i64 2, .int .i64 0, .int .i64 2, .int .i64 2, .int .i64 0, .int .i64 2]) (ok := fun _ => True) (okp := fun _ => True) ?hr ?hp (fun _ hk => hk) trivial (Below.refl _ _) (Nat.le_refl _) (by simp) ?_; (case hd => rfl); (case hg => rfl); (case hr => first | (go_simp; done) | (go_simp; rfl)); (case hp => exact (Reps.c2 (show Kd.M k29 _ _ _ (⟨0, 0⟩ : S29) [.int .i64 0, .int .i64 0] from (k29_mkM _ _ _ (⟨0, 0⟩ : S29) )) (Reps.c2 (show Kd.M k29 _ _ _ (⟨2, 0⟩ : S29) [.int .i64 2, .int .i64 0] from (k29_mkM _ _ _ (⟨2, 0⟩ : S29) )) (Reps.c2 (show Kd.M k29 _ _ _ (⟨2, 2⟩ : S29) [.int .i64 2, .int .i64 2] from (k29_mkM _ _ _ (⟨2, 2⟩ : S29) )) (Reps.c2 (show Kd.M k29 _ _ _ (⟨0, 2⟩ : S29) [.int .i64 0, .int .i64 2] from (k29_mkM _ _ _ (⟨0, 2⟩ : S29) )) (Reps.none _ _)))))); intro v102 w24 ho25 hb hg_ hnew_; clear hg_ hnew_; (first | rw [← Ny101.out] at ho25 | (simp only [Int.reduceToNat] at ho25; rw [← Ny101.out] at ho25)); have n0_ := Aside0.mk (Kd.R_lower ho25 (below_size bh)); have n1_ := Aside0.mk (below_step bh hb); clear HB; have HO103 := n0_; have HB := n1_; clear n0_ n1_; clear hb ho25; obtain ⟨Ao26, co26, eo26⟩ := Kd.R_slice HO103.out; subst eo26) | ((with_reducible refine gate_callee (f := 24) rfl ?_); refine goesL_ (some 16) rfl rfl Try.func24 (by kernel_rfl) rfl #[.slice Ao26 y101.length co26] rfl sg ?_; (with_reducible refine (shape_Area2.calls k _ _ y101 t104 t105 _ ?side1 ?side2 A1.out).mono ?_); (case side1 => exact cs (Kd.R_reads' HO103.out).2.2); (case side2 => exact (Kd.R_reads' HO103.out).2.1); rintro e w27 ⟨rfl, hb⟩; refine ⟨_, rfl, ?_⟩; have n0_ := Aside0.mk (Kd.R_below (ro HO103) hb); have n1_ := Aside0.mk (below_step bh hb); clear HO103; clear HB; have HO103 := n0_; have HB := n1_; clear n0_ n1_; (try clear hb); (try clear hb2); (try clear hk); (try clear hi)) | ((with_reducible refine gate_callee (f := 25) rfl ?_); refine goesL_ (some 21) rfl rfl Try.func25 (by kernel_rfl) rfl #[.slice Ao26 y101.length co26] rfl sg ?_; (with_reducible refine (shape_Lattice.calls k _ _ y101 t106 t107 t108 _ ?side1 ?side2 A2.out).mono ?_); (case side1 => exact cs (Kd.R_reads' HO103.out).2.2); (case side2 => exact (Kd.R_reads' HO103.out).2.1); rintro e w28 ⟨rfl, hb⟩; refine ⟨_, rfl, ?_⟩; have n0_ := Aside0.mk (Kd.R_below (ro HO103) hb); have n1_ := Aside0.mk (below_step bh hb); clear HO103; clear HB; have HO103 := n0_; have HB := n1_; clear n0_ n1_; (try clear hb); (try clear hb2); (try clear hk); (try clear hi)) | ((with_reducible refine gate_dst (N := 31) rfl ?_); (try (refine gate_guard (by rfl) ?_; dsimp only)); refine Kd.R_lit k29 _ 29 ?hg (N := 31) ?hd (xs := ([(⟨0, 0⟩ : S29), (⟨1, 0⟩ : S29), (⟨2, 0⟩ : S29), (⟨0, 2⟩ : S29), (⟨1, 1⟩ : S29)] : List (S29))) (inner := [.int .i64 0, .int .i64 0, .int .i64 1, .int .i64 0, .int .i64 2, .int .i64 0, .int .i64 0, .int .i64 2, .int .i64 1, .int .i64 1]) (ok := fun _ => True) (okp := fun _ => True) ?hr ?hp (fun _ hk => hk) trivial (Below.refl _ _) (Nat.le_refl _) (by simp) ?_; (case hd => rfl); (case hg => rfl); (case hr => first | (go_simp; done) | (go_simp; rfl)); (case hp => exact (Reps.c2 (show Kd.M k29 _ _ _ (⟨0, 0⟩ : S29) [.int .i64 0, .int .i64 0] from (k29_mkM _ _ _ (⟨0, 0⟩ : S29) )) (Reps.c2 (show Kd.M k29 _ _ _ (⟨1, 0⟩ : S29) [.int .i64 1, .int .i64 0] from (k29_mkM _ _ _ (⟨1, 0⟩ : S29) )) (Reps.c2 (show Kd.M k29 _ _ _ (⟨2, 0⟩ : S29) [.int .i64 2, .int .i64 0] from (k29_mkM _ _ _ (⟨2, 0⟩ : S29) )) (Reps.c2 (show Kd.M k29 _ _ _ (⟨0, 2⟩ : S29) [.int .i64 0, .int .i64 2] from (k29_mkM _ _ _ (⟨0, 2⟩ : S29) )) (Reps.c2 (show Kd.M k29 _ _ _ (⟨1, 1⟩ : S29) [.int .i64 1, .int .i64 1] from (k29_mkM _ _ _ (⟨1, 1⟩ : S29) )) (Reps.none _ _))))))); intro v110 w29 ho30 hb hg_ hnew_; clear hg_ hnew_; (first | rw [← Ny109.out] at ho30 | (simp only [Int.reduceToNat] at ho30; rw [← Ny109.out] at ho30)); have n0_ := Aside0.mk (Kd.R_elder' (ro HO103) (Kd.R_base ho30) hb); have n1_ := Aside0.mk (Kd.R_lower (Kd.R_new' ho30 (Kd.R_lt (ro HO103))) (below_size bh)); have n2_ := Aside0.mk (below_step bh hb); clear HO103; clear HB; have HO103 := n0_; have HO111 := n1_; have HB := n2_; clear n0_ n1_ n2_; clear hb ho30; obtain ⟨Ao31, co31, eo31⟩ := Kd.R_slice HO111.out; subst eo31) | ((with_reducible refine gate_callee (f := 16) rfl ?_); refine goesL_ (some 32) rfl rfl Try.func16 (by kernel_rfl) rfl #[.slice Ao31 y109.length co31] rfl sg ?_; (with_reducible refine (shape_Hull.calls k _ _ y109 t112 t113 _ ?side1 ?side2 A3.out).mono ?_); (case side1 => exact cs (Kd.R_reads' HO111.out).2.2); (case side2 => exact (Kd.R_reads' HO111.out).2.1); rintro e w32 ⟨v114, rfl, ho0, hb⟩; refine ⟨_, rfl, ?_⟩; have n0_ := Aside0.mk (Kd.R_elder' (ro HO103) (Kd.R_base ho0) hb); have n1_ := Aside0.mk (Kd.R_elder' (ro HO111) (Kd.R_base ho0) hb); have n2_ := Aside0.mk (Kd.R_lower (Kd.R_new' (Kd.R_new' ho0 (Kd.R_lt (ro HO103))) (Kd.R_lt (ro HO111))) (below_size bh)); have n3_ := Aside0.mk (below_step bh hb); clear HO103; clear HO111; clear HB; have HO103 := n0_; have HO111 := n1_; have HO115 := n2_; have HB := n3_; clear n0_ n1_ n2_ n3_; (try clear hb); (try clear hb2); (try clear hk); (try clear hi); (try clear ho0)))
       go_ret
       exact ⟨by exact er, bh⟩
     ·rw [if_neg c8] at H
      have c8b0 : (t108 == 0) = false := beq_eq_false_iff_ne.mpr c8
      have c8b1 : (t108 != 0) = true := bne_iff_ne.mpr c8
      obtain rfl := Option.some.inj H
      go_enter Try.func18, Try.ntmps18
      go_wp2_with (first | ((with_reducible refine gate_dst (N := 13) rfl ?_); (try (refine gate_guard (by rfl) ?_; dsimp only)); refine Kd.R_lit k29 _ 29 ?hg (N := 13) ?hd (xs := ([(⟨0, 0⟩ : S29), (⟨2, 0⟩ : S29), (⟨2, 2⟩ : S29), (⟨0, 2⟩ : S29)] : List (S29))) (inner := [.int .i64 0, .int .i64 0, .int .i64 2, .int .i64 0, .int .i64 2, .int .i64 2, .int .i64 0, .int .i64 2]) (ok := fun _ => True) (okp := fun _ => True) ?hr ?hp (fun _ hk => hk) trivial (Below.refl _ _) (Nat.le_refl _) (by simp) ?_; (case hd => rfl); (case hg => rfl); (case hr => first | (go_simp; done) | (go_simp; rfl)); (case hp => exact (Reps.c2 (show Kd.M k29 _ _ _ (⟨0, 0⟩ : S29) [.int .i64 0, .int .i64 0] from (k29_mkM _ _ _ (⟨0, 0⟩ : S29) )) (Reps.c2 (show Kd.M k29 _ _ _ (⟨2, 0⟩ : S29) [.int .i64 2, .int .i64 0] from (k29_mkM _ _ _ (⟨2, 0⟩ : S29) )) (Reps.c2 (show Kd.M k29 _ _ _ (⟨2, 2⟩ : S29) [.int .i64 2, .int .i64 2] from (k29_mkM _ _ _ (⟨2, 2⟩ : S29) )) (Reps.c2 (show Kd.M k29 _ _ _ (⟨0, 2⟩ : S29) [.int .i64 0, .int .i64 2] from (k29_mkM _ _ _ (⟨0, 2⟩ : S29) )) (Reps.none _ _)))))); intro v102 w33 ho34 hb hg_ hnew_; clear hg_ hnew_; (first | rw [← Ny101.out] at ho34 | (simp only [Int.reduceToNat] at ho34; rw [← Ny101.out] at ho34)); have n0_ := Aside0.mk (Kd.R_lower ho34 (below_size bh)); have n1_ := Aside0.mk (below_step bh hb); clear HB; have HO103 := n0_; have HB := n1_; clear n0_ n1_; clear hb ho34; obtain ⟨Ao35, co35, eo35⟩ := Kd.R_slice HO103.out; subst eo35) | ((with_reducible refine gate_callee (f := 24) rfl ?_); refine goesL_ (some 16) rfl rfl Try.func24 (by kernel_rfl) rfl #[.slice Ao35 y101.length co35] rfl sg ?_; (with_reducible refine (shape_Area2.calls k _ _ y101 t104 t105 _ ?side1 ?side2 A1.out).mono ?_); (case side1 => exact cs (Kd.R_reads' HO103.out).2.2); (case side2 => exact (Kd.R_reads' HO103.out).2.1); rintro e w36 ⟨rfl, hb⟩; refine ⟨_, rfl, ?_⟩; have n0_ := Aside0.mk (Kd.R_below (ro HO103) hb); have n1_ := Aside0.mk (below_step bh hb); clear HO103; clear HB; have HO103 := n0_; have HB := n1_; clear n0_ n1_; (try clear hb); (try clear hb2); (try clear hk); (try clear hi)) | ((with_reducible refine gate_callee (f := 25) rfl ?_); refine goesL_ (some 21) rfl rfl Try.func25 (by kernel_rfl) rfl #[.slice Ao35 y101.length co35] rfl sg ?_; (with_reducible refine (shape_Lattice.calls k _ _ y101 t106 t107 t108 _ ?side1 ?side2 A2.out).mono ?_); (case side1 => exact cs (Kd.R_reads' HO103.out).2.2); (case side2 => exact (Kd.R_reads' HO103.out).2.1); rintro e w37 ⟨rfl, hb⟩; refine ⟨_, rfl, ?_⟩; have n0_ := Aside0.mk (Kd.R_below (ro HO103) hb); have n1_ := Aside0.mk (below_step bh hb); clear HO103; clear HB; have HO103 := n0_; have HB := n1_; clear n0_ n1_; (try clear hb); (try clear hb2); (try clear hk); (try clear hi)) | ((with_reducible refine gate_dst (N := 31) rfl ?_); (try (refine gate_guard (by rfl) ?_; dsimp only)); refine Kd.R_lit k29 _ 29 ?hg (N := 31) ?hd (xs := ([(⟨0, 0⟩ : S29), (⟨1, 0⟩ : S29), (⟨2, 0⟩ : S29), (⟨0, 2⟩ : S29), (⟨1, 1⟩ : S29)] : List (S29))) (inner := [.int .i64 0, .int .i64 0, .int .i64 1, .int .i64 0, .int .i64 2, .int .i64 0, .int .i64 0, .int .i64 2, .int .i64 1, .int .i64 1]) (ok := fun _ => True) (okp := fun _ => True) ?hr ?hp (fun _ hk => hk) trivial (Below.refl _ _) (Nat.le_refl _) (by simp) ?_; (case hd => rfl); (case hg => rfl); (case hr => first | (go_simp; done) | (go_simp; rfl)); (case hp => exact (Reps.c2 (show Kd.M k29 _ _ _ (⟨0, 0⟩ : S29) [.int .i64 0, .int .i64 0] from (k29_mkM _ _ _ (⟨0, 0⟩ : S29) )) (Reps.c2 (show Kd.M k29 _ _ _ (⟨1, 0⟩ : S29) [.int .i64 1, .int .i64 0] from (k29_mkM _ _ _ (⟨1, 0⟩ : S29) )) (Reps.c2 (show Kd.M k29 _ _ _ (⟨2, 0⟩ : S29) [.int .i64 2, .int .i64 0] from (k29_mkM _ _ _ (⟨2, 0⟩ : S29) )) (Reps.c2 (show Kd.M k29 _ _ _ (⟨0, 2⟩ : S29) [.int .i64 0, .int .i64 2] from (k29_mkM _ _ _ (⟨0, 2⟩ : S29) )) (Reps.c2 (show Kd.M k29 _ _ _ (⟨1, 1⟩ : S29) [.int .i64 1, .int .i64 1] from (k29_mkM _ _ _ (⟨1, 1⟩ : S29) )) (Reps.none _ _))))))); intro v110 w38 ho39 hb hg_ hnew_; clear hg_ hnew_; (first | rw [← Ny109.out] at ho39 | (simp only [Int.reduceToNat] at ho39; rw [← Ny109.out] at ho39)); have n0_ := Aside0.mk (Kd.R_elder' (ro HO103) (Kd.R_base ho39) hb); have n1_ := Aside0.mk (Kd.R_lower (Kd.R_new' ho39 (Kd.R_lt (ro HO103))) (below_size bh)); have n2_ := Aside0.mk (below_step bh hb); clear HO103; clear HB; have HO103 := n0_; have HO111 := n1_; have HB := n2_; clear n0_ n1_ n2_; clear hb ho39; obtain ⟨Ao40, co40, eo40⟩ := Kd.R_slice HO111.out; subst eo40) | ((with_reducible refine gate_callee (f := 16) rfl ?_); refine goesL_ (some 32) rfl rfl Try.func16 (by kernel_rfl) rfl #[.slice Ao40 y109.length co40] rfl sg ?_; (with_reducible refine (shape_Hull.calls k _ _ y109 t112 t113 _ ?side1 ?side2 A3.out).mono ?_); (case side1 => exact cs (Kd.R_reads' HO111.out).2.2); (case side2 => exact (Kd.R_reads' HO111.out).2.1); rintro e w41 ⟨v114, rfl, ho0, hb⟩; refine ⟨_, rfl, ?_⟩; have n0_ := Aside0.mk (Kd.R_elder' (ro HO103) (Kd.R_base ho0) hb); have n1_ := Aside0.mk (Kd.R_elder' (ro HO111) (Kd.R_base ho0) hb); have n2_ := Aside0.mk (Kd.R_lower (Kd.R_new' (Kd.R_new' ho0 (Kd.R_lt (ro HO103))) (Kd.R_lt (ro HO111))) (below_size bh)); have n3_ := Aside0.mk (below_step bh hb); clear HO103; clear HO111; clear HB; have HO103 := n0_; have HO111 := n1_; have HO115 := n2_; have HB := n3_; clear n0_ n1_ n2_ n3_; (try clear hb); (try clear hb2); (try clear hk); (try clear hi); (try clear ho0)))
      go_ret
      exact ⟨by exact er, bh⟩
    ·rw [if_neg c7] at H
     have c7b0 : (t107 == 8) = false := beq_eq_false_iff_ne.mpr c7
     have c7b1 : (t107 != 8) = true := bne_iff_ne.mpr c7
     obtain rfl := Option.some.inj H
     go_enter Try.func18, Try.ntmps18
     go_wp2_with (first | ((with_reducible refine gate_dst (N := 13) rfl ?_); (try (refine gate_guard (by rfl) ?_; dsimp only)); refine Kd.R_lit k29 _ 29 ?hg (N := 13) ?hd (xs := ([(⟨0, 0⟩ : S29), (⟨2, 0⟩ : S29), (⟨2, 2⟩ : S29), (⟨0, 2⟩ : S29)] : List (S29))) (inner := [.int .i64 0, .int .i64 0, .int .i64 2, .int .i64 0, .int .i64 2, .int .i64 2, .int .i64 0, .int .i64 2]) (ok := fun _ => True) (okp := fun _ => True) ?hr ?hp (fun _ hk => hk) trivial (Below.refl _ _) (Nat.le_refl _) (by simp) ?_; (case hd => rfl); (case hg => rfl); (case hr => first | (go_simp; done) | (go_simp; rfl)); (case hp => exact (Reps.c2 (show Kd.M k29 _ _ _ (⟨0, 0⟩ : S29) [.int .i64 0, .int .i64 0] from (k29_mkM _ _ _ (⟨0, 0⟩ : S29) )) (Reps.c2 (show Kd.M k29 _ _ _ (⟨2, 0⟩ : S29) [.int .i64 2, .int .i64 0] from (k29_mkM _ _ _ (⟨2, 0⟩ : S29) )) (Reps.c2 (show Kd.M k29 _ _ _ (⟨2, 2⟩ : S29) [.int .i64 2, .int .i64 2] from (k29_mkM _ _ _ (⟨2, 2⟩ : S29) )) (Reps.c2 (show Kd.M k29 _ _ _ (⟨0, 2⟩ : S29) [.int .i64 0, .int .i64 2] from (k29_mkM _ _ _ (⟨0, 2⟩ : S29) )) (Reps.none _ _)))))); intro v102 w42 ho43 hb hg_ hnew_; clear hg_ hnew_; (first | rw [← Ny101.out] at ho43 | (simp only [Int.reduceToNat] at ho43; rw [← Ny101.out] at ho43)); have n0_ := Aside0.mk (Kd.R_lower ho43 (below_size bh)); have n1_ := Aside0.mk (below_step bh hb); clear HB; have HO103 := n0_; have HB := n1_; clear n0_ n1_; clear hb ho43; obtain ⟨Ao44, co44, eo44⟩ := Kd.R_slice HO103.out; subst eo44) | ((with_reducible refine gate_callee (f := 24) rfl ?_); refine goesL_ (some 16) rfl rfl Try.func24 (by kernel_rfl) rfl #[.slice Ao44 y101.length co44] rfl sg ?_; (with_reducible refine (shape_Area2.calls k _ _ y101 t104 t105 _ ?side1 ?side2 A1.out).mono ?_); (case side1 => exact cs (Kd.R_reads' HO103.out).2.2); (case side2 => exact (Kd.R_reads' HO103.out).2.1); rintro e w45 ⟨rfl, hb⟩; refine ⟨_, rfl, ?_⟩; have n0_ := Aside0.mk (Kd.R_below (ro HO103) hb); have n1_ := Aside0.mk (below_step bh hb); clear HO103; clear HB; have HO103 := n0_; have HB := n1_; clear n0_ n1_; (try clear hb); (try clear hb2); (try clear hk); (try clear hi)) | ((with_reducible refine gate_callee (f := 25) rfl ?_); refine goesL_ (some 21) rfl rfl Try.func25 (by kernel_rfl) rfl #[.slice Ao44 y101.length co44] rfl sg ?_; (with_reducible refine (shape_Lattice.calls k _ _ y101 t106 t107 t108 _ ?side1 ?side2 A2.out).mono ?_); (case side1 => exact cs (Kd.R_reads' HO103.out).2.2); (case side2 => exact (Kd.R_reads' HO103.out).2.1); rintro e w46 ⟨rfl, hb⟩; refine ⟨_, rfl, ?_⟩; have n0_ := Aside0.mk (Kd.R_below (ro HO103) hb); have n1_ := Aside0.mk (below_step bh hb); clear HO103; clear HB; have HO103 := n0_; have HB := n1_; clear n0_ n1_; (try clear hb); (try clear hb2); (try clear hk); (try clear hi)) | ((with_reducible refine gate_dst (N := 31) rfl ?_); (try (refine gate_guard (by rfl) ?_; dsimp only)); refine Kd.R_lit k29 _ 29 ?hg (N := 31) ?hd (xs := ([(⟨0, 0⟩ : S29), (⟨1, 0⟩ : S29), (⟨2, 0⟩ : S29), (⟨0, 2⟩ : S29), (⟨1, 1⟩ : S29)] : List (S29))) (inner := [.int .i64 0, .int .i64 0, .int .i64 1, .int .i64 0, .int .i64 2, .int .i64 0, .int .i64 0, .int .i64 2, .int .i64 1, .int .i64 1]) (ok := fun _ => True) (okp := fun _ => True) ?hr ?hp (fun _ hk => hk) trivial (Below.refl _ _) (Nat.le_refl _) (by simp) ?_; (case hd => rfl); (case hg => rfl); (case hr => first | (go_simp; done) | (go_simp; rfl)); (case hp => exact (Reps.c2 (show Kd.M k29 _ _ _ (⟨0, 0⟩ : S29) [.int .i64 0, .int .i64 0] from (k29_mkM _ _ _ (⟨0, 0⟩ : S29) )) (Reps.c2 (show Kd.M k29 _ _ _ (⟨1, 0⟩ : S29) [.int .i64 1, .int .i64 0] from (k29_mkM _ _ _ (⟨1, 0⟩ : S29) )) (Reps.c2 (show Kd.M k29 _ _ _ (⟨2, 0⟩ : S29) [.int .i64 2, .int .i64 0] from (k29_mkM _ _ _ (⟨2, 0⟩ : S29) )) (Reps.c2 (show Kd.M k29 _ _ _ (⟨0, 2⟩ : S29) [.int .i64 0, .int .i64 2] from (k29_mkM _ _ _ (⟨0, 2⟩ : S29) )) (Reps.c2 (show Kd.M k29 _ _ _ (⟨1, 1⟩ : S29) [.int .i64 1, .int .i64 1] from (k29_mkM _ _ _ (⟨1, 1⟩ : S29) )) (Reps.none _ _))))))); intro v110 w47 ho48 hb hg_ hnew_; clear hg_ hnew_; (first | rw [← Ny109.out] at ho48 | (simp only [Int.reduceToNat] at ho48; rw [← Ny109.out] at ho48)); have n0_ := Aside0.mk (Kd.R_elder' (ro HO103) (Kd.R_base ho48) hb); have n1_ := Aside0.mk (Kd.R_lower (Kd.R_new' ho48 (Kd.R_lt (ro HO103))) (below_size bh)); have n2_ := Aside0.mk (below_step bh hb); clear HO103; clear HB; have HO103 := n0_; have HO111 := n1_; have HB := n2_; clear n0_ n1_ n2_; clear hb ho48; obtain ⟨Ao49, co49, eo49⟩ := Kd.R_slice HO111.out; subst eo49) | ((with_reducible refine gate_callee (f := 16) rfl ?_); refine goesL_ (some 32) rfl rfl Try.func16 (by kernel_rfl) rfl #[.slice Ao49 y109.length co49] rfl sg ?_; (with_reducible refine (shape_Hull.calls k _ _ y109 t112 t113 _ ?side1 ?side2 A3.out).mono ?_); (case side1 => exact cs (Kd.R_reads' HO111.out).2.2); (case side2 => exact (Kd.R_reads' HO111.out).2.1); rintro e w50 ⟨v114, rfl, ho0, hb⟩; refine ⟨_, rfl, ?_⟩; have n0_ := Aside0.mk (Kd.R_elder' (ro HO103) (Kd.R_base ho0) hb); have n1_ := Aside0.mk (Kd.R_elder' (ro HO111) (Kd.R_base ho0) hb); have n2_ := Aside0.mk (Kd.R_lower (Kd.R_new' (Kd.R_new' ho0 (Kd.R_lt (ro HO103))) (Kd.R_lt (ro HO111))) (below_size bh)); have n3_ := Aside0.mk (below_step bh hb); clear HO103; clear HO111; clear HB; have HO103 := n0_; have HO111 := n1_; have HO115 := n2_; have HB := n3_; clear n0_ n1_ n2_ n3_; (try clear hb); (try clear hb2); (try clear hk); (try clear hi); (try clear ho0)))
     go_ret
     exact ⟨by exact er, bh⟩
   ·rw [if_neg c6] at H
    have c6b0 : (t106 == 1) = false := beq_eq_false_iff_ne.mpr c6
    have c6b1 : (t106 != 1) = true := bne_iff_ne.mpr c6
    obtain rfl := Option.some.inj H
    go_enter Try.func18, Try.ntmps18
    go_wp2_with (first | ((with_reducible refine gate_dst (N := 13) rfl ?_); (try (refine gate_guard (by rfl) ?_; dsimp only)); refine Kd.R_lit k29 _ 29 ?hg (N := 13) ?hd (xs := ([(⟨0, 0⟩ : S29), (⟨2, 0⟩ : S29), (⟨2, 2⟩ : S29), (⟨0, 2⟩ : S29)] : List (S29))) (inner := [.int .i64 0, .int .i64 0, .int .i64 2, .int .i64 0, .int .i64 2, .int .i64 2, .int .i64 0, .int .i64 2]) (ok := fun _ => True) (okp := fun _ => True) ?hr ?hp (fun _ hk => hk) trivial (Below.refl _ _) (Nat.le_refl _) (by simp) ?_; (case hd => rfl); (case hg => rfl); (case hr => first | (go_simp; done) | (go_simp; rfl)); (case hp => exact (Reps.c2 (show Kd.M k29 _ _ _ (⟨0, 0⟩ : S29) [.int .i64 0, .int .i64 0] from (k29_mkM _ _ _ (⟨0, 0⟩ : S29) )) (Reps.c2 (show Kd.M k29 _ _ _ (⟨2, 0⟩ : S29) [.int .i64 2, .int .i64 0] from (k29_mkM _ _ _ (⟨2, 0⟩ : S29) )) (Reps.c2 (show Kd.M k29 _ _ _ (⟨2, 2⟩ : S29) [.int .i64 2, .int .i64 2] from (k29_mkM _ _ _ (⟨2, 2⟩ : S29) )) (Reps.c2 (show Kd.M k29 _ _ _ (⟨0, 2⟩ : S29) [.int .i64 0, .int .i64 2] from (k29_mkM _ _ _ (⟨0, 2⟩ : S29) )) (Reps.none _ _)))))); intro v102 w51 ho52 hb hg_ hnew_; clear hg_ hnew_; (first | rw [← Ny101.out] at ho52 | (simp only [Int.reduceToNat] at ho52; rw [← Ny101.out] at ho52)); have n0_ := Aside0.mk (Kd.R_lower ho52 (below_size bh)); have n1_ := Aside0.mk (below_step bh hb); clear HB; have HO103 := n0_; have HB := n1_; clear n0_ n1_; clear hb ho52; obtain ⟨Ao53, co53, eo53⟩ := Kd.R_slice HO103.out; subst eo53) | ((with_reducible refine gate_callee (f := 24) rfl ?_); refine goesL_ (some 16) rfl rfl Try.func24 (by kernel_rfl) rfl #[.slice Ao53 y101.length co53] rfl sg ?_; (with_reducible refine (shape_Area2.calls k _ _ y101 t104 t105 _ ?side1 ?side2 A1.out).mono ?_); (case side1 => exact cs (Kd.R_reads' HO103.out).2.2); (case side2 => exact (Kd.R_reads' HO103.out).2.1); rintro e w54 ⟨rfl, hb⟩; refine ⟨_, rfl, ?_⟩; have n0_ := Aside0.mk (Kd.R_below (ro HO103) hb); have n1_ := Aside0.mk (below_step bh hb); clear HO103; clear HB; have HO103 := n0_; have HB := n1_; clear n0_ n1_; (try clear hb); (try clear hb2); (try clear hk); (try clear hi)) | ((with_reducible refine gate_callee (f := 25) rfl ?_); refine goesL_ (some 21) rfl rfl Try.func25 (by kernel_rfl) rfl #[.slice Ao53 y101.length co53] rfl sg ?_; (with_reducible refine (shape_Lattice.calls k _ _ y101 t106 t107 t108 _ ?side1 ?side2 A2.out).mono ?_); (case side1 => exact cs (Kd.R_reads' HO103.out).2.2); (case side2 => exact (Kd.R_reads' HO103.out).2.1); rintro e w55 ⟨rfl, hb⟩; refine ⟨_, rfl, ?_⟩; have n0_ := Aside0.mk (Kd.R_below (ro HO103) hb); have n1_ := Aside0.mk (below_step bh hb); clear HO103; clear HB; have HO103 := n0_; have HB := n1_; clear n0_ n1_; (try clear hb); (try clear hb2); (try clear hk); (try clear hi)) | ((with_reducible refine gate_dst (N := 31) rfl ?_); (try (refine gate_guard (by rfl) ?_; dsimp only)); refine Kd.R_lit k29 _ 29 ?hg (N := 31) ?hd (xs := ([(⟨0, 0⟩ : S29), (⟨1, 0⟩ : S29), (⟨2, 0⟩ : S29), (⟨0, 2⟩ : S29), (⟨1, 1⟩ : S29)] : List (S29))) (inner := [.int .i64 0, .int .i64 0, .int .i64 1, .int .i64 0, .int .i64 2, .int .i64 0, .int .i64 0, .int .i64 2, .int .i64 1, .int .i64 1]) (ok := fun _ => True) (okp := fun _ => True) ?hr ?hp (fun _ hk => hk) trivial (Below.refl _ _) (Nat.le_refl _) (by simp) ?_; (case hd => rfl); (case hg => rfl); (case hr => first | (go_simp; done) | (go_simp; rfl)); (case hp => exact (Reps.c2 (show Kd.M k29 _ _ _ (⟨0, 0⟩ : S29) [.int .i64 0, .int .i64 0] from (k29_mkM _ _ _ (⟨0, 0⟩ : S29) )) (Reps.c2 (show Kd.M k29 _ _ _ (⟨1, 0⟩ : S29) [.int .i64 1, .int .i64 0] from (k29_mkM _ _ _ (⟨1, 0⟩ : S29) )) (Reps.c2 (show Kd.M k29 _ _ _ (⟨2, 0⟩ : S29) [.int .i64 2, .int .i64 0] from (k29_mkM _ _ _ (⟨2, 0⟩ : S29) )) (Reps.c2 (show Kd.M k29 _ _ _ (⟨0, 2⟩ : S29) [.int .i64 0, .int .i64 2] from (k29_mkM _ _ _ (⟨0, 2⟩ : S29) )) (Reps.c2 (show Kd.M k29 _ _ _ (⟨1, 1⟩ : S29) [.int .i64 1, .int .i64 1] from (k29_mkM _ _ _ (⟨1, 1⟩ : S29) )) (Reps.none _ _))))))); intro v110 w56 ho57 hb hg_ hnew_; clear hg_ hnew_; (first | rw [← Ny109.out] at ho57 | (simp only [Int.reduceToNat] at ho57; rw [← Ny109.out] at ho57)); have n0_ := Aside0.mk (Kd.R_elder' (ro HO103) (Kd.R_base ho57) hb); have n1_ := Aside0.mk (Kd.R_lower (Kd.R_new' ho57 (Kd.R_lt (ro HO103))) (below_size bh)); have n2_ := Aside0.mk (below_step bh hb); clear HO103; clear HB; have HO103 := n0_; have HO111 := n1_; have HB := n2_; clear n0_ n1_ n2_; clear hb ho57; obtain ⟨Ao58, co58, eo58⟩ := Kd.R_slice HO111.out; subst eo58) | ((with_reducible refine gate_callee (f := 16) rfl ?_); refine goesL_ (some 32) rfl rfl Try.func16 (by kernel_rfl) rfl #[.slice Ao58 y109.length co58] rfl sg ?_; (with_reducible refine (shape_Hull.calls k _ _ y109 t112 t113 _ ?side1 ?side2 A3.out).mono ?_); (case side1 => exact cs (Kd.R_reads' HO111.out).2.2); (case side2 => exact (Kd.R_reads' HO111.out).2.1); rintro e w59 ⟨v114, rfl, ho0, hb⟩; refine ⟨_, rfl, ?_⟩; have n0_ := Aside0.mk (Kd.R_elder' (ro HO103) (Kd.R_base ho0) hb); have n1_ := Aside0.mk (Kd.R_elder' (ro HO111) (Kd.R_base ho0) hb); have n2_ := Aside0.mk (Kd.R_lower (Kd.R_new' (Kd.R_new' ho0 (Kd.R_lt (ro HO103))) (Kd.R_lt (ro HO111))) (below_size bh)); have n3_ := Aside0.mk (below_step bh hb); clear HO103; clear HO111; clear HB; have HO103 := n0_; have HO111 := n1_; have HO115 := n2_; have HB := n3_; clear n0_ n1_ n2_ n3_; (try clear hb); (try clear hb2); (try clear hk); (try clear hi); (try clear ho0)))
    go_ret
    exact ⟨by exact er, bh⟩
  ·rw [if_neg c5] at H
   have c5b0 : (t105 == 0) = false := beq_eq_false_iff_ne.mpr c5
   have c5b1 : (t105 != 0) = true := bne_iff_ne.mpr c5
   obtain rfl := Option.some.inj H
   go_enter Try.func18, Try.ntmps18
   go_wp2_with (first | ((with_reducible refine gate_dst (N := 13) rfl ?_); (try (refine gate_guard (by rfl) ?_; dsimp only)); refine Kd.R_lit k29 _ 29 ?hg (N := 13) ?hd (xs := ([(⟨0, 0⟩ : S29), (⟨2, 0⟩ : S29), (⟨2, 2⟩ : S29), (⟨0, 2⟩ : S29)] : List (S29))) (inner := [.int .i64 0, .int .i64 0, .int .i64 2, .int .i64 0, .int .i64 2, .int .i64 2, .int .i64 0, .int .i64 2]) (ok := fun _ => True) (okp := fun _ => True) ?hr ?hp (fun _ hk => hk) trivial (Below.refl _ _) (Nat.le_refl _) (by simp) ?_; (case hd => rfl); (case hg => rfl); (case hr => first | (go_simp; done) | (go_simp; rfl)); (case hp => exact (Reps.c2 (show Kd.M k29 _ _ _ (⟨0, 0⟩ : S29) [.int .i64 0, .int .i64 0] from (k29_mkM _ _ _ (⟨0, 0⟩ : S29) )) (Reps.c2 (show Kd.M k29 _ _ _ (⟨2, 0⟩ : S29) [.int .i64 2, .int .i64 0] from (k29_mkM _ _ _ (⟨2, 0⟩ : S29) )) (Reps.c2 (show Kd.M k29 _ _ _ (⟨2, 2⟩ : S29) [.int .i64 2, .int .i64 2] from (k29_mkM _ _ _ (⟨2, 2⟩ : S29) )) (Reps.c2 (show Kd.M k29 _ _ _ (⟨0, 2⟩ : S29) [.int .i64 0, .int .i64 2] from (k29_mkM _ _ _ (⟨0, 2⟩ : S29) )) (Reps.none _ _)))))); intro v102 w60 ho61 hb hg_ hnew_; clear hg_ hnew_; (first | rw [← Ny101.out] at ho61 | (simp only [Int.reduceToNat] at ho61; rw [← Ny101.out] at ho61)); have n0_ := Aside0.mk (Kd.R_lower ho61 (below_size bh)); have n1_ := Aside0.mk (below_step bh hb); clear HB; have HO103 := n0_; have HB := n1_; clear n0_ n1_; clear hb ho61; obtain ⟨Ao62, co62, eo62⟩ := Kd.R_slice HO103.out; subst eo62) | ((with_reducible refine gate_callee (f := 24) rfl ?_); refine goesL_ (some 16) rfl rfl Try.func24 (by kernel_rfl) rfl #[.slice Ao62 y101.length co62] rfl sg ?_; (with_reducible refine (shape_Area2.calls k _ _ y101 t104 t105 _ ?side1 ?side2 A1.out).mono ?_); (case side1 => exact cs (Kd.R_reads' HO103.out).2.2); (case side2 => exact (Kd.R_reads' HO103.out).2.1); rintro e w63 ⟨rfl, hb⟩; refine ⟨_, rfl, ?_⟩; have n0_ := Aside0.mk (Kd.R_below (ro HO103) hb); have n1_ := Aside0.mk (below_step bh hb); clear HO103; clear HB; have HO103 := n0_; have HB := n1_; clear n0_ n1_; (try clear hb); (try clear hb2); (try clear hk); (try clear hi)) | ((with_reducible refine gate_callee (f := 25) rfl ?_); refine goesL_ (some 21) rfl rfl Try.func25 (by kernel_rfl) rfl #[.slice Ao62 y101.length co62] rfl sg ?_; (with_reducible refine (shape_Lattice.calls k _ _ y101 t106 t107 t108 _ ?side1 ?side2 A2.out).mono ?_); (case side1 => exact cs (Kd.R_reads' HO103.out).2.2); (case side2 => exact (Kd.R_reads' HO103.out).2.1); rintro e w64 ⟨rfl, hb⟩; refine ⟨_, rfl, ?_⟩; have n0_ := Aside0.mk (Kd.R_below (ro HO103) hb); have n1_ := Aside0.mk (below_step bh hb); clear HO103; clear HB; have HO103 := n0_; have HB := n1_; clear n0_ n1_; (try clear hb); (try clear hb2); (try clear hk); (try clear hi)) | ((with_reducible refine gate_dst (N := 31) rfl ?_); (try (refine gate_guard (by rfl) ?_; dsimp only)); refine Kd.R_lit k29 _ 29 ?hg (N := 31) ?hd (xs := ([(⟨0, 0⟩ : S29), (⟨1, 0⟩ : S29), (⟨2, 0⟩ : S29), (⟨0, 2⟩ : S29), (⟨1, 1⟩ : S29)] : List (S29))) (inner := [.int .i64 0, .int .i64 0, .int .i64 1, .int .i64 0, .int .i64 2, .int .i64 0, .int .i64 0, .int .i64 2, .int .i64 1, .int .i64 1]) (ok := fun _ => True) (okp := fun _ => True) ?hr ?hp (fun _ hk => hk) trivial (Below.refl _ _) (Nat.le_refl _) (by simp) ?_; (case hd => rfl); (case hg => rfl); (case hr => first | (go_simp; done) | (go_simp; rfl)); (case hp => exact (Reps.c2 (show Kd.M k29 _ _ _ (⟨0, 0⟩ : S29) [.int .i64 0, .int .i64 0] from (k29_mkM _ _ _ (⟨0, 0⟩ : S29) )) (Reps.c2 (show Kd.M k29 _ _ _ (⟨1, 0⟩ : S29) [.int .i64 1, .int .i64 0] from (k29_mkM _ _ _ (⟨1, 0⟩ : S29) )) (Reps.c2 (show Kd.M k29 _ _ _ (⟨2, 0⟩ : S29) [.int .i64 2, .int .i64 0] from (k29_mkM _ _ _ (⟨2, 0⟩ : S29) )) (Reps.c2 (show Kd.M k29 _ _ _ (⟨0, 2⟩ : S29) [.int .i64 0, .int .i64 2] from (k29_mkM _ _ _ (⟨0, 2⟩ : S29) )) (Reps.c2 (show Kd.M k29 _ _ _ (⟨1, 1⟩ : S29) [.int .i64 1, .int .i64 1] from (k29_mkM _ _ _ (⟨1, 1⟩ : S29) )) (Reps.none _ _))))))); intro v110 w65 ho66 hb hg_ hnew_; clear hg_ hnew_; (first | rw [← Ny109.out] at ho66 | (simp only [Int.reduceToNat] at ho66; rw [← Ny109.out] at ho66)); have n0_ := Aside0.mk (Kd.R_elder' (ro HO103) (Kd.R_base ho66) hb); have n1_ := Aside0.mk (Kd.R_lower (Kd.R_new' ho66 (Kd.R_lt (ro HO103))) (below_size bh)); have n2_ := Aside0.mk (below_step bh hb); clear HO103; clear HB; have HO103 := n0_; have HO111 := n1_; have HB := n2_; clear n0_ n1_ n2_; clear hb ho66; obtain ⟨Ao67, co67, eo67⟩ := Kd.R_slice HO111.out; subst eo67) | ((with_reducible refine gate_callee (f := 16) rfl ?_); refine goesL_ (some 32) rfl rfl Try.func16 (by kernel_rfl) rfl #[.slice Ao67 y109.length co67] rfl sg ?_; (with_reducible refine (shape_Hull.calls k _ _ y109 t112 t113 _ ?side1 ?side2 A3.out).mono ?_); (case side1 => exact cs (Kd.R_reads' HO111.out).2.2); (case side2 => exact (Kd.R_reads' HO111.out).2.1); rintro e w68 ⟨v114, rfl, ho0, hb⟩; refine ⟨_, rfl, ?_⟩; have n0_ := Aside0.mk (Kd.R_elder' (ro HO103) (Kd.R_base ho0) hb); have n1_ := Aside0.mk (Kd.R_elder' (ro HO111) (Kd.R_base ho0) hb); have n2_ := Aside0.mk (Kd.R_lower (Kd.R_new' (Kd.R_new' ho0 (Kd.R_lt (ro HO103))) (Kd.R_lt (ro HO111))) (below_size bh)); have n3_ := Aside0.mk (below_step bh hb); clear HO103; clear HO111; clear HB; have HO103 := n0_; have HO111 := n1_; have HO115 := n2_; have HB := n3_; clear n0_ n1_ n2_ n3_; (try clear hb); (try clear hb2); (try clear hk); (try clear hi); (try clear ho0)))
   go_ret
   exact ⟨by exact er, bh⟩
 ·rw [if_neg c4] at H
  have c4b0 : (t104 == 8) = false := beq_eq_false_iff_ne.mpr c4
  have c4b1 : (t104 != 8) = true := bne_iff_ne.mpr c4
  obtain rfl := Option.some.inj H
  go_enter Try.func18, Try.ntmps18
  go_wp2_with (first | ((with_reducible refine gate_dst (N := 13) rfl ?_); (try (refine gate_guard (by rfl) ?_; dsimp only)); refine Kd.R_lit k29 _ 29 ?hg (N := 13) ?hd (xs := ([(⟨0, 0⟩ : S29), (⟨2, 0⟩ : S29), (⟨2, 2⟩ : S29), (⟨0, 2⟩ : S29)] : List (S29))) (inner := [.int .i64 0, .int .i64 0, .int .i64 2, .int .i64 0, .int .i64 2, .int .i64 2, .int .i64 0, .int .i64 2]) (ok := fun _ => True) (okp := fun _ => True) ?hr ?hp (fun _ hk => hk) trivial (Below.refl _ _) (Nat.le_refl _) (by simp) ?_; (case hd => rfl); (case hg => rfl); (case hr => first | (go_simp; done) | (go_simp; rfl)); (case hp => exact (Reps.c2 (show Kd.M k29 _ _ _ (⟨0, 0⟩ : S29) [.int .i64 0, .int .i64 0] from (k29_mkM _ _ _ (⟨0, 0⟩ : S29) )) (Reps.c2 (show Kd.M k29 _ _ _ (⟨2, 0⟩ : S29) [.int .i64 2, .int .i64 0] from (k29_mkM _ _ _ (⟨2, 0⟩ : S29) )) (Reps.c2 (show Kd.M k29 _ _ _ (⟨2, 2⟩ : S29) [.int .i64 2, .int .i64 2] from (k29_mkM _ _ _ (⟨2, 2⟩ : S29) )) (Reps.c2 (show Kd.M k29 _ _ _ (⟨0, 2⟩ : S29) [.int .i64 0, .int .i64 2] from (k29_mkM _ _ _ (⟨0, 2⟩ : S29) )) (Reps.none _ _)))))); intro v102 w69 ho70 hb hg_ hnew_; clear hg_ hnew_; (first | rw [← Ny101.out] at ho70 | (simp only [Int.reduceToNat] at ho70; rw [← Ny101.out] at ho70)); have n0_ := Aside0.mk (Kd.R_lower ho70 (below_size bh)); have n1_ := Aside0.mk (below_step bh hb); clear HB; have HO103 := n0_; have HB := n1_; clear n0_ n1_; clear hb ho70; obtain ⟨Ao71, co71, eo71⟩ := Kd.R_slice HO103.out; subst eo71) | ((with_reducible refine gate_callee (f := 24) rfl ?_); refine goesL_ (some 16) rfl rfl Try.func24 (by kernel_rfl) rfl #[.slice Ao71 y101.length co71] rfl sg ?_; (with_reducible refine (shape_Area2.calls k _ _ y101 t104 t105 _ ?side1 ?side2 A1.out).mono ?_); (case side1 => exact cs (Kd.R_reads' HO103.out).2.2); (case side2 => exact (Kd.R_reads' HO103.out).2.1); rintro e w72 ⟨rfl, hb⟩; refine ⟨_, rfl, ?_⟩; have n0_ := Aside0.mk (Kd.R_below (ro HO103) hb); have n1_ := Aside0.mk (below_step bh hb); clear HO103; clear HB; have HO103 := n0_; have HB := n1_; clear n0_ n1_; (try clear hb); (try clear hb2); (try clear hk); (try clear hi)) | ((with_reducible refine gate_callee (f := 25) rfl ?_); refine goesL_ (some 21) rfl rfl Try.func25 (by kernel_rfl) rfl #[.slice Ao71 y101.length co71] rfl sg ?_; (with_reducible refine (shape_Lattice.calls k _ _ y101 t106 t107 t108 _ ?side1 ?side2 A2.out).mono ?_); (case side1 => exact cs (Kd.R_reads' HO103.out).2.2); (case side2 => exact (Kd.R_reads' HO103.out).2.1); rintro e w73 ⟨rfl, hb⟩; refine ⟨_, rfl, ?_⟩; have n0_ := Aside0.mk (Kd.R_below (ro HO103) hb); have n1_ := Aside0.mk (below_step bh hb); clear HO103; clear HB; have HO103 := n0_; have HB := n1_; clear n0_ n1_; (try clear hb); (try clear hb2); (try clear hk); (try clear hi)) | ((with_reducible refine gate_dst (N := 31) rfl ?_); (try (refine gate_guard (by rfl) ?_; dsimp only)); refine Kd.R_lit k29 _ 29 ?hg (N := 31) ?hd (xs := ([(⟨0, 0⟩ : S29), (⟨1, 0⟩ : S29), (⟨2, 0⟩ : S29), (⟨0, 2⟩ : S29), (⟨1, 1⟩ : S29)] : List (S29))) (inner := [.int .i64 0, .int .i64 0, .int .i64 1, .int .i64 0, .int .i64 2, .int .i64 0, .int .i64 0, .int .i64 2, .int .i64 1, .int .i64 1]) (ok := fun _ => True) (okp := fun _ => True) ?hr ?hp (fun _ hk => hk) trivial (Below.refl _ _) (Nat.le_refl _) (by simp) ?_; (case hd => rfl); (case hg => rfl); (case hr => first | (go_simp; done) | (go_simp; rfl)); (case hp => exact (Reps.c2 (show Kd.M k29 _ _ _ (⟨0, 0⟩ : S29) [.int .i64 0, .int .i64 0] from (k29_mkM _ _ _ (⟨0, 0⟩ : S29) )) (Reps.c2 (show Kd.M k29 _ _ _ (⟨1, 0⟩ : S29) [.int .i64 1, .int .i64 0] from (k29_mkM _ _ _ (⟨1, 0⟩ : S29) )) (Reps.c2 (show Kd.M k29 _ _ _ (⟨2, 0⟩ : S29) [.int .i64 2, .int .i64 0] from (k29_mkM _ _ _ (⟨2, 0⟩ : S29) )) (Reps.c2 (show Kd.M k29 _ _ _ (⟨0, 2⟩ : S29) [.int .i64 0, .int .i64 2] from (k29_mkM _ _ _ (⟨0, 2⟩ : S29) )) (Reps.c2 (show Kd.M k29 _ _ _ (⟨1, 1⟩ : S29) [.int .i64 1, .int .i64 1] from (k29_mkM _ _ _ (⟨1, 1⟩ : S29) )) (Reps.none _ _))))))); intro v110 w74 ho75 hb hg_ hnew_; clear hg_ hnew_; (first | rw [← Ny109.out] at ho75 | (simp only [Int.reduceToNat] at ho75; rw [← Ny109.out] at ho75)); have n0_ := Aside0.mk (Kd.R_elder' (ro HO103) (Kd.R_base ho75) hb); have n1_ := Aside0.mk (Kd.R_lower (Kd.R_new' ho75 (Kd.R_lt (ro HO103))) (below_size bh)); have n2_ := Aside0.mk (below_step bh hb); clear HO103; clear HB; have HO103 := n0_; have HO111 := n1_; have HB := n2_; clear n0_ n1_ n2_; clear hb ho75; obtain ⟨Ao76, co76, eo76⟩ := Kd.R_slice HO111.out; subst eo76) | ((with_reducible refine gate_callee (f := 16) rfl ?_); refine goesL_ (some 32) rfl rfl Try.func16 (by kernel_rfl) rfl #[.slice Ao76 y109.length co76] rfl sg ?_; (with_reducible refine (shape_Hull.calls k _ _ y109 t112 t113 _ ?side1 ?side2 A3.out).mono ?_); (case side1 => exact cs (Kd.R_reads' HO111.out).2.2); (case side2 => exact (Kd.R_reads' HO111.out).2.1); rintro e w77 ⟨v114, rfl, ho0, hb⟩; refine ⟨_, rfl, ?_⟩; have n0_ := Aside0.mk (Kd.R_elder' (ro HO103) (Kd.R_base ho0) hb); have n1_ := Aside0.mk (Kd.R_elder' (ro HO111) (Kd.R_base ho0) hb); have n2_ := Aside0.mk (Kd.R_lower (Kd.R_new' (Kd.R_new' ho0 (Kd.R_lt (ro HO103))) (Kd.R_lt (ro HO111))) (below_size bh)); have n3_ := Aside0.mk (below_step bh hb); clear HO103; clear HO111; clear HB; have HO103 := n0_; have HO111 := n1_; have HO115 := n2_; have HB := n3_; clear n0_ n1_ n2_ n3_; (try clear hb); (try clear hb2); (try clear hk); (try clear hi); (try clear ho0)))
  go_ret
  exact ⟨by exact er, bh⟩
end Go.Proofs.Ytoffmpkgickfhaa.PG
end
section
namespace Go.Proofs.Ytoffmpkgickfhaa.M
open Go.Proofs.Ytoffmpkgickfhaa.PG
abbrev Pt := S29
instance decS29 : DecidableEq S29 := fun a b => if h : a.f0 = b.f0 ∧ a.f1 = b.f1 then isTrue (by cases a; cases b; simp_all) else isFalse (by intro e; exact h (by rw [e]; exact ⟨rfl, rfl⟩))
def cr (a b c : Pt) : Int := (b.f0-a.f0)*(c.f1-a.f1) - (c.f0-a.f0)*(b.f1-a.f1)
/-- p lies on the segment from a to b (for collinear points) -/
def btw (a b p : Pt) : Prop := min a.f0 b.f0 ≤ p.f0 ∧ p.f0 ≤ max a.f0 b.f0 ∧ min a.f1 b.f1 ≤ p.f1 ∧ p.f1 ≤ max a.f1 b.f1
theorem pt_ext {a b : Pt} (h0 : a.f0 = b.f0) (h1 : a.f1 = b.f1) : a = b := by
 cases a; cases b; simp_all
theorem cr_swap (a b c : Pt) : cr a c b = -(cr a b c) := by unfold cr; grind
theorem cr_rot (a b c : Pt) : cr b c a = cr a b c := by unfold cr; grind
theorem cr_self1 (a b : Pt) : cr a b a = 0 := by unfold cr; grind
theorem cr_self2 (a b : Pt) : cr a b b = 0 := by unfold cr; grind
/-- a hull edge of the points S: all lie to its left, or on it -/
def HE (S : List Pt) (a b : Pt) : Prop := a ≠ b ∧ a ∈ S ∧ b ∈ S ∧ ∀ p ∈ S, 0 ≤ cr a b p ∧ (cr a b p = 0 → btw a b p)
theorem btw_eq {a b c : Pt} (h1 : btw a b c) (h2 : btw a c b) : b = c := by
 unfold btw at h1 h2
 apply pt_ext <;> omega
theorem btw_eq' {a b c : Pt} (h1 : btw a c b) (h2 : btw b c a) : a = b := by
 unfold btw at h1 h2
 apply pt_ext <;> omega
theorem he_succ {S : List Pt} {a b c : Pt} (h1 : HE S a b) (h2 : HE S a c) : b = c := by
 obtain ⟨_, _, hb, hB⟩ := h1
 obtain ⟨_, _, hc, hC⟩ := h2
 have h3 := hB c hc
 have h4 := hC b hb
 have h5 := cr_swap a b c
 exact btw_eq (h3.2 (by omega)) (h4.2 (by omega))
theorem he_pred {S : List Pt} {a b c : Pt} (h1 : HE S a c) (h2 : HE S b c) : a = b := by
 obtain ⟨_, ha, _, hA⟩ := h1
 obtain ⟨_, hb, _, hB⟩ := h2
 have h3 := hA b hb
 have h4 := hB a ha
 have h5 : cr b c a = -(cr a c b) := by unfold cr; grind
 exact btw_eq' (h3.2 (by omega)) (h4.2 (by omega))
/-- a linear functional -/
def fn (p q : Int) (a b : Pt) : Int := p * (b.f0 - a.f0) + q * (b.f1 - a.f1)
theorem pos_of_mul {a b : Int} (ha : 0 < a) (h : 0 < a * b) : 0 < b := by
 rcases Int.lt_trichotomy b 0 with h1 | h1 | h1
 ·have := Int.mul_neg_of_pos_of_neg ha h1; omega
 ·subst h1; simp at h
 ·exact h1
theorem nonneg_of_mul {a b : Int} (ha : 0 < a) (h : 0 ≤ a * b) : 0 ≤ b := by
 rcases Int.lt_trichotomy b 0 with h1 | h1 | h1
 ·have := Int.mul_neg_of_pos_of_neg ha h1; omega
 ·omega
 ·omega
/-- around o, in the half plane fn > 0: 'left of' is transitive -/
theorem tr {p q : Int} {o u v w : Pt} (hu : 0 < fn p q o u) (hv : 0 < fn p q o v) (hw : 0 < fn p q o w)
  (h1 : 0 ≤ cr o u v) (h2 : 0 ≤ cr o v w) : 0 ≤ cr o u w ∧ (0 < cr o u v ∨ 0 < cr o v w → 0 < cr o u w) := by
 have e : fn p q o v * cr o u w = fn p q o u * cr o v w + fn p q o w * cr o u v := by unfold fn cr; grind
 have a1 := Int.mul_nonneg (Int.le_of_lt hu) h2
 have a2 := Int.mul_nonneg (Int.le_of_lt hw) h1
 constructor
 ·exact nonneg_of_mul hv (by omega)
 ·intro h
  apply pos_of_mul hv
  rcases h with h | h
  ·have := Int.mul_pos hw h; omega
  ·have := Int.mul_pos hu h; omega
theorem le_of_mul_le {a b c : Int} (ha : 0 < a) (h : a * b ≤ a * c) : b ≤ c := Int.le_of_mul_le_mul_left h ha
/-- collinear, and between by a functional: between -/
theorem btw_of_fn {p q : Int} {a b c : Pt} (hb : 0 < fn p q a b) (h0 : 0 ≤ fn p q a c) (h1 : fn p q a c ≤ fn p q a b) (h : cr a b c = 0) : btw a b c := by
 have e0 : fn p q a b * (c.f0 - a.f0) = fn p q a c * (b.f0 - a.f0) := by unfold fn; unfold cr at h; grind
 have e1 : fn p q a b * (c.f1 - a.f1) = fn p q a c * (b.f1 - a.f1) := by unfold fn; unfold cr at h; grind
 have key : ∀ x y : Int, fn p q a b * x = fn p q a c * y → (0 ≤ y → 0 ≤ x ∧ x ≤ y) ∧ (y ≤ 0 → y ≤ x ∧ x ≤ 0) := by
  intro x y e
  constructor
  ·intro hy
   have m1 := Int.mul_nonneg h0 hy
   have m2 := Int.mul_le_mul_of_nonneg_right h1 hy
   exact ⟨nonneg_of_mul hb (by omega), le_of_mul_le hb (by omega)⟩
  ·intro hy
   have m1 := Int.mul_nonneg h0 (show 0 ≤ -y by omega)
   have m2 := Int.mul_le_mul_of_nonneg_right h1 (show 0 ≤ -y by omega)
   rw [Int.mul_neg] at m1 m2
   rw [Int.mul_neg] at m2
   exact ⟨le_of_mul_le hb (by omega), le_of_mul_le hb (by omega)⟩
 have k0 := key _ _ e0
 have k1 := key _ _ e1
 unfold btw
 omega
theorem fn_add (p q : Int) (a b c : Pt) : fn p q a c = fn p q a b + fn p q b c := by unfold fn; grind
theorem fn_neg (p q : Int) (a b : Pt) : fn p q b a = - fn p q a b := by unfold fn; grind
theorem fn_btw_le {p q : Int} {a b c : Pt} (h : btw a b c) (hc : cr a b c = 0) (hb : 0 < fn p q a b) : 0 ≤ fn p q a c ∧ fn p q a c ≤ fn p q a b := by
 unfold btw at h
 -- c = a + t (b - a), t in [0,1], coordinate by coordinate
 have e0 : fn p q a b * (c.f0 - a.f0) = fn p q a c * (b.f0 - a.f0) := by unfold fn; unfold cr at hc; grind
 have e1 : fn p q a b * (c.f1 - a.f1) = fn p q a c * (b.f1 - a.f1) := by unfold fn; unfold cr at hc; grind
 have hne : b.f0 - a.f0 ≠ 0 ∨ b.f1 - a.f1 ≠ 0 := by
  rcases Int.decEq (b.f0 - a.f0) 0 with h | h
  ·exact .inl h
  ·rcases Int.decEq (b.f1 - a.f1) 0 with h' | h'
   ·exact .inr h'
   ·unfold fn at hb; rw [h, h'] at hb; simp at hb
 have key : ∀ x y : Int, fn p q a b * x = fn p q a c * y → y ≠ 0 → (0 ≤ y → 0 ≤ x ∧ x ≤ y) → (y ≤ 0 → y ≤ x ∧ x ≤ 0) → 0 ≤ fn p q a c ∧ fn p q a c ≤ fn p q a b := by
  intro x y e hy h1 h2
  rcases Int.lt_trichotomy y 0 with h3 | h3 | h3
  ·have h4 := h2 (by omega)
   have m1 := Int.mul_nonneg (Int.le_of_lt hb) (show 0 ≤ -x by omega)
   have m2 := Int.mul_nonneg (Int.le_of_lt hb) (show 0 ≤ x - y by omega)
   rw [Int.mul_neg] at m1
   rw [Int.mul_sub] at m2
   constructor
   ·apply nonneg_of_mul (show 0 < -y by omega)
    rw [Int.neg_mul, Int.mul_comm]; omega
   ·apply le_of_mul_le (show 0 < -y by omega)
    rw [Int.neg_mul, Int.neg_mul, Int.mul_comm y, Int.mul_comm y]; omega
  ·exact absurd h3 hy
  ·have h4 := h1 (by omega)
   have m1 := Int.mul_nonneg (Int.le_of_lt hb) (show 0 ≤ x by omega)
   have m2 := Int.mul_nonneg (Int.le_of_lt hb) (show 0 ≤ y - x by omega)
   rw [Int.mul_sub] at m2
   constructor
   ·apply nonneg_of_mul h3
    rw [Int.mul_comm]; omega
   ·apply le_of_mul_le h3
    rw [Int.mul_comm y, Int.mul_comm y]; omega
 rcases hne with h' | h'
 ·exact key _ _ e0 h' (by omega) (by omega)
 ·exact key _ _ e1 h' (by omega) (by omega)
/-- R holds of each two that follow each other -/
def Pairs (R : Pt → Pt → Prop) : List Pt → Prop
 | [] => True
 | [_] => True
 | a :: b :: l => R a b ∧ Pairs R (b :: l)
theorem Pairs.mono {R R' : Pt → Pt → Prop} (h : ∀ a b, R a b → R' a b) : ∀ l, Pairs R l → Pairs R' l
 | [], _ => trivial
 | [_], _ => trivial
 | _ :: b :: l, ⟨h1, h2⟩ => ⟨h _ _ h1, Pairs.mono h (b :: l) h2⟩
theorem Pairs.append {R : Pt → Pt → Prop} {m : Pt} : ∀ (l l' : List Pt), Pairs R (l ++ [m]) → Pairs R (m :: l') → Pairs R (l ++ m :: l')
 | [], _, _, h => h
 | [_], _, ⟨h1, _⟩, h => ⟨h1, h⟩
 | _ :: b :: l, l', ⟨h1, h2⟩, h => ⟨h1, Pairs.append (b :: l) l' h2 h⟩
theorem Pairs.tail {R : Pt → Pt → Prop} {a : Pt} {l : List Pt} (h : Pairs R (a :: l)) : Pairs R l := by
 cases l with
 | nil => trivial
 | cons b l => exact h.2
theorem Pairs.left {R : Pt → Pt → Prop} : ∀ (l l' : List Pt), Pairs R (l ++ l') → Pairs R l
 | [], _, _ => trivial
 | [_], _, _ => trivial
 | _ :: b :: l, l', ⟨h1, h2⟩ => ⟨h1, Pairs.left (b :: l) l' h2⟩
theorem Pairs.right {R : Pt → Pt → Prop} : ∀ (l l' : List Pt), Pairs R (l ++ l') → Pairs R l'
 | [], _, h => h
 | _ :: l, l', h => Pairs.right l l' h.tail
theorem Pairs.at_ {R : Pt → Pt → Prop} {a b : Pt} {l l' : List Pt} (h : Pairs R (l ++ a :: b :: l')) : R a b := (Pairs.right l _ h).1
/-- two ways in a functional relation, from x on to the first a -/
theorem ways_eq {R : Pt → Pt → Prop} (hf : ∀ a b c, R a b → R a c → b = c) (a : Pt) : ∀ (x : Pt) (t t' : List Pt), Pairs R (x :: (t ++ [a])) → Pairs R (x :: (t' ++ [a])) → a ∉ t → a ∉ t' → t = t'
 | _, [], [], _, _, _, _ => rfl
 | _, [], y :: _, h, h', _, n' => absurd (hf _ _ _ h.1 h'.1) (fun e => n' (by simp [e]))
 | _, z :: _, [], h, h', n, _ => absurd (hf _ _ _ h.1 h'.1) (fun e => n (by simp [e]))
 | _, z :: t, y :: t', h, h', n, n' => by
  obtain rfl := hf _ _ _ h.1 h'.1
  rw [ways_eq hf a z t t' h.2 h'.2 (fun e => n (by simp [e])) (fun e => n' (by simp [e]))]
/-- a closed way of hull edges from a on, that comes to a at its end alone -/
def Ring (S : List Pt) (h : List Pt) : Prop := ∃ a t, h = a :: t ∧ a ∉ t ∧ Pairs (HE S) (a :: (t ++ [a]))
theorem ring_eq {S h h' : List Pt} (r : Ring S h) (r' : Ring S h') (e : h.head? = h'.head?) : h = h' := by
 obtain ⟨a, t, rfl, n, p⟩ := r
 obtain ⟨a', t', rfl, n', p'⟩ := r'
 obtain rfl : a = a' := by simpa using e
 rw [ways_eq (R := HE S) (fun _ _ _ => he_succ) a a t t' p p' n n']
/-! ### the chain (Andrew) -/
/-- what the loop takes off: the stack, its top first -/
def pop (p : Pt) : List Pt → List Pt
 | t :: s :: r => if cr s t p ≤ 0 then pop p (s :: r) else t :: s :: r
 | l => l
def push (st : List Pt) (p : Pt) : List Pt := p :: pop p st
def chain (l : List Pt) : List Pt := (l.foldl push []).reverse
section
variable (p q : Int)
/-- a stack over the points S: hull edges, rising from o on -/
def Stk (S : List Pt) (o : Pt) : List Pt → Prop
 | [] => False
 | [a] => a = o
 | t :: s :: r => 0 < fn p q s t ∧ HE S s t ∧ Stk S o (s :: r)
def Rises (S : List Pt) (o : Pt) : Prop := o ∈ S ∧ (∀ a ∈ S, a = o ∨ 0 < fn p q o a) ∧ ∀ a ∈ S, ∀ b ∈ S, fn p q a b = 0 → a = b
theorem stk_mem {S : List Pt} {o : Pt} (ho : o ∈ S) : ∀ {st : List Pt}, Stk p q S o st → ∀ a ∈ st, a ∈ S
 | [a], h, b, hb => by simp at hb; subst hb; rw [show b = o from h]; exact ho
 | t :: s :: r, h, b, hb => by
  rcases List.mem_cons.mp hb with rfl | hb
  ·exact h.2.1.2.2.1
  ·exact stk_mem ho h.2.2 b hb
/-- what is known of the stack's top while points are taken off for x -/
def Top (S : List Pt) (x : Pt) : List Pt → Prop
 | [] => False
 | t :: _ => ∀ b ∈ S, 0 < fn p q t b → 0 ≤ cr t x b ∧ (cr t x b = 0 → btw t x b)
theorem pop_ok {S : List Pt} {o x : Pt} (hS : Rises p q S o) (hx : ∀ a ∈ S, 0 < fn p q a x) :
  ∀ (st : List Pt), Stk p q S o st → Top p q S x st → Stk p q S o (pop x st) ∧ Top p q S x (pop x st) ∧ (∀ t s r, pop x st = t :: s :: r → 0 < cr s t x)
 | [], h, _ => h.elim
 | [a], h, ht => ⟨h, ht, by intro t s r e; simp [pop] at e⟩
 | t :: s :: r, h, ht => by
  unfold pop
  split
  ·rename_i hle
   apply pop_ok hS hx (s :: r) h.2.2
   intro b hb hsb
   obtain ⟨hst, hne, _⟩ := h
   have he := hne.2.2.2 b hb
   have hsm : s ∈ S := hne.2.1
   have h1 : 0 ≤ cr s x t := by rw [cr_swap]; omega
   have := tr (hx s hsm) hst hsb h1 he.1
   refine ⟨this.1, fun h0 => ?_⟩
   have a1 : cr s x t = 0 := by
    rcases Int.lt_trichotomy 0 (cr s x t) with h2 | h2 | h2
    ·have := this.2 (.inl h2); omega
    ·exact h2.symm
    ·omega
   refine btw_of_fn (hx s hsm) (Int.le_of_lt hsb) ?_ h0
   rw [fn_add p q s b x]; have := hx b hb; omega
  ·rename_i hgt
   refine ⟨h, ht, ?_⟩
   intro t' s' r' e
   simp only [List.cons.injEq] at e
   obtain ⟨rfl, rfl, _⟩ := e
   omega
theorem left_all {S : List Pt} {o x : Pt} (hx : ∀ a ∈ S, 0 < fn p q a x) :
  ∀ (st : List Pt), Stk p q S o st → (∀ t s r, st = t :: s :: r → 0 < cr s t x) → Stk p q (S ++ [x]) o st
 | [], h, _ => h.elim
 | [a], h, _ => h
 | t :: s :: r, h, hc => by
  obtain ⟨hst, hne, hr⟩ := h
  have c1 := hc t s r rfl
  refine ⟨hst, ⟨hne.1, by simp [hne.2.1], by simp [hne.2.2.1], ?_⟩, left_all hx (s :: r) hr ?_⟩
  ·intro b hb
   rcases List.mem_append.mp hb with hb | hb
   ·exact hne.2.2.2 b hb
   ·simp at hb; subst hb
    exact ⟨by omega, fun h => by omega⟩
  ·intro s' u r' e
   simp only [List.cons.injEq] at e
   obtain ⟨rfl, rfl⟩ := e
   obtain ⟨hus, hue, _⟩ := hr
   have d0 := hue.2.2.2 t hne.2.2.1
   have d1 : 0 < cr u s t := by
    rcases Int.lt_trichotomy 0 (cr u s t) with h2 | h2 | h2
    ·exact h2
    ·have := (fn_btw_le (d0.2 h2.symm) h2.symm hus).2
     rw [fn_add p q u s t] at this; omega
    ·omega
   -- directions: s - u, t - s, x - s
   have e1 : cr u s x = cr u s ⟨s.f0 + (x.f0 - s.f0), s.f1 + (x.f1 - s.f1)⟩ := by unfold cr; grind
   let o' : Pt := ⟨0, 0⟩
   let du : Pt := ⟨s.f0 - u.f0, s.f1 - u.f1⟩
   let dv : Pt := ⟨t.f0 - s.f0, t.f1 - s.f1⟩
   let dw : Pt := ⟨x.f0 - s.f0, x.f1 - s.f1⟩
   have g1 : fn p q o' du = fn p q u s := by simp only [fn, o', du]; grind
   have g2 : fn p q o' dv = fn p q s t := by simp only [fn, o', dv]; grind
   have g3 : fn p q o' dw = fn p q s x := by simp only [fn, o', dw]; grind
   have c2 : cr o' du dv = cr u s t := by simp only [cr, o', du, dv]; grind
   have c3 : cr o' dv dw = cr s t x := by simp only [cr, o', dv, dw]; grind
   have c4 : cr o' du dw = cr u s x := by simp only [cr, o', du, dw]; grind
   have := tr (p := p) (q := q) (o := o') (u := du) (v := dv) (w := dw) (by omega) (by omega) (by rw [g3]; exact hx s hne.2.1) (by omega) (by omega)
   have := this.2 (.inl (by omega))
   omega
theorem push_ok {S : List Pt} {o x : Pt} (hS : Rises p q S o) (hx : ∀ a ∈ S, 0 < fn p q a x) (st : List Pt) (h : Stk p q S o st)
  (ht : ∀ t r, st = t :: r → ∀ b ∈ S, fn p q t b ≤ 0) : Stk p q (S ++ [x]) o (push st x) := by
 have hT : Top p q S x st := by
  match st, h, ht with
  | t :: r, _, ht => intro b hb hp; have := ht t r rfl b hb; omega
 obtain ⟨h1, h2, h3⟩ := pop_ok p q hS hx st h hT
 have h4 := left_all p q hx _ h1 h3
 unfold push
 generalize pop x st = st' at *
 match st', h1, h2, h3, h4 with
 | t :: r, h1, h2, h3, h4 =>
  have htm : t ∈ S := stk_mem p q hS.1 h1 t (by simp)
  refine ⟨hx t htm, ⟨?_, by simp [htm], by simp, ?_⟩, h4⟩
  ·intro e; have := hx t htm; rw [e] at this; simp [fn] at this
  ·intro b hb
   rcases List.mem_append.mp hb with hb | hb
   ·rcases Int.lt_trichotomy 0 (fn p q t b) with h5 | h5 | h5
    ·exact h2 b hb h5
    ·obtain rfl := hS.2.2 t htm b hb h5.symm
     rw [cr_self1]; refine ⟨by omega, fun _ => ?_⟩; unfold btw; omega
    ·-- b lies before t
     match r, h1, h3 with
     | [], h1, _ =>
      rw [show t = o from h1] at h5
      rcases hS.2.1 b hb with rfl | h6
      ·simp [fn] at h5
      ·omega
     | s :: r', h1, h3 =>
      obtain ⟨hst, hne, _⟩ := h1
      have c1 := h3 t s r' rfl
      have c2 := (hne.2.2.2 b hb).1
      let o' : Pt := ⟨0, 0⟩
      let du : Pt := ⟨t.f0 - b.f0, t.f1 - b.f1⟩
      let dv : Pt := ⟨t.f0 - s.f0, t.f1 - s.f1⟩
      let dw : Pt := ⟨x.f0 - t.f0, x.f1 - t.f1⟩
      have g1 : fn p q o' du = - fn p q t b := by simp only [fn, o', du]; grind
      have g2 : fn p q o' dv = fn p q s t := by simp only [fn, o', dv]; grind
      have g3 : fn p q o' dw = fn p q t x := by simp only [fn, o', dw]; grind
      have k2 : cr o' du dv = cr s t b := by simp only [cr, o', du, dv]; grind
      have k3 : cr o' dv dw = cr s t x := by simp only [cr, o', dv, dw]; grind
      have k4 : cr o' du dw = cr t x b := by simp only [cr, o', du, dw]; grind
      have := tr (p := p) (q := q) (o := o') (u := du) (v := dv) (w := dw) (by omega) (by omega) (by rw [g3]; exact hx t htm) (by omega) (by omega)
      have := this.2 (.inr (by omega))
      exact ⟨by omega, fun h => by omega⟩
   ·simp at hb; subst hb
    rw [cr_self2]; refine ⟨by omega, fun _ => ?_⟩; unfold btw; omega
/-- strictly rising lists -/
def Up : List Pt → Prop
 | [] => True
 | a :: l => (∀ b ∈ l, 0 < fn p q a b) ∧ Up l
theorem up_append {l : List Pt} {x : Pt} : Up p q (l ++ [x]) → Up p q l ∧ ∀ a ∈ l, 0 < fn p q a x := by
 induction l with
 | nil => intro _; exact ⟨trivial, by simp⟩
 | cons a l ih =>
  intro h
  obtain ⟨h1, h2⟩ := ih h.2
  refine ⟨⟨fun b hb => h.1 b (by simp [hb]), h1⟩, ?_⟩
  intro b hb
  rcases List.mem_cons.mp hb with rfl | hb
  ·exact h.1 x (by simp)
  ·exact h2 b hb
theorem up_rises {o : Pt} {l : List Pt} (h : Up p q (o :: l)) : Rises p q (o :: l) o := by
 refine ⟨by simp, ?_, ?_⟩
 ·intro a ha
  rcases List.mem_cons.mp ha with rfl | ha
  ·exact .inl rfl
  ·exact .inr (h.1 a ha)
 ·intro a ha b hb e
  have : ∀ l : List Pt, Up p q l → ∀ a ∈ l, ∀ b ∈ l, fn p q a b = 0 → a = b := by
   intro l
   induction l with
   | nil => intro _ a ha; simp at ha
   | cons c l ih =>
    intro h a ha b hb e
    rcases List.mem_cons.mp ha with h1 | h1 <;> rcases List.mem_cons.mp hb with h2 | h2
    ·rw [h1, h2]
    ·subst h1; have := h.1 b h2; omega
    ·subst h2; have := h.1 a h1; rw [fn_neg] at this; omega
    ·exact ih h.2 a h1 b h2 e
  exact this _ h a ha b hb e
theorem chain_stk (o : Pt) (l : List Pt) (h : Up p q (o :: l)) : Stk p q (o :: l) o ((o :: l).foldl push []) ∧ ((o :: l).foldl push []).head? = (o :: l).getLast? := by
 -- by the last element
 suffices H : ∀ n (l : List Pt), l.length = n → Up p q (o :: l) → Stk p q (o :: l) o ((o :: l).foldl push []) ∧ ((o :: l).foldl push []).head? = (o :: l).getLast? from H _ l rfl h
 intro n
 induction n with
 | zero =>
  intro l hl _
  obtain rfl := List.eq_nil_of_length_eq_zero hl
  exact ⟨rfl, rfl⟩
 | succ n ih =>
  intro l hl hu
  have hne : l ≠ [] := by intro e; subst e; simp at hl
  obtain ⟨l', x, rfl⟩ : ∃ l' x, l = l' ++ [x] := ⟨l.dropLast, l.getLast hne, (List.dropLast_concat_getLast hne).symm⟩
  have hu' := up_append p q (l := o :: l') (x := x) (by simpa using hu)
  obtain ⟨h1, h2⟩ := ih l' (by simp at hl; omega) hu'.1
  rw [← List.cons_append, List.foldl_append]
  simp only [List.foldl_cons, List.foldl_nil]
  refine ⟨?_, by rw [List.getLast?_concat]; rfl⟩
  apply push_ok p q (up_rises p q hu'.1) hu'.2 _ h1
  intro t r e b hb
  have e2 : (o :: l').getLast? = some t := by rw [← h2]; simp only [List.foldl_cons] at e ⊢; rw [e]; rfl
  -- t is the last of them
  have : ∀ (l : List Pt), Up p q l → l.getLast? = some t → ∀ b ∈ l, fn p q t b ≤ 0 := by
   intro l
   induction l with
   | nil => intro _ _ b hb; simp at hb
   | cons c l ih =>
    intro hu e b hb
    cases l with
    | nil => simp at e hb; subst e; subst hb; simp [fn]
    | cons d l =>
     have e' : (d :: l).getLast? = some t := by simpa using e
     rcases List.mem_cons.mp hb with h1 | h1
     ·have := hu.1 t (List.mem_of_getLast? e'); subst h1; rw [fn_neg]; omega
     ·exact ih hu.2 e' b h1
  exact this _ hu'.1 e2 b hb
end
section
variable (p q : Int)
theorem stk_pairs {S : List Pt} {o : Pt} : ∀ {st : List Pt}, Stk p q S o st → Pairs (fun a b => HE S a b ∧ 0 < fn p q a b) st.reverse ∧ st.reverse.head? = some o
 | [a], h => by have e : a = o := h; subst e; exact ⟨trivial, rfl⟩
 | t :: s :: r, h => by
  obtain ⟨h1, h2⟩ := stk_pairs (st := s :: r) h.2.2
  rw [List.reverse_cons] at h1 h2
  rw [List.reverse_cons, List.reverse_cons]
  refine ⟨?_, ?_⟩
  ·rw [List.append_assoc]
   exact Pairs.append r.reverse [t] h1 ⟨⟨h.2.1, h.1⟩, trivial⟩
  ·rw [List.head?_append, h2]; rfl
/-- the chain over strictly rising points: hull edges, from the first one to the last one, rising -/
theorem chain_ok (o : Pt) (l : List Pt) (h : Up p q (o :: l)) :
  Pairs (fun a b => HE (o :: l) a b ∧ 0 < fn p q a b) (chain (o :: l)) ∧ (chain (o :: l)).head? = some o ∧ (chain (o :: l)).getLast? = (o :: l).getLast? := by
 obtain ⟨h1, h2⟩ := chain_stk p q o l h
 obtain ⟨h3, h4⟩ := stk_pairs p q h1
 exact ⟨h3, h4, by unfold chain; rw [List.getLast?_reverse, h2]⟩
end
theorem pairs_up {p q : Int} : ∀ (l : List Pt), Pairs (fun a b => 0 < fn p q a b) l → Up p q l
 | [], _ => trivial
 | [a], _ => ⟨by simp, trivial⟩
 | a :: b :: l, h => by
  have h2 := pairs_up (b :: l) h.2
  refine ⟨?_, h2⟩
  intro c hc
  rcases List.mem_cons.mp hc with rfl | hc
  ·exact h.1
  ·have := h2.1 c hc; have := h.1; rw [fn_add p q a b c]; omega
theorem he_congr {S S' : List Pt} (h : ∀ a, a ∈ S ↔ a ∈ S') {a b : Pt} (he : HE S a b) : HE S' a b :=
 ⟨he.1, (h _).1 he.2.1, (h _).1 he.2.2.1, fun c hc => he.2.2.2 c ((h _).2 hc)⟩
/-- a point of a way that is not the last one has one that follows -/
theorem has_next {R : Pt → Pt → Prop} {v : Pt} : ∀ (l : List Pt), Pairs R l → v ∈ l.dropLast → ∃ w, R v w
 | [], _, h => by simp at h
 | [_], _, h => by simp at h
 | a :: b :: l, h, hv => by
  rw [List.dropLast_cons_cons] at hv
  rcases List.mem_cons.mp hv with rfl | hv
  ·exact ⟨b, h.1⟩
  ·exact has_next (b :: l) h.2 hv
/-- Andrew's hull: the lower chain, the upper chain, each without its last point -/
def andrew (l : List Pt) : List Pt := (chain l).dropLast ++ (chain l.reverse).dropLast
theorem up_neg {p q : Int} : ∀ (l : List Pt), Up p q l → Up (-p) (-q) l.reverse := by
 intro l
 suffices H : ∀ l m : List Pt, Up p q l → Up (-p) (-q) m → (∀ a ∈ l, ∀ b ∈ m, 0 < fn p q b a) → Up (-p) (-q) (l.reverse ++ m) by
  intro h; have := H l [] h trivial (by simp); simpa using this
 intro l
 induction l with
 | nil => intro m _ h _; exact h
 | cons a l ih =>
  intro m h hm hb
  rw [List.reverse_cons, List.append_assoc]
  apply ih _ h.2
  ·refine ⟨?_, hm⟩
   intro b hb'
   have := hb a (by simp) b (by simpa using hb')
   rw [fn_neg] at this
   unfold fn at this ⊢; grind
  ·intro c hc b hb'
   rcases List.mem_cons.mp hb' with rfl | hb'
   ·exact h.1 c hc
   ·exact hb c (by simp [hc]) b (by simpa using hb')
theorem andrew_ring (p q : Int) (l : List Pt) (h : Up p q l) (h2 : ∃ a b, a ∈ l ∧ b ∈ l ∧ a ≠ b) : Ring l (andrew l) := by
 match l, h, h2 with
 | o :: l, h, h2 =>
  obtain ⟨c1, c2, c3⟩ := chain_ok p q o l h
  have hr := up_neg _ h
  obtain ⟨z, m, e⟩ : ∃ z m, (o :: l).reverse = z :: m := by
   match hh : (o :: l).reverse with
   | [] => simp at hh
   | z :: m => exact ⟨z, m, rfl⟩
  rw [e] at hr
  obtain ⟨d1, d2, d3⟩ := chain_ok (-p) (-q) z m hr
  have hz : (o :: l).getLast? = some z := by rw [← List.head?_reverse, e]; rfl
  have ho : (z :: m).getLast? = some o := by rw [← e, List.getLast?_reverse]; rfl
  rw [hz] at c3
  rw [ho] at d3
  have hmem : ∀ a, a ∈ z :: m ↔ a ∈ o :: l := by intro a; rw [← e, List.mem_reverse]
  have d1' : Pairs (fun a b => HE (o :: l) a b ∧ 0 < fn (-p) (-q) a b) (chain (z :: m)) := Pairs.mono (fun a b h => ⟨he_congr hmem h.1, h.2⟩) _ d1
  -- o is not z
  have hne : o ≠ z := by
   rintro rfl
   have hall : ∀ a ∈ o :: l, a = o := by
    intro a ha
    rcases (up_rises p q h).2.1 a ha with h3 | h3
    ·exact h3
    ·rcases (up_rises _ _ hr).2.1 a ((hmem a).2 ha) with h4 | h4
     ·exact h4
     ·unfold fn at h3 h4; grind
   obtain ⟨a, b, ha, hb, hab⟩ := h2
   exact hab ((hall a ha).trans (hall b hb).symm)
  unfold andrew
  rw [e]
  -- the two chains, written out
  obtain ⟨lo, hlo⟩ : ∃ lo, chain (o :: l) = o :: lo ++ [z] := by
   match hc : chain (o :: l), c2, c3 with
   | [a], c2, c3 => simp at c2 c3; exact absurd (c2.symm.trans c3) hne
   | a :: b :: r, c2, c3 =>
    simp only [List.head?_cons, Option.some.injEq] at c2
    subst c2
    refine ⟨(b :: r).dropLast, ?_⟩
    rw [hc] at c3
    have e3 : (b :: r).getLast (by simp) = z := by
     rw [List.getLast?_cons_cons, List.getLast?_eq_some_getLast (by simp)] at c3; simpa using c3
    rw [List.cons_append, ← e3, List.dropLast_concat_getLast]
  obtain ⟨up, hup⟩ : ∃ up, chain (z :: m) = z :: up ++ [o] := by
   match hc : chain (z :: m), d2, d3 with
   | [a], c2, c3 => simp at c2 c3; exact absurd (c3.symm.trans c2) hne
   | a :: b :: r, c2, c3 =>
    simp only [List.head?_cons, Option.some.injEq] at c2
    subst c2
    refine ⟨(b :: r).dropLast, ?_⟩
    rw [hc] at d3
    have e3 : (b :: r).getLast (by simp) = o := by
     rw [List.getLast?_cons_cons, List.getLast?_eq_some_getLast (by simp)] at d3; simpa using d3
    rw [List.cons_append, ← e3, List.dropLast_concat_getLast]
  rw [hlo] at c1 ⊢
  rw [hup] at d1' ⊢
  rw [List.dropLast_concat, List.dropLast_concat]
  have uplo := pairs_up _ (Pairs.mono (fun a b h => h.2) _ c1)
  have upup := pairs_up _ (Pairs.mono (fun a b h => h.2) _ d1')
  refine ⟨o, lo ++ z :: up, rfl, ?_, ?_⟩
  ·intro hm
   rcases List.mem_append.mp hm with hm | hm
   ·have := uplo.1 o (by simp [hm]); simp [fn] at this
   ·-- o in the upper chain, ahead of its end
    have : ∀ (r : List Pt), Up (-p) (-q) (r ++ [o]) → o ∉ r := fun r hu hm => by
     have := (up_append _ _ hu).2 o hm; simp [fn] at this
    exact this (z :: up) upup hm
  ·have g1 := Pairs.mono (R' := HE (o :: l)) (fun a b h => h.1) _ c1
   have g2 := Pairs.mono (R' := HE (o :: l)) (fun a b h => h.1) _ d1'
   have := Pairs.append (o :: lo) (up ++ [o]) (by simpa using g1) (by simpa using g2)
   simpa using this
/-! ### going round (gift wrapping) -/
instance (a b c : Pt) : Decidable (btw a b c) := by unfold btw; infer_instance
/-- one step of the inner loop -/
def wrapStep (o tq p : Pt) : Pt := if p = o then tq else if tq = o ∨ cr o tq p < 0 ∨ (cr o tq p = 0 ∧ cr o p tq = 0 ∧ btw o p tq) then p else tq
def wrap (S : List Pt) (o : Pt) : Pt := S.foldl (wrapStep o) o
/-- what the inner loop has found among T -/
def Found (T : List Pt) (o tq : Pt) : Prop := (tq = o ∧ ∀ t ∈ T, t = o) ∨ (tq ≠ o ∧ tq ∈ T ∧ ∀ t ∈ T, 0 ≤ cr o tq t ∧ (cr o tq t = 0 → btw o tq t))
theorem btw_end (o a : Pt) : btw o a a := by unfold btw; omega
theorem btw_start (o a : Pt) : btw o a o := by unfold btw; omega
theorem step_ok {p q : Int} {T : List Pt} {o tq x : Pt} (hT : ∀ t ∈ T ++ [x], t = o ∨ 0 < fn p q o t) (h : Found T o tq) : Found (T ++ [x]) o (wrapStep o tq x) := by
 unfold wrapStep
 split
 ·rename_i hx
  subst hx
  rcases h with ⟨rfl, h⟩ | ⟨h1, h2, h3⟩
  ·exact .inl ⟨rfl, by intro t ht; rcases List.mem_append.mp ht with ht | ht; exact h t ht; simpa using ht⟩
  ·refine .inr ⟨h1, by simp [h2], ?_⟩
   intro t ht
   rcases List.mem_append.mp ht with ht | ht
   ·exact h3 t ht
   ·simp at ht; subst ht; rw [cr_self1]; exact ⟨by omega, fun _ => btw_start _ _⟩
 ·rename_i hx
  have fx : 0 < fn p q o x := (hT x (by simp)).resolve_left hx
  rcases h with ⟨rfl, h⟩ | ⟨h1, h2, h3⟩
  ·rw [if_pos (.inl rfl)]
   refine .inr ⟨hx, by simp, ?_⟩
   intro t ht
   rcases List.mem_append.mp ht with ht | ht
   ·rw [h t ht, cr_self1]; exact ⟨by omega, fun _ => btw_start _ _⟩
   ·simp at ht; subst ht; rw [cr_self2]; exact ⟨by omega, fun _ => btw_end _ _⟩
  ·have ft : 0 < fn p q o tq := (hT tq (by simp [h2])).resolve_left h1
   split
   ·rename_i hc
    refine .inr ⟨hx, by simp, ?_⟩
    have h0 : 0 ≤ cr o x tq ∧ (cr o x tq = 0 → btw o x tq) := by
     rcases hc with hc | hc | hc
     ·exact absurd hc h1
     ·have := cr_swap o tq x; exact ⟨by omega, fun h => by omega⟩
     ·exact ⟨by omega, fun _ => hc.2.2⟩
    intro t ht
    rcases List.mem_append.mp ht with ht | ht
    ·rcases hT t (by simp [ht]) with rfl | hf
     ·rw [cr_self1]; exact ⟨by omega, fun _ => btw_start _ _⟩
     ·have := tr fx ft hf h0.1 (h3 t ht).1
      refine ⟨this.1, fun hz => ?_⟩
      have z1 : cr o x tq = 0 := by
       rcases Int.lt_trichotomy 0 (cr o x tq) with h5 | h5 | h5
       ·have := this.2 (.inl h5); omega
       ·exact h5.symm
       ·omega
      have z2 : cr o tq t = 0 := by
       rcases Int.lt_trichotomy 0 (cr o tq t) with h5 | h5 | h5
       ·have := this.2 (.inr h5); omega
       ·exact h5.symm
       ·have := (h3 t ht).1; omega
      have b1 := fn_btw_le (h0.2 z1) z1 fx
      have b2 := fn_btw_le ((h3 t ht).2 z2) z2 ft
      exact btw_of_fn fx b2.1 (by omega) hz
    ·simp at ht; subst ht; rw [cr_self2]; exact ⟨by omega, fun _ => btw_end _ _⟩
   ·rename_i hc
    refine .inr ⟨h1, by simp [h2], ?_⟩
    intro t ht
    rcases List.mem_append.mp ht with ht | ht
    ·exact h3 t ht
    ·simp at ht; subst ht
     have n1 : ¬ cr o tq t < 0 := fun h => hc (.inr (.inl h))
     refine ⟨by omega, fun hz => ?_⟩
     have n2 : ¬ btw o t tq := fun h => hc (.inr (.inr ⟨hz, by rw [cr_swap]; omega, h⟩))
     have hz' : cr o t tq = 0 := by rw [cr_swap]; omega
     by_cases hle : fn p q o t ≤ fn p q o tq
     ·exact btw_of_fn ft (Int.le_of_lt fx) hle hz
     ·exact absurd (btw_of_fn fx (Int.le_of_lt ft) (by omega) hz') n2
theorem wrap_ok {p q : Int} {S : List Pt} {o : Pt} (ho : o ∈ S) (hS : ∀ t ∈ S, t = o ∨ 0 < fn p q o t) (h2 : ∃ t ∈ S, t ≠ o) : HE S o (wrap S o) := by
 have H : ∀ (R T : List Pt) (tq : Pt), T ++ R = S → Found T o tq → Found S o (R.foldl (wrapStep o) tq) := by
  intro R
  induction R with
  | nil => intro T tq e h; rw [← e, List.append_nil]; exact h
  | cons x R ih =>
   intro T tq e h
   rw [List.foldl_cons]
   apply ih (T ++ [x]) _ (by rw [← e]; simp)
   apply step_ok (p := p) (q := q) _ h
   intro t ht
   apply hS
   rw [← e]
   rcases List.mem_append.mp ht with ht | ht
   ·simp [ht]
   ·simp at ht; simp [ht]
 have := H S [] o rfl (.inl ⟨rfl, by simp⟩)
 unfold wrap
 rcases this with ⟨_, h3⟩ | ⟨h3, h4, h5⟩
 ·obtain ⟨t, ht, hn⟩ := h2
  exact absurd (h3 t ht) hn
 ·exact ⟨fun e => h3 e.symm, ho, h4, h5⟩
/-- points that can be told from all others by a functional -/
def Corner (S : List Pt) (o : Pt) : Prop := ∃ p q, ∀ t ∈ S, t = o ∨ 0 < fn p q o t
theorem bounded (f : Pt → Int) : ∀ S : List Pt, ∃ B, ∀ t ∈ S, f t < B
 | [] => ⟨0, by simp⟩
 | a :: S => by
  obtain ⟨B, hB⟩ := bounded f S
  refine ⟨max B (f a + 1), ?_⟩
  intro t ht
  rcases List.mem_cons.mp ht with rfl | ht
  ·omega
  ·have := hB t ht; omega
/-- the end of a hull edge is a corner -/
theorem corner_of_he {S : List Pt} {a b : Pt} (h : HE S a b) : Corner S b := by
 obtain ⟨hab, ha, hb, hS⟩ := h
 let g : Pt → Int := fun t => (b.f0 - a.f0) * (t.f0 - b.f0) + (b.f1 - a.f1) * (t.f1 - b.f1)
 obtain ⟨B, hB⟩ := bounded g S
 have hB0 : 0 < B := by have := hB b hb; simp [g] at this; exact this
 refine ⟨B * -(b.f1 - a.f1) - (b.f0 - a.f0), B * (b.f0 - a.f0) - (b.f1 - a.f1), ?_⟩
 intro t ht
 by_cases e : t = b
 ·exact .inl e
 ·right
  have e1 : fn (B * -(b.f1 - a.f1) - (b.f0 - a.f0)) (B * (b.f0 - a.f0) - (b.f1 - a.f1)) b t = B * cr a b t - g t := by simp only [g, fn, cr]; grind
  rw [e1]
  have h1 := hS t ht
  have h2 := hB t ht
  rcases Int.lt_trichotomy 0 (cr a b t) with h3 | h3 | h3
  ·have := Int.mul_le_mul_of_nonneg_left (show 1 ≤ cr a b t by omega) (Int.le_of_lt hB0)
   omega
  ·rw [← h3]
   have hbt := h1.2 h3.symm
   have hc : cr a b t = 0 := h3.symm
   -- t is between a and b, not b: it lies behind
   have : g t < 0 := by
    have k0 : (b.f0 - a.f0) * (t.f0 - b.f0) ≤ 0 := by
     unfold btw at hbt
     rcases Int.le_total a.f0 b.f0 with h5 | h5
     ·have := Int.mul_nonneg (show 0 ≤ b.f0 - a.f0 by omega) (show 0 ≤ b.f0 - t.f0 by omega); grind
     ·have := Int.mul_nonneg (show 0 ≤ a.f0 - b.f0 by omega) (show 0 ≤ t.f0 - b.f0 by omega); grind
    have k1 : (b.f1 - a.f1) * (t.f1 - b.f1) ≤ 0 := by
     unfold btw at hbt
     rcases Int.le_total a.f1 b.f1 with h5 | h5
     ·have := Int.mul_nonneg (show 0 ≤ b.f1 - a.f1 by omega) (show 0 ≤ b.f1 - t.f1 by omega); grind
     ·have := Int.mul_nonneg (show 0 ≤ a.f1 - b.f1 by omega) (show 0 ≤ t.f1 - b.f1 by omega); grind
    rcases Int.lt_trichotomy (g t) 0 with h5 | h5 | h5
    ·exact h5
    ·exfalso
     simp only [g] at h5
     have z0 : (b.f0 - a.f0) * (t.f0 - b.f0) = 0 := by omega
     have z1 : (b.f1 - a.f1) * (t.f1 - b.f1) = 0 := by omega
     have z2 : (b.f0 - a.f0) * (t.f1 - b.f1) = (b.f1 - a.f1) * (t.f0 - b.f0) := by unfold cr at hc; grind
     have hne : b.f0 - a.f0 ≠ 0 ∨ b.f1 - a.f1 ≠ 0 := by
      rcases Int.decEq (b.f0 - a.f0) 0 with y | y
      ·exact .inl y
      ·exact .inr fun y1 => hab (pt_ext (by omega) (by omega))
     have fin : t.f0 - b.f0 = 0 ∧ t.f1 - b.f1 = 0 := by
      rcases hne with y | y
      ·have w0 := (Int.mul_eq_zero.mp z0).resolve_left y
       rw [w0, Int.mul_zero] at z2
       exact ⟨w0, (Int.mul_eq_zero.mp z2).resolve_left y⟩
      ·have w0 := (Int.mul_eq_zero.mp z1).resolve_left y
       rw [w0, Int.mul_zero] at z2
       exact ⟨(Int.mul_eq_zero.mp z2.symm).resolve_left y, w0⟩
     exact e (pt_ext (by omega) (by omega))
    ·simp only [g] at h5; omega
   omega
  ·omega
/-- lower, or as low and more to the left -/
def first (a b : Pt) : Prop := a.f1 < b.f1 ∨ (a.f1 = b.f1 ∧ a.f0 < b.f0)
instance (a b : Pt) : Decidable (first a b) := by unfold first; infer_instance
theorem corner_of_first {S : List Pt} {o : Pt} (h : ∀ t ∈ S, t = o ∨ first o t) : Corner S o := by
 obtain ⟨B, hB⟩ := bounded (fun t => o.f0 - t.f0) S
 refine ⟨1, max B 1, ?_⟩
 intro t ht
 rcases h t ht with h1 | h1
 ·exact .inl h1
 ·right
  have h2 := hB t ht
  unfold fn
  rcases h1 with h1 | h1
  ·have := Int.mul_le_mul_of_nonneg_left (show 1 ≤ t.f1 - o.f1 by omega) (show 0 ≤ max B 1 by omega)
   omega
  ·rw [show t.f1 - o.f1 = 0 by omega]; omega
/-- going round: the corners from o on, the last one first -/
def around (S : List Pt) : Nat → Pt → List Pt
 | 0, o => [o]
 | n + 1, o => o :: around S n (wrap S o)
theorem length_le_of_nodup {l S : List Pt} (hn : l.Nodup) (h : ∀ a ∈ l, a ∈ S) : l.length ≤ S.length := by
 induction l generalizing S with
 | nil => simp
 | cons a l ih =>
  have ha := h a (by simp)
  have h2 : ∀ b ∈ l, b ∈ S.erase a := by
   intro b hb
   have hne : b ≠ a := by rintro rfl; exact (List.nodup_cons.mp hn).1 hb
   exact (List.mem_erase_of_ne hne).2 (h b (by simp [hb]))
  have := ih (List.nodup_cons.mp hn).2 h2
  have hl := List.length_erase_of_mem ha
  have : 0 < S.length := List.length_pos_of_mem ha
  simp only [List.length_cons]; omega
theorem ring_around {S : List Pt} {o : Pt} (ho : o ∈ S) (hmin : ∀ t ∈ S, t = o ∨ first o t) (h2 : ∃ a b, a ∈ S ∧ b ∈ S ∧ a ≠ b) :
  ∃ n, n < S.length ∧ Ring S (around S n o) ∧ (∃ x, (around S n o).getLast? = some x ∧ wrap S x = o) ∧ (∀ m, m < n → ∃ x, (around S m o).getLast? = some x ∧ wrap S x ≠ o) := by
 have other : ∀ x ∈ S, ∃ t ∈ S, t ≠ x := by
  intro x _
  obtain ⟨a, b, ha, hb, hab⟩ := h2
  by_cases e : a = x
  ·exact ⟨b, hb, fun e' => hab (e.trans e'.symm)⟩
  ·exact ⟨a, ha, e⟩
 have step : ∀ x, x ∈ S → Corner S x → HE S x (wrap S x) := by
  intro x hx hc
  obtain ⟨p, q, h⟩ := hc
  exact wrap_ok hx h (other x hx)
 have snoc : ∀ n x, ∃ y, (around S n x).getLast? = some y ∧ around S (n + 1) x = around S n x ++ [wrap S y] := by
  intro n
  induction n with
  | zero => intro x; exact ⟨x, rfl, rfl⟩
  | succ n ih =>
   intro x
   obtain ⟨y, h1, h2⟩ := ih (wrap S x)
   refine ⟨y, ?_, ?_⟩
   ·rw [around, List.getLast?_cons, h1]; rfl
   ·rw [around, h2]; rfl
 have pairs : ∀ n x, x ∈ S → Corner S x → Pairs (HE S) (around S n x) ∧ (∀ y ∈ around S n x, y ∈ S ∧ Corner S y) := by
  intro n
  induction n with
  | zero => intro x hx hc; exact ⟨trivial, by intro y hy; simp [around] at hy; subst hy; exact ⟨hx, hc⟩⟩
  | succ n ih =>
   intro x hx hc
   have he := step x hx hc
   obtain ⟨h1, h2⟩ := ih (wrap S x) he.2.2.1 (corner_of_he he)
   refine ⟨?_, ?_⟩
   ·cases n with
    | zero => exact ⟨he, trivial⟩
    | succ n => exact ⟨he, h1⟩
   ·intro y hy
    rw [around] at hy
    rcases List.mem_cons.mp hy with rfl | hy
    ·exact ⟨hx, hc⟩
    ·exact h2 y hy
 have hco := corner_of_first hmin
 -- as long as o does not come, all are different
 have nodup : ∀ n, (∀ m, m < n → ∃ x, (around S m o).getLast? = some x ∧ wrap S x ≠ o) → (around S n o).Nodup ∧ o ∉ (around S n o).tail := by
  intro n
  induction n with
  | zero => intro _; simp [around]
  | succ n ih =>
   intro h
   obtain ⟨h1, h2⟩ := ih (fun m hm => h m (by omega))
   obtain ⟨y, e1, e2⟩ := snoc n o
   obtain ⟨y', e1', hn⟩ := h n (by omega)
   obtain rfl : y = y' := by rw [e1] at e1'; simpa using e1'
   have hy : y ∈ around S n o := List.mem_of_getLast? e1
   have hP := (pairs n o ho hco).1
   have hS := (pairs n o ho hco).2 y hy
   have hey := step y hS.1 hS.2
   rw [e2]
   obtain ⟨t, et⟩ : ∃ t, around S n o = o :: t := by cases n <;> exact ⟨_, rfl⟩
   rw [et] at h1 h2 e1 hy hP ⊢
   have hnot : wrap S y ∉ o :: t := by
    intro hm
    rcases List.mem_cons.mp hm with hm | hm
    ·exact hn hm
    ·-- it has one before it, which is y: but y is the last
     obtain ⟨l1, l2, el⟩ := List.append_of_mem hm
     have el' : o :: t = (o :: l1) ++ wrap S y :: l2 := by rw [el]; rfl
     obtain ⟨l0, z, ez⟩ : ∃ l0 z, o :: l1 = l0 ++ [z] := ⟨(o :: l1).dropLast, (o :: l1).getLast (by simp), (List.dropLast_concat_getLast (by simp)).symm⟩
     rw [el', ez, List.append_assoc] at hP
     have hz : HE S z (wrap S y) := Pairs.at_ hP
     have hzy := he_pred hz hey
     subst hzy
     rw [el', ez] at h1 e1
     rw [List.nodup_append] at h1
     have e3 : (wrap S z :: l2).getLast? = some z := by
      rw [List.getLast?_append, List.getLast?_eq_some_getLast (by simp : wrap S z :: l2 ≠ []), Option.some_or] at e1
      rw [List.getLast?_eq_some_getLast (by simp : wrap S z :: l2 ≠ [])]
      exact e1
     exact h1.2.2 z (by simp) z (List.mem_of_getLast? e3) rfl
   refine ⟨?_, ?_⟩
   ·rw [List.nodup_append]
    refine ⟨h1, by simp, ?_⟩
    intro a ha b hb e
    simp at hb
    subst hb; subst e
    exact hnot ha
   ·simp only [List.cons_append, List.tail_cons] at h2 ⊢
    intro hm
    rcases List.mem_append.mp hm with hm | hm
    ·exact h2 hm
    ·simp at hm; exact hn hm.symm
 have len : ∀ n x, (around S n x).length = n + 1 := by
  intro n
  induction n with
  | zero => intro x; rfl
  | succ n ih => intro x; simp [around, ih]
 -- so it comes
 have ex : ∃ n, n < S.length ∧ (∃ x, (around S n o).getLast? = some x ∧ wrap S x = o) ∧ (∀ m, m < n → ∃ x, (around S m o).getLast? = some x ∧ wrap S x ≠ o) := by
  apply Classical.byContradiction
  intro hno
  have all : ∀ n, n ≤ S.length → ∀ m, m < n → ∃ x, (around S m o).getLast? = some x ∧ wrap S x ≠ o := by
   intro n
   induction n with
   | zero => intro _ m hm; omega
   | succ n ih =>
    intro hn m hm
    have hb := ih (by omega)
    by_cases e : m < n
    ·exact hb m e
    ·obtain rfl : m = n := by omega
     obtain ⟨y, e1, _⟩ := snoc m o
     by_cases hw : wrap S y = o
     ·exact absurd ⟨m, by omega, ⟨y, e1, hw⟩, hb⟩ hno
     ·exact ⟨y, e1, hw⟩
  have h1 := (nodup S.length (all _ (Nat.le_refl _))).1
  have := length_le_of_nodup h1 (fun a ha => ((pairs S.length o ho hco).2 a ha).1)
  rw [len] at this
  omega
 obtain ⟨n, hn, ⟨x, e1, hw⟩, hm⟩ := ex
 refine ⟨n, hn, ?_, ⟨x, e1, hw⟩, hm⟩
 obtain ⟨h1, h2⟩ := nodup n hm
 obtain ⟨t, et⟩ : ∃ t, around S n o = o :: t := by cases n <;> exact ⟨_, rfl⟩
 have hP := (pairs n o ho hco).1
 have hx := (pairs n o ho hco).2 x (List.mem_of_getLast? e1)
 have he := step x hx.1 hx.2
 rw [hw] at he
 rw [et] at h2 e1 hP ⊢
 refine ⟨o, t, rfl, h2, ?_⟩
 obtain ⟨l0, z, ez⟩ : ∃ l0 z, o :: t = l0 ++ [z] := ⟨(o :: t).dropLast, (o :: t).getLast (by simp), (List.dropLast_concat_getLast (by simp)).symm⟩
 have : z = x := by rw [ez, List.getLast?_concat] at e1; simpa using e1
 subst this
 rw [← List.cons_append, ez, List.append_assoc]
 rw [ez] at hP
 exact Pairs.append l0 [o] hP ⟨he, trivial⟩
/-! ### a ring by its indices -/
def at_ (h : List Pt) (i : Nat) : Pt := h.getD i ⟨0, 0⟩
theorem at_eq {h : List Pt} {i : Nat} (hi : i < h.length) : at_ h i = h[i] := by
 unfold at_; rw [List.getD_eq_getElem?_getD, List.getElem?_eq_getElem hi]; rfl
theorem at_mem {h : List Pt} {i : Nat} (hi : i < h.length) : at_ h i ∈ h := by
 rw [at_eq hi]; exact List.getElem_mem hi
theorem pairs_at {R : Pt → Pt → Prop} : ∀ (l : List Pt), Pairs R l → ∀ i, i + 1 < l.length → R (at_ l i) (at_ l (i + 1))
 | a :: b :: l, h, 0, _ => h.1
 | a :: b :: l, h, i + 1, hi => pairs_at (b :: l) h.2 i (by simpa using hi)
 | [_], _, _, hi => by simp at hi
 | [], _, _, hi => by simp at hi
theorem ring_at {S h : List Pt} (r : Ring S h) : ∀ i, i < h.length → HE S (at_ h i) (at_ h ((i + 1) % h.length)) := by
 obtain ⟨a, t, rfl, _, hp⟩ := r
 intro i hi
 have h1 := pairs_at _ hp i (by simpa using hi)
 have e1 : at_ (a :: (t ++ [a])) i = at_ (a :: t) i := by
  unfold at_; rw [List.getD_eq_getElem?_getD, List.getD_eq_getElem?_getD, ← List.cons_append, List.getElem?_append_left hi]
 have e2 : at_ (a :: (t ++ [a])) (i + 1) = at_ (a :: t) ((i + 1) % (a :: t).length) := by
  by_cases e : i + 1 = (a :: t).length
  ·rw [e, Nat.mod_self]; unfold at_; rw [List.getD_eq_getElem?_getD, ← List.cons_append, List.getElem?_append_right (by simp)]; simp
  ·have : i + 1 < (a :: t).length := by omega
   rw [Nat.mod_eq_of_lt this]
   unfold at_; rw [List.getD_eq_getElem?_getD, List.getD_eq_getElem?_getD, ← List.cons_append, List.getElem?_append_left this]
 rw [e1, e2] at h1
 exact h1
theorem ring_inj {S h : List Pt} (r : Ring S h) : ∀ i j, i < h.length → j < h.length → at_ h i = at_ h j → i = j := by
 have hr := ring_at r
 have h0 : ∀ j, 0 < j → j < h.length → at_ h 0 ≠ at_ h j := by
  obtain ⟨a, t, rfl, ha, _⟩ := r
  intro j hj hl e
  apply ha
  have : at_ (a :: t) j ∈ t := by
   match j, hj with
   | j + 1, _ => rw [at_eq hl]; simp
  rw [← e] at this
  exact this
 -- shift both back
 have back : ∀ i j, i < j → j < h.length → at_ h i ≠ at_ h j := by
  intro i
  induction i with
  | zero => exact fun j hj hl => h0 j hj hl
  | succ i ih =>
   intro j hj hl e
   have a1 := hr i (by omega)
   have a2 := hr (j - 1) (by omega)
   rw [Nat.mod_eq_of_lt (by omega)] at a1
   rw [show j - 1 + 1 = j by omega, Nat.mod_eq_of_lt hl, ← e] at a2
   exact ih (j - 1) (by omega) (by omega) (he_pred a1 a2)
 intro i j hi hj e
 rcases Nat.lt_trichotomy i j with h1 | h1 | h1
 ·exact absurd e (back i j h1 hj)
 ·exact h1
 ·exact absurd e.symm (back j i h1 hi)
theorem ring_corner {S h : List Pt} (r : Ring S h) : ∀ i, i < h.length → Corner S (at_ h i) ∧ at_ h i ∈ S := by
 intro i hi
 have hr := ring_at r
 rcases Nat.eq_zero_or_pos i with rfl | h0
 ·have := hr (h.length - 1) (by omega)
  rw [show h.length - 1 + 1 = h.length by omega, Nat.mod_self] at this
  exact ⟨corner_of_he this, this.2.2.1⟩
 ·have := hr (i - 1) (by omega)
  rw [show i - 1 + 1 = i by omega, Nat.mod_eq_of_lt hi] at this
  exact ⟨corner_of_he this, this.2.2.1⟩
theorem corner_not_between {S : List Pt} {v a b : Pt} (hv : Corner S v) (ha : a ∈ S) (hb : b ∈ S) (hab : a ≠ b) (hc : cr a b v = 0) (hbt : btw a b v) : v = a ∨ v = b := by
 obtain ⟨p, q, hF⟩ := hv
 rcases hF a ha with h1 | h1
 ·exact .inl h1.symm
 ·rcases hF b hb with h2 | h2
  ·exact .inr h2.symm
  ·exfalso
   have e0 : (v.f0 - a.f0) * fn p q v b + (b.f0 - v.f0) * fn p q v a = 0 := by unfold fn; unfold cr at hc; grind
   have e1 : (v.f1 - a.f1) * fn p q v b + (b.f1 - v.f1) * fn p q v a = 0 := by unfold fn; unfold cr at hc; grind
   have key : ∀ x y z : Int, (v.f0 = v.f0) → (min x z ≤ y ∧ y ≤ max x z) → (y - x) * fn p q v b + (z - y) * fn p q v a = 0 → x = z := by
    intro x y z _ hb e
    rcases Int.lt_trichotomy x z with h | h | h
    ·have m1 := Int.mul_nonneg (show 0 ≤ y - x by omega) (Int.le_of_lt h2)
     have m2 := Int.mul_nonneg (show 0 ≤ z - y by omega) (Int.le_of_lt h1)
     have k1 : (y - x) * fn p q v b = 0 := by omega
     have k2 : (z - y) * fn p q v a = 0 := by omega
     rcases Int.mul_eq_zero.mp k1 with k | k <;> rcases Int.mul_eq_zero.mp k2 with k' | k' <;> omega
    ·exact h
    ·have m1 := Int.mul_nonneg (show 0 ≤ x - y by omega) (Int.le_of_lt h2)
     have m2 := Int.mul_nonneg (show 0 ≤ y - z by omega) (Int.le_of_lt h1)
     have w1 : (y - x) * fn p q v b = - ((x - y) * fn p q v b) := by rw [← Int.neg_mul]; congr 1; omega
     have w2 : (z - y) * fn p q v a = - ((y - z) * fn p q v a) := by rw [← Int.neg_mul]; congr 1; omega
     have k1 : (y - x) * fn p q v b = 0 := by omega
     have k2 : (z - y) * fn p q v a = 0 := by omega
     rcases Int.mul_eq_zero.mp k1 with k | k <;> rcases Int.mul_eq_zero.mp k2 with k' | k' <;> omega
   unfold btw at hbt
   exact hab (pt_ext (key _ _ _ rfl ⟨hbt.1, hbt.2.1⟩ e0) (key _ _ _ rfl ⟨hbt.2.2.1, hbt.2.2.2⟩ e1))
/-- strongly convex: each corner lies to the left of each edge that it is not an end of -/
def Strong (h : List Pt) : Prop :=
 (∀ i, i < h.length → at_ h i ≠ at_ h ((i + 1) % h.length)) ∧
 (∀ i j, i < h.length → j < h.length → at_ h i = at_ h j → i = j) ∧
 ∀ i k, i < h.length → k < h.length → 0 ≤ cr (at_ h i) (at_ h ((i + 1) % h.length)) (at_ h k) ∧
  (cr (at_ h i) (at_ h ((i + 1) % h.length)) (at_ h k) = 0 → k = i ∨ k = (i + 1) % h.length)
theorem ring_strong {S h : List Pt} (r : Ring S h) : Strong h := by
 have hr := ring_at r
 have hi := ring_inj r
 refine ⟨fun i h1 => (hr i h1).1, hi, ?_⟩
 intro i k h1 h2
 have he := hr i h1
 have hk := ring_corner r k h2
 have hn : (i + 1) % h.length < h.length := Nat.mod_lt _ (by omega)
 have := he.2.2.2 _ hk.2
 refine ⟨this.1, fun h0 => ?_⟩
 rcases corner_not_between hk.1 he.2.1 he.2.2.1 he.1 h0 (this.2 h0) with e | e
 ·exact .inl (hi _ _ h2 h1 e)
 ·exact .inr (hi _ _ h2 hn e)
/-- on a segment, as the reference has it -/
def On (a b p : Pt) : Prop := cr a b p = 0 ∧ btw a b p
instance (a b p : Pt) : Decidable (On a b p) := by unfold On; infer_instance
def Meet (a b c d : Pt) : Prop := On a b c ∨ On a b d ∨ On c d a ∨ On c d b ∨
 (((0 < cr a b c ∧ cr a b d < 0) ∨ (cr a b c < 0 ∧ 0 < cr a b d)) ∧ ((0 < cr c d a ∧ cr c d b < 0) ∨ (cr c d a < 0 ∧ 0 < cr c d b)))
instance (a b c d : Pt) : Decidable (Meet a b c d) := by unfold Meet; infer_instance
/-- simple, as the reference has it -/
def Simple (l : List Pt) : Prop :=
 (∀ i, i < l.length → at_ l i ≠ at_ l ((i + 1) % l.length)) ∧
 ∀ i, i < l.length → ¬ On (at_ l i) (at_ l ((i + 1) % l.length)) (at_ l ((i + 1 + 1) % l.length)) ∧
  ¬ On (at_ l ((i + 1) % l.length)) (at_ l ((i + 1 + 1) % l.length)) (at_ l i) ∧
  ∀ k, i + 2 ≤ k → k < l.length → (k + 1) % l.length ≠ i → ¬ Meet (at_ l i) (at_ l ((i + 1) % l.length)) (at_ l k) (at_ l ((k + 1) % l.length))
/-- convex in normal form, as the reference has it -/
def Convex (l : List Pt) : Prop :=
 Simple l ∧ ∀ i, i < l.length → 0 < cr (at_ l i) (at_ l ((i + 1) % l.length)) (at_ l ((i + 1 + 1) % l.length)) ∧ (0 < i → first (at_ l 0) (at_ l i))
theorem mod_two {n i : Nat} (hn : 3 ≤ n) (hi : i < n) : (i + 1 + 1) % n ≠ i ∧ (i + 1 + 1) % n ≠ (i + 1) % n ∧ (i + 1) % n ≠ i := by
 by_cases h1 : i + 1 + 1 < n
 ·rw [Nat.mod_eq_of_lt h1, Nat.mod_eq_of_lt (by omega : i + 1 < n)]; omega
 ·by_cases h2 : i + 1 < n
  ·rw [Nat.mod_eq_of_lt h2, show i + 1 + 1 = n by omega, Nat.mod_self]; omega
  ·rw [show i + 1 = n by omega, Nat.mod_self, show n + 1 = 1 + n by omega, Nat.add_mod_right, Nat.mod_eq_of_lt (by omega)]; omega
theorem strong_turn {l : List Pt} (hn : 3 ≤ l.length) (h : Strong l) (i : Nat) (hi : i < l.length) : 0 < cr (at_ l i) (at_ l ((i + 1) % l.length)) (at_ l ((i + 1 + 1) % l.length)) := by
 have hm := mod_two hn hi
 have hk : (i + 1 + 1) % l.length < l.length := Nat.mod_lt _ (by omega)
 have := h.2.2 i _ hi hk
 rcases Int.lt_trichotomy 0 (cr (at_ l i) (at_ l ((i + 1) % l.length)) (at_ l ((i + 1 + 1) % l.length))) with h1 | h1 | h1
 ·exact h1
 ·rcases this.2 h1.symm with e | e
  ·exact absurd e hm.1
  ·exact absurd e hm.2.1
 ·omega
theorem strong_simple {l : List Pt} (hn : 3 ≤ l.length) (h : Strong l) : Simple l := by
 refine ⟨h.1, ?_⟩
 intro i hi
 have ht := strong_turn hn h i hi
 have hr := cr_rot (at_ l i) (at_ l ((i + 1) % l.length)) (at_ l ((i + 1 + 1) % l.length))
 refine ⟨fun o => by have := o.1; omega, fun o => by have := o.1; omega, ?_⟩
 intro k hk1 hk2 hk3 hm
 have hi1 : (i + 1) % l.length < l.length := Nat.mod_lt _ (by omega)
 have hk4 : (k + 1) % l.length < l.length := Nat.mod_lt _ (by omega)
 have ei : (i + 1) % l.length = i + 1 := Nat.mod_eq_of_lt (by omega)
 have c1 := h.2.2 i k hi hk2
 have c2 := h.2.2 i _ hi hk4
 have c3 := h.2.2 k i hk2 hi
 have c4 := h.2.2 k _ hk2 hi1
 rcases hm with hm | hm | hm | hm | hm
 ·have := c1.2 hm.1; omega
 ·have := c2.2 hm.1
  rcases this with e | e
  ·exact hk3 e
  ·rw [ei] at e
   by_cases h5 : k + 1 < l.length
   ·rw [Nat.mod_eq_of_lt h5] at e; omega
   ·rw [show k + 1 = l.length by omega, Nat.mod_self] at e; omega
 ·have := c3.2 hm.1; omega
 ·rcases c4.2 hm.1 with e | e
  ·omega
  ·rw [ei] at e
   by_cases h5 : k + 1 < l.length
   ·rw [Nat.mod_eq_of_lt h5] at e; omega
   ·rw [show k + 1 = l.length by omega, Nat.mod_self] at e; omega
 ·omega
theorem strong_convex {l : List Pt} (hn : 3 ≤ l.length) (h : Strong l) (h0 : ∀ i, i < l.length → 0 < i → first (at_ l 0) (at_ l i)) : Convex l :=
 ⟨strong_simple hn h, fun i hi => ⟨strong_turn hn h i hi, h0 i hi⟩⟩
/-- all on one line -/
def Flat (S : List Pt) : Prop := ∀ a ∈ S, ∀ b ∈ S, ∀ c ∈ S, cr a b c = 0
theorem flat_of_edge {S : List Pt} {a b : Pt} (hab : a ≠ b) (h : ∀ c ∈ S, cr a b c = 0) : Flat S := by
 intro x hx y hy z hz
 have e1 := h x hx
 have e2 := h y hy
 have e3 := h z hz
 have k0 : (b.f0 - a.f0) * cr x y z = 0 := by unfold cr at *; grind
 have k1 : (b.f1 - a.f1) * cr x y z = 0 := by unfold cr at *; grind
 rcases Int.mul_eq_zero.mp k0 with k | k
 ·rcases Int.mul_eq_zero.mp k1 with k' | k'
  ·exact absurd (pt_ext (by omega) (by omega)) hab
  ·exact k'
 ·exact k
theorem ring_three {S h : List Pt} (r : Ring S h) (hf : ¬ Flat S) : 3 ≤ h.length := by
 have hr := ring_at r
 have h0 : 0 < h.length := by obtain ⟨a, t, rfl, _⟩ := r; simp
 rcases Nat.lt_or_ge h.length 3 with h3 | h3
 ·exfalso
  have a1 := hr 0 h0
  by_cases e : h.length = 1
  ·rw [e] at a1; exact a1.1 rfl
  ·have e2 : h.length = 2 := by omega
   have a2 := hr 1 (by omega)
   rw [e2] at a1 a2
   simp only [Nat.zero_add, Nat.mod_self, Nat.one_mod] at a1 a2
   apply hf
   apply flat_of_edge a1.1
   intro c hc
   have b1 := (a1.2.2.2 c hc).1
   have b2 := (a2.2.2.2 c hc).1
   have : cr (at_ h (1 % 2)) (at_ h 0) c = - cr (at_ h 0) (at_ h (1 % 2)) c := by unfold cr; grind
   simp only [Nat.one_mod] at *
   omega
 ·exact h3
/-- the first of the corners is the first of all points -/
theorem ring_first {S h : List Pt} (r : Ring S h) (hf : ¬ Flat S) (i : Nat) (hi : i < h.length) (hmin : ∀ k, k < h.length → k = i ∨ first (at_ h i) (at_ h k)) : ∀ p ∈ S, p = at_ h i ∨ first (at_ h i) p := by
 have hn := ring_three r hf
 have hs := ring_strong r
 have hr := ring_at r
 intro x hx
 obtain ⟨B, hB⟩ := bounded (fun t => max ((at_ h i).f0 - t.f0) (t.f0 - (at_ h i).f0)) (x :: h)
 -- the neighbours
 obtain ⟨j, hj, ej⟩ : ∃ j, j < h.length ∧ (j + 1) % h.length = i := by
  rcases Nat.eq_zero_or_pos i with rfl | h0
  ·exact ⟨h.length - 1, by omega, by rw [show h.length - 1 + 1 = h.length by omega, Nat.mod_self]⟩
  ·exact ⟨i - 1, by omega, by rw [show i - 1 + 1 = i by omega, Nat.mod_eq_of_lt hi]⟩
 have h1 := (hr j hj).2.2.2 x hx
 have h2 := (hr i hi).2.2.2 x hx
 have ht := strong_turn hn hs j hj
 have hm := mod_two hn hj
 have hm2 := mod_two hn hi
 have ej2 : (j + 1 + 1) % h.length = (i + 1) % h.length := by rw [← ej, Nat.mod_add_mod]
 rw [ej2, ej] at ht
 rw [ej] at h1 hm
 have hk : (i + 1) % h.length < h.length := Nat.mod_lt _ (by omega)
 have f1 : first (at_ h i) (at_ h j) := (hmin j hj).resolve_left (fun e => hm.2.2 e.symm)
 have f2 : first (at_ h i) (at_ h ((i + 1) % h.length)) := (hmin _ hk).resolve_left hm2.2.2
 generalize at_ h i = o at *
 generalize hu : at_ h j = u at *
 generalize hw : at_ h ((i + 1) % h.length) = w at *
 have bx := hB x (by simp)
 have bu := hB u (by rw [← hu]; simp [at_mem hj])
 have bw := hB w (by rw [← hw]; simp [at_mem hk])
 have F : ∀ t : Pt, max (o.f0 - t.f0) (t.f0 - o.f0) < B → (first o t ↔ 0 < fn 1 B o t) := by
  intro t hb
  unfold first fn
  constructor
  ·rintro (h | ⟨h, h'⟩)
   ·have := Int.mul_le_mul_of_nonneg_left (show 1 ≤ t.f1 - o.f1 by omega) (show 0 ≤ B by omega); omega
   ·rw [show t.f1 - o.f1 = 0 by omega]; omega
  ·intro h
   rcases Int.lt_trichotomy o.f1 t.f1 with h3 | h3 | h3
   ·exact .inl h3
   ·rw [show t.f1 - o.f1 = 0 by omega] at h; exact .inr ⟨h3, by omega⟩
   ·have := Int.mul_le_mul_of_nonneg_left (show 1 ≤ o.f1 - t.f1 by omega) (show 0 ≤ B by omega)
    have e : B * (t.f1 - o.f1) = - (B * (o.f1 - t.f1)) := by grind
    omega
 have g1 := (F u bu).1 f1
 have g2 := (F w bw).1 f2
 by_cases e : x = o
 ·exact .inl e
 ·right
  rw [F x bx]
  have id : fn 1 B o x * cr u o w = fn 1 B o w * cr u o x + fn 1 B o u * cr o w x := by unfold fn cr; grind
  have m1 := Int.mul_nonneg (Int.le_of_lt g2) h1.1
  have m2 := Int.mul_nonneg (Int.le_of_lt g1) h2.1
  rcases Int.lt_trichotomy 0 (fn 1 B o x) with h3 | h3 | h3
  ·exact h3
  ·exfalso
   rw [← h3] at id
   have z1 : fn 1 B o w * cr u o x = 0 := by omega
   have z2 : fn 1 B o u * cr o w x = 0 := by omega
   have z3 := (Int.mul_eq_zero.mp z1).resolve_left (by omega)
   have z4 := (Int.mul_eq_zero.mp z2).resolve_left (by omega)
   -- x lies on both lines: it is o
   have y0 : cr u o w * (x.f0 - o.f0) = 0 := by unfold cr at *; grind
   have y1 : cr u o w * (x.f1 - o.f1) = 0 := by unfold cr at *; grind
   have := (Int.mul_eq_zero.mp y0).resolve_left (by omega)
   have := (Int.mul_eq_zero.mp y1).resolve_left (by omega)
   exact e (pt_ext (by omega) (by omega))
  ·have := Int.mul_neg_of_neg_of_pos h3 ht; omega
theorem ring_rot {S h1 h2 : List Pt} (r : Ring S (h1 ++ h2)) (h : h2 ≠ []) : Ring S (h2 ++ h1) := by
 cases h1 with
 | nil => simpa using r
 | cons a t1 =>
  cases h2 with
  | nil => exact absurd rfl h
  | cons b t2 =>
   have hi := ring_inj r
   obtain ⟨a', t, e, ha, hp⟩ := r
   simp only [List.cons_append, List.cons.injEq] at e
   obtain ⟨rfl, rfl⟩ := e
   have e1 : a :: (t1 ++ b :: t2 ++ [a]) = (a :: t1) ++ (b :: (t2 ++ [a])) := by simp
   rw [e1] at hp
   have q1 : Pairs (HE S) ((a :: t1) ++ [b]) := by
    apply Pairs.left ((a :: t1) ++ [b]) (t2 ++ [a]); simpa using hp
   have q2 := Pairs.right _ _ hp
   refine ⟨b, t2 ++ a :: t1, by simp, ?_, ?_⟩
   ·intro hb
    -- b stands at one place alone
    obtain ⟨n, hn, en⟩ := List.mem_iff_getElem.mp hb
    simp only [List.length_append, List.length_cons] at hn
    have p0 : at_ (a :: t1 ++ b :: t2) (t1.length + 1) = b := by
     unfold at_; rw [List.getD_eq_getElem?_getD, List.getElem?_append_right (by simp)]; simp
    by_cases hlt : n < t2.length
    ·have p1 : at_ (a :: t1 ++ b :: t2) (t1.length + 1 + (n + 1)) = b := by
      unfold at_
      rw [List.getD_eq_getElem?_getD, List.getElem?_append_right (by simp)]
      rw [List.getElem_append_left hlt] at en
      simp only [List.length_cons, Nat.add_sub_cancel_left, List.getElem?_cons_succ]
      rw [List.getElem?_eq_getElem hlt]; exact en
     have := hi (t1.length + 1) (t1.length + 1 + (n + 1)) (by simp) (by simp; omega) (p0.trans p1.symm)
     omega
    ·have p1 : at_ (a :: t1 ++ b :: t2) (n - t2.length) = b := by
      unfold at_
      rw [List.getD_eq_getElem?_getD, List.getElem?_append_left (by simp; omega)]
      rw [List.getElem_append_right (by omega)] at en
      rw [List.getElem?_eq_getElem (by simp; omega)]; exact en
     have := hi (t1.length + 1) (n - t2.length) (by simp) (by simp; omega) (p0.trans p1.symm)
     omega
   ·have := Pairs.append (b :: t2) (t1 ++ [b]) (by simpa using q2) (by simpa using q1)
    simpa using this
theorem ring_congr {S S' h : List Pt} (e : ∀ a, a ∈ S ↔ a ∈ S') (r : Ring S h) : Ring S' h := by
 obtain ⟨a, t, e1, h1, h2⟩ := r
 exact ⟨a, t, e1, h1, Pairs.mono (fun _ _ h => he_congr e h) _ h2⟩
theorem first_tri (a b : Pt) : a = b ∨ first a b ∨ first b a := by
 unfold first
 rcases Int.lt_trichotomy a.f1 b.f1 with h | h | h
 ·exact .inr (.inl (.inl h))
 ·rcases Int.lt_trichotomy a.f0 b.f0 with h' | h' | h'
  ·exact .inr (.inl (.inr ⟨h, h'⟩))
  ·exact .inl (pt_ext h' h)
  ·exact .inr (.inr (.inr ⟨h.symm, h'⟩))
 ·exact .inr (.inr (.inl h))
theorem first_trans {a b c : Pt} (h : first a b) (h' : first b c) : first a c := by unfold first at *; omega
theorem first_irrefl (a : Pt) : ¬ first a a := by unfold first; omega
/-- the ring from the first point on: there is one alone -/
theorem rings_one {S h h' : List Pt} (hf : ¬ Flat S) (r : Ring S h) (r' : Ring S h') (m : ∀ k, k < h.length → k = 0 ∨ first (at_ h 0) (at_ h k)) (m' : ∀ p ∈ S, p = at_ h' 0 ∨ first (at_ h' 0) p) : h = h' := by
 have l := ring_three r hf
 have l' := ring_three r' hf
 have h1 := ring_first r hf 0 (by omega) m
 have a1 := (ring_corner r 0 (by omega)).2
 have a2 := (ring_corner r' 0 (by omega)).2
 have e : at_ h 0 = at_ h' 0 := by
  rcases h1 _ a2 with e | e
  ·exact e.symm
  ·rcases m' _ a1 with e' | e'
   ·exact e'
   ·exact absurd (first_trans e e') (first_irrefl _)
 apply ring_eq r r'
 obtain ⟨x, t, rfl, _⟩ := r
 obtain ⟨x', t', rfl, _⟩ := r'
 exact congrArg some e
theorem flat_ring {S h : List Pt} (r : Ring S h) (hf : Flat S) : h.length < 3 := by
 rcases Nat.lt_or_ge h.length 3 with h3 | h3
 ·exact h3
 ·have hs := (ring_strong r).2.2 0 2 (by omega) (by omega)
  have c0 := (ring_corner r 0 (by omega)).2
  have c1 := (ring_corner r ((0 + 1) % h.length) (Nat.mod_lt _ (by omega))).2
  have c2 := (ring_corner r 2 (by omega)).2
  have := hs.2 (hf _ c0 _ c1 _ c2)
  rw [Nat.mod_eq_of_lt (by omega)] at this
  omega
/-- flat, seen from one point -/
theorem flat_of_first {S : List Pt} {o : Pt} (h : ∀ a ∈ S, ∀ b ∈ S, cr o a b = 0) : Flat S := by
 by_cases e : ∃ a ∈ S, a ≠ o
 ·obtain ⟨a, ha, hne⟩ := e
  exact flat_of_edge (fun e => hne e.symm) (h a ha)
 ·have : ∀ a ∈ S, a = o := fun a ha => Classical.byContradiction fun hn => e ⟨a, ha, hn⟩
  intro a ha b hb c hc
  rw [this a ha, this b hb, this c hc, cr_self1]
theorem two_of_not_flat {S : List Pt} (hf : ¬ Flat S) : ∃ a b, a ∈ S ∧ b ∈ S ∧ a ≠ b := by
 apply Classical.byContradiction
 intro hn
 apply hf
 intro a ha b hb c hc
 have e : ∀ x ∈ S, x = a := fun x hx => Classical.byContradiction fun hne => hn ⟨x, a, hx, ha, hne⟩
 rw [e b hb, e c hc, cr_self1]
/-- Andrew's hull of points on one line -/
theorem andrew_flat {p q : Int} {l : List Pt} (h : Up p q l) (hf : Flat l) : (andrew l).length < 3 := by
 by_cases h2 : ∃ a b, a ∈ l ∧ b ∈ l ∧ a ≠ b
 ·exact flat_ring (andrew_ring p q l h h2) hf
 ·match l, h with
  | [], _ => simp [andrew, chain]
  | [a], _ => simp [andrew, chain, push, pop]
  | a :: b :: l, h =>
   exfalso
   apply h2
   refine ⟨a, b, by simp, by simp, ?_⟩
   rintro rfl
   have := h.1 a (by simp)
   simp [fn] at this
end Go.Proofs.Ytoffmpkgickfhaa.M
end
section
namespace Go.Proofs.Ytoffmpkgickfhaa.M
open Go.RowKit Go.Proofs.Ytoffmpkgickfhaa.PG Go.Proofs.YtoffmpkgickfhaaW.PrintMore Go.Proofs.YtoffmpkgickfhaaW.PrintWords
theorem sort5 : slices_SortFunc_xy.f [(⟨0, 0⟩ : S29), (⟨1, 0⟩ : S29), (⟨2, 0⟩ : S29), (⟨0, 2⟩ : S29), (⟨1, 1⟩ : S29)] = some [(⟨0, 0⟩ : S29), (⟨0, 2⟩ : S29), (⟨1, 0⟩ : S29), (⟨1, 1⟩ : S29), (⟨2, 0⟩ : S29)] := by
 simp [slices_SortFunc_xy.f, List.mergeSort, List.MergeSort.Internal.splitInTwo, xyLt]
theorem hull_ok (k : Nat) (hk : shape_Hull.f k [(⟨0, 0⟩ : S29), (⟨1, 0⟩ : S29), (⟨2, 0⟩ : S29), (⟨0, 2⟩ : S29), (⟨1, 1⟩ : S29)] = shape_Hull.j0 k [(⟨0, 0⟩ : S29), (⟨1, 0⟩ : S29), (⟨2, 0⟩ : S29), (⟨0, 2⟩ : S29), (⟨1, 1⟩ : S29)] false) (h60 : k = 60) : shape_Hull.f k [(⟨0, 0⟩ : S29), (⟨1, 0⟩ : S29), (⟨2, 0⟩ : S29), (⟨0, 2⟩ : S29), (⟨1, 1⟩ : S29)] = some ([(⟨0, 0⟩ : S29), (⟨2, 0⟩ : S29), (⟨0, 2⟩ : S29)], 0) := by
 rw [hk]; subst h60
 rw [shape_Hull.j0, if_neg (by simp), show slices_Clone.f [(⟨0, 0⟩ : S29), (⟨1, 0⟩ : S29), (⟨2, 0⟩ : S29), (⟨0, 2⟩ : S29), (⟨1, 1⟩ : S29)] = some [(⟨0, 0⟩ : S29), (⟨1, 0⟩ : S29), (⟨2, 0⟩ : S29), (⟨0, 2⟩ : S29), (⟨1, 1⟩ : S29)] by decide +kernel, Option.bind_some, sort5, Option.bind_some]
 decide +kernel
theorem area_ok : shape_Area2.f 60 [(⟨0, 0⟩ : S29), (⟨2, 0⟩ : S29), (⟨2, 2⟩ : S29), (⟨0, 2⟩ : S29)] = some (8, 0) := by decide +kernel
theorem simple_ok : shape_simple.f 60 [(⟨0, 0⟩ : S29), (⟨2, 0⟩ : S29), (⟨2, 2⟩ : S29), (⟨0, 2⟩ : S29)] = some true := by decide +kernel
theorem lattice_ok : shape_Lattice.f 60 [(⟨0, 0⟩ : S29), (⟨2, 0⟩ : S29), (⟨2, 2⟩ : S29), (⟨0, 2⟩ : S29)] = some (1, 8, 0) := by
 unfold shape_Lattice.f shape_refused_simple.f
 rw [simple_ok, show shape_polygon.f [(⟨0, 0⟩ : S29), (⟨2, 0⟩ : S29), (⟨2, 2⟩ : S29), (⟨0, 2⟩ : S29)] = some true by decide +kernel]
 decide +kernel
theorem same_ok : cracknelref04_Same.f 60 [(⟨0, 0⟩ : S29), (⟨2, 0⟩ : S29), (⟨0, 2⟩ : S29)] [(⟨0, 0⟩ : S29), (⟨2, 0⟩ : S29), (⟨0, 2⟩ : S29)] = some true := by decide +kernel
theorem hull_pre (k : Nat) : shape_Hull.f k [(⟨0, 0⟩ : S29), (⟨1, 0⟩ : S29), (⟨2, 0⟩ : S29), (⟨0, 2⟩ : S29), (⟨1, 1⟩ : S29)] = shape_Hull.j0 k [(⟨0, 0⟩ : S29), (⟨1, 0⟩ : S29), (⟨2, 0⟩ : S29), (⟨0, 2⟩ : S29), (⟨1, 1⟩ : S29)] false := by
 unfold shape_Hull.f
 rw [show shape_within.f [(⟨0, 0⟩ : S29), (⟨1, 0⟩ : S29), (⟨2, 0⟩ : S29), (⟨0, 2⟩ : S29), (⟨1, 1⟩ : S29)] 10000 = some true by decide +kernel, Option.bind_some]
 simp only [List.length_cons, List.length_nil]
 rw [if_neg (by omega), if_neg (by omega)]
 rfl
theorem hull_60 : ∀ k, k = 60 → shape_Hull.f k [(⟨0, 0⟩ : S29), (⟨1, 0⟩ : S29), (⟨2, 0⟩ : S29), (⟨0, 2⟩ : S29), (⟨1, 1⟩ : S29)] = some ([(⟨0, 0⟩ : S29), (⟨2, 0⟩ : S29), (⟨0, 2⟩ : S29)], 0) := fun k h => hull_ok k (hull_pre k) h
theorem lives_at (k : Nat) (h : k = 60) : cracknellaw04_lives.f k = some true := by
 unfold cracknellaw04_lives.f
 rw [hull_60 k h, Option.bind_some, show shape_Area2.f k [(⟨0, 0⟩ : S29), (⟨2, 0⟩ : S29), (⟨2, 2⟩ : S29), (⟨0, 2⟩ : S29)] = some (8, 0) by rw [h]; exact area_ok, show shape_Lattice.f k [(⟨0, 0⟩ : S29), (⟨2, 0⟩ : S29), (⟨2, 2⟩ : S29), (⟨0, 2⟩ : S29)] = some (1, 8, 0) by rw [h]; exact lattice_ok]
 simp only [Option.bind_some, if_true, show cracknelref04_Same.f k [(⟨0, 0⟩ : S29), (⟨2, 0⟩ : S29), (⟨0, 2⟩ : S29)] [(⟨0, 0⟩ : S29), (⟨2, 0⟩ : S29), (⟨0, 2⟩ : S29)] = some true by rw [h]; exact same_ok]
theorem lives_60 : cracknellaw04_lives.f 60 = some true := lives_at 60 rfl
theorem lives_ok (k : Nat) (hk : 60 ≤ k) : cracknellaw04_lives.f k = some true := by
 obtain ⟨d, rfl⟩ : ∃ d, k = 60 + d := ⟨k - 60, by omega⟩
 clear hk
 induction d with
 | zero => exact lives_60
 | succ d ih => exact cracknellaw04_lives.mono _ _ ih
end Go.Proofs.Ytoffmpkgickfhaa.M
end
section
namespace Go.Proofs.Ytoffmpkgickfhaa.PG
open Go.RowKit Go.Proofs.YtoffmpkgickfhaaW.PrintWords Go.Proofs.YtoffmpkgickfhaaW.PrintLast Go.Proofs.YtoffmpkgickfhaaW.PrintMore
attribute [local go_sem] max2_int min2_int max_two min_two max_three min_three max_four min_four
set_option linter.unusedVariables false
set_option linter.unusedSimpArgs false
/-! ### cracknelref04_Cross: function 61 -/
def cracknelref04_Cross.f (a0_0 : Int) (a0_1 : Int) (a1_0 : Int) (a1_1 : Int) (a2_0 : Int) (a2_1 : Int) : Option (Int) := some (wrap64 ((wrap64 ((wrap64 (a1_0 - a0_0)) * (wrap64 (a2_1 - a0_1)))) - (wrap64 ((wrap64 (a2_0 - a0_0)) * (wrap64 (a1_1 - a0_1))))))
set_option maxHeartbeats 8000000 in
set_option maxRecDepth 100000 in
theorem cracknelref04_Cross.calls (a0_0 : Int) (a0_1 : Int) (a1_0 : Int) (a1_1 : Int) (a2_0 : Int) (a2_1 : Int) (r : Int) (w : World) (h : cracknelref04_Cross.f a0_0 a0_1 a1_0 a1_1 a2_0 a2_1 = some r) :
  Calls Try.prog 61 #[.agg #[.int .i64 a0_0, .int .i64 a0_1], .agg #[.int .i64 a1_0, .int .i64 a1_1], .agg #[.int .i64 a2_0, .int .i64 a2_1]] w fun e w' => e = .returned (.int .i64 r) ∧ Below w.heap.size w w' := by
 have hu29 := Try.underlying29
 have HB := Aside0.mk (Below.refl w.heap.size w)
 have H : (some (wrap64 ((wrap64 ((wrap64 (a1_0 - a0_0)) * (wrap64 (a2_1 - a0_1)))) - (wrap64 ((wrap64 (a2_0 - a0_0)) * (wrap64 (a1_1 - a0_1))))))) = some r := h
 clear h
 obtain rfl := Option.some.inj H
 go_enter Try.func61, Try.ntmps61
 go_wp2_with (first | ((with_reducible refine gate_dst (N := 3) rfl ?_); refine bxe 3 #[.int .i64 a0_0, .int .i64 a0_1] 29 ?_; intro gb101 hg w4 hbox hb; have n0_ := Aside0.mk (below_step bh hb); have n1_ := Aside0.mk (hbox); have n2_ := Aside0.mk (gs hg : w.heap.size ≤ gb101); have n3_ := Aside0.mk (gs hg : w.heap.size ≤ gb101); clear HB; have HB := n0_; have BK101 := n1_; have GW101 := n2_; have GE101 := n3_; clear n0_ n1_ n2_ n3_; clear hb hbox hg) | ((with_reducible refine gate_dst (N := 4) rfl ?_); refine bxe 4 #[.int .i64 a1_0, .int .i64 a1_1] 29 ?_; intro gb102 hg w5 hbox hb; have n0_ := kb BK101 hb; have n1_ := Aside0.mk (below_step bh hb); have n2_ := Aside0.mk (hbox); have n3_ := Aside0.mk (gs hg : w.heap.size ≤ gb102); have n4_ := Aside0.mk (gs hg : w.heap.size ≤ gb102); have n5_ := Aside0.mk ((by rw [hg]; exact Nat.ne_of_lt (kl BK101) : gb101 ≠ gb102)); have n6_ := Aside0.mk ((by rw [hg]; exact Nat.ne_of_gt (kl BK101) : gb102 ≠ gb101)); clear BK101; clear HB; have BK101 := n0_; have HB := n1_; have BK102 := n2_; have GW102 := n3_; have GE102 := n4_; have NB101_102 := n5_; have NB102_101 := n6_; clear n0_ n1_ n2_ n3_ n4_ n5_ n6_; clear hb hbox hg) | ((with_reducible refine gate_dst (N := 5) rfl ?_); refine bxe 5 #[.int .i64 a2_0, .int .i64 a2_1] 29 ?_; intro gb103 hg w6 hbox hb; have n0_ := kb BK101 hb; have n1_ := kb BK102 hb; have n2_ := Aside0.mk (below_step bh hb); have n3_ := Aside0.mk (hbox); have n4_ := Aside0.mk (gs hg : w.heap.size ≤ gb103); have n5_ := Aside0.mk (gs hg : w.heap.size ≤ gb103); have n6_ := Aside0.mk ((by rw [hg]; exact Nat.ne_of_lt (kl BK101) : gb101 ≠ gb103)); have n7_ := Aside0.mk ((by rw [hg]; exact Nat.ne_of_gt (kl BK101) : gb103 ≠ gb101)); have n8_ := Aside0.mk ((by rw [hg]; exact Nat.ne_of_lt (kl BK102) : gb102 ≠ gb103)); have n9_ := Aside0.mk ((by rw [hg]; exact Nat.ne_of_gt (kl BK102) : gb103 ≠ gb102)); clear BK101; clear BK102; clear HB; have BK101 := n0_; have BK102 := n1_; have HB := n2_; have BK103 := n3_; have GW103 := n4_; have GE103 := n5_; have NB101_103 := n6_; have NB103_101 := n7_; have NB102_103 := n8_; have NB103_102 := n9_; clear n0_ n1_ n2_ n3_ n4_ n5_ n6_ n7_ n8_ n9_; clear hb hbox hg; have hnb7 := NB102_101.out; have hnc7 := NB101_102.out; have hnb8 := NB102_103.out; have hnc8 := NB103_102.out; have hcz9_0 : w6.cell? ⟨gb102, 0, none⟩ = some (.int .i64 a1_0) := bc BK102 0; have hcz9_1 : w6.cell? ⟨gb102, 1, none⟩ = some (.int .i64 a1_1) := bc BK102 1; have hfz9_0 := blk_frozen BK102.out 0; have hfz9_1 := blk_frozen BK102.out 1; have hnb10 := NB101_103.out; have hnc10 := NB103_101.out; have hcz11_0 : w6.cell? ⟨gb101, 0, none⟩ = some (.int .i64 a0_0) := bc BK101 0; have hcz11_1 : w6.cell? ⟨gb101, 1, none⟩ = some (.int .i64 a0_1) := bc BK101 1; have hfz11_0 := blk_frozen BK101.out 0; have hfz11_1 := blk_frozen BK101.out 1; have hcz12_0 : w6.cell? ⟨gb103, 0, none⟩ = some (.int .i64 a2_0) := bc BK103 0; have hcz12_1 : w6.cell? ⟨gb103, 1, none⟩ = some (.int .i64 a2_1) := bc BK103 1; have hfz12_0 := blk_frozen BK103.out 0; have hfz12_1 := blk_frozen BK103.out 1))
 go_ret
 exact ⟨by exact er, bh⟩
end Go.Proofs.Ytoffmpkgickfhaa.PG
end
section
namespace Go.Proofs.Ytoffmpkgickfhaa.PG
open Go.RowKit Go.Proofs.YtoffmpkgickfhaaW.PrintWords Go.Proofs.YtoffmpkgickfhaaW.PrintLast Go.Proofs.YtoffmpkgickfhaaW.PrintMore
attribute [local go_sem] max2_int min2_int max_two min_two max_three min_three max_four min_four
set_option linter.unusedVariables false
set_option linter.unusedSimpArgs false
/-! ### cracknelref04_in: function 59 -/
def cracknelref04_in.f (a0 : Int) (a1 : Int) (a2 : Int) : Option (Bool) := if a0 ≥ a1 then (some (decide (a0 ≤ a2))) else (some false)
set_option maxHeartbeats 8000000 in
set_option maxRecDepth 100000 in
theorem cracknelref04_in.calls (a0 : Int) (a1 : Int) (a2 : Int) (r : Bool) (w : World) (h : cracknelref04_in.f a0 a1 a2 = some r) :
  Calls Try.prog 59 #[.int .i64 a0, .int .i64 a1, .int .i64 a2] w fun e w' => e = .returned (.bool r) ∧ Drawn0 w w' := by
 have H : (if a0 ≥ a1 then (some (decide (a0 ≤ a2))) else (some false)) = some r := h
 clear h
 by_cases c4 : a0 ≥ a1
 ·rw [if_pos c4] at H
  have c4b0 : decide (a1 ≤ a0) = true := decide_eq_true c4
  clear c4
  obtain rfl := Option.some.inj H
  go_enter Try.func59, Try.ntmps59
  go_wp2
  go_ret
  exact ⟨by first | rfl | (simp; done) | (simp [*]; done), by repeat (first | exact Drawn0.refl _ | apply Drawn0.step)⟩
 ·rw [if_neg c4] at H
  have c4b0 : decide (a1 ≤ a0) = false := decide_eq_false c4
  clear c4
  obtain rfl := Option.some.inj H
  go_enter Try.func59, Try.ntmps59
  go_wp2
  go_ret
  exact ⟨by first | rfl | (simp; done) | (simp [*]; done), by repeat (first | exact Drawn0.refl _ | apply Drawn0.step)⟩
end Go.Proofs.Ytoffmpkgickfhaa.PG
end
section
namespace Go.Proofs.Ytoffmpkgickfhaa.PG
open Go.RowKit Go.Proofs.YtoffmpkgickfhaaW.PrintWords Go.Proofs.YtoffmpkgickfhaaW.PrintLast Go.Proofs.YtoffmpkgickfhaaW.PrintMore
attribute [local go_sem] max2_int min2_int max_two min_two max_three min_three max_four min_four
set_option linter.unusedVariables false
set_option linter.unusedSimpArgs false
/-! ### cracknelref04_On: function 62 -/
def cracknelref04_On.f (a0_0 : Int) (a0_1 : Int) (a1_0 : Int) (a1_1 : Int) (a2_0 : Int) (a2_1 : Int) : Option (Bool) := (cracknelref04_Cross.f a0_0 a0_1 a1_0 a1_1 a2_0 a2_1).bind fun t104 => (if t104 = 0 then ((cracknelref04_in.f a2_0 (mn a0_0 a1_0) (mx a0_0 a1_0)).bind fun t105 => (if t105 = true then ((cracknelref04_in.f a2_1 (mn a0_1 a1_1) (mx a0_1 a1_1)).bind fun t106 => (some t106)) else (some false))) else (some false))
set_option maxHeartbeats 8000000 in
set_option maxRecDepth 100000 in
theorem cracknelref04_On.calls (a0_0 : Int) (a0_1 : Int) (a1_0 : Int) (a1_1 : Int) (a2_0 : Int) (a2_1 : Int) (r : Bool) (w : World) (h : cracknelref04_On.f a0_0 a0_1 a1_0 a1_1 a2_0 a2_1 = some r) :
  Calls Try.prog 62 #[.agg #[.int .i64 a0_0, .int .i64 a0_1], .agg #[.int .i64 a1_0, .int .i64 a1_1], .agg #[.int .i64 a2_0, .int .i64 a2_1]] w fun e w' => e = .returned (.bool r) ∧ Below w.heap.size w w' := by
 have hu29 := Try.underlying29
 have HB := Aside0.mk (Below.refl w.heap.size w)
 have H : ((cracknelref04_Cross.f a0_0 a0_1 a1_0 a1_1 a2_0 a2_1).bind fun t104 => (if t104 = 0 then ((cracknelref04_in.f a2_0 (mn a0_0 a1_0) (mx a0_0 a1_0)).bind fun t105 => (if t105 = true then ((cracknelref04_in.f a2_1 (mn a0_1 a1_1) (mx a0_1 a1_1)).bind fun t106 => (some t106)) else (some false))) else (some false))) = some r := h
 clear h
 replace H := Option.bind_eq_some_iff.mp H
 obtain ⟨t104, A40, H⟩ := H
 replace H : (if t104 = 0 then ((cracknelref04_in.f a2_0 (mn a0_0 a1_0) (mx a0_0 a1_0)).bind fun t105 => (if t105 = true then ((cracknelref04_in.f a2_1 (mn a0_1 a1_1) (mx a0_1 a1_1)).bind fun t106 => (some t106)) else (some false))) else (some false)) = some r := H
 have A4 := Aside0.mk A40
 clear A40
 by_cases c5 : t104 = 0
 ·rw [if_pos c5] at H
  have c5b0 : (t104 == 0) = true := beq_iff_eq.mpr c5
  have c5b1 : (t104 != 0) = false := bne_eq_false_iff_eq.mpr c5
  clear c5
  obtain ⟨ji6, hji6⟩ : ∃ j_ : Int, (mn a0_0 a1_0) = j_ := ⟨_, rfl⟩
  replace H : ((cracknelref04_in.f a2_0 (ji6) (mx a0_0 a1_0)).bind fun t105 => (if t105 = true then ((cracknelref04_in.f a2_1 (mn a0_1 a1_1) (mx a0_1 a1_1)).bind fun t106 => (some t106)) else (some false))) = some r := by first | (rw [hji6] at H; exact H) | (simp only [hji6] at H ⊢; exact H)
  (try rw [hji6] at A4)
  have hji6_ : (if a1_0 < a0_0 then a1_0 else a0_0) = ji6 := hji6
  obtain ⟨ji7, hji7⟩ : ∃ j_ : Int, (mx a0_0 a1_0) = j_ := ⟨_, rfl⟩
  replace H : ((cracknelref04_in.f a2_0 (ji6) (ji7)).bind fun t105 => (if t105 = true then ((cracknelref04_in.f a2_1 (mn a0_1 a1_1) (mx a0_1 a1_1)).bind fun t106 => (some t106)) else (some false))) = some r := by first | (rw [hji7] at H; exact H) | (simp only [hji7] at H ⊢; exact H)
  (try rw [hji7] at A4)
  have hji7_ : (if a0_0 < a1_0 then a1_0 else a0_0) = ji7 := hji7
  replace H := Option.bind_eq_some_iff.mp H
  obtain ⟨t105, A80, H⟩ := H
  replace H : (if t105 = true then ((cracknelref04_in.f a2_1 (mn a0_1 a1_1) (mx a0_1 a1_1)).bind fun t106 => (some t106)) else (some false)) = some r := H
  have A8 := Aside0.mk A80
  clear A80
  by_cases c9 : t105 = true
  ·subst c9
   rw [if_pos rfl] at H
   obtain ⟨ji10, hji10⟩ : ∃ j_ : Int, (mn a0_1 a1_1) = j_ := ⟨_, rfl⟩
   replace H : ((cracknelref04_in.f a2_1 (ji10) (mx a0_1 a1_1)).bind fun t106 => (some t106)) = some r := by first | (rw [hji10] at H; exact H) | (simp only [hji10] at H ⊢; exact H)
   (try rw [hji10] at A4)
   (try rw [hji10] at A8)
   have hji10_ : (if a1_1 < a0_1 then a1_1 else a0_1) = ji10 := hji10
   obtain ⟨ji11, hji11⟩ : ∃ j_ : Int, (mx a0_1 a1_1) = j_ := ⟨_, rfl⟩
   replace H : ((cracknelref04_in.f a2_1 (ji10) (ji11)).bind fun t106 => (some t106)) = some r := by first | (rw [hji11] at H; exact H) | (simp only [hji11] at H ⊢; exact H)
   (try rw [hji11] at A4)
   (try rw [hji11] at A8)
   have hji11_ : (if a0_1 < a1_1 then a1_1 else a0_1) = ji11 := hji11
   replace H := Option.bind_eq_some_iff.mp H
   obtain ⟨t106, A120, H⟩ := H
   replace H : (some t106) = some r := H
   have A12 := Aside0.mk A120
   clear A120
   obtain rfl := Option.some.inj H
   go_enter Try.func62, Try.ntmps62
   go_wp2_with (first | ((with_reducible refine gate_dst (N := 3) rfl ?_); (try (refine gate_guard (by rfl) ?_; dsimp only)); refine bxe 3 #[.int .i64 a0_0, .int .i64 a0_1] 29 ?_; intro gb101 hg w13 hbox hb; have n0_ := Aside0.mk (below_step bh hb); have n1_ := Aside0.mk (hbox); have n2_ := Aside0.mk (gs hg : w.heap.size ≤ gb101); have n3_ := Aside0.mk (gs hg : w.heap.size ≤ gb101); clear HB; have HB := n0_; have BK101 := n1_; have GW101 := n2_; have GE101 := n3_; clear n0_ n1_ n2_ n3_; clear hb hbox hg) | ((with_reducible refine gate_dst (N := 4) rfl ?_); (try (refine gate_guard (by rfl) ?_; dsimp only)); refine bxe 4 #[.int .i64 a1_0, .int .i64 a1_1] 29 ?_; intro gb102 hg w14 hbox hb; have n0_ := kb BK101 hb; have n1_ := Aside0.mk (below_step bh hb); have n2_ := Aside0.mk (hbox); have n3_ := Aside0.mk (gs hg : w.heap.size ≤ gb102); have n4_ := Aside0.mk (gs hg : w.heap.size ≤ gb102); have n5_ := Aside0.mk ((by rw [hg]; exact Nat.ne_of_lt (kl BK101) : gb101 ≠ gb102)); have n6_ := Aside0.mk ((by rw [hg]; exact Nat.ne_of_gt (kl BK101) : gb102 ≠ gb101)); clear BK101; clear HB; have BK101 := n0_; have HB := n1_; have BK102 := n2_; have GW102 := n3_; have GE102 := n4_; have NB101_102 := n5_; have NB102_101 := n6_; clear n0_ n1_ n2_ n3_ n4_ n5_ n6_; clear hb hbox hg) | ((with_reducible refine gate_dst (N := 5) rfl ?_); (try (refine gate_guard (by rfl) ?_; dsimp only)); refine bxe 5 #[.int .i64 a2_0, .int .i64 a2_1] 29 ?_; intro gb103 hg w15 hbox hb; have n0_ := kb BK101 hb; have n1_ := kb BK102 hb; have n2_ := Aside0.mk (below_step bh hb); have n3_ := Aside0.mk (hbox); have n4_ := Aside0.mk (gs hg : w.heap.size ≤ gb103); have n5_ := Aside0.mk (gs hg : w.heap.size ≤ gb103); have n6_ := Aside0.mk ((by rw [hg]; exact Nat.ne_of_lt (kl BK101) : gb101 ≠ gb103)); have n7_ := Aside0.mk ((by rw [hg]; exact Nat.ne_of_gt (kl BK101) : gb103 ≠ gb101)); have n8_ := Aside0.mk ((by rw [hg]; exact Nat.ne_of_lt (kl BK102) : gb102 ≠ gb103)); have n9_ := Aside0.mk ((by rw [hg]; exact Nat.ne_of_gt (kl BK102) : gb103 ≠ gb102)); clear BK101; clear BK102; clear HB; have BK101 := n0_; have BK102 := n1_; have HB := n2_; have BK103 := n3_; have GW103 := n4_; have GE103 := n5_; have NB101_103 := n6_; have NB103_101 := n7_; have NB102_103 := n8_; have NB103_102 := n9_; clear n0_ n1_ n2_ n3_ n4_ n5_ n6_ n7_ n8_ n9_; clear hb hbox hg; have hnb16 := NB101_102.out; have hnc16 := NB102_101.out; have hnb17 := NB101_103.out; have hnc17 := NB103_101.out; have hcz18_0 : w15.cell? ⟨gb101, 0, none⟩ = some (.int .i64 a0_0) := bc BK101 0; have hcz18_1 : w15.cell? ⟨gb101, 1, none⟩ = some (.int .i64 a0_1) := bc BK101 1; have hfz18_0 := blk_frozen BK101.out 0; have hfz18_1 := blk_frozen BK101.out 1; have hnb19 := NB102_103.out; have hnc19 := NB103_102.out; have hcz20_0 : w15.cell? ⟨gb102, 0, none⟩ = some (.int .i64 a1_0) := bc BK102 0; have hcz20_1 : w15.cell? ⟨gb102, 1, none⟩ = some (.int .i64 a1_1) := bc BK102 1; have hfz20_0 := blk_frozen BK102.out 0; have hfz20_1 := blk_frozen BK102.out 1; have hcz21_0 : w15.cell? ⟨gb103, 0, none⟩ = some (.int .i64 a2_0) := bc BK103 0; have hcz21_1 : w15.cell? ⟨gb103, 1, none⟩ = some (.int .i64 a2_1) := bc BK103 1; have hfz21_0 := blk_frozen BK103.out 0; have hfz21_1 := blk_frozen BK103.out 1) | ((with_reducible refine gate_callee (f := 61) rfl ?_); refine goesL_ (some 10) rfl rfl Try.func61 (by kernel_rfl) rfl #[.agg #[.int .i64 a0_0, .int .i64 a0_1], .agg #[.int .i64 a1_0, .int .i64 a1_1], .agg #[.int .i64 a2_0, .int .i64 a2_1]] rfl sg ?_; (with_reducible refine (cracknelref04_Cross.calls a0_0 a0_1 a1_0 a1_1 a2_0 a2_1 t104 _ A4.out).mono ?_); rintro e w22 ⟨rfl, hb⟩; refine ⟨_, rfl, ?_⟩; have n0_ := kb BK101 hb; have n1_ := kb BK102 hb; have n2_ := kb BK103 hb; have n3_ := Aside0.mk (below_step bh hb); clear BK101; clear BK102; clear BK103; clear HB; have BK101 := n0_; have BK102 := n1_; have BK103 := n2_; have HB := n3_; clear n0_ n1_ n2_ n3_; (try clear hb); (try clear hb2); (try clear hk); (try clear hi); have hcz23_0 : w22.cell? ⟨gb103, 0, none⟩ = some (.int .i64 a2_0) := bc BK103 0; have hcz23_1 : w22.cell? ⟨gb103, 1, none⟩ = some (.int .i64 a2_1) := bc BK103 1; have hfz23_0 := blk_frozen BK103.out 0; have hfz23_1 := blk_frozen BK103.out 1; have hcz24_0 : w22.cell? ⟨gb101, 0, none⟩ = some (.int .i64 a0_0) := bc BK101 0; have hcz24_1 : w22.cell? ⟨gb101, 1, none⟩ = some (.int .i64 a0_1) := bc BK101 1; have hfz24_0 := blk_frozen BK101.out 0; have hfz24_1 := blk_frozen BK101.out 1; have hcz25_0 : w22.cell? ⟨gb102, 0, none⟩ = some (.int .i64 a1_0) := bc BK102 0; have hcz25_1 : w22.cell? ⟨gb102, 1, none⟩ = some (.int .i64 a1_1) := bc BK102 1; have hfz25_0 := blk_frozen BK102.out 0; have hfz25_1 := blk_frozen BK102.out 1) | (go_at_call 59; (with_reducible refine (cracknelref04_in.calls a2_0 ji6 ji7 true _ A8.out).mono ?_); rintro e w' ⟨rfl, ⟨nd, rfl⟩⟩) | (go_at_call 59; (with_reducible refine (cracknelref04_in.calls a2_1 ji10 ji11 t106 _ A12.out).mono ?_); rintro e w' ⟨rfl, ⟨nd, rfl⟩⟩))
   go_ret
   exact ⟨by first | rfl | (simp [errW_none, errW_some] <;> rfl) | (simp only [← hji6, ← hji7, ← hji10, ← hji11]; first | rfl | (simp [errW_none, errW_some] <;> rfl)) | (simp [*, errW_none, errW_some] <;> rfl), bh⟩
  ·replace c9 := Bool.eq_false_iff.mpr c9
   subst c9
   rw [if_neg (show ¬ (false = true) by decide)] at H
   obtain rfl := Option.some.inj H
   go_enter Try.func62, Try.ntmps62
   go_wp2_with (first | ((with_reducible refine gate_dst (N := 3) rfl ?_); (try (refine gate_guard (by rfl) ?_; dsimp only)); refine bxe 3 #[.int .i64 a0_0, .int .i64 a0_1] 29 ?_; intro gb101 hg w26 hbox hb; have n0_ := Aside0.mk (below_step bh hb); have n1_ := Aside0.mk (hbox); have n2_ := Aside0.mk (gs hg : w.heap.size ≤ gb101); have n3_ := Aside0.mk (gs hg : w.heap.size ≤ gb101); clear HB; have HB := n0_; have BK101 := n1_; have GW101 := n2_; have GE101 := n3_; clear n0_ n1_ n2_ n3_; clear hb hbox hg) | ((with_reducible refine gate_dst (N := 4) rfl ?_); (try (refine gate_guard (by rfl) ?_; dsimp only)); refine bxe 4 #[.int .i64 a1_0, .int .i64 a1_1] 29 ?_; intro gb102 hg w27 hbox hb; have n0_ := kb BK101 hb; have n1_ := Aside0.mk (below_step bh hb); have n2_ := Aside0.mk (hbox); have n3_ := Aside0.mk (gs hg : w.heap.size ≤ gb102); have n4_ := Aside0.mk (gs hg : w.heap.size ≤ gb102); have n5_ := Aside0.mk ((by rw [hg]; exact Nat.ne_of_lt (kl BK101) : gb101 ≠ gb102)); have n6_ := Aside0.mk ((by rw [hg]; exact Nat.ne_of_gt (kl BK101) : gb102 ≠ gb101)); clear BK101; clear HB; have BK101 := n0_; have HB := n1_; have BK102 := n2_; have GW102 := n3_; have GE102 := n4_; have NB101_102 := n5_; have NB102_101 := n6_; clear n0_ n1_ n2_ n3_ n4_ n5_ n6_; clear hb hbox hg) | ((with_reducible refine gate_dst (N := 5) rfl ?_); (try (refine gate_guard (by rfl) ?_; dsimp only)); refine bxe 5 #[.int .i64 a2_0, .int .i64 a2_1] 29 ?_; intro gb103 hg w28 hbox hb; have n0_ := kb BK101 hb; have n1_ := kb BK102 hb; have n2_ := Aside0.mk (below_step bh hb); have n3_ := Aside0.mk (hbox); have n4_ := Aside0.mk (gs hg : w.heap.size ≤ gb103); have n5_ := Aside0.mk (gs hg : w.heap.size ≤ gb103); have n6_ := Aside0.mk ((by rw [hg]; exact Nat.ne_of_lt (kl BK101) : gb101 ≠ gb103)); have n7_ := Aside0.mk ((by rw [hg]; exact Nat.ne_of_gt (kl BK101) : gb103 ≠ gb101)); have n8_ := Aside0.mk ((by rw [hg]; exact Nat.ne_of_lt (kl BK102) : gb102 ≠ gb103)); have n9_ := Aside0.mk ((by rw [hg]; exact Nat.ne_of_gt (kl BK102) : gb103 ≠ gb102)); clear BK101; clear BK102; clear HB; have BK101 := n0_; have BK102 := n1_; have HB := n2_; have BK103 := n3_; have GW103 := n4_; have GE103 := n5_; have NB101_103 := n6_; have NB103_101 := n7_; have NB102_103 := n8_; have NB103_102 := n9_; clear n0_ n1_ n2_ n3_ n4_ n5_ n6_ n7_ n8_ n9_; clear hb hbox hg; have hnb29 := NB101_102.out; have hnc29 := NB102_101.out; have hnb30 := NB101_103.out; have hnc30 := NB103_101.out; have hcz31_0 : w28.cell? ⟨gb101, 0, none⟩ = some (.int .i64 a0_0) := bc BK101 0; have hcz31_1 : w28.cell? ⟨gb101, 1, none⟩ = some (.int .i64 a0_1) := bc BK101 1; have hfz31_0 := blk_frozen BK101.out 0; have hfz31_1 := blk_frozen BK101.out 1; have hnb32 := NB102_103.out; have hnc32 := NB103_102.out; have hcz33_0 : w28.cell? ⟨gb102, 0, none⟩ = some (.int .i64 a1_0) := bc BK102 0; have hcz33_1 : w28.cell? ⟨gb102, 1, none⟩ = some (.int .i64 a1_1) := bc BK102 1; have hfz33_0 := blk_frozen BK102.out 0; have hfz33_1 := blk_frozen BK102.out 1; have hcz34_0 : w28.cell? ⟨gb103, 0, none⟩ = some (.int .i64 a2_0) := bc BK103 0; have hcz34_1 : w28.cell? ⟨gb103, 1, none⟩ = some (.int .i64 a2_1) := bc BK103 1; have hfz34_0 := blk_frozen BK103.out 0; have hfz34_1 := blk_frozen BK103.out 1) | ((with_reducible refine gate_callee (f := 61) rfl ?_); refine goesL_ (some 10) rfl rfl Try.func61 (by kernel_rfl) rfl #[.agg #[.int .i64 a0_0, .int .i64 a0_1], .agg #[.int .i64 a1_0, .int .i64 a1_1], .agg #[.int .i64 a2_0, .int .i64 a2_1]] rfl sg ?_; (with_reducible refine (cracknelref04_Cross.calls a0_0 a0_1 a1_0 a1_1 a2_0 a2_1 t104 _ A4.out).mono ?_); rintro e w35 ⟨rfl, hb⟩; refine ⟨_, rfl, ?_⟩; have n0_ := kb BK101 hb; have n1_ := kb BK102 hb; have n2_ := kb BK103 hb; have n3_ := Aside0.mk (below_step bh hb); clear BK101; clear BK102; clear BK103; clear HB; have BK101 := n0_; have BK102 := n1_; have BK103 := n2_; have HB := n3_; clear n0_ n1_ n2_ n3_; (try clear hb); (try clear hb2); (try clear hk); (try clear hi); have hcz36_0 : w35.cell? ⟨gb103, 0, none⟩ = some (.int .i64 a2_0) := bc BK103 0; have hcz36_1 : w35.cell? ⟨gb103, 1, none⟩ = some (.int .i64 a2_1) := bc BK103 1; have hfz36_0 := blk_frozen BK103.out 0; have hfz36_1 := blk_frozen BK103.out 1; have hcz37_0 : w35.cell? ⟨gb101, 0, none⟩ = some (.int .i64 a0_0) := bc BK101 0; have hcz37_1 : w35.cell? ⟨gb101, 1, none⟩ = some (.int .i64 a0_1) := bc BK101 1; have hfz37_0 := blk_frozen BK101.out 0; have hfz37_1 := blk_frozen BK101.out 1; have hcz38_0 : w35.cell? ⟨gb102, 0, none⟩ = some (.int .i64 a1_0) := bc BK102 0; have hcz38_1 : w35.cell? ⟨gb102, 1, none⟩ = some (.int .i64 a1_1) := bc BK102 1; have hfz38_0 := blk_frozen BK102.out 0; have hfz38_1 := blk_frozen BK102.out 1) | (go_at_call 59; (with_reducible refine (cracknelref04_in.calls a2_0 ji6 ji7 false _ A8.out).mono ?_); rintro e w' ⟨rfl, ⟨nd, rfl⟩⟩))
   go_ret
   exact ⟨by first | rfl | (simp [errW_none, errW_some] <;> rfl) | (simp only [← hji6, ← hji7]; first | rfl | (simp [errW_none, errW_some] <;> rfl)) | (simp [*, errW_none, errW_some] <;> rfl), bh⟩
 ·rw [if_neg c5] at H
  have c5b0 : (t104 == 0) = false := beq_eq_false_iff_ne.mpr c5
  have c5b1 : (t104 != 0) = true := bne_iff_ne.mpr c5
  obtain rfl := Option.some.inj H
  go_enter Try.func62, Try.ntmps62
  go_wp2_with (first | ((with_reducible refine gate_dst (N := 3) rfl ?_); (try (refine gate_guard (by rfl) ?_; dsimp only)); refine bxe 3 #[.int .i64 a0_0, .int .i64 a0_1] 29 ?_; intro gb101 hg w39 hbox hb; have n0_ := Aside0.mk (below_step bh hb); have n1_ := Aside0.mk (hbox); have n2_ := Aside0.mk (gs hg : w.heap.size ≤ gb101); have n3_ := Aside0.mk (gs hg : w.heap.size ≤ gb101); clear HB; have HB := n0_; have BK101 := n1_; have GW101 := n2_; have GE101 := n3_; clear n0_ n1_ n2_ n3_; clear hb hbox hg) | ((with_reducible refine gate_dst (N := 4) rfl ?_); (try (refine gate_guard (by rfl) ?_; dsimp only)); refine bxe 4 #[.int .i64 a1_0, .int .i64 a1_1] 29 ?_; intro gb102 hg w40 hbox hb; have n0_ := kb BK101 hb; have n1_ := Aside0.mk (below_step bh hb); have n2_ := Aside0.mk (hbox); have n3_ := Aside0.mk (gs hg : w.heap.size ≤ gb102); have n4_ := Aside0.mk (gs hg : w.heap.size ≤ gb102); have n5_ := Aside0.mk ((by rw [hg]; exact Nat.ne_of_lt (kl BK101) : gb101 ≠ gb102)); have n6_ := Aside0.mk ((by rw [hg]; exact Nat.ne_of_gt (kl BK101) : gb102 ≠ gb101)); clear BK101; clear HB; have BK101 := n0_; have HB := n1_; have BK102 := n2_; have GW102 := n3_; have GE102 := n4_; have NB101_102 := n5_; have NB102_101 := n6_; clear n0_ n1_ n2_ n3_ n4_ n5_ n6_; clear hb hbox hg) | ((with_reducible refine gate_dst (N := 5) rfl ?_); (try (refine gate_guard (by rfl) ?_; dsimp only)); refine bxe 5 #[.int .i64 a2_0, .int .i64 a2_1] 29 ?_; intro gb103 hg w41 hbox hb; have n0_ := kb BK101 hb; have n1_ := kb BK102 hb; have n2_ := Aside0.mk (below_step bh hb); have n3_ := Aside0.mk (hbox); have n4_ := Aside0.mk (gs hg : w.heap.size ≤ gb103); have n5_ := Aside0.mk (gs hg : w.heap.size ≤ gb103); have n6_ := Aside0.mk ((by rw [hg]; exact Nat.ne_of_lt (kl BK101) : gb101 ≠ gb103)); have n7_ := Aside0.mk ((by rw [hg]; exact Nat.ne_of_gt (kl BK101) : gb103 ≠ gb101)); have n8_ := Aside0.mk ((by rw [hg]; exact Nat.ne_of_lt (kl BK102) : gb102 ≠ gb103)); have n9_ := Aside0.mk ((by rw [hg]; exact Nat.ne_of_gt (kl BK102) : gb103 ≠ gb102)); clear BK101; clear BK102; clear HB; have BK101 := n0_; have BK102 := n1_; have HB := n2_; have BK103 := n3_; have GW103 := n4_; have GE103 := n5_; have NB101_103 := n6_; have NB103_101 := n7_; have NB102_103 := n8_; have NB103_102 := n9_; clear n0_ n1_ n2_ n3_ n4_ n5_ n6_ n7_ n8_ n9_; clear hb hbox hg; have hnb42 := NB101_102.out; have hnc42 := NB102_101.out; have hnb43 := NB101_103.out; have hnc43 := NB103_101.out; have hcz44_0 : w41.cell? ⟨gb101, 0, none⟩ = some (.int .i64 a0_0) := bc BK101 0; have hcz44_1 : w41.cell? ⟨gb101, 1, none⟩ = some (.int .i64 a0_1) := bc BK101 1; have hfz44_0 := blk_frozen BK101.out 0; have hfz44_1 := blk_frozen BK101.out 1; have hnb45 := NB102_103.out; have hnc45 := NB103_102.out; have hcz46_0 : w41.cell? ⟨gb102, 0, none⟩ = some (.int .i64 a1_0) := bc BK102 0; have hcz46_1 : w41.cell? ⟨gb102, 1, none⟩ = some (.int .i64 a1_1) := bc BK102 1; have hfz46_0 := blk_frozen BK102.out 0; have hfz46_1 := blk_frozen BK102.out 1; have hcz47_0 : w41.cell? ⟨gb103, 0, none⟩ = some (.int .i64 a2_0) := bc BK103 0; have hcz47_1 : w41.cell? ⟨gb103, 1, none⟩ = some (.int .i64 a2_1) := bc BK103 1; have hfz47_0 := blk_frozen BK103.out 0; have hfz47_1 := blk_frozen BK103.out 1) | ((with_reducible refine gate_callee (f := 61) rfl ?_); refine goesL_ (some 10) rfl rfl Try.func61 (by kernel_rfl) rfl #[.agg #[.int .i64 a0_0, .int .i64 a0_1], .agg #[.int .i64 a1_0, .int .i64 a1_1], .agg #[.int .i64 a2_0, .int .i64 a2_1]] rfl sg ?_; (with_reducible refine (cracknelref04_Cross.calls a0_0 a0_1 a1_0 a1_1 a2_0 a2_1 t104 _ A4.out).mono ?_); rintro e w48 ⟨rfl, hb⟩; refine ⟨_, rfl, ?_⟩; have n0_ := kb BK101 hb; have n1_ := kb BK102 hb; have n2_ := kb BK103 hb; have n3_ := Aside0.mk (below_step bh hb); clear BK101; clear BK102; clear BK103; clear HB; have BK101 := n0_; have BK102 := n1_; have BK103 := n2_; have HB := n3_; clear n0_ n1_ n2_ n3_; (try clear hb); (try clear hb2); (try clear hk); (try clear hi)))
  go_ret
  exact ⟨by exact er, bh⟩
end Go.Proofs.Ytoffmpkgickfhaa.PG
end
section
namespace Go.Proofs.Ytoffmpkgickfhaa.PG
open Go.RowKit Go.Proofs.YtoffmpkgickfhaaW.PrintWords Go.Proofs.YtoffmpkgickfhaaW.PrintLast Go.Proofs.YtoffmpkgickfhaaW.PrintMore
attribute [local go_sem] max2_int min2_int max_two min_two max_three min_three max_four min_four
set_option linter.unusedVariables false
set_option linter.unusedSimpArgs false
/-! ### cracknelref04_sign: function 97 -/
def cracknelref04_sign.f (a0 : Int) : Option (Int) := if a0 > 0 then (some 1) else (if a0 < 0 then (some (-1)) else (some 0))
set_option maxHeartbeats 8000000 in
set_option maxRecDepth 100000 in
theorem cracknelref04_sign.calls (a0 : Int) (r : Int) (w : World) (h : cracknelref04_sign.f a0 = some r) :
  Calls Try.prog 97 #[.int .i64 a0] w fun e w' => e = .returned (.int .i64 r) ∧ Drawn0 w w' := by
 have H : (if a0 > 0 then (some 1) else (if a0 < 0 then (some (-1)) else (some 0))) = some r := h
 clear h
 by_cases c2 : a0 > 0
 ·rw [if_pos c2] at H
  have c2b0 : decide (0 < a0) = true := decide_eq_true c2
  clear c2
  obtain rfl := Option.some.inj H
  go_enter Try.func97, Try.ntmps97
  go_wp2
  go_ret
  exact ⟨by first | rfl | (simp; done) | (simp [*]; done), by repeat (first | exact Drawn0.refl _ | apply Drawn0.step)⟩
 ·rw [if_neg c2] at H
  have c2b0 : decide (0 < a0) = false := decide_eq_false c2
  clear c2
  by_cases c3 : a0 < 0
  ·rw [if_pos c3] at H
   have c3b0 : decide (a0 < 0) = true := decide_eq_true c3
   clear c3
   obtain rfl := Option.some.inj H
   go_enter Try.func97, Try.ntmps97
   go_wp2
   go_ret
   exact ⟨by first | rfl | (simp; done) | (simp [*]; done), by repeat (first | exact Drawn0.refl _ | apply Drawn0.step)⟩
  ·rw [if_neg c3] at H
   have c3b0 : decide (a0 < 0) = false := decide_eq_false c3
   clear c3
   obtain rfl := Option.some.inj H
   go_enter Try.func97, Try.ntmps97
   go_wp2
   go_ret
   exact ⟨by first | rfl | (simp; done) | (simp [*]; done), by repeat (first | exact Drawn0.refl _ | apply Drawn0.step)⟩
end Go.Proofs.Ytoffmpkgickfhaa.PG
end
section
namespace Go.Proofs.Ytoffmpkgickfhaa.PG
open Go.RowKit Go.Proofs.YtoffmpkgickfhaaW.PrintWords Go.Proofs.YtoffmpkgickfhaaW.PrintLast Go.Proofs.YtoffmpkgickfhaaW.PrintMore
attribute [local go_sem] max2_int min2_int max_two min_two max_three min_three max_four min_four
set_option linter.unusedVariables false
set_option linter.unusedSimpArgs false
/-! ### cracknelref04_Meet: function 65 -/
def cracknelref04_Meet.j0 : Nat → Bool → Int → Int → Int → Int → Int → Int → Int → Int → Option (Bool)
 | 0, _, _, _, _, _, _, _, _, _ => none
 | k + 1, x30, x102000, x102001, x103000, x103001, x104000, x104001, x105000, x105001 => if x30 = true then (some true) else ((cracknelref04_Cross.f x102000 x102001 x103000 x103001 x104000 x104001).bind fun t109 => ((cracknelref04_sign.f t109).bind fun t110 => ((cracknelref04_Cross.f x102000 x102001 x103000 x103001 x105000 x105001).bind fun t111 => ((cracknelref04_sign.f t111).bind fun t112 => (if (wrap64 (t110 * t112)) < 0 then ((cracknelref04_Cross.f x104000 x104001 x105000 x105001 x102000 x102001).bind fun t113 => ((cracknelref04_sign.f t113).bind fun t114 => ((cracknelref04_Cross.f x104000 x104001 x105000 x105001 x103000 x103001).bind fun t115 => ((cracknelref04_sign.f t115).bind fun t116 => (some (decide ((wrap64 (t114 * t116)) < 0))))))) else (some false))))))
def cracknelref04_Meet.f (k : Nat) (a0_0 : Int) (a0_1 : Int) (a1_0 : Int) (a1_1 : Int) (a2_0 : Int) (a2_1 : Int) (a3_0 : Int) (a3_1 : Int) : Option (Bool) := (cracknelref04_On.f a0_0 a0_1 a1_0 a1_1 a2_0 a2_1).bind fun t105 => (if t105 = true then (cracknelref04_Meet.j0 k true a0_0 a0_1 a1_0 a1_1 a2_0 a2_1 a3_0 a3_1) else ((cracknelref04_On.f a0_0 a0_1 a1_0 a1_1 a3_0 a3_1).bind fun t106 => (if t106 = true then (cracknelref04_Meet.j0 k true a0_0 a0_1 a1_0 a1_1 a2_0 a2_1 a3_0 a3_1) else ((cracknelref04_On.f a2_0 a2_1 a3_0 a3_1 a0_0 a0_1).bind fun t107 => (if t107 = true then (cracknelref04_Meet.j0 k true a0_0 a0_1 a1_0 a1_1 a2_0 a2_1 a3_0 a3_1) else ((cracknelref04_On.f a2_0 a2_1 a3_0 a3_1 a1_0 a1_1).bind fun t108 => (cracknelref04_Meet.j0 k t108 a0_0 a0_1 a1_0 a1_1 a2_0 a2_1 a3_0 a3_1)))))))
theorem cracknelref04_Meet.mono_l : ∀ k, (∀ y0 y1 y2 y3 y4 y5 y6 y7 y8, LeO (cracknelref04_Meet.j0 k y0 y1 y2 y3 y4 y5 y6 y7 y8) (cracknelref04_Meet.j0 (k + 1) y0 y1 y2 y3 y4 y5 y6 y7 y8))
 | 0 => fun _ _ _ _ _ _ _ _ _ r h => by simp [cracknelref04_Meet.j0] at h
 | k + 1 => by
  have ih0 := cracknelref04_Meet.mono_l k
  ·intro y0 y1 y2 y3 y4 y5 y6 y7 y8
   unfold cracknelref04_Meet.j0
   repeat' first
   | (with_reducible exact ih0 _ _ _ _ _ _ _ _ _)
   | (with_reducible exact LeO.refl _)
   | (with_reducible exact LeO.none _)
   | (with_reducible refine LeO.ite ?_ ?_)
   | (with_reducible refine LeO.bind ?_ (fun _ => ?_))
   | exact ih0 _ _ _ _ _ _ _ _ _
   | exact LeO.none _
   | refine LeO.ite ?_ ?_
   | refine LeO.bind ?_ (fun _ => ?_)
theorem cracknelref04_Meet.mono : ∀ a0 a1 a2 a3 a4 a5 a6 a7 k, LeO (cracknelref04_Meet.f k a0 a1 a2 a3 a4 a5 a6 a7) (cracknelref04_Meet.f (k + 1) a0 a1 a2 a3 a4 a5 a6 a7) := by
 intro a0 a1 a2 a3 a4 a5 a6 a7 k
 have ih0 := cracknelref04_Meet.mono_l k
 unfold cracknelref04_Meet.f
 repeat' first
  | (with_reducible exact ih0 _ _ _ _ _ _ _ _ _)
  | (with_reducible exact LeO.refl _)
  | (with_reducible exact LeO.none _)
  | (with_reducible refine LeO.ite ?_ ?_)
  | (with_reducible refine LeO.bind ?_ (fun _ => ?_))
  | exact ih0 _ _ _ _ _ _ _ _ _
  | exact LeO.none _
  | refine LeO.ite ?_ ?_
  | refine LeO.bind ?_ (fun _ => ?_)
def cracknelref04_Meet.T3 : Bool × List (List Nat × List Nat) := (true, [([], []), ([], []), ([], []), ([0, 1, 2], [0, 1, 2]), ([3, 3], [3]), ([], []), ([], []), ([], []), ([5, 6, 7, 4], [5, 6, 7]), ([8, 8], [8]), ([4, 9], [4, 9]), ([10], [10]), ([11, 9], [11]), ([12], [12]), ([12], [12]), ([12], [12]), ([13, 14, 15, 12, 12], [12, 13, 14, 15]), ([16, 16, 12], [12, 16]), ([12], [12]), ([12], [12]), ([12], [12]), ([18, 19, 20, 17, 12], [12, 18, 19, 20]), ([21, 21, 12], [12, 21]), ([17, 22, 12], [12, 17, 22]), ([23, 12], [12, 23]), ([12, 24], [12, 24]), ([25, 22, 0, 1, 2, 3, 4, 5, 6, 7, 8, 9, 10, 11, 12, 13, 14, 15, 16, 17, 18, 19, 20, 21, 22, 23, 24, 25], [25])])
def cracknelref04_Meet.B3 : List Nat := [0, 0, 0, 7, 15, 0, 0, 0, 255, 511, 1023, 2047, 4095, 8191, 8191, 8191, 65535, 131071, 8191, 8191, 8191, 2097151, 4194303, 8388607, 16777215, 33554431, 67108863]
theorem cracknelref04_Meet.tab3 : rtab .any (opsOf Try.f65 3) = cracknelref04_Meet.T3 := by kernel_rfl
theorem cracknelref04_Meet.bits3 : waitsOk cracknelref04_Meet.T3.2 cracknelref04_Meet.B3 = true := by kernel_rfl
set_option maxHeartbeats 8000000 in
set_option maxRecDepth 100000 in
theorem cracknelref04_Meet.calls (k : Nat) (a0_0 : Int) (a0_1 : Int) (a1_0 : Int) (a1_1 : Int) (a2_0 : Int) (a2_1 : Int) (a3_0 : Int) (a3_1 : Int) (r : Bool) (w : World) (h : cracknelref04_Meet.f k a0_0 a0_1 a1_0 a1_1 a2_0 a2_1 a3_0 a3_1 = some r) :
  Calls Try.prog 65 #[.agg #[.int .i64 a0_0, .int .i64 a0_1], .agg #[.int .i64 a1_0, .int .i64 a1_1], .agg #[.int .i64 a2_0, .int .i64 a2_1], .agg #[.int .i64 a3_0, .int .i64 a3_1]] w fun e w' => e = .returned (.bool r) ∧ Below w.heap.size w w' := by
 have hu29 := Try.underlying29
 have HB := Aside0.mk (Below.refl w.heap.size w)
 have H : ((cracknelref04_On.f a0_0 a0_1 a1_0 a1_1 a2_0 a2_1).bind fun t105 => (if t105 = true then (cracknelref04_Meet.j0 k true a0_0 a0_1 a1_0 a1_1 a2_0 a2_1 a3_0 a3_1) else ((cracknelref04_On.f a0_0 a0_1 a1_0 a1_1 a3_0 a3_1).bind fun t106 => (if t106 = true then (cracknelref04_Meet.j0 k true a0_0 a0_1 a1_0 a1_1 a2_0 a2_1 a3_0 a3_1) else ((cracknelref04_On.f a2_0 a2_1 a3_0 a3_1 a0_0 a0_1).bind fun t107 => (if t107 = true then (cracknelref04_Meet.j0 k true a0_0 a0_1 a1_0 a1_1 a2_0 a2_1 a3_0 a3_1) else ((cracknelref04_On.f a2_0 a2_1 a3_0 a3_1 a1_0 a1_1).bind fun t108 => (cracknelref04_Meet.j0 k t108 a0_0 a0_1 a1_0 a1_1 a2_0 a2_1 a3_0 a3_1)))))))) = some r := h
 clear h
 have HC5 := Aside0.mk H
 clear H
 go_enter Try.func65, Try.ntmps65
 go_upto_region 1 with (first | ((with_reducible refine gate_dst (N := 4) rfl ?_); refine bxe 4 #[.int .i64 a0_0, .int .i64 a0_1] 29 ?_; intro gb101 hg w6 hbox hb; have n0_ := Aside0.mk (below_step bh hb); have n1_ := Aside0.mk (hbox); have n2_ := Aside0.mk (gs hg : w.heap.size ≤ gb101); have n3_ := Aside0.mk (gs hg : w.heap.size ≤ gb101); clear HB; have HB := n0_; have BK101 := n1_; have GW101 := n2_; have GE101 := n3_; clear n0_ n1_ n2_ n3_; clear hb hbox hg) | ((with_reducible refine gate_dst (N := 5) rfl ?_); refine bxe 5 #[.int .i64 a1_0, .int .i64 a1_1] 29 ?_; intro gb102 hg w7 hbox hb; have n0_ := kb BK101 hb; have n1_ := Aside0.mk (below_step bh hb); have n2_ := Aside0.mk (hbox); have n3_ := Aside0.mk (gs hg : w.heap.size ≤ gb102); have n4_ := Aside0.mk (gs hg : w.heap.size ≤ gb102); have n5_ := Aside0.mk ((by rw [hg]; exact Nat.ne_of_lt (kl BK101) : gb101 ≠ gb102)); have n6_ := Aside0.mk ((by rw [hg]; exact Nat.ne_of_gt (kl BK101) : gb102 ≠ gb101)); clear BK101; clear HB; have BK101 := n0_; have HB := n1_; have BK102 := n2_; have GW102 := n3_; have GE102 := n4_; have NB101_102 := n5_; have NB102_101 := n6_; clear n0_ n1_ n2_ n3_ n4_ n5_ n6_; clear hb hbox hg) | ((with_reducible refine gate_dst (N := 6) rfl ?_); refine bxe 6 #[.int .i64 a2_0, .int .i64 a2_1] 29 ?_; intro gb103 hg w8 hbox hb; have n0_ := kb BK101 hb; have n1_ := kb BK102 hb; have n2_ := Aside0.mk (below_step bh hb); have n3_ := Aside0.mk (hbox); have n4_ := Aside0.mk (gs hg : w.heap.size ≤ gb103); have n5_ := Aside0.mk (gs hg : w.heap.size ≤ gb103); have n6_ := Aside0.mk ((by rw [hg]; exact Nat.ne_of_lt (kl BK101) : gb101 ≠ gb103)); have n7_ := Aside0.mk ((by rw [hg]; exact Nat.ne_of_gt (kl BK101) : gb103 ≠ gb101)); have n8_ := Aside0.mk ((by rw [hg]; exact Nat.ne_of_lt (kl BK102) : gb102 ≠ gb103)); have n9_ := Aside0.mk ((by rw [hg]; exact Nat.ne_of_gt (kl BK102) : gb103 ≠ gb102)); clear BK101; clear BK102; clear HB; have BK101 := n0_; have BK102 := n1_; have HB := n2_; have BK103 := n3_; have GW103 := n4_; have GE103 := n5_; have NB101_103 := n6_; have NB103_101 := n7_; have NB102_103 := n8_; have NB103_102 := n9_; clear n0_ n1_ n2_ n3_ n4_ n5_ n6_ n7_ n8_ n9_; clear hb hbox hg) | ((with_reducible refine gate_dst (N := 7) rfl ?_); refine bxe 7 #[.int .i64 a3_0, .int .i64 a3_1] 29 ?_; intro gb104 hg w9 hbox hb; have n0_ := kb BK101 hb; have n1_ := kb BK102 hb; have n2_ := kb BK103 hb; have n3_ := Aside0.mk (below_step bh hb); have n4_ := Aside0.mk (hbox); have n5_ := Aside0.mk (gs hg : w.heap.size ≤ gb104); have n6_ := Aside0.mk (gs hg : w.heap.size ≤ gb104); have n7_ := Aside0.mk ((by rw [hg]; exact Nat.ne_of_lt (kl BK101) : gb101 ≠ gb104)); have n8_ := Aside0.mk ((by rw [hg]; exact Nat.ne_of_gt (kl BK101) : gb104 ≠ gb101)); have n9_ := Aside0.mk ((by rw [hg]; exact Nat.ne_of_lt (kl BK102) : gb102 ≠ gb104)); have n10_ := Aside0.mk ((by rw [hg]; exact Nat.ne_of_gt (kl BK102) : gb104 ≠ gb102)); have n11_ := Aside0.mk ((by rw [hg]; exact Nat.ne_of_lt (kl BK103) : gb103 ≠ gb104)); have n12_ := Aside0.mk ((by rw [hg]; exact Nat.ne_of_gt (kl BK103) : gb104 ≠ gb103)); clear BK101; clear BK102; clear BK103; clear HB; have BK101 := n0_; have BK102 := n1_; have BK103 := n2_; have HB := n3_; have BK104 := n4_; have GW104 := n5_; have GE104 := n6_; have NB101_104 := n7_; have NB104_101 := n8_; have NB102_104 := n9_; have NB104_102 := n10_; have NB103_104 := n11_; have NB104_103 := n12_; clear n0_ n1_ n2_ n3_ n4_ n5_ n6_ n7_ n8_ n9_ n10_ n11_ n12_; clear hb hbox hg))
 (try simp only [Act.put, List.setIfInBounds_toArray, List.set_cons_zero, List.set_cons_succ])
 go_cut [30] (fun v30 wc => ∃ (kq : Nat) (x30_4 : Bool), v30 = .bool x30_4 ∧ Aside0 (cracknelref04_Meet.j0 kq x30_4 a0_0 a0_1 a1_0 a1_1 a2_0 a2_1 a3_0 a3_1 = some r) ∧ Aside0 (kq ≤ k) ∧ Aside0 (wc.heap[gb101]? = some (.cells #[.int .i64 a0_0, .int .i64 a0_1] 29 (0, 0))) ∧ Aside0 (wc.heap[gb102]? = some (.cells #[.int .i64 a1_0, .int .i64 a1_1] 29 (0, 0))) ∧ Aside0 (wc.heap[gb103]? = some (.cells #[.int .i64 a2_0, .int .i64 a2_1] 29 (0, 0))) ∧ Aside0 (wc.heap[gb104]? = some (.cells #[.int .i64 a3_0, .int .i64 a3_1] 29 (0, 0))) ∧ Aside0 (Below w.heap.size w wc))
 case first =>
  have H := HC5.out
  clear HC5
  replace H := Option.bind_eq_some_iff.mp H
  obtain ⟨t105, A100, H⟩ := H
  replace H : (if t105 = true then (cracknelref04_Meet.j0 k true a0_0 a0_1 a1_0 a1_1 a2_0 a2_1 a3_0 a3_1) else ((cracknelref04_On.f a0_0 a0_1 a1_0 a1_1 a3_0 a3_1).bind fun t106 => (if t106 = true then (cracknelref04_Meet.j0 k true a0_0 a0_1 a1_0 a1_1 a2_0 a2_1 a3_0 a3_1) else ((cracknelref04_On.f a2_0 a2_1 a3_0 a3_1 a0_0 a0_1).bind fun t107 => (if t107 = true then (cracknelref04_Meet.j0 k true a0_0 a0_1 a1_0 a1_1 a2_0 a2_1 a3_0 a3_1) else ((cracknelref04_On.f a2_0 a2_1 a3_0 a3_1 a1_0 a1_1).bind fun t108 => (cracknelref04_Meet.j0 k t108 a0_0 a0_1 a1_0 a1_1 a2_0 a2_1 a3_0 a3_1))))))) = some r := H
  have A10 := Aside0.mk A100
  clear A100
  by_cases c11 : t105 = true
  ·subst c11
   rw [if_pos rfl] at H
   have H' := Aside0.mk H
   clear H
   have hnb12 := NB101_102.out
   have hnc12 := NB102_101.out
   have hnb13 := NB101_103.out
   have hnc13 := NB103_101.out
   have hnb14 := NB101_104.out
   have hnc14 := NB104_101.out
   obtain ⟨hcz15_0, hcz15_1, hfz15_0, hfz15_1⟩ := b2 BK101
   have hnb16 := NB102_103.out
   have hnc16 := NB103_102.out
   have hnb17 := NB102_104.out
   have hnc17 := NB104_102.out
   obtain ⟨hcz18_0, hcz18_1, hfz18_0, hfz18_1⟩ := b2 BK102
   have hnb19 := NB103_104.out
   have hnc19 := NB104_103.out
   obtain ⟨hcz20_0, hcz20_1, hfz20_0, hfz20_1⟩ := b2 BK103
   go_wp2_with (first | ((with_reducible refine gate_callee (f := 62) rfl ?_); refine goesL_ (some 12) rfl rfl Try.func62 (by kernel_rfl) rfl #[.agg #[.int .i64 a0_0, .int .i64 a0_1], .agg #[.int .i64 a1_0, .int .i64 a1_1], .agg #[.int .i64 a2_0, .int .i64 a2_1]] rfl sg ?_; (with_reducible refine (cracknelref04_On.calls a0_0 a0_1 a1_0 a1_1 a2_0 a2_1 true _ A10.out).mono ?_); rintro e w21 ⟨rfl, hb⟩; refine ⟨_, rfl, ?_⟩; have n0_ := kb BK101 hb; have n1_ := kb BK102 hb; have n2_ := kb BK103 hb; have n3_ := kb BK104 hb; have n4_ := Aside0.mk (below_step bh hb); clear BK101; clear BK102; clear BK103; clear BK104; clear HB; have BK101 := n0_; have BK102 := n1_; have BK103 := n2_; have BK104 := n3_; have HB := n4_; clear n0_ n1_ n2_ n3_ n4_; (try clear hb); (try clear hb2); (try clear hk); (try clear hi)))
   go_meet
   case rel => exact ⟨_, (true), sd, H', ⟨om⟩, ⟨bk BK101⟩, ⟨bk BK102⟩, ⟨bk BK103⟩, ⟨bk BK104⟩, ⟨bh⟩⟩
  ·replace c11 := Bool.eq_false_iff.mpr c11
   subst c11
   rw [if_neg (show ¬ (false = true) by decide)] at H
   replace H := Option.bind_eq_some_iff.mp H
   obtain ⟨t106, A220, H⟩ := H
   replace H : (if t106 = true then (cracknelref04_Meet.j0 k true a0_0 a0_1 a1_0 a1_1 a2_0 a2_1 a3_0 a3_1) else ((cracknelref04_On.f a2_0 a2_1 a3_0 a3_1 a0_0 a0_1).bind fun t107 => (if t107 = true then (cracknelref04_Meet.j0 k true a0_0 a0_1 a1_0 a1_1 a2_0 a2_1 a3_0 a3_1) else ((cracknelref04_On.f a2_0 a2_1 a3_0 a3_1 a1_0 a1_1).bind fun t108 => (cracknelref04_Meet.j0 k t108 a0_0 a0_1 a1_0 a1_1 a2_0 a2_1 a3_0 a3_1))))) = some r := H
   have A22 := Aside0.mk A220
   clear A220
   by_cases c23 : t106 = true
   ·subst c23
    rw [if_pos rfl] at H
    have H' := Aside0.mk H
    clear H
    have hnb24 := NB101_102.out
    have hnc24 := NB102_101.out
    have hnb25 := NB101_103.out
    have hnc25 := NB103_101.out
    have hnb26 := NB101_104.out
    have hnc26 := NB104_101.out
    obtain ⟨hcz27_0, hcz27_1, hfz27_0, hfz27_1⟩ := b2 BK101
    have hnb28 := NB102_103.out
    have hnc28 := NB103_102.out
    have hnb29 := NB102_104.out
    have hnc29 := NB104_102.out
    obtain ⟨hcz30_0, hcz30_1, hfz30_0, hfz30_1⟩ := b2 BK102
    have hnb31 := NB103_104.out
    have hnc31 := NB104_103.out
    obtain ⟨hcz32_0, hcz32_1, hfz32_0, hfz32_1⟩ := b2 BK103
    go_wp2_with (first | ((with_reducible refine gate_callee (f := 62) rfl ?_); refine goesL_ (some 12) rfl rfl Try.func62 (by kernel_rfl) rfl #[.agg #[.int .i64 a0_0, .int .i64 a0_1], .agg #[.int .i64 a1_0, .int .i64 a1_1], .agg #[.int .i64 a2_0, .int .i64 a2_1]] rfl sg ?_; (with_reducible refine (cracknelref04_On.calls a0_0 a0_1 a1_0 a1_1 a2_0 a2_1 false _ A10.out).mono ?_); rintro e w33 ⟨rfl, hb⟩; refine ⟨_, rfl, ?_⟩; have n0_ := kb BK101 hb; have n1_ := kb BK102 hb; have n2_ := kb BK103 hb; have n3_ := kb BK104 hb; have n4_ := Aside0.mk (below_step bh hb); clear BK101; clear BK102; clear BK103; clear BK104; clear HB; have BK101 := n0_; have BK102 := n1_; have BK103 := n2_; have BK104 := n3_; have HB := n4_; clear n0_ n1_ n2_ n3_ n4_; (try clear hb); (try clear hb2); (try clear hk); (try clear hi); have hcz34_0 : w33.cell? ⟨gb101, 0, none⟩ = some (.int .i64 a0_0) := bc BK101 0; have hcz34_1 : w33.cell? ⟨gb101, 1, none⟩ = some (.int .i64 a0_1) := bc BK101 1; have hfz34_0 := blk_frozen BK101.out 0; have hfz34_1 := blk_frozen BK101.out 1; have hcz35_0 : w33.cell? ⟨gb102, 0, none⟩ = some (.int .i64 a1_0) := bc BK102 0; have hcz35_1 : w33.cell? ⟨gb102, 1, none⟩ = some (.int .i64 a1_1) := bc BK102 1; have hfz35_0 := blk_frozen BK102.out 0; have hfz35_1 := blk_frozen BK102.out 1; have hcz36_0 : w33.cell? ⟨gb104, 0, none⟩ = some (.int .i64 a3_0) := bc BK104 0; have hcz36_1 : w33.cell? ⟨gb104, 1, none⟩ = some (.int .i64 a3_1) := bc BK104 1; have hfz36_0 := blk_frozen BK104.out 0; have hfz36_1 := blk_frozen BK104.out 1) | (go_at_call 62; (with_reducible refine (cracknelref04_On.calls a0_0 a0_1 a1_0 a1_1 a3_0 a3_1 true _ A22.out).mono ?_); rintro e w37 ⟨rfl, hb⟩; have n0_ := kb BK101 hb; have n1_ := kb BK102 hb; have n2_ := kb BK103 hb; have n3_ := kb BK104 hb; have n4_ := Aside0.mk (below_step bh hb); clear BK101; clear BK102; clear BK103; clear BK104; clear HB; have BK101 := n0_; have BK102 := n1_; have BK103 := n2_; have BK104 := n3_; have HB := n4_; clear n0_ n1_ n2_ n3_ n4_; (try clear hb); (try clear hb2); (try clear hk); (try clear hi)))
    go_meet
    case rel => exact ⟨_, (true), sd, H', ⟨om⟩, ⟨bk BK101⟩, ⟨bk BK102⟩, ⟨bk BK103⟩, ⟨bk BK104⟩, ⟨bh⟩⟩
   ·replace c23 := Bool.eq_false_iff.mpr c23
    subst c23
    rw [if_neg (show ¬ (false = true) by decide)] at H
    replace H := Option.bind_eq_some_iff.mp H
    obtain ⟨t107, A380, H⟩ := H
    replace H : (if t107 = true then (cracknelref04_Meet.j0 k true a0_0 a0_1 a1_0 a1_1 a2_0 a2_1 a3_0 a3_1) else ((cracknelref04_On.f a2_0 a2_1 a3_0 a3_1 a1_0 a1_1).bind fun t108 => (cracknelref04_Meet.j0 k t108 a0_0 a0_1 a1_0 a1_1 a2_0 a2_1 a3_0 a3_1))) = some r := H
    have A38 := Aside0.mk A380
    clear A380
    by_cases c39 : t107 = true
    ·subst c39
     rw [if_pos rfl] at H
     have H' := Aside0.mk H
     clear H
     have hnb40 := NB101_102.out
     have hnc40 := NB102_101.out
     have hnb41 := NB101_103.out
     have hnc41 := NB103_101.out
     have hnb42 := NB101_104.out
     have hnc42 := NB104_101.out
     obtain ⟨hcz43_0, hcz43_1, hfz43_0, hfz43_1⟩ := b2 BK101
     have hnb44 := NB102_103.out
     have hnc44 := NB103_102.out
     have hnb45 := NB102_104.out
     have hnc45 := NB104_102.out
     obtain ⟨hcz46_0, hcz46_1, hfz46_0, hfz46_1⟩ := b2 BK102
     have hnb47 := NB103_104.out
     have hnc47 := NB104_103.out
     obtain ⟨hcz48_0, hcz48_1, hfz48_0, hfz48_1⟩ := b2 BK103
     go_wp2_with (first | ((with_reducible refine gate_callee (f := 62) rfl ?_); refine goesL_ (some 12) rfl rfl Try.func62 (by kernel_rfl) rfl #[.agg #[.int .i64 a0_0, .int .i64 a0_1], .agg #[.int .i64 a1_0, .int .i64 a1_1], .agg #[.int .i64 a2_0, .int .i64 a2_1]] rfl sg ?_; (with_reducible refine (cracknelref04_On.calls a0_0 a0_1 a1_0 a1_1 a2_0 a2_1 false _ A10.out).mono ?_); rintro e w49 ⟨rfl, hb⟩; refine ⟨_, rfl, ?_⟩; have n0_ := kb BK101 hb; have n1_ := kb BK102 hb; have n2_ := kb BK103 hb; have n3_ := kb BK104 hb; have n4_ := Aside0.mk (below_step bh hb); clear BK101; clear BK102; clear BK103; clear BK104; clear HB; have BK101 := n0_; have BK102 := n1_; have BK103 := n2_; have BK104 := n3_; have HB := n4_; clear n0_ n1_ n2_ n3_ n4_; (try clear hb); (try clear hb2); (try clear hk); (try clear hi); have hcz50_0 : w49.cell? ⟨gb101, 0, none⟩ = some (.int .i64 a0_0) := bc BK101 0; have hcz50_1 : w49.cell? ⟨gb101, 1, none⟩ = some (.int .i64 a0_1) := bc BK101 1; have hfz50_0 := blk_frozen BK101.out 0; have hfz50_1 := blk_frozen BK101.out 1; have hcz51_0 : w49.cell? ⟨gb102, 0, none⟩ = some (.int .i64 a1_0) := bc BK102 0; have hcz51_1 : w49.cell? ⟨gb102, 1, none⟩ = some (.int .i64 a1_1) := bc BK102 1; have hfz51_0 := blk_frozen BK102.out 0; have hfz51_1 := blk_frozen BK102.out 1; have hcz52_0 : w49.cell? ⟨gb104, 0, none⟩ = some (.int .i64 a3_0) := bc BK104 0; have hcz52_1 : w49.cell? ⟨gb104, 1, none⟩ = some (.int .i64 a3_1) := bc BK104 1; have hfz52_0 := blk_frozen BK104.out 0; have hfz52_1 := blk_frozen BK104.out 1) | (go_at_call 62; (with_reducible refine (cracknelref04_On.calls a0_0 a0_1 a1_0 a1_1 a3_0 a3_1 false _ A22.out).mono ?_); rintro e w53 ⟨rfl, hb⟩; have n0_ := kb BK101 hb; have n1_ := kb BK102 hb; have n2_ := kb BK103 hb; have n3_ := kb BK104 hb; have n4_ := Aside0.mk (below_step bh hb); clear BK101; clear BK102; clear BK103; clear BK104; clear HB; have BK101 := n0_; have BK102 := n1_; have BK103 := n2_; have BK104 := n3_; have HB := n4_; clear n0_ n1_ n2_ n3_ n4_; (try clear hb); (try clear hb2); (try clear hk); (try clear hi); have hcz54_0 : w53.cell? ⟨gb103, 0, none⟩ = some (.int .i64 a2_0) := bc BK103 0; have hcz54_1 : w53.cell? ⟨gb103, 1, none⟩ = some (.int .i64 a2_1) := bc BK103 1; have hfz54_0 := blk_frozen BK103.out 0; have hfz54_1 := blk_frozen BK103.out 1; have hcz55_0 : w53.cell? ⟨gb104, 0, none⟩ = some (.int .i64 a3_0) := bc BK104 0; have hcz55_1 : w53.cell? ⟨gb104, 1, none⟩ = some (.int .i64 a3_1) := bc BK104 1; have hfz55_0 := blk_frozen BK104.out 0; have hfz55_1 := blk_frozen BK104.out 1; have hcz56_0 : w53.cell? ⟨gb101, 0, none⟩ = some (.int .i64 a0_0) := bc BK101 0; have hcz56_1 : w53.cell? ⟨gb101, 1, none⟩ = some (.int .i64 a0_1) := bc BK101 1; have hfz56_0 := blk_frozen BK101.out 0; have hfz56_1 := blk_frozen BK101.out 1) | (go_at_call 62; (with_reducible refine (cracknelref04_On.calls a2_0 a2_1 a3_0 a3_1 a0_0 a0_1 true _ A38.out).mono ?_); rintro e w57 ⟨rfl, hb⟩; have n0_ := kb BK101 hb; have n1_ := kb BK102 hb; have n2_ := kb BK103 hb; have n3_ := kb BK104 hb; have n4_ := Aside0.mk (below_step bh hb); clear BK101; clear BK102; clear BK103; clear BK104; clear HB; have BK101 := n0_; have BK102 := n1_; have BK103 := n2_; have BK104 := n3_; have HB := n4_; clear n0_ n1_ n2_ n3_ n4_; (try clear hb); (try clear hb2); (try clear hk); (try clear hi)))
     go_meet
     case rel => exact ⟨_, (true), sd, H', ⟨om⟩, ⟨bk BK101⟩, ⟨bk BK102⟩, ⟨bk BK103⟩, ⟨bk BK104⟩, ⟨bh⟩⟩
    ·replace c39 := Bool.eq_false_iff.mpr c39
     subst c39
     rw [if_neg (show ¬ (false = true) by decide)] at H
     replace H := Option.bind_eq_some_iff.mp H
     obtain ⟨t108, A580, H⟩ := H
     replace H : (cracknelref04_Meet.j0 k t108 a0_0 a0_1 a1_0 a1_1 a2_0 a2_1 a3_0 a3_1) = some r := H
     have A58 := Aside0.mk A580
     clear A580
     have H' := Aside0.mk H
     clear H
     have hnb59 := NB101_102.out
     have hnc59 := NB102_101.out
     have hnb60 := NB101_103.out
     have hnc60 := NB103_101.out
     have hnb61 := NB101_104.out
     have hnc61 := NB104_101.out
     obtain ⟨hcz62_0, hcz62_1, hfz62_0, hfz62_1⟩ := b2 BK101
     have hnb63 := NB102_103.out
     have hnc63 := NB103_102.out
     have hnb64 := NB102_104.out
     have hnc64 := NB104_102.out
     obtain ⟨hcz65_0, hcz65_1, hfz65_0, hfz65_1⟩ := b2 BK102
     have hnb66 := NB103_104.out
     have hnc66 := NB104_103.out
     obtain ⟨hcz67_0, hcz67_1, hfz67_0, hfz67_1⟩ := b2 BK103
     go_wp2_with (first | ((with_reducible refine gate_callee (f := 62) rfl ?_); refine goesL_ (some 12) rfl rfl Try.func62 (by kernel_rfl) rfl #[.agg #[.int .i64 a0_0, .int .i64 a0_1], .agg #[.int .i64 a1_0, .int .i64 a1_1], .agg #[.int .i64 a2_0, .int .i64 a2_1]] rfl sg ?_; (with_reducible refine (cracknelref04_On.calls a0_0 a0_1 a1_0 a1_1 a2_0 a2_1 false _ A10.out).mono ?_); rintro e w68 ⟨rfl, hb⟩; refine ⟨_, rfl, ?_⟩; have n0_ := kb BK101 hb; have n1_ := kb BK102 hb; have n2_ := kb BK103 hb; have n3_ := kb BK104 hb; have n4_ := Aside0.mk (below_step bh hb); clear BK101; clear BK102; clear BK103; clear BK104; clear HB; have BK101 := n0_; have BK102 := n1_; have BK103 := n2_; have BK104 := n3_; have HB := n4_; clear n0_ n1_ n2_ n3_ n4_; (try clear hb); (try clear hb2); (try clear hk); (try clear hi); have hcz69_0 : w68.cell? ⟨gb101, 0, none⟩ = some (.int .i64 a0_0) := bc BK101 0; have hcz69_1 : w68.cell? ⟨gb101, 1, none⟩ = some (.int .i64 a0_1) := bc BK101 1; have hfz69_0 := blk_frozen BK101.out 0; have hfz69_1 := blk_frozen BK101.out 1; have hcz70_0 : w68.cell? ⟨gb102, 0, none⟩ = some (.int .i64 a1_0) := bc BK102 0; have hcz70_1 : w68.cell? ⟨gb102, 1, none⟩ = some (.int .i64 a1_1) := bc BK102 1; have hfz70_0 := blk_frozen BK102.out 0; have hfz70_1 := blk_frozen BK102.out 1; have hcz71_0 : w68.cell? ⟨gb104, 0, none⟩ = some (.int .i64 a3_0) := bc BK104 0; have hcz71_1 : w68.cell? ⟨gb104, 1, none⟩ = some (.int .i64 a3_1) := bc BK104 1; have hfz71_0 := blk_frozen BK104.out 0; have hfz71_1 := blk_frozen BK104.out 1) | (go_at_call 62; (with_reducible refine (cracknelref04_On.calls a0_0 a0_1 a1_0 a1_1 a3_0 a3_1 false _ A22.out).mono ?_); rintro e w72 ⟨rfl, hb⟩; have n0_ := kb BK101 hb; have n1_ := kb BK102 hb; have n2_ := kb BK103 hb; have n3_ := kb BK104 hb; have n4_ := Aside0.mk (below_step bh hb); clear BK101; clear BK102; clear BK103; clear BK104; clear HB; have BK101 := n0_; have BK102 := n1_; have BK103 := n2_; have BK104 := n3_; have HB := n4_; clear n0_ n1_ n2_ n3_ n4_; (try clear hb); (try clear hb2); (try clear hk); (try clear hi); have hcz73_0 : w72.cell? ⟨gb103, 0, none⟩ = some (.int .i64 a2_0) := bc BK103 0; have hcz73_1 : w72.cell? ⟨gb103, 1, none⟩ = some (.int .i64 a2_1) := bc BK103 1; have hfz73_0 := blk_frozen BK103.out 0; have hfz73_1 := blk_frozen BK103.out 1; have hcz74_0 : w72.cell? ⟨gb104, 0, none⟩ = some (.int .i64 a3_0) := bc BK104 0; have hcz74_1 : w72.cell? ⟨gb104, 1, none⟩ = some (.int .i64 a3_1) := bc BK104 1; have hfz74_0 := blk_frozen BK104.out 0; have hfz74_1 := blk_frozen BK104.out 1; have hcz75_0 : w72.cell? ⟨gb101, 0, none⟩ = some (.int .i64 a0_0) := bc BK101 0; have hcz75_1 : w72.cell? ⟨gb101, 1, none⟩ = some (.int .i64 a0_1) := bc BK101 1; have hfz75_0 := blk_frozen BK101.out 0; have hfz75_1 := blk_frozen BK101.out 1) | (go_at_call 62; (with_reducible refine (cracknelref04_On.calls a2_0 a2_1 a3_0 a3_1 a0_0 a0_1 false _ A38.out).mono ?_); rintro e w76 ⟨rfl, hb⟩; have n0_ := kb BK101 hb; have n1_ := kb BK102 hb; have n2_ := kb BK103 hb; have n3_ := kb BK104 hb; have n4_ := Aside0.mk (below_step bh hb); clear BK101; clear BK102; clear BK103; clear BK104; clear HB; have BK101 := n0_; have BK102 := n1_; have BK103 := n2_; have BK104 := n3_; have HB := n4_; clear n0_ n1_ n2_ n3_ n4_; (try clear hb); (try clear hb2); (try clear hk); (try clear hi); have hcz77_0 : w76.cell? ⟨gb103, 0, none⟩ = some (.int .i64 a2_0) := bc BK103 0; have hcz77_1 : w76.cell? ⟨gb103, 1, none⟩ = some (.int .i64 a2_1) := bc BK103 1; have hfz77_0 := blk_frozen BK103.out 0; have hfz77_1 := blk_frozen BK103.out 1; have hcz78_0 : w76.cell? ⟨gb104, 0, none⟩ = some (.int .i64 a3_0) := bc BK104 0; have hcz78_1 : w76.cell? ⟨gb104, 1, none⟩ = some (.int .i64 a3_1) := bc BK104 1; have hfz78_0 := blk_frozen BK104.out 0; have hfz78_1 := blk_frozen BK104.out 1; have hcz79_0 : w76.cell? ⟨gb102, 0, none⟩ = some (.int .i64 a1_0) := bc BK102 0; have hcz79_1 : w76.cell? ⟨gb102, 1, none⟩ = some (.int .i64 a1_1) := bc BK102 1; have hfz79_0 := blk_frozen BK102.out 0; have hfz79_1 := blk_frozen BK102.out 1) | (go_at_call 62; (with_reducible refine (cracknelref04_On.calls a2_0 a2_1 a3_0 a3_1 a1_0 a1_1 t108 _ A58.out).mono ?_); rintro e w80 ⟨rfl, hb⟩; have n0_ := kb BK101 hb; have n1_ := kb BK102 hb; have n2_ := kb BK103 hb; have n3_ := kb BK104 hb; have n4_ := Aside0.mk (below_step bh hb); clear BK101; clear BK102; clear BK103; clear BK104; clear HB; have BK101 := n0_; have BK102 := n1_; have BK103 := n2_; have BK104 := n3_; have HB := n4_; clear n0_ n1_ n2_ n3_ n4_; (try clear hb); (try clear hb2); (try clear hk); (try clear hi)))
     go_meet
     case rel => exact ⟨_, (t108), sd, H', ⟨om⟩, ⟨bk BK101⟩, ⟨bk BK102⟩, ⟨bk BK103⟩, ⟨bk BK104⟩, ⟨bh⟩⟩
 case rest =>
  clear HC5
  try clear c1
  try clear c2
  try clear p2
  try clear c3
  try clear c4
  try clear c5
  try clear c6
  try clear c11
  try clear c12
  try clear c13
  try clear c14
  try clear c16
  try clear c17
  try clear c19
  try clear c23
  try clear c24
  try clear c25
  try clear c26
  try clear c28
  try clear c29
  try clear c31
  try clear c39
  try clear c40
  try clear c41
  try clear c42
  try clear c44
  try clear c45
  try clear c47
  try clear c59
  try clear c60
  try clear c61
  try clear c62
  try clear c63
  try clear c64
  try clear c65
  try clear c66
  try clear hcz15_0
  try clear hcz15_1
  try clear hcz18_0
  try clear hcz18_1
  try clear hcz20_0
  try clear hcz20_1
  try clear hcz27_0
  try clear hcz27_1
  try clear hcz30_0
  try clear hcz30_1
  try clear hcz32_0
  try clear hcz32_1
  try clear hcz34_0
  try clear hcz34_1
  try clear hcz35_0
  try clear hcz35_1
  try clear hcz36_0
  try clear hcz36_1
  try clear hcz43_0
  try clear hcz43_1
  try clear hcz46_0
  try clear hcz46_1
  try clear hcz48_0
  try clear hcz48_1
  try clear hcz50_0
  try clear hcz50_1
  try clear hcz51_0
  try clear hcz51_1
  try clear hcz52_0
  try clear hcz52_1
  try clear hcz54_0
  try clear hcz54_1
  try clear hcz55_0
  try clear hcz55_1
  try clear hcz56_0
  try clear hcz56_1
  try clear hcz62_0
  try clear hcz62_1
  try clear hcz65_0
  try clear hcz65_1
  try clear hcz67_0
  try clear hcz67_1
  try clear hcz69_0
  try clear hcz69_1
  try clear hcz70_0
  try clear hcz70_1
  try clear hcz71_0
  try clear hcz71_1
  try clear hcz73_0
  try clear hcz73_1
  try clear hcz74_0
  try clear hcz74_1
  try clear hcz75_0
  try clear hcz75_1
  try clear hcz77_0
  try clear hcz77_1
  try clear hcz78_0
  try clear hcz78_1
  try clear hcz79_0
  try clear hcz79_1
  try clear hfz15_0
  try clear hfz15_1
  try clear hfz18_0
  try clear hfz18_1
  try clear hfz20_0
  try clear hfz20_1
  try clear hfz27_0
  try clear hfz27_1
  try clear hfz30_0
  try clear hfz30_1
  try clear hfz32_0
  try clear hfz32_1
  try clear hfz34_0
  try clear hfz34_1
  try clear hfz35_0
  try clear hfz35_1
  try clear hfz36_0
  try clear hfz36_1
  try clear hfz43_0
  try clear hfz43_1
  try clear hfz46_0
  try clear hfz46_1
  try clear hfz48_0
  try clear hfz48_1
  try clear hfz50_0
  try clear hfz50_1
  try clear hfz51_0
  try clear hfz51_1
  try clear hfz52_0
  try clear hfz52_1
  try clear hfz54_0
  try clear hfz54_1
  try clear hfz55_0
  try clear hfz55_1
  try clear hfz56_0
  try clear hfz56_1
  try clear hfz62_0
  try clear hfz62_1
  try clear hfz65_0
  try clear hfz65_1
  try clear hfz67_0
  try clear hfz67_1
  try clear hfz69_0
  try clear hfz69_1
  try clear hfz70_0
  try clear hfz70_1
  try clear hfz71_0
  try clear hfz71_1
  try clear hfz73_0
  try clear hfz73_1
  try clear hfz74_0
  try clear hfz74_1
  try clear hfz75_0
  try clear hfz75_1
  try clear hfz77_0
  try clear hfz77_1
  try clear hfz78_0
  try clear hfz78_1
  try clear hfz79_0
  try clear hfz79_1
  obtain ⟨kq, x30_4, rfl, HA, HJ4, BK101, BK102, BK103, BK104, HB⟩ := hcut
  cases kq with
  | zero => exact absurd HA.out (by simp [cracknelref04_Meet.j0])
  | succ kj4 =>
   have H := HA.out
   clear HA
   simp only [cracknelref04_Meet.j0] at H
   by_cases c81 : x30_4 = true
   ·subst c81
    rw [if_pos rfl] at H
    obtain rfl := Option.some.inj H
    go_wp2
    go_ret
    exact ⟨by exact er, bh⟩
   ·replace c81 := Bool.eq_false_iff.mpr c81
    subst c81
    rw [if_neg (show ¬ (false = true) by decide)] at H
    replace H := Option.bind_eq_some_iff.mp H
    obtain ⟨t109, A820, H⟩ := H
    replace H : ((cracknelref04_sign.f t109).bind fun t110 => ((cracknelref04_Cross.f a0_0 a0_1 a1_0 a1_1 a3_0 a3_1).bind fun t111 => ((cracknelref04_sign.f t111).bind fun t112 => (if (wrap64 (t110 * t112)) < 0 then ((cracknelref04_Cross.f a2_0 a2_1 a3_0 a3_1 a0_0 a0_1).bind fun t113 => ((cracknelref04_sign.f t113).bind fun t114 => ((cracknelref04_Cross.f a2_0 a2_1 a3_0 a3_1 a1_0 a1_1).bind fun t115 => ((cracknelref04_sign.f t115).bind fun t116 => (some (decide ((wrap64 (t114 * t116)) < 0))))))) else (some false))))) = some r := H
    have A82 := Aside0.mk A820
    clear A820
    replace H := Option.bind_eq_some_iff.mp H
    obtain ⟨t110, A830, H⟩ := H
    replace H : ((cracknelref04_Cross.f a0_0 a0_1 a1_0 a1_1 a3_0 a3_1).bind fun t111 => ((cracknelref04_sign.f t111).bind fun t112 => (if (wrap64 (t110 * t112)) < 0 then ((cracknelref04_Cross.f a2_0 a2_1 a3_0 a3_1 a0_0 a0_1).bind fun t113 => ((cracknelref04_sign.f t113).bind fun t114 => ((cracknelref04_Cross.f a2_0 a2_1 a3_0 a3_1 a1_0 a1_1).bind fun t115 => ((cracknelref04_sign.f t115).bind fun t116 => (some (decide ((wrap64 (t114 * t116)) < 0))))))) else (some false)))) = some r := H
    have A83 := Aside0.mk A830
    clear A830
    replace H := Option.bind_eq_some_iff.mp H
    obtain ⟨t111, A840, H⟩ := H
    replace H : ((cracknelref04_sign.f t111).bind fun t112 => (if (wrap64 (t110 * t112)) < 0 then ((cracknelref04_Cross.f a2_0 a2_1 a3_0 a3_1 a0_0 a0_1).bind fun t113 => ((cracknelref04_sign.f t113).bind fun t114 => ((cracknelref04_Cross.f a2_0 a2_1 a3_0 a3_1 a1_0 a1_1).bind fun t115 => ((cracknelref04_sign.f t115).bind fun t116 => (some (decide ((wrap64 (t114 * t116)) < 0))))))) else (some false))) = some r := H
    have A84 := Aside0.mk A840
    clear A840
    replace H := Option.bind_eq_some_iff.mp H
    obtain ⟨t112, A850, H⟩ := H
    replace H : (if (wrap64 (t110 * t112)) < 0 then ((cracknelref04_Cross.f a2_0 a2_1 a3_0 a3_1 a0_0 a0_1).bind fun t113 => ((cracknelref04_sign.f t113).bind fun t114 => ((cracknelref04_Cross.f a2_0 a2_1 a3_0 a3_1 a1_0 a1_1).bind fun t115 => ((cracknelref04_sign.f t115).bind fun t116 => (some (decide ((wrap64 (t114 * t116)) < 0))))))) else (some false)) = some r := H
    have A85 := Aside0.mk A850
    clear A850
    by_cases c86 : (wrap64 (t110 * t112)) < 0
    ·rw [if_pos c86] at H
     have c86b0 : decide ((wrap64 (t110 * t112)) < 0) = true := decide_eq_true c86
     clear c86
     replace H := Option.bind_eq_some_iff.mp H
     obtain ⟨t113, A870, H⟩ := H
     replace H : ((cracknelref04_sign.f t113).bind fun t114 => ((cracknelref04_Cross.f a2_0 a2_1 a3_0 a3_1 a1_0 a1_1).bind fun t115 => ((cracknelref04_sign.f t115).bind fun t116 => (some (decide ((wrap64 (t114 * t116)) < 0)))))) = some r := H
     have A87 := Aside0.mk A870
     clear A870
     replace H := Option.bind_eq_some_iff.mp H
     obtain ⟨t114, A880, H⟩ := H
     replace H : ((cracknelref04_Cross.f a2_0 a2_1 a3_0 a3_1 a1_0 a1_1).bind fun t115 => ((cracknelref04_sign.f t115).bind fun t116 => (some (decide ((wrap64 (t114 * t116)) < 0))))) = some r := H
     have A88 := Aside0.mk A880
     clear A880
     replace H := Option.bind_eq_some_iff.mp H
     obtain ⟨t115, A890, H⟩ := H
     replace H : ((cracknelref04_sign.f t115).bind fun t116 => (some (decide ((wrap64 (t114 * t116)) < 0)))) = some r := H
     have A89 := Aside0.mk A890
     clear A890
     replace H := Option.bind_eq_some_iff.mp H
     obtain ⟨t116, A900, H⟩ := H
     replace H : (some (decide ((wrap64 (t114 * t116)) < 0))) = some r := H
     have A90 := Aside0.mk A900
     clear A900
     obtain rfl := Option.some.inj H
     try go_wp2
     replace BK101 := Aside0.mk (blk_drew BK101.out)
     replace BK102 := Aside0.mk (blk_drew BK102.out)
     replace BK103 := Aside0.mk (blk_drew BK103.out)
     replace BK104 := Aside0.mk (blk_drew BK104.out)
     replace HB := Aside0.mk (below_drew1 HB.out)
     refine start_ (n := 27) (S := fun w' => w'.cell? ⟨gb101, 0, none⟩ = some (.int .i64 a0_0) ∧ w'.cell? ⟨gb101, 1, none⟩ = some (.int .i64 a0_1) ∧ w'.cell? ⟨gb102, 0, none⟩ = some (.int .i64 a1_0) ∧ w'.cell? ⟨gb102, 1, none⟩ = some (.int .i64 a1_1) ∧ w'.cell? ⟨gb103, 0, none⟩ = some (.int .i64 a2_0) ∧ w'.cell? ⟨gb103, 1, none⟩ = some (.int .i64 a2_1) ∧ w'.cell? ⟨gb104, 0, none⟩ = some (.int .i64 a3_0) ∧ w'.cell? ⟨gb104, 1, none⟩ = some (.int .i64 a3_1)) (ds := []) #[false, false, false, false, false, false, false, false, false, false, false, false, false, false, false, false, false, false, false, false, false, false, false, false, false, false, false] (by kernel_rfl) rfl rfl ⟨bc BK101 0, bc BK101 1, bc BK102 0, bc BK102 1, bc BK103 0, bc BK103 1, bc BK104 0, bc BK104 1⟩ (fun hHeld => ?_); refine with_tabW cracknelref04_Meet.tab3 cracknelref04_Meet.bits3 (fun HT_ HW_ => ?_)
     generalize wc.drew = w91 at BK101 BK102 BK103 BK104 HB hHeld ⊢
     refine tk8 0 31 hHeld HT_ HW_ ?_
     refine tk8 1 32 hHeld HT_ HW_ ?_
     refine tk8 2 33 hHeld HT_ HW_ ?_
     refine tk8 5 36 hHeld HT_ HW_ ?_
     refine tk8 6 37 hHeld HT_ HW_ ?_
     refine tk8 7 38 hHeld HT_ HW_ ?_
     refine one_ (i := 3) (N := some 34) #[true, true, true, true, false, true, true, true, false, false, false, false, false, false, false, false, false, false, false, false, false, false, false, false, false, false, false] rfl rfl (on1 HT_) (by decide) (fun K hK => ?_)
     refine goes_ Try.func61 (by kernel_rfl) rfl #[.agg #[.int .i64 a0_0, .int .i64 a0_1], .agg #[.int .i64 a1_0, .int .i64 a1_1], .agg #[.int .i64 a2_0, .int .i64 a2_1]] (by rfl) rfl rfl sg ?_
     with_reducible refine (cracknelref04_Cross.calls a0_0 a0_1 a1_0 a1_1 a2_0 a2_1 t109 _ A82.out).mono ?_
     rintro e w92 ⟨rfl, hb⟩
     refine ⟨_, rfl, ?_⟩
     replace BK101 := kb BK101 hb
     replace BK102 := kb BK102 hb
     replace BK103 := kb BK103 hb
     replace BK104 := kb BK104 hb
     replace HB := Aside0.mk (below_step bh hb)
     (try clear hb); (try clear hb2); (try clear hk); (try clear hi)
     refine hK.out _ _ ⟨bc BK101 0, bc BK101 1, bc BK102 0, bc BK102 1, bc BK103 0, bc BK103 1, bc BK104 0, bc BK104 1⟩ (fun hHeld => ?_)
     clear hK K
     refine nm 34 ?_
     refine one_ (i := 4) (N := some 35) #[true, true, true, true, true, true, true, true, false, false, false, false, false, false, false, false, false, false, false, false, false, false, false, false, false, false, false] rfl rfl (on1 HT_) (by decide) (fun K hK => ?_)
     refine goes_ Try.func97 (by kernel_rfl) rfl #[.int .i64 t109] (by rfl) rfl rfl sg ?_
     with_reducible refine (cracknelref04_sign.calls t109 t110 _ A83.out).mono ?_
     rintro e w' ⟨rfl, ⟨nd, rfl⟩⟩
     refine ⟨_, rfl, ?_⟩
     refine hK.out _ _ ⟨bc BK101 0, bc BK101 1, bc BK102 0, bc BK102 1, bc BK103 0, bc BK103 1, bc BK104 0, bc BK104 1⟩ (fun hHeld => ?_)
     clear hK K
     refine nm 35 ?_
     refine one_ (i := 8) (N := some 39) #[true, true, true, true, true, true, true, true, true, false, false, false, false, false, false, false, false, false, false, false, false, false, false, false, false, false, false] rfl rfl (on1 HT_) (by decide) (fun K hK => ?_)
     refine goes_ Try.func61 (by kernel_rfl) rfl #[.agg #[.int .i64 a0_0, .int .i64 a0_1], .agg #[.int .i64 a1_0, .int .i64 a1_1], .agg #[.int .i64 a3_0, .int .i64 a3_1]] (by rfl) rfl rfl sg ?_
     with_reducible refine (cracknelref04_Cross.calls a0_0 a0_1 a1_0 a1_1 a3_0 a3_1 t111 _ A84.out).mono ?_
     rintro e w93 ⟨rfl, hb⟩
     refine ⟨_, rfl, ?_⟩
     replace BK101 := kb BK101 hb
     replace BK102 := kb BK102 hb
     replace BK103 := kb BK103 hb
     replace BK104 := kb BK104 hb
     replace HB := Aside0.mk (below_step bh hb)
     (try clear hb); (try clear hb2); (try clear hk); (try clear hi)
     refine hK.out _ _ ⟨bc BK101 0, bc BK101 1, bc BK102 0, bc BK102 1, bc BK103 0, bc BK103 1, bc BK104 0, bc BK104 1⟩ (fun hHeld => ?_)
     clear hK K
     refine nm 39 ?_
     refine one_ (i := 9) (N := some 40) #[true, true, true, true, true, true, true, true, true, true, false, false, false, false, false, false, false, false, false, false, false, false, false, false, false, false, false] rfl rfl (on1 HT_) (by decide) (fun K hK => ?_)
     refine goes_ Try.func97 (by kernel_rfl) rfl #[.int .i64 t111] (by rfl) rfl rfl sg ?_
     with_reducible refine (cracknelref04_sign.calls t111 t112 _ A85.out).mono ?_
     rintro e w' ⟨rfl, ⟨nd, rfl⟩⟩
     refine ⟨_, rfl, ?_⟩
     refine hK.out _ _ ⟨bc BK101 0, bc BK101 1, bc BK102 0, bc BK102 1, bc BK103 0, bc BK103 1, bc BK104 0, bc BK104 1⟩ (fun hHeld => ?_)
     clear hK K
     refine nm 40 ?_
     refine pu 10 41 HT_ ?_
     refine pu 11 42 HT_ ?_
     refine pu 12 43 HT_ ?_
     refine tk8 13 44 hHeld HT_ HW_ ?_
     refine tk8 14 45 hHeld HT_ HW_ ?_
     refine tk8 15 46 hHeld HT_ HW_ ?_
     refine tk8 18 49 hHeld HT_ HW_ ?_
     refine tk8 19 50 hHeld HT_ HW_ ?_
     refine tk8 20 51 hHeld HT_ HW_ ?_
     refine one_ (i := 16) (N := some 47) #[true, true, true, true, true, true, true, true, true, true, true, true, true, true, true, true, true, false, true, true, true, false, false, false, false, false, false] rfl rfl (on1 HT_) (by decide) (fun K hK => ?_)
     refine goes_ Try.func61 (by kernel_rfl) rfl #[.agg #[.int .i64 a2_0, .int .i64 a2_1], .agg #[.int .i64 a3_0, .int .i64 a3_1], .agg #[.int .i64 a0_0, .int .i64 a0_1]] (by rfl) rfl rfl sg ?_
     with_reducible refine (cracknelref04_Cross.calls a2_0 a2_1 a3_0 a3_1 a0_0 a0_1 t113 _ A87.out).mono ?_
     rintro e w94 ⟨rfl, hb⟩
     refine ⟨_, rfl, ?_⟩
     replace BK101 := kb BK101 hb
     replace BK102 := kb BK102 hb
     replace BK103 := kb BK103 hb
     replace BK104 := kb BK104 hb
     replace HB := Aside0.mk (below_step bh hb)
     (try clear hb); (try clear hb2); (try clear hk); (try clear hi)
     refine hK.out _ _ ⟨bc BK101 0, bc BK101 1, bc BK102 0, bc BK102 1, bc BK103 0, bc BK103 1, bc BK104 0, bc BK104 1⟩ (fun hHeld => ?_)
     clear hK K
     refine nm 47 ?_
     refine one_ (i := 17) (N := some 48) #[true, true, true, true, true, true, true, true, true, true, true, true, true, true, true, true, true, true, true, true, true, false, false, false, false, false, false] rfl rfl (on1 HT_) (by decide) (fun K hK => ?_)
     refine goes_ Try.func97 (by kernel_rfl) rfl #[.int .i64 t113] (by rfl) rfl rfl sg ?_
     with_reducible refine (cracknelref04_sign.calls t113 t114 _ A88.out).mono ?_
     rintro e w' ⟨rfl, ⟨nd, rfl⟩⟩
     refine ⟨_, rfl, ?_⟩
     refine hK.out _ _ ⟨bc BK101 0, bc BK101 1, bc BK102 0, bc BK102 1, bc BK103 0, bc BK103 1, bc BK104 0, bc BK104 1⟩ (fun hHeld => ?_)
     clear hK K
     refine nm 48 ?_
     refine one_ (i := 21) (N := some 52) #[true, true, true, true, true, true, true, true, true, true, true, true, true, true, true, true, true, true, true, true, true, true, false, false, false, false, false] rfl rfl (on1 HT_) (by decide) (fun K hK => ?_)
     refine goes_ Try.func61 (by kernel_rfl) rfl #[.agg #[.int .i64 a2_0, .int .i64 a2_1], .agg #[.int .i64 a3_0, .int .i64 a3_1], .agg #[.int .i64 a1_0, .int .i64 a1_1]] (by rfl) rfl rfl sg ?_
     with_reducible refine (cracknelref04_Cross.calls a2_0 a2_1 a3_0 a3_1 a1_0 a1_1 t115 _ A89.out).mono ?_
     rintro e w95 ⟨rfl, hb⟩
     refine ⟨_, rfl, ?_⟩
     replace BK101 := kb BK101 hb
     replace BK102 := kb BK102 hb
     replace BK103 := kb BK103 hb
     replace BK104 := kb BK104 hb
     replace HB := Aside0.mk (below_step bh hb)
     (try clear hb); (try clear hb2); (try clear hk); (try clear hi)
     refine hK.out _ _ ⟨bc BK101 0, bc BK101 1, bc BK102 0, bc BK102 1, bc BK103 0, bc BK103 1, bc BK104 0, bc BK104 1⟩ (fun hHeld => ?_)
     clear hK K
     refine nm 52 ?_
     refine one_ (i := 22) (N := some 53) #[true, true, true, true, true, true, true, true, true, true, true, true, true, true, true, true, true, true, true, true, true, true, true, false, false, false, false] rfl rfl (on1 HT_) (by decide) (fun K hK => ?_)
     refine goes_ Try.func97 (by kernel_rfl) rfl #[.int .i64 t115] (by rfl) rfl rfl sg ?_
     with_reducible refine (cracknelref04_sign.calls t115 t116 _ A90.out).mono ?_
     rintro e w' ⟨rfl, ⟨nd, rfl⟩⟩
     refine ⟨_, rfl, ?_⟩
     refine hK.out _ _ ⟨bc BK101 0, bc BK101 1, bc BK102 0, bc BK102 1, bc BK103 0, bc BK103 1, bc BK104 0, bc BK104 1⟩ (fun hHeld => ?_)
     clear hK K
     refine nm 53 ?_
     refine pu 23 54 HT_ ?_
     refine pu 24 55 HT_ ?_
     refine pu 25 56 HT_ ?_
     refine pu 26 8 HT_ ?_
     refine done_ (done_of HT_.out (by kernel_rfl)) ?_
     try go_wp2
     go_ret
     exact ⟨by exact er, bh⟩
    ·rw [if_neg c86] at H
     have c86b0 : decide ((wrap64 (t110 * t112)) < 0) = false := decide_eq_false c86
     clear c86
     obtain rfl := Option.some.inj H
     try go_wp2
     replace BK101 := Aside0.mk (blk_drew BK101.out)
     replace BK102 := Aside0.mk (blk_drew BK102.out)
     replace BK103 := Aside0.mk (blk_drew BK103.out)
     replace BK104 := Aside0.mk (blk_drew BK104.out)
     replace HB := Aside0.mk (below_drew1 HB.out)
     refine start_ (n := 27) (S := fun w' => w'.cell? ⟨gb101, 0, none⟩ = some (.int .i64 a0_0) ∧ w'.cell? ⟨gb101, 1, none⟩ = some (.int .i64 a0_1) ∧ w'.cell? ⟨gb102, 0, none⟩ = some (.int .i64 a1_0) ∧ w'.cell? ⟨gb102, 1, none⟩ = some (.int .i64 a1_1) ∧ w'.cell? ⟨gb103, 0, none⟩ = some (.int .i64 a2_0) ∧ w'.cell? ⟨gb103, 1, none⟩ = some (.int .i64 a2_1) ∧ w'.cell? ⟨gb104, 0, none⟩ = some (.int .i64 a3_0) ∧ w'.cell? ⟨gb104, 1, none⟩ = some (.int .i64 a3_1)) (ds := []) #[false, false, false, false, false, false, false, false, false, false, false, false, false, false, false, false, false, false, false, false, false, false, false, false, false, false, false] (by kernel_rfl) rfl rfl ⟨bc BK101 0, bc BK101 1, bc BK102 0, bc BK102 1, bc BK103 0, bc BK103 1, bc BK104 0, bc BK104 1⟩ (fun hHeld => ?_); refine with_tabW cracknelref04_Meet.tab3 cracknelref04_Meet.bits3 (fun HT_ HW_ => ?_)
     generalize wc.drew = w96 at BK101 BK102 BK103 BK104 HB hHeld ⊢
     refine tk8 0 31 hHeld HT_ HW_ ?_
     refine tk8 1 32 hHeld HT_ HW_ ?_
     refine tk8 2 33 hHeld HT_ HW_ ?_
     refine tk8 5 36 hHeld HT_ HW_ ?_
     refine tk8 6 37 hHeld HT_ HW_ ?_
     refine tk8 7 38 hHeld HT_ HW_ ?_
     refine one_ (i := 3) (N := some 34) #[true, true, true, true, false, true, true, true, false, false, false, false, false, false, false, false, false, false, false, false, false, false, false, false, false, false, false] rfl rfl (on1 HT_) (by decide) (fun K hK => ?_)
     refine goes_ Try.func61 (by kernel_rfl) rfl #[.agg #[.int .i64 a0_0, .int .i64 a0_1], .agg #[.int .i64 a1_0, .int .i64 a1_1], .agg #[.int .i64 a2_0, .int .i64 a2_1]] (by rfl) rfl rfl sg ?_
     with_reducible refine (cracknelref04_Cross.calls a0_0 a0_1 a1_0 a1_1 a2_0 a2_1 t109 _ A82.out).mono ?_
     rintro e w97 ⟨rfl, hb⟩
     refine ⟨_, rfl, ?_⟩
     replace BK101 := kb BK101 hb
     replace BK102 := kb BK102 hb
     replace BK103 := kb BK103 hb
     replace BK104 := kb BK104 hb
     replace HB := Aside0.mk (below_step bh hb)
     (try clear hb); (try clear hb2); (try clear hk); (try clear hi)
     refine hK.out _ _ ⟨bc BK101 0, bc BK101 1, bc BK102 0, bc BK102 1, bc BK103 0, bc BK103 1, bc BK104 0, bc BK104 1⟩ (fun hHeld => ?_)
     clear hK K
     refine nm 34 ?_
     refine one_ (i := 4) (N := some 35) #[true, true, true, true, true, true, true, true, false, false, false, false, false, false, false, false, false, false, false, false, false, false, false, false, false, false, false] rfl rfl (on1 HT_) (by decide) (fun K hK => ?_)
     refine goes_ Try.func97 (by kernel_rfl) rfl #[.int .i64 t109] (by rfl) rfl rfl sg ?_
     with_reducible refine (cracknelref04_sign.calls t109 t110 _ A83.out).mono ?_
     rintro e w' ⟨rfl, ⟨nd, rfl⟩⟩
     refine ⟨_, rfl, ?_⟩
     refine hK.out _ _ ⟨bc BK101 0, bc BK101 1, bc BK102 0, bc BK102 1, bc BK103 0, bc BK103 1, bc BK104 0, bc BK104 1⟩ (fun hHeld => ?_)
     clear hK K
     refine nm 35 ?_
     refine one_ (i := 8) (N := some 39) #[true, true, true, true, true, true, true, true, true, false, false, false, false, false, false, false, false, false, false, false, false, false, false, false, false, false, false] rfl rfl (on1 HT_) (by decide) (fun K hK => ?_)
     refine goes_ Try.func61 (by kernel_rfl) rfl #[.agg #[.int .i64 a0_0, .int .i64 a0_1], .agg #[.int .i64 a1_0, .int .i64 a1_1], .agg #[.int .i64 a3_0, .int .i64 a3_1]] (by rfl) rfl rfl sg ?_
     with_reducible refine (cracknelref04_Cross.calls a0_0 a0_1 a1_0 a1_1 a3_0 a3_1 t111 _ A84.out).mono ?_
     rintro e w98 ⟨rfl, hb⟩
     refine ⟨_, rfl, ?_⟩
     replace BK101 := kb BK101 hb
     replace BK102 := kb BK102 hb
     replace BK103 := kb BK103 hb
     replace BK104 := kb BK104 hb
     replace HB := Aside0.mk (below_step bh hb)
     (try clear hb); (try clear hb2); (try clear hk); (try clear hi)
     refine hK.out _ _ ⟨bc BK101 0, bc BK101 1, bc BK102 0, bc BK102 1, bc BK103 0, bc BK103 1, bc BK104 0, bc BK104 1⟩ (fun hHeld => ?_)
     clear hK K
     refine nm 39 ?_
     refine one_ (i := 9) (N := some 40) #[true, true, true, true, true, true, true, true, true, true, false, false, false, false, false, false, false, false, false, false, false, false, false, false, false, false, false] rfl rfl (on1 HT_) (by decide) (fun K hK => ?_)
     refine goes_ Try.func97 (by kernel_rfl) rfl #[.int .i64 t111] (by rfl) rfl rfl sg ?_
     with_reducible refine (cracknelref04_sign.calls t111 t112 _ A85.out).mono ?_
     rintro e w' ⟨rfl, ⟨nd, rfl⟩⟩
     refine ⟨_, rfl, ?_⟩
     refine hK.out _ _ ⟨bc BK101 0, bc BK101 1, bc BK102 0, bc BK102 1, bc BK103 0, bc BK103 1, bc BK104 0, bc BK104 1⟩ (fun hHeld => ?_)
     clear hK K
     refine nm 40 ?_
     refine pu 10 41 HT_ ?_
     refine pu 11 42 HT_ ?_
     refine pu 12 43 HT_ ?_
     refine pz 13 44 HT_ ?_
     refine pz 14 45 HT_ ?_
     refine pz 15 46 HT_ ?_
     refine pz 16 47 HT_ ?_
     refine pz 17 48 HT_ ?_
     refine pz 18 49 HT_ ?_
     refine pz 19 50 HT_ ?_
     refine pz 20 51 HT_ ?_
     refine pz 21 52 HT_ ?_
     refine pz 22 53 HT_ ?_
     refine pz 23 54 HT_ ?_
     refine pz 24 55 HT_ ?_
     refine pu 25 56 HT_ ?_
     refine pu 26 8 HT_ ?_
     refine done_ (done_of HT_.out (by kernel_rfl)) ?_
     try go_wp2
     go_ret
     exact ⟨by exact er, bh⟩
end Go.Proofs.Ytoffmpkgickfhaa.PG
end
section
namespace Go.Proofs.Ytoffmpkgickfhaa.PG
open Go.RowKit Go.Proofs.YtoffmpkgickfhaaW.PrintWords Go.Proofs.YtoffmpkgickfhaaW.PrintLast Go.Proofs.YtoffmpkgickfhaaW.PrintMore
attribute [local go_sem] max2_int min2_int max_two min_two max_three min_three max_four min_four
set_option linter.unusedVariables false
set_option linter.unusedSimpArgs false
/-! ### cracknelref04_next: function 64 -/
def cracknelref04_next.f (l0 : List (S29)) (a1 : Int) : Option (Int × Int) := if (l0.length : Int) = 0 then (none) else (if 0 ≤ (Int.tmod (wrap64 (a1 + 1)) (l0.length : Int)) then (if (Int.tmod (wrap64 (a1 + 1)) (l0.length : Int)) < (l0.length : Int) then (some ((rd_T29 l0 (Int.tmod (wrap64 (a1 + 1)) (l0.length : Int))).f0, (rd_T29 l0 (Int.tmod (wrap64 (a1 + 1)) (l0.length : Int))).f1)) else (none)) else (none))
set_option maxHeartbeats 8000000 in
set_option maxRecDepth 100000 in
theorem cracknelref04_next.calls (A0 : Option Addr) (c0 : Nat) (l0 : List (S29)) (a1 : Int) (r1 : Int) (r2 : Int) (w : World) (hr0 : Kd.C k29 w A0 l0.length l0) (hc0 : l0.length ≤ c0) (h : cracknelref04_next.f l0 a1 = some (r1, r2)) :
  Calls Try.prog 64 #[.slice A0 l0.length c0, .int .i64 a1] w fun e w' => e = .returned (.agg #[.int .i64 r1, .int .i64 r2]) ∧ Below w.heap.size w w' := by
 have hu29 := Try.underlying29
 have HR0 := Aside0.mk hr0
 have HC0 := Aside0.mk hc0
 clear hr0 hc0
 have HB := Aside0.mk (Below.refl w.heap.size w)
 have H : (if (l0.length : Int) = 0 then (none) else (if 0 ≤ (Int.tmod (wrap64 (a1 + 1)) (l0.length : Int)) then (if (Int.tmod (wrap64 (a1 + 1)) (l0.length : Int)) < (l0.length : Int) then (some ((rd_T29 l0 (Int.tmod (wrap64 (a1 + 1)) (l0.length : Int))).f0, (rd_T29 l0 (Int.tmod (wrap64 (a1 + 1)) (l0.length : Int))).f1)) else (none)) else (none))) = some (r1, r2) := h
 clear h
 by_cases c3 : (l0.length : Int) = 0
 ·rw [if_pos c3] at H
  exact absurd H (by simp)
 ·rw [if_neg c3] at H
  have c3b0 : ((l0.length : Int) == 0) = false := beq_eq_false_iff_ne.mpr c3
  have c3b1 : ((l0.length : Int) != 0) = true := bne_iff_ne.mpr c3
  have c3b2 : ¬ (l0 = []) := fun h_ => c3 (by rw [h_]; rfl)
  obtain ⟨ji4, hji4⟩ : ∃ j_ : Int, (Int.tmod (wrap64 (a1 + 1)) (l0.length : Int)) = j_ := ⟨_, rfl⟩
  replace H : (if 0 ≤ (ji4) then (if (ji4) < (l0.length : Int) then (some ((rd_T29 l0 (ji4)).f0, (rd_T29 l0 (ji4)).f1)) else (none)) else (none)) = some (r1, r2) := by first | (rw [hji4] at H; exact H) | (simp only [hji4] at H ⊢; exact H)
  by_cases c5 : 0 ≤ (ji4)
  ·rw [if_pos c5] at H
   have c5b0 : decide (0 ≤ (ji4)) = true := decide_eq_true c5
   clear c5
   by_cases c6 : (ji4) < (l0.length : Int)
   ·rw [if_pos c6] at H
    have c6b0 : decide ((ji4) < (l0.length : Int)) = true := decide_eq_true c6
    clear c6
    simp only [Option.some.injEq, Prod.mk.injEq] at H
    obtain ⟨rfl, rfl⟩ := H
    go_enter Try.func64, Try.ntmps64
    go_wp2_with (first | ((with_reducible refine gate_dst (N := 4) rfl ?_); refine bxe 4 #[.int .i64 0, .int .i64 0] 29 ?_; intro gb101 hg w7 hbox hb; have n0_ := Aside0.mk (below_step bh hb); have n1_ := Aside0.mk (hbox); have n2_ := Aside0.mk (gs hg : w.heap.size ≤ gb101); have n3_ := Aside0.mk (gs hg : w.heap.size ≤ gb101); clear HB; have HB := n0_; have BK101 := n1_; have GW101 := n2_; have GE101 := n3_; clear n0_ n1_ n2_ n3_; clear hb hbox hg; have p102 : 0 ≤ ((ji4) : Int) := dt; have q102 : (ji4) < (l0.length : Int) := dt; obtain ⟨ad102, e102, hx102_0, hx102_1⟩ := at_T29 HR0.out (ji4) p102 q102; cases e102; replace hx102_0 := (HB.out.cell (World.block_lt_of_cell? w _ hx102_0)).trans hx102_0; replace hx102_1 := (HB.out.cell (World.block_lt_of_cell? w _ hx102_1)).trans hx102_1; replace p102 := eq_true p102; replace q102 := eq_true q102; have hcz8_0 : w7.cell? ⟨gb101, 0, none⟩ = some (.int .i64 0) := bc BK101 0; have hcz8_1 : w7.cell? ⟨gb101, 1, none⟩ = some (.int .i64 0) := bc BK101 1; have hfz8_0 := blk_frozen BK101.out 0; have hfz8_1 := blk_frozen BK101.out 1))
    refine bodyPost_ret (results_cell_row rfl _ _ gb101 29 #[.int .i64 ((rd_T29 l0 (ji4)).f0), .int .i64 ((rd_T29 l0 (ji4)).f1)] (0, 0) _ rfl (by (with_reducible repeat (first | refine blk_drewN ?_ _ | refine blk_drew ?_ | refine blk_alloc ?_ _)); refine blk_put (cs := #[.int .i64 ((rd_T29 l0 (ji4)).f0), .int .i64 0]) ?_ 1 _ rfl; (with_reducible repeat (first | refine blk_drewN ?_ _ | refine blk_drew ?_ | refine blk_alloc ?_ _)); refine blk_put (cs := #[.int .i64 0, .int .i64 0]) ?_ 0 _ rfl; (with_reducible repeat (first | refine blk_drewN ?_ _ | refine blk_drew ?_ | refine blk_alloc ?_ _)); exact BK101.out) Try.underlying29 rfl (by kernel_rfl)) rfl ?_
    exact ⟨by first | rfl | (simp [errW_none, errW_some] <;> rfl) | (simp only [← hji4]; first | rfl | (simp [errW_none, errW_some] <;> rfl)) | (simp [*, errW_none, errW_some] <;> rfl), bh⟩
   ·rw [if_neg c6] at H
    exact absurd H (by simp)
  ·rw [if_neg c5] at H
   exact absurd H (by simp)
end Go.Proofs.Ytoffmpkgickfhaa.PG
end
section
namespace Go.Proofs.Ytoffmpkgickfhaa.PG
open Go.RowKit Go.Proofs.YtoffmpkgickfhaaW.PrintWords Go.Proofs.YtoffmpkgickfhaaW.PrintLast Go.Proofs.YtoffmpkgickfhaaW.PrintMore
attribute [local go_sem] max2_int min2_int max_two min_two max_three min_three max_four min_four
set_option linter.unusedVariables false
set_option linter.unusedSimpArgs false
/-! ### cracknelref04_first: function 60 -/
def cracknelref04_first.f (a0_0 : Int) (a0_1 : Int) (a1_0 : Int) (a1_1 : Int) : Option (Bool) := if a0_1 < a1_1 then (some true) else (if a0_1 = a1_1 then (some (decide (a0_0 < a1_0))) else (some false))
set_option maxHeartbeats 8000000 in
set_option maxRecDepth 100000 in
theorem cracknelref04_first.calls (a0_0 : Int) (a0_1 : Int) (a1_0 : Int) (a1_1 : Int) (r : Bool) (w : World) (h : cracknelref04_first.f a0_0 a0_1 a1_0 a1_1 = some r) :
  Calls Try.prog 60 #[.agg #[.int .i64 a0_0, .int .i64 a0_1], .agg #[.int .i64 a1_0, .int .i64 a1_1]] w fun e w' => e = .returned (.bool r) ∧ Below w.heap.size w w' := by
 have hu29 := Try.underlying29
 have HB := Aside0.mk (Below.refl w.heap.size w)
 have H : (if a0_1 < a1_1 then (some true) else (if a0_1 = a1_1 then (some (decide (a0_0 < a1_0))) else (some false))) = some r := h
 clear h
 by_cases c3 : a0_1 < a1_1
 ·rw [if_pos c3] at H
  have c3b0 : decide (a0_1 < a1_1) = true := decide_eq_true c3
  clear c3
  obtain rfl := Option.some.inj H
  go_enter Try.func60, Try.ntmps60
  go_wp2_with (first | ((with_reducible refine gate_dst (N := 2) rfl ?_); refine bxe 2 #[.int .i64 a0_0, .int .i64 a0_1] 29 ?_; intro gb101 hg w4 hbox hb; have n0_ := Aside0.mk (below_step bh hb); have n1_ := Aside0.mk (hbox); have n2_ := Aside0.mk (gs hg : w.heap.size ≤ gb101); have n3_ := Aside0.mk (gs hg : w.heap.size ≤ gb101); clear HB; have HB := n0_; have BK101 := n1_; have GW101 := n2_; have GE101 := n3_; clear n0_ n1_ n2_ n3_; clear hb hbox hg) | ((with_reducible refine gate_dst (N := 3) rfl ?_); refine bxe 3 #[.int .i64 a1_0, .int .i64 a1_1] 29 ?_; intro gb102 hg w5 hbox hb; have n0_ := kb BK101 hb; have n1_ := Aside0.mk (below_step bh hb); have n2_ := Aside0.mk (hbox); have n3_ := Aside0.mk (gs hg : w.heap.size ≤ gb102); have n4_ := Aside0.mk (gs hg : w.heap.size ≤ gb102); have n5_ := Aside0.mk ((by rw [hg]; exact Nat.ne_of_lt (kl BK101) : gb101 ≠ gb102)); have n6_ := Aside0.mk ((by rw [hg]; exact Nat.ne_of_gt (kl BK101) : gb102 ≠ gb101)); clear BK101; clear HB; have BK101 := n0_; have HB := n1_; have BK102 := n2_; have GW102 := n3_; have GE102 := n4_; have NB101_102 := n5_; have NB102_101 := n6_; clear n0_ n1_ n2_ n3_ n4_ n5_ n6_; clear hb hbox hg; have hnb6 := NB101_102.out; have hnc6 := NB102_101.out; have hcz7_0 : w5.cell? ⟨gb101, 0, none⟩ = some (.int .i64 a0_0) := bc BK101 0; have hcz7_1 : w5.cell? ⟨gb101, 1, none⟩ = some (.int .i64 a0_1) := bc BK101 1; have hfz7_0 := blk_frozen BK101.out 0; have hfz7_1 := blk_frozen BK101.out 1; have hcz8_0 : w5.cell? ⟨gb102, 0, none⟩ = some (.int .i64 a1_0) := bc BK102 0; have hcz8_1 : w5.cell? ⟨gb102, 1, none⟩ = some (.int .i64 a1_1) := bc BK102 1; have hfz8_0 := blk_frozen BK102.out 0; have hfz8_1 := blk_frozen BK102.out 1))
  go_ret
  exact ⟨by exact er, bh⟩
 ·rw [if_neg c3] at H
  have c3b0 : decide (a0_1 < a1_1) = false := decide_eq_false c3
  clear c3
  by_cases c9 : a0_1 = a1_1
  ·rw [if_pos c9] at H
   have c9b0 : (a0_1 == a1_1) = true := beq_iff_eq.mpr c9
   have c9b1 : (a0_1 != a1_1) = false := bne_eq_false_iff_eq.mpr c9
   clear c9
   obtain rfl := Option.some.inj H
   go_enter Try.func60, Try.ntmps60
   go_wp2_with (first | ((with_reducible refine gate_dst (N := 2) rfl ?_); refine bxe 2 #[.int .i64 a0_0, .int .i64 a0_1] 29 ?_; intro gb101 hg w10 hbox hb; have n0_ := Aside0.mk (below_step bh hb); have n1_ := Aside0.mk (hbox); have n2_ := Aside0.mk (gs hg : w.heap.size ≤ gb101); have n3_ := Aside0.mk (gs hg : w.heap.size ≤ gb101); clear HB; have HB := n0_; have BK101 := n1_; have GW101 := n2_; have GE101 := n3_; clear n0_ n1_ n2_ n3_; clear hb hbox hg) | ((with_reducible refine gate_dst (N := 3) rfl ?_); refine bxe 3 #[.int .i64 a1_0, .int .i64 a1_1] 29 ?_; intro gb102 hg w11 hbox hb; have n0_ := kb BK101 hb; have n1_ := Aside0.mk (below_step bh hb); have n2_ := Aside0.mk (hbox); have n3_ := Aside0.mk (gs hg : w.heap.size ≤ gb102); have n4_ := Aside0.mk (gs hg : w.heap.size ≤ gb102); have n5_ := Aside0.mk ((by rw [hg]; exact Nat.ne_of_lt (kl BK101) : gb101 ≠ gb102)); have n6_ := Aside0.mk ((by rw [hg]; exact Nat.ne_of_gt (kl BK101) : gb102 ≠ gb101)); clear BK101; clear HB; have BK101 := n0_; have HB := n1_; have BK102 := n2_; have GW102 := n3_; have GE102 := n4_; have NB101_102 := n5_; have NB102_101 := n6_; clear n0_ n1_ n2_ n3_ n4_ n5_ n6_; clear hb hbox hg; have hnb12 := NB101_102.out; have hnc12 := NB102_101.out; have hcz13_0 : w11.cell? ⟨gb101, 0, none⟩ = some (.int .i64 a0_0) := bc BK101 0; have hcz13_1 : w11.cell? ⟨gb101, 1, none⟩ = some (.int .i64 a0_1) := bc BK101 1; have hfz13_0 := blk_frozen BK101.out 0; have hfz13_1 := blk_frozen BK101.out 1; have hcz14_0 : w11.cell? ⟨gb102, 0, none⟩ = some (.int .i64 a1_0) := bc BK102 0; have hcz14_1 : w11.cell? ⟨gb102, 1, none⟩ = some (.int .i64 a1_1) := bc BK102 1; have hfz14_0 := blk_frozen BK102.out 0; have hfz14_1 := blk_frozen BK102.out 1))
   go_ret
   exact ⟨by exact er, bh⟩
  ·rw [if_neg c9] at H
   have c9b0 : (a0_1 == a1_1) = false := beq_eq_false_iff_ne.mpr c9
   have c9b1 : (a0_1 != a1_1) = true := bne_iff_ne.mpr c9
   obtain rfl := Option.some.inj H
   go_enter Try.func60, Try.ntmps60
   go_wp2_with (first | ((with_reducible refine gate_dst (N := 2) rfl ?_); refine bxe 2 #[.int .i64 a0_0, .int .i64 a0_1] 29 ?_; intro gb101 hg w15 hbox hb; have n0_ := Aside0.mk (below_step bh hb); have n1_ := Aside0.mk (hbox); have n2_ := Aside0.mk (gs hg : w.heap.size ≤ gb101); have n3_ := Aside0.mk (gs hg : w.heap.size ≤ gb101); clear HB; have HB := n0_; have BK101 := n1_; have GW101 := n2_; have GE101 := n3_; clear n0_ n1_ n2_ n3_; clear hb hbox hg) | ((with_reducible refine gate_dst (N := 3) rfl ?_); refine bxe 3 #[.int .i64 a1_0, .int .i64 a1_1] 29 ?_; intro gb102 hg w16 hbox hb; have n0_ := kb BK101 hb; have n1_ := Aside0.mk (below_step bh hb); have n2_ := Aside0.mk (hbox); have n3_ := Aside0.mk (gs hg : w.heap.size ≤ gb102); have n4_ := Aside0.mk (gs hg : w.heap.size ≤ gb102); have n5_ := Aside0.mk ((by rw [hg]; exact Nat.ne_of_lt (kl BK101) : gb101 ≠ gb102)); have n6_ := Aside0.mk ((by rw [hg]; exact Nat.ne_of_gt (kl BK101) : gb102 ≠ gb101)); clear BK101; clear HB; have BK101 := n0_; have HB := n1_; have BK102 := n2_; have GW102 := n3_; have GE102 := n4_; have NB101_102 := n5_; have NB102_101 := n6_; clear n0_ n1_ n2_ n3_ n4_ n5_ n6_; clear hb hbox hg; have hnb17 := NB101_102.out; have hnc17 := NB102_101.out; have hcz18_0 : w16.cell? ⟨gb101, 0, none⟩ = some (.int .i64 a0_0) := bc BK101 0; have hcz18_1 : w16.cell? ⟨gb101, 1, none⟩ = some (.int .i64 a0_1) := bc BK101 1; have hfz18_0 := blk_frozen BK101.out 0; have hfz18_1 := blk_frozen BK101.out 1; have hcz19_0 : w16.cell? ⟨gb102, 0, none⟩ = some (.int .i64 a1_0) := bc BK102 0; have hcz19_1 : w16.cell? ⟨gb102, 1, none⟩ = some (.int .i64 a1_1) := bc BK102 1; have hfz19_0 := blk_frozen BK102.out 0; have hfz19_1 := blk_frozen BK102.out 1))
   go_ret
   exact ⟨by exact er, bh⟩
end Go.Proofs.Ytoffmpkgickfhaa.PG
end
section
namespace Go.Proofs.Ytoffmpkgickfhaa.PG
open Go.RowKit Go.Proofs.YtoffmpkgickfhaaW.PrintWords Go.Proofs.YtoffmpkgickfhaaW.PrintLast Go.Proofs.YtoffmpkgickfhaaW.PrintMore
attribute [local go_sem] max2_int min2_int max_two min_two max_three min_three max_four min_four
set_option linter.unusedVariables false
set_option linter.unusedSimpArgs false
/-! ### cracknelref04_Valid: function 17 -/
def cracknelref04_Valid.f (a0_0 : Int) (a0_1 : Int) (a1 : Int) : Option (Bool) := (cracknelref04_in.f a0_0 (wrap64 (-a1)) a1).bind fun t102 => (if t102 = true then ((cracknelref04_in.f a0_1 (wrap64 (-a1)) a1).bind fun t103 => (some t103)) else (some false))
set_option maxHeartbeats 8000000 in
set_option maxRecDepth 100000 in
theorem cracknelref04_Valid.calls (a0_0 : Int) (a0_1 : Int) (a1 : Int) (r : Bool) (w : World) (h : cracknelref04_Valid.f a0_0 a0_1 a1 = some r) :
  Calls Try.prog 17 #[.agg #[.int .i64 a0_0, .int .i64 a0_1], .int .i64 a1] w fun e w' => e = .returned (.bool r) ∧ Below w.heap.size w w' := by
 have hu29 := Try.underlying29
 have HB := Aside0.mk (Below.refl w.heap.size w)
 have H : ((cracknelref04_in.f a0_0 (wrap64 (-a1)) a1).bind fun t102 => (if t102 = true then ((cracknelref04_in.f a0_1 (wrap64 (-a1)) a1).bind fun t103 => (some t103)) else (some false))) = some r := h
 clear h
 replace H := Option.bind_eq_some_iff.mp H
 obtain ⟨t102, A30, H⟩ := H
 replace H : (if t102 = true then ((cracknelref04_in.f a0_1 (wrap64 (-a1)) a1).bind fun t103 => (some t103)) else (some false)) = some r := H
 have A3 := Aside0.mk A30
 clear A30
 by_cases c4 : t102 = true
 ·subst c4
  rw [if_pos rfl] at H
  replace H := Option.bind_eq_some_iff.mp H
  obtain ⟨t103, A50, H⟩ := H
  replace H : (some t103) = some r := H
  have A5 := Aside0.mk A50
  clear A50
  obtain rfl := Option.some.inj H
  go_enter Try.func17, Try.ntmps17
  go_wp2_with (first | ((with_reducible refine gate_dst (N := 2) rfl ?_); refine bxe 2 #[.int .i64 a0_0, .int .i64 a0_1] 29 ?_; intro gb101 hg w6 hbox hb; have n0_ := Aside0.mk (below_step bh hb); have n1_ := Aside0.mk (hbox); have n2_ := Aside0.mk (gs hg : w.heap.size ≤ gb101); have n3_ := Aside0.mk (gs hg : w.heap.size ≤ gb101); clear HB; have HB := n0_; have BK101 := n1_; have GW101 := n2_; have GE101 := n3_; clear n0_ n1_ n2_ n3_; clear hb hbox hg; have hcz7_0 : w6.cell? ⟨gb101, 0, none⟩ = some (.int .i64 a0_0) := bc BK101 0; have hcz7_1 : w6.cell? ⟨gb101, 1, none⟩ = some (.int .i64 a0_1) := bc BK101 1; have hfz7_0 := blk_frozen BK101.out 0; have hfz7_1 := blk_frozen BK101.out 1) | ((with_reducible refine gate_callee (f := 59) rfl ?_); refine goesL_ (some 10) rfl rfl Try.func59 (by kernel_rfl) rfl #[.int .i64 a0_0, .int .i64 (wrap64 (-a1)), .int .i64 a1] rfl sg ?_; (with_reducible refine (cracknelref04_in.calls a0_0 (wrap64 (-a1)) a1 true _ A3.out).mono ?_); rintro e w' ⟨rfl, ⟨nd, rfl⟩⟩; refine ⟨_, rfl, ?_⟩) | (go_at_call 59; (with_reducible refine (cracknelref04_in.calls a0_1 (wrap64 (-a1)) a1 t103 _ A5.out).mono ?_); rintro e w' ⟨rfl, ⟨nd, rfl⟩⟩))
  go_ret
  exact ⟨by exact er, bh⟩
 ·replace c4 := Bool.eq_false_iff.mpr c4
  subst c4
  rw [if_neg (show ¬ (false = true) by decide)] at H
  obtain rfl := Option.some.inj H
  go_enter Try.func17, Try.ntmps17
  go_wp2_with (first | ((with_reducible refine gate_dst (N := 2) rfl ?_); refine bxe 2 #[.int .i64 a0_0, .int .i64 a0_1] 29 ?_; intro gb101 hg w8 hbox hb; have n0_ := Aside0.mk (below_step bh hb); have n1_ := Aside0.mk (hbox); have n2_ := Aside0.mk (gs hg : w.heap.size ≤ gb101); have n3_ := Aside0.mk (gs hg : w.heap.size ≤ gb101); clear HB; have HB := n0_; have BK101 := n1_; have GW101 := n2_; have GE101 := n3_; clear n0_ n1_ n2_ n3_; clear hb hbox hg; have hcz9_0 : w8.cell? ⟨gb101, 0, none⟩ = some (.int .i64 a0_0) := bc BK101 0; have hcz9_1 : w8.cell? ⟨gb101, 1, none⟩ = some (.int .i64 a0_1) := bc BK101 1; have hfz9_0 := blk_frozen BK101.out 0; have hfz9_1 := blk_frozen BK101.out 1) | ((with_reducible refine gate_callee (f := 59) rfl ?_); refine goesL_ (some 10) rfl rfl Try.func59 (by kernel_rfl) rfl #[.int .i64 a0_0, .int .i64 (wrap64 (-a1)), .int .i64 a1] rfl sg ?_; (with_reducible refine (cracknelref04_in.calls a0_0 (wrap64 (-a1)) a1 false _ A3.out).mono ?_); rintro e w' ⟨rfl, ⟨nd, rfl⟩⟩; refine ⟨_, rfl, ?_⟩))
  go_ret
  exact ⟨by exact er, bh⟩
end Go.Proofs.Ytoffmpkgickfhaa.PG
end
section
namespace Go.Proofs.Ytoffmpkgickfhaa.M
open Go.RowKit Go.Proofs.Ytoffmpkgickfhaa.PG Go.Proofs.YtoffmpkgickfhaaW.PrintMore Go.Proofs.YtoffmpkgickfhaaW.PrintWords
/-- a function of fuel returns v from some fuel on -/
def Rt {α : Type} (g : Nat → Option α) (v : α) : Prop := ∃ K, ∀ k, K ≤ k → g k = some v
theorem wz (n : Int) (h0 : -9223372036854775808 ≤ n) (h1 : n ≤ 9223372036854775807) : wrap64 n = n := by unfold wrap64; omega
def Bd (p : Pt) : Prop := -1000000 ≤ p.f0 ∧ p.f0 ≤ 1000000 ∧ -1000000 ≤ p.f1 ∧ p.f1 ≤ 1000000
theorem mulb {a b : Int} (h0 : -2000000 ≤ a) (h1 : a ≤ 2000000) (h2 : -2000000 ≤ b) (h3 : b ≤ 2000000) : -4000000000000 ≤ a * b ∧ a * b ≤ 4000000000000 := by
 have h : (a * b).natAbs = a.natAbs * b.natAbs := Int.natAbs_mul a b
 have h' : a.natAbs * b.natAbs ≤ 2000000 * 2000000 := Nat.mul_le_mul (by omega) (by omega)
 omega
theorem cr_eq (a b c : Pt) : cr a b c = (b.f0 - a.f0) * (c.f1 - a.f1) - (c.f0 - a.f0) * (b.f1 - a.f1) := rfl
theorem cr_bd {a b c : Pt} (ha : Bd a) (hb : Bd b) (hc : Bd c) : -8000000000000 ≤ cr a b c ∧ cr a b c ≤ 8000000000000 := by
 obtain ⟨a0, a1, a2, a3⟩ := ha; obtain ⟨b0, b1, b2, b3⟩ := hb; obtain ⟨c0, c1, c2, c3⟩ := hc
 have h1 := @mulb (b.f0 - a.f0) (c.f1 - a.f1) (by omega) (by omega) (by omega) (by omega)
 have h2 := @mulb (c.f0 - a.f0) (b.f1 - a.f1) (by omega) (by omega) (by omega) (by omega)
 rw [cr_eq]; omega
theorem Cross_f {a b c : Pt} (ha : Bd a) (hb : Bd b) (hc : Bd c) : cracknelref04_Cross.f a.f0 a.f1 b.f0 b.f1 c.f0 c.f1 = some (cr a b c) := by
 obtain ⟨a0, a1, a2, a3⟩ := ha; obtain ⟨b0, b1, b2, b3⟩ := hb; obtain ⟨c0, c1, c2, c3⟩ := hc
 have h1 := @mulb (b.f0 - a.f0) (c.f1 - a.f1) (by omega) (by omega) (by omega) (by omega)
 have h2 := @mulb (c.f0 - a.f0) (b.f1 - a.f1) (by omega) (by omega) (by omega) (by omega)
 unfold cracknelref04_Cross.f
 rw [wz (b.f0 - a.f0) (by omega) (by omega), wz (c.f1 - a.f1) (by omega) (by omega), wz (c.f0 - a.f0) (by omega) (by omega), wz (b.f1 - a.f1) (by omega) (by omega), wz ((b.f0 - a.f0) * (c.f1 - a.f1)) (by omega) (by omega), wz ((c.f0 - a.f0) * (b.f1 - a.f1)) (by omega) (by omega), wz _ (by omega) (by omega), cr_eq]
theorem side_f {a b c : Pt} (ha : Bd a) (hb : Bd b) (hc : Bd c) : shape_side.f a.f0 a.f1 b.f0 b.f1 c.f0 c.f1 = some (cr a b c) := by
 obtain ⟨a0, a1, a2, a3⟩ := ha; obtain ⟨b0, b1, b2, b3⟩ := hb; obtain ⟨c0, c1, c2, c3⟩ := hc
 have h1 := @mulb (b.f0 - a.f0) (c.f1 - a.f1) (by omega) (by omega) (by omega) (by omega)
 have h2 := @mulb (b.f1 - a.f1) (c.f0 - a.f0) (by omega) (by omega) (by omega) (by omega)
 unfold shape_side.f shape_sub.f shape_cross.f
 simp only [Option.bind_some]
 rw [wz (b.f0 - a.f0) (by omega) (by omega), wz (c.f1 - a.f1) (by omega) (by omega), wz (c.f0 - a.f0) (by omega) (by omega), wz (b.f1 - a.f1) (by omega) (by omega), wz ((b.f0 - a.f0) * (c.f1 - a.f1)) (by omega) (by omega), wz ((b.f1 - a.f1) * (c.f0 - a.f0)) (by omega) (by omega), wz _ (by omega) (by omega), cr_eq]
 congr 1; grind
theorem in_f (v a b : Int) : cracknelref04_in.f v a b = some (decide (a ≤ v ∧ v ≤ b)) := by
 unfold cracknelref04_in.f
 by_cases h : v ≥ a
 ·rw [if_pos h]; simp; omega
 ·rw [if_neg h]; simp; omega
theorem mn_eq (a b : Int) : mn a b = min a b := by unfold mn; split <;> omega
theorem mx_eq (a b : Int) : mx a b = max a b := by unfold mx; split <;> omega
theorem On_f {a b c : Pt} (ha : Bd a) (hb : Bd b) (hc : Bd c) : cracknelref04_On.f a.f0 a.f1 b.f0 b.f1 c.f0 c.f1 = some (decide (On a b c)) := by
 unfold cracknelref04_On.f
 rw [Cross_f ha hb hc]
 simp only [Option.bind_some, in_f, mn_eq, mx_eq]
 by_cases h : cr a b c = 0
 ·rw [if_pos h]
  by_cases h2 : min a.f0 b.f0 ≤ c.f0 ∧ c.f0 ≤ max a.f0 b.f0
  ·simp only [h2, and_self, decide_true, if_true]; simp only [On, btw, h, h2, true_and]
  ·rw [if_neg (by simpa using h2)]; simp only [On, btw, h, true_and]; rw [decide_eq_false]; intro h3; exact h2 ⟨h3.1, h3.2.1⟩
 ·rw [if_neg h]; simp only [On, h, false_and, decide_false]
theorem sq_nn (x : Int) : 0 ≤ x * x := by
 rcases Int.le_total 0 x with h | h
 ·exact Int.mul_nonneg h h
 ·exact Int.mul_nonneg_of_nonpos_of_nonpos h h
/-- for points on one line: the inner product tells which are between -/
theorem dot_on {a b p : Pt} (h : cr a b p = 0) : (a.f0 - p.f0) * (b.f0 - p.f0) + (a.f1 - p.f1) * (b.f1 - p.f1) ≤ 0 ↔ btw a b p := by
 have hx : (a.f0 - p.f0) * (b.f1 - p.f1) = (a.f1 - p.f1) * (b.f0 - p.f0) := by rw [cr_eq] at h; grind
 generalize hu : a.f0 - p.f0 = u at *
 generalize hv : b.f0 - p.f0 = v at *
 generalize hs : a.f1 - p.f1 = s at *
 generalize ht : b.f1 - p.f1 = t at *
 have key : u * v + s * t ≤ 0 ↔ (u * v ≤ 0 ∧ s * t ≤ 0) := by
  constructor
  ·intro h0
   have e : (u * v) * (s * t) = (u * t) * (u * t) := by grind
   have sq : 0 ≤ (u * v) * (s * t) := by rw [e]; exact sq_nn _
   constructor
   ·rcases Int.lt_or_le 0 (u * v) with h1 | h1
    ·have h2 : s * t < 0 := by omega
     have := Int.mul_neg_of_pos_of_neg h1 h2; omega
    ·exact h1
   ·rcases Int.lt_or_le 0 (s * t) with h1 | h1
    ·have h2 : u * v < 0 := by omega
     have := Int.mul_neg_of_neg_of_pos h2 h1; omega
    ·exact h1
  ·omega
 have sgn : ∀ x y : Int, x * y ≤ 0 ↔ ((x ≤ 0 ∧ 0 ≤ y) ∨ (0 ≤ x ∧ y ≤ 0)) := by
  intro x y
  constructor
  ·intro h
   rcases Int.lt_trichotomy x 0 with h1 | h1 | h1
   ·rcases Int.lt_or_le y 0 with h2 | h2
    ·have := Int.mul_pos_of_neg_of_neg h1 h2; omega
    ·omega
   ·omega
   ·rcases Int.lt_or_le 0 y with h2 | h2
    ·have := Int.mul_pos h1 h2; omega
    ·omega
  ·rintro (⟨h1, h2⟩ | ⟨h1, h2⟩)
   ·exact Int.mul_nonpos_of_nonpos_of_nonneg h1 h2
   ·exact Int.mul_nonpos_of_nonneg_of_nonpos h1 h2
 rw [key, sgn, sgn]; unfold btw; omega
theorem dot_f {a b p : Pt} (ha : Bd a) (hb : Bd b) (hp : Bd p) : shape_dot.f (a.f0 - p.f0) (a.f1 - p.f1) (b.f0 - p.f0) (b.f1 - p.f1) = some ((a.f0 - p.f0) * (b.f0 - p.f0) + (a.f1 - p.f1) * (b.f1 - p.f1)) := by
 obtain ⟨a0, a1, a2, a3⟩ := ha; obtain ⟨b0, b1, b2, b3⟩ := hb; obtain ⟨c0, c1, c2, c3⟩ := hp
 have h1 := @mulb (a.f0 - p.f0) (b.f0 - p.f0) (by omega) (by omega) (by omega) (by omega)
 have h2 := @mulb (a.f1 - p.f1) (b.f1 - p.f1) (by omega) (by omega) (by omega) (by omega)
 unfold shape_dot.f
 rw [wz ((a.f0 - p.f0) * (b.f0 - p.f0)) (by omega) (by omega), wz ((a.f1 - p.f1) * (b.f1 - p.f1)) (by omega) (by omega), wz _ (by omega) (by omega)]
theorem sub_f {a b : Pt} (ha : Bd a) (hb : Bd b) : shape_sub.f a.f0 a.f1 b.f0 b.f1 = some (a.f0 - b.f0, a.f1 - b.f1) := by
 obtain ⟨a0, a1, a2, a3⟩ := ha; obtain ⟨b0, b1, b2, b3⟩ := hb
 unfold shape_sub.f
 rw [wz _ (by omega) (by omega), wz _ (by omega) (by omega)]
theorem on_f {a b c : Pt} (ha : Bd a) (hb : Bd b) (hc : Bd c) : shape_on.f a.f0 a.f1 b.f0 b.f1 c.f0 c.f1 = some (decide (On a b c)) := by
 unfold shape_on.f
 rw [side_f ha hb hc, sub_f ha hc, sub_f hb hc]
 simp only [Option.bind_some]
 rw [dot_f ha hb hc]
 simp only [Option.bind_some]
 by_cases h : cr a b c = 0
 ·rw [if_pos h]; have e := dot_on h; simp only [e, On, h, true_and]
 ·rw [if_neg h]; simp only [On, h, false_and, decide_false]
def sg (n : Int) : Int := if n > 0 then 1 else if n < 0 then -1 else 0
theorem refsign_f (n : Int) : cracknelref04_sign.f n = some (sg n) := by
 unfold cracknelref04_sign.f sg; split <;> (try split) <;> rfl
theorem compare_f (a b : Int) : cmp_Compare_int.f a b = some (sg (a - b)) := by
 unfold cmp_Compare_int.f cmp_isNaN_int.f sg
 simp
 split <;> (try split) <;> (try split) <;> (try split) <;> first | rfl | omega | (simp; done) | skip
theorem sign_f (n : Int) : shape_sign.f n = some (sg n) := by
 unfold shape_sign.f; rw [compare_f]; simp
theorem sg_neg (x y : Int) : wrap64 (sg x * sg y) < 0 ↔ ((0 < x ∧ y < 0) ∨ (x < 0 ∧ 0 < y)) := by
 unfold sg
 split <;> (try split) <;> (try split) <;> (try split) <;> simp only [wrap64] <;> omega
theorem refMeet_f {a b c d : Pt} (ha : Bd a) (hb : Bd b) (hc : Bd c) (hd : Bd d) (k : Nat) : cracknelref04_Meet.f (k + 1) a.f0 a.f1 b.f0 b.f1 c.f0 c.f1 d.f0 d.f1 = some (decide (Meet a b c d)) := by
 unfold cracknelref04_Meet.f
 simp only [cracknelref04_Meet.j0, On_f ha hb hc, On_f ha hb hd, On_f hc hd ha, On_f hc hd hb, Cross_f ha hb hc, Cross_f ha hb hd, Cross_f hc hd ha, Cross_f hc hd hb, refsign_f, Option.bind_some, sg_neg, decide_eq_true_eq]
 unfold Meet
 split
 ·simp_all
 ·split
  ·simp_all
  ·split
   ·simp_all
   ·split
    ·simp_all
    ·split <;> simp_all <;> omega
theorem meet_f {a b c d : Pt} (ha : Bd a) (hb : Bd b) (hc : Bd c) (hd : Bd d) (k : Nat) : shape_meet.f (k + 1) a.f0 a.f1 b.f0 b.f1 c.f0 c.f1 d.f0 d.f1 = some (decide (Meet a b c d)) := by
 unfold shape_meet.f
 simp only [shape_meet.j0, on_f ha hb hc, on_f ha hb hd, on_f hc hd ha, on_f hc hd hb, side_f ha hb hc, side_f ha hb hd, side_f hc hd ha, side_f hc hd hb, sign_f, Option.bind_some, sg_neg, decide_eq_true_eq]
 unfold Meet
 split
 ·simp_all
 ·split
  ·simp_all
  ·split
   ·simp_all
   ·split
    ·simp_all
    ·split <;> simp_all <;> omega
theorem rd_at (l : List Pt) (i : Nat) : rd_T29 l (i : Int) = at_ l i := rfl
theorem tmod_nat (i n : Nat) (h : (i : Int) ≤ 9223372036854775806) : Int.tmod (wrap64 ((i : Int) + 1)) (n : Int) = (((i + 1) % n : Nat) : Int) := by
 rw [wz _ (by omega) (by omega)]
 rw [show ((i : Int) + 1) = ((i + 1 : Nat) : Int) by omega, ← Int.ofNat_tmod]
theorem next_f {l : List Pt} {i : Nat} (hl : 0 < l.length) (hi : (i : Int) ≤ 9223372036854775806) : cracknelref04_next.f l (i : Int) = some ((at_ l ((i + 1) % l.length)).f0, (at_ l ((i + 1) % l.length)).f1) := by
 have h2 : (i + 1) % l.length < l.length := Nat.mod_lt _ hl
 unfold cracknelref04_next.f
 rw [tmod_nat i l.length hi, if_neg (by omega), if_pos (by omega), if_pos (by omega), rd_at]
theorem first_f (a b : Pt) : cracknelref04_first.f a.f0 a.f1 b.f0 b.f1 = some (decide (first a b)) := by
 unfold cracknelref04_first.f first
 split
 ·simp_all
 ·split
  ·simp_all
  ·simp_all
theorem pt_beq (a b : Pt) : (a.f0 == b.f0 && a.f1 == b.f1) = decide (a = b) := by
 by_cases h : a = b
 ·subst h; simp
 ·simp only [h, decide_false, Bool.and_eq_false_imp, beq_iff_eq]
  intro h0
  simp only [beq_eq_false_iff_ne, ne_eq]
  intro h1; exact h (pt_ext h0 h1)
end Go.Proofs.Ytoffmpkgickfhaa.M
end
