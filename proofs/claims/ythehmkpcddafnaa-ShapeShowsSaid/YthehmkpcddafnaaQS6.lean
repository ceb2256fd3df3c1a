/- Parts of the proof of YthehmkpcddafnaaLawShapeShows: printed walks, their words, and plain laws. -/
import Derived.Test.YthehmkpcddafnaaQS1
import Derived.Test.YthehmkpcddafnaaQS5
import Derived.Test.YthehmkpcddafnaaQS3
import Derived.Test.YthehmkpcddafnaaQS2
import Derived.Test.YthehmkpcddafnaaQS4
import Derived.KernelRfl
section
namespace Go.Proofs.Ythehmkpcddafnaa.PG
open Go.RowKit Go.Proofs.YthehmkpcddafnaaW.PrintWords Go.Proofs.YthehmkpcddafnaaW.PrintLast Go.Proofs.YthehmkpcddafnaaW.PrintMore
attribute [local go_sem] max2_int min2_int max_two min_two max_three min_three max_four min_four
set_option linter.unusedVariables false
set_option linter.unusedSimpArgs false
/-! ### shape_Hull: function 40 -/
def shape_Hull.j0 : Nat → List (S41) → Bool → Option ((List (S41)) × Int)
 | 0, _, _ => none
 | k + 1, x0, x20 => if x20 = true then (some (([] : List (S41)), 1)) else ((slices_Clone.f x0).bind fun t102 => ((slices_SortFunc_xy.f t102).bind fun t105 => ((slices_Compact.f t105).bind fun t106 => ((shape_chain.f k t106).bind fun t109 => ((slices_Reverse.f t106).bind fun t112 => ((shape_chain.f k t112).bind fun t113 => (if 0 ≤ (wrap64 ((t109.length : Int) - 1)) then (if (wrap64 ((t109.length : Int) - 1)) ≤ (t109.length : Int) then (if 0 ≤ (wrap64 ((t113.length : Int) - 1)) then (if (wrap64 ((t113.length : Int) - 1)) ≤ (t113.length : Int) then ((api_Point_95.f k (([(t109.take ((wrap64 ((t109.length : Int) - 1)) : Int).toNat), (t113.take ((wrap64 ((t113.length : Int) - 1)) : Int).toNat)] : List (List (S41))))).bind fun t129 => (if (t129.length : Int) < 3 then (some (([] : List (S41)), 6)) else ((shape_begun.f k t129).bind fun t132 => (some (t132, 0))))) else (none)) else (none)) else (none)) else (none))))))))
def shape_Hull.f (k : Nat) (l0 : List (S41)) : Option ((List (S41)) × Int) := if (l0.length : Int) < 1 then (shape_Hull.j0 k l0 true) else (if (l0.length : Int) > 32 then (shape_Hull.j0 k l0 true) else ((shape_within.f l0 10000).bind fun t101 => (shape_Hull.j0 k l0 (!t101))))
def shape_Hull.T9 : Bool × List (List Nat × List Nat) := (true, [([], []), ([], []), ([1], [1]), ([2], [2]), ([0, 3], [0, 3]), ([], []), ([], []), ([6], [6]), ([7], [7]), ([5, 8], [5, 8]), ([4, 9], [4, 9]), ([10], [10]), ([11, 11, 0, 1, 2, 3, 4, 5, 6, 7, 8, 9, 10, 11], [11])])
def shape_Hull.B9 : List Nat := [0, 0, 2, 6, 15, 0, 0, 64, 192, 480, 1023, 2047, 4095]
theorem shape_Hull.tab9 : rtab .any (opsOf Try.f40 9) = shape_Hull.T9 := by kernel_rfl
theorem shape_Hull.bits9 : waitsOk shape_Hull.T9.2 shape_Hull.B9 = true := by kernel_rfl
set_option maxHeartbeats 8000000 in
set_option maxRecDepth 100000 in
theorem shape_Hull.calls (k : Nat) (A0 : Option Addr) (c0 : Nat) (l0 : List (S41)) (r1 : List (S41)) (r2 : Int) (w : World) (hr0 : Kd.C k41 w A0 l0.length l0) (hc0 : l0.length ≤ c0) (h : shape_Hull.f k l0 = some (r1, r2)) :
  Calls Try.prog 40 #[.slice A0 l0.length c0] w fun e w' => ∃ v0_ : Value, e = .returned (.tuple #[v0_, .int .i64 r2]) ∧ Kd.R k41 41 w' w.heap.size (fun _ => True) v0_ r1 ∧ Below w.heap.size w w' := by
 have HR0 := Aside0.mk hr0
 have HC0 := Aside0.mk hc0
 clear hr0 hc0
 have HB := Aside0.mk (Below.refl w.heap.size w)
 have H : (if (l0.length : Int) < 1 then (shape_Hull.j0 k l0 true) else (if (l0.length : Int) > 32 then (shape_Hull.j0 k l0 true) else ((shape_within.f l0 10000).bind fun t101 => (shape_Hull.j0 k l0 (!t101))))) = some (r1, r2) := h
 clear h
 have HC2 := Aside0.mk H
 clear H
 go_enter Try.func40, Try.ntmps40
 go_upto_region 1 with (fail)
 go_cut [20] (fun v20 wc => ∃ (kq : Nat) (x20_1 : Bool), v20 = .bool x20_1 ∧ Aside0 (shape_Hull.j0 kq l0 x20_1 = some (r1, r2)) ∧ Aside0 (kq ≤ k) ∧ Aside0 (Below w.heap.size w wc))
 case first =>
  have H := HC2.out
  clear HC2
  by_cases c3 : (l0.length : Int) < 1
  ·rw [if_pos c3] at H
   have c3b0 := decide_eq_true c3
   have c3b1 : decide (l0.length < 1) = true := decide_eq_true (by omega)
   clear c3
   (first | rw [c3b0] | (simp only [i64_w, i32_w]; rw [c3b0]) | skip)
   have H' := Aside0.mk H
   clear H
   go_wp2
   go_meet
   case rel => exact ⟨_, (true), sd, H', ⟨om⟩, ⟨bh⟩⟩
  ·rw [if_neg c3] at H
   have c3b0 := decide_eq_false c3
   have c3b1 : decide (l0.length < 1) = false := decide_eq_false (by omega)
   clear c3
   (first | rw [c3b0] | (simp only [i64_w, i32_w]; rw [c3b0]) | skip)
   by_cases c4 : (l0.length : Int) > 32
   ·rw [if_pos c4] at H
    have c4b0 := decide_eq_true c4
    have c4b1 : decide (32 < l0.length) = true := decide_eq_true (by omega)
    clear c4
    have H' := Aside0.mk H
    clear H
    go_wp2
    go_meet
    case rel => exact ⟨_, (true), sd, H', ⟨om⟩, ⟨bh⟩⟩
   ·rw [if_neg c4] at H
    have c4b0 := decide_eq_false c4
    have c4b1 : decide (32 < l0.length) = false := decide_eq_false (by omega)
    clear c4
    replace H := Option.bind_eq_some_iff.mp H
    obtain ⟨t101, A50, H⟩ := H
    replace H : (shape_Hull.j0 k l0 (!t101)) = some (r1, r2) := H
    have A5 := Aside0.mk A50
    clear A50
    have H' := Aside0.mk H
    clear H
    go_wp2_with (first | (go_at_call 72; (with_reducible refine (shape_within.calls _ _ l0 10000 t101 _ ?side1 ?side2 A5.out).mono ?_); (case side1 => exact cs (Kd.C_below HR0.out HB.out)); (case side2 => exact HC0.out); rintro e w6 ⟨rfl, hb⟩; replace HB := bz hb; (try clear hb)))
    go_meet
    case rel => exact ⟨_, (!t101), sd, H', ⟨om⟩, ⟨bh⟩⟩
 case rest =>
  clear HC2
  skip
  obtain ⟨kq, x20_1, rfl, HA, HJ1, HB⟩ := hcut
  cases kq with
  | zero => exact absurd HA.out (by simp [shape_Hull.j0])
  | succ kj1 =>
   have H := HA.out
   clear HA
   simp only [shape_Hull.j0] at H
   by_cases c7 : x20_1 = true
   ·subst c7
    rw [if_pos rfl] at H
    simp only [Option.some.injEq, Prod.mk.injEq] at H
    obtain ⟨rfl, rfl⟩ := H
    go_wp2
    go_ret2
    exact ⟨_, by exact er, by first | exact Kd.R_nil _ _ _ _ _ | exact Kd.N_nil _ _ _ _ _ | exact Kd.V_nil _ _ _ _ _ | exact Kd.Q_nil _ _ _ _ _ | exact Kd.S_nil _ _ _ _ _, bh⟩
   ·replace c7 := Bool.eq_false_iff.mpr c7
    subst c7
    rw [if_neg (show ¬ (false = true) by decide)] at H
    replace H := Option.bind_eq_some_iff.mp H
    obtain ⟨t102, A80, H⟩ := H
    replace H : ((slices_SortFunc_xy.f t102).bind fun t105 => ((slices_Compact.f t105).bind fun t106 => ((shape_chain.f kj1 t106).bind fun t109 => ((slices_Reverse.f t106).bind fun t112 => ((shape_chain.f kj1 t112).bind fun t113 => (if 0 ≤ (wrap64 ((t109.length : Int) - 1)) then (if (wrap64 ((t109.length : Int) - 1)) ≤ (t109.length : Int) then (if 0 ≤ (wrap64 ((t113.length : Int) - 1)) then (if (wrap64 ((t113.length : Int) - 1)) ≤ (t113.length : Int) then ((api_Point_95.f kj1 (([(t109.take ((wrap64 ((t109.length : Int) - 1)) : Int).toNat), (t113.take ((wrap64 ((t113.length : Int) - 1)) : Int).toNat)] : List (List (S41))))).bind fun t129 => (if (t129.length : Int) < 3 then (some (([] : List (S41)), 6)) else ((shape_begun.f kj1 t129).bind fun t132 => (some (t132, 0))))) else (none)) else (none)) else (none)) else (none))))))) = some (r1, r2) := H
    have A8 := Aside0.mk A80
    clear A80
    replace H := Option.bind_eq_some_iff.mp H
    obtain ⟨t105, A90, H⟩ := H
    replace H : ((slices_Compact.f t105).bind fun t106 => ((shape_chain.f kj1 t106).bind fun t109 => ((slices_Reverse.f t106).bind fun t112 => ((shape_chain.f kj1 t112).bind fun t113 => (if 0 ≤ (wrap64 ((t109.length : Int) - 1)) then (if (wrap64 ((t109.length : Int) - 1)) ≤ (t109.length : Int) then (if 0 ≤ (wrap64 ((t113.length : Int) - 1)) then (if (wrap64 ((t113.length : Int) - 1)) ≤ (t113.length : Int) then ((api_Point_95.f kj1 (([(t109.take ((wrap64 ((t109.length : Int) - 1)) : Int).toNat), (t113.take ((wrap64 ((t113.length : Int) - 1)) : Int).toNat)] : List (List (S41))))).bind fun t129 => (if (t129.length : Int) < 3 then (some (([] : List (S41)), 6)) else ((shape_begun.f kj1 t129).bind fun t132 => (some (t132, 0))))) else (none)) else (none)) else (none)) else (none)))))) = some (r1, r2) := H
    have A9 := Aside0.mk A90
    clear A90
    replace H := Option.bind_eq_some_iff.mp H
    obtain ⟨t106, A100, H⟩ := H
    replace H : ((shape_chain.f kj1 t106).bind fun t109 => ((slices_Reverse.f t106).bind fun t112 => ((shape_chain.f kj1 t112).bind fun t113 => (if 0 ≤ (wrap64 ((t109.length : Int) - 1)) then (if (wrap64 ((t109.length : Int) - 1)) ≤ (t109.length : Int) then (if 0 ≤ (wrap64 ((t113.length : Int) - 1)) then (if (wrap64 ((t113.length : Int) - 1)) ≤ (t113.length : Int) then ((api_Point_95.f kj1 (([(t109.take ((wrap64 ((t109.length : Int) - 1)) : Int).toNat), (t113.take ((wrap64 ((t113.length : Int) - 1)) : Int).toNat)] : List (List (S41))))).bind fun t129 => (if (t129.length : Int) < 3 then (some (([] : List (S41)), 6)) else ((shape_begun.f kj1 t129).bind fun t132 => (some (t132, 0))))) else (none)) else (none)) else (none)) else (none))))) = some (r1, r2) := H
    have A10 := Aside0.mk A100
    clear A100
    replace H := Option.bind_eq_some_iff.mp H
    obtain ⟨t109, A110, H⟩ := H
    replace H : ((slices_Reverse.f t106).bind fun t112 => ((shape_chain.f kj1 t112).bind fun t113 => (if 0 ≤ (wrap64 ((t109.length : Int) - 1)) then (if (wrap64 ((t109.length : Int) - 1)) ≤ (t109.length : Int) then (if 0 ≤ (wrap64 ((t113.length : Int) - 1)) then (if (wrap64 ((t113.length : Int) - 1)) ≤ (t113.length : Int) then ((api_Point_95.f kj1 (([(t109.take ((wrap64 ((t109.length : Int) - 1)) : Int).toNat), (t113.take ((wrap64 ((t113.length : Int) - 1)) : Int).toNat)] : List (List (S41))))).bind fun t129 => (if (t129.length : Int) < 3 then (some (([] : List (S41)), 6)) else ((shape_begun.f kj1 t129).bind fun t132 => (some (t132, 0))))) else (none)) else (none)) else (none)) else (none)))) = some (r1, r2) := H
    have A11 := Aside0.mk A110
    clear A110
    replace H := Option.bind_eq_some_iff.mp H
    obtain ⟨t112, A120, H⟩ := H
    replace H : ((shape_chain.f kj1 t112).bind fun t113 => (if 0 ≤ (wrap64 ((t109.length : Int) - 1)) then (if (wrap64 ((t109.length : Int) - 1)) ≤ (t109.length : Int) then (if 0 ≤ (wrap64 ((t113.length : Int) - 1)) then (if (wrap64 ((t113.length : Int) - 1)) ≤ (t113.length : Int) then ((api_Point_95.f kj1 (([(t109.take ((wrap64 ((t109.length : Int) - 1)) : Int).toNat), (t113.take ((wrap64 ((t113.length : Int) - 1)) : Int).toNat)] : List (List (S41))))).bind fun t129 => (if (t129.length : Int) < 3 then (some (([] : List (S41)), 6)) else ((shape_begun.f kj1 t129).bind fun t132 => (some (t132, 0))))) else (none)) else (none)) else (none)) else (none))) = some (r1, r2) := H
    have A12 := Aside0.mk A120
    clear A120
    replace H := Option.bind_eq_some_iff.mp H
    obtain ⟨t113, A130, H⟩ := H
    replace H : (if 0 ≤ (wrap64 ((t109.length : Int) - 1)) then (if (wrap64 ((t109.length : Int) - 1)) ≤ (t109.length : Int) then (if 0 ≤ (wrap64 ((t113.length : Int) - 1)) then (if (wrap64 ((t113.length : Int) - 1)) ≤ (t113.length : Int) then ((api_Point_95.f kj1 (([(t109.take ((wrap64 ((t109.length : Int) - 1)) : Int).toNat), (t113.take ((wrap64 ((t113.length : Int) - 1)) : Int).toNat)] : List (List (S41))))).bind fun t129 => (if (t129.length : Int) < 3 then (some (([] : List (S41)), 6)) else ((shape_begun.f kj1 t129).bind fun t132 => (some (t132, 0))))) else (none)) else (none)) else (none)) else (none)) = some (r1, r2) := H
    have A13 := Aside0.mk A130
    clear A130
    obtain ⟨ji14, hji14⟩ : ∃ j_ : Int, (wrap64 ((t109.length : Int) - 1)) = j_ := ⟨_, rfl⟩
    replace H : (if 0 ≤ (ji14) then (if (ji14) ≤ (t109.length : Int) then (if 0 ≤ (wrap64 ((t113.length : Int) - 1)) then (if (wrap64 ((t113.length : Int) - 1)) ≤ (t113.length : Int) then ((api_Point_95.f kj1 (([(t109.take ((ji14) : Int).toNat), (t113.take ((wrap64 ((t113.length : Int) - 1)) : Int).toNat)] : List (List (S41))))).bind fun t129 => (if (t129.length : Int) < 3 then (some (([] : List (S41)), 6)) else ((shape_begun.f kj1 t129).bind fun t132 => (some (t132, 0))))) else (none)) else (none)) else (none)) else (none)) = some (r1, r2) := by first | (rw [hji14] at H; exact H) | (simp only [hji14] at H ⊢; exact H)
    (try rw [hji14] at A8)
    (try rw [hji14] at A9)
    (try rw [hji14] at A10)
    (try rw [hji14] at A11)
    (try rw [hji14] at A12)
    (try rw [hji14] at A13)
    have hji14w : (IntKind.i64.wrap ((t109.length : Int) - 1)) = ji14 := (i64_w _).trans hji14
    obtain ⟨c15, H⟩ := oi H
    have c15b0 := eq_true c15
    have c15b1 := decide_eq_true c15
    clear c15
    obtain ⟨c16, H⟩ := oi H
    have c16b0 := eq_true c16
    have c16b1 := decide_eq_true c16
    clear c16
    obtain ⟨y116, hy116⟩ : ∃ y_ : List (S41), y_ = (t109.take ((ji14) : Int).toNat) := ⟨_, rfl⟩
    replace H : (if 0 ≤ (wrap64 ((t113.length : Int) - 1)) then (if (wrap64 ((t113.length : Int) - 1)) ≤ (t113.length : Int) then ((api_Point_95.f kj1 (([y116, (t113.take ((wrap64 ((t113.length : Int) - 1)) : Int).toNat)] : List (List (S41))))).bind fun t129 => (if (t129.length : Int) < 3 then (some (([] : List (S41)), 6)) else ((shape_begun.f kj1 t129).bind fun t132 => (some (t132, 0))))) else (none)) else (none)) = some (r1, r2) := by first | (rw [hy116]; with_reducible exact H) | (have H2_ := (Option.bind_some _ _).symm.trans H; rw [hy116]; with_reducible exact H2_) | (have H2_ := (Option.bind_some _ _).symm.trans H; with_reducible exact H2_) | with_reducible exact H | (rw [hy116]; exact H) | exact H
    have Ny116 := Aside0.mk hy116
    clear hy116
    obtain ⟨ji17, hji17⟩ : ∃ j_ : Int, (wrap64 ((t113.length : Int) - 1)) = j_ := ⟨_, rfl⟩
    replace H : (if 0 ≤ (ji17) then (if (ji17) ≤ (t113.length : Int) then ((api_Point_95.f kj1 (([y116, (t113.take ((ji17) : Int).toNat)] : List (List (S41))))).bind fun t129 => (if (t129.length : Int) < 3 then (some (([] : List (S41)), 6)) else ((shape_begun.f kj1 t129).bind fun t132 => (some (t132, 0))))) else (none)) else (none)) = some (r1, r2) := by first | (rw [hji17] at H; exact H) | (simp only [hji17] at H ⊢; exact H)
    (try rw [hji17] at A8)
    (try rw [hji17] at A9)
    (try rw [hji17] at A10)
    (try rw [hji17] at A11)
    (try rw [hji17] at A12)
    (try rw [hji17] at A13)
    have hji17w : (IntKind.i64.wrap ((t113.length : Int) - 1)) = ji17 := (i64_w _).trans hji17
    obtain ⟨c18, H⟩ := oi H
    have c18b0 := eq_true c18
    have c18b1 := decide_eq_true c18
    clear c18
    obtain ⟨c19, H⟩ := oi H
    have c19b0 := eq_true c19
    have c19b1 := decide_eq_true c19
    clear c19
    obtain ⟨y121, hy121⟩ : ∃ y_ : List (S41), y_ = (t113.take ((ji17) : Int).toNat) := ⟨_, rfl⟩
    replace H : ((api_Point_95.f kj1 (([y116, y121] : List (List (S41))))).bind fun t129 => (if (t129.length : Int) < 3 then (some (([] : List (S41)), 6)) else ((shape_begun.f kj1 t129).bind fun t132 => (some (t132, 0))))) = some (r1, r2) := by first | (rw [hy121]; with_reducible exact H) | (have H2_ := (Option.bind_some _ _).symm.trans H; rw [hy121]; with_reducible exact H2_) | (have H2_ := (Option.bind_some _ _).symm.trans H; with_reducible exact H2_) | with_reducible exact H | (rw [hy121]; exact H) | exact H
    have Ny121 := Aside0.mk hy121
    clear hy121
    obtain ⟨y126, hy126⟩ : ∃ y_ : List (List (S41)), y_ = (([y116, y121] : List (List (S41)))) := ⟨_, rfl⟩
    replace H : ((api_Point_95.f kj1 y126).bind fun t129 => (if (t129.length : Int) < 3 then (some (([] : List (S41)), 6)) else ((shape_begun.f kj1 t129).bind fun t132 => (some (t132, 0))))) = some (r1, r2) := by first | (rw [hy126]; with_reducible exact H) | (have H2_ := (Option.bind_some _ _).symm.trans H; rw [hy126]; with_reducible exact H2_) | (have H2_ := (Option.bind_some _ _).symm.trans H; with_reducible exact H2_) | with_reducible exact H | (rw [hy126]; exact H) | exact H
    have Ny126 := Aside0.mk hy126
    clear hy126
    replace H := Option.bind_eq_some_iff.mp H
    obtain ⟨t129, A200, H⟩ := H
    replace H : (if (t129.length : Int) < 3 then (some (([] : List (S41)), 6)) else ((shape_begun.f kj1 t129).bind fun t132 => (some (t132, 0)))) = some (r1, r2) := H
    have A20 := Aside0.mk A200
    clear A200
    by_cases c21 : (t129.length : Int) < 3
    ·rw [if_pos c21] at H
     have c21b0 := decide_eq_true c21
     have c21b1 : decide (t129.length < 3) = true := decide_eq_true (by omega)
     clear c21
     simp only [Option.some.injEq, Prod.mk.injEq] at H
     obtain ⟨rfl, rfl⟩ := H
     try go_wp2_with (first | ((with_reducible refine gc 87 rfl ?_); refine goesL_ (some 22) rfl rfl Try.func87 (by kernel_rfl) rfl #[.slice A0 l0.length c0] rfl sg ?_; (with_reducible refine (slices_Clone.calls _ _ l0 t102 _ ?side1 ?side2 A8.out).mono ?_); (case side1 => exact cs (Kd.C_below HR0.out HB.out)); (case side2 => exact HC0.out); rintro e w22 ⟨v103, rfl, ho0, hb⟩; refine ⟨_, rfl, ?_⟩; have HO104 := Aside0.mk (Kd.R_lower ho0 (below_size bh)); replace HB := bz hb; (try clear hb); (try clear ho0); obtain ⟨Ao23, co23, eo23⟩ := Kd.R_slice HO104.out; subst eo23) | ((with_reducible refine gc 88 rfl ?_); refine goesL_ (some 24) rfl rfl Try.func88 (by kernel_rfl) rfl #[.slice Ao23 t102.length co23, .func (.func 89) #[] #[]] rfl sg ?_; (with_reducible refine (slices_SortFunc_xy.calls (fun k_ => some k_ = (.slice Ao23 t102.length co23 : Value).ownBlock) (.slice Ao23 t102.length co23) t102  t105 w _ ?side1 ?side2 A9.out).mono ?_); (case side1 => repeat (first | (with_reducible first | exact HB.out | apply below_alloc | apply pw_below_drewN | apply below_drew1) | exact HB.out)); (case side2 => exact Kd.R_tight rfl HO104.out); rintro e w24 ⟨rfl, hy0, hb, hkp⟩; refine ⟨_, rfl, ?_⟩; replace HO104 := Aside0.mk (Kd.R_reok rfl hy0 (fun k_ e_ => HO104.out.1 k_ e_)); replace HB := Aside0.mk (hb); (try clear hb); (try clear hkp); (try clear hy0)) | ((with_reducible refine gc 92 rfl ?_); refine goesL_ (some 26) rfl rfl Try.func92 (by kernel_rfl) rfl #[.slice Ao23 t102.length co23] rfl sg ?_; (with_reducible refine (slices_Compact.calls (fun k_ => some k_ = (.slice Ao23 t102.length co23 : Value).ownBlock) (.slice Ao23 t102.length co23) t105 t106 w _ ?side1 ?side2 A10.out).mono ?_); (case side1 => repeat (first | (with_reducible first | exact HB.out | apply below_alloc | apply pw_below_drewN | apply below_drew1) | exact HB.out)); (case side2 => exact Kd.R_tight rfl HO104.out); rintro e w25 ⟨v107, rfl, ho0, hb, hkp⟩; refine ⟨_, rfl, ?_⟩; have HO108 := Aside0.mk (Kd.R_mono (ok' := fun k_ => True) ho0 (fun k_ hk_ => trivial)); replace HB := Aside0.mk (hb); clear HO104; (try clear hb); (try clear hkp); (try clear ho0); obtain ⟨Ao26, co26, eo26⟩ := Kd.R_slice HO108.out; subst eo26) | ((with_reducible refine gc 93 rfl ?_); refine goesL_ (some 28) rfl rfl Try.func93 (by kernel_rfl) rfl #[.slice Ao26 t106.length co26] rfl sg ?_; (with_reducible refine (shape_chain.calls kj1 _ _ t106 t109 _ ?side1 ?side2 A11.out).mono ?_); (case side1 => exact cs (Kd.R_reads' HO108.out).2.2); (case side2 => exact (Kd.R_reads' HO108.out).2.1); rintro e w27 ⟨v110, rfl, ho0, hb⟩; refine ⟨_, rfl, ?_⟩; have HO111 := Aside0.mk (Kd.R_lower (Kd.R_new' ho0 (Kd.R_lt (ro HO108))) (below_size bh)); replace HO108 := Aside0.mk (Kd.R_elder' (ro HO108) (Kd.R_base ho0) hb); replace HB := bz hb; (try clear hb); (try clear ho0)) | ((with_reducible refine gc 94 rfl ?_); refine goesL_ (some 30) rfl rfl Try.func94 (by kernel_rfl) rfl #[.slice Ao26 t106.length co26] rfl sg ?_; (with_reducible refine (slices_Reverse.calls (fun k_ => some k_ = (.slice Ao26 t106.length co26 : Value).ownBlock) (.slice Ao26 t106.length co26) t106 t112 w _ ?side1 ?side2 A12.out).mono ?_); (case side1 => repeat (first | (with_reducible first | exact HB.out | apply below_alloc | apply pw_below_drewN | apply below_drew1) | exact HB.out)); (case side2 => exact Kd.R_tight rfl HO108.out); rintro e w28 ⟨rfl, hy0, hb, hkp⟩; refine ⟨_, rfl, ?_⟩; replace HO108 := Aside0.mk (Kd.R_reok rfl hy0 (fun k_ e_ => HO108.out.1 k_ e_)); replace HO111 := Aside0.mk (Kd.R_mono (ok' := fun k_ => some k_ ≠ (.slice Ao26 t106.length co26 : Value).ownBlock) (Kd.R_keptB (HO111.out) hkp (fun k_ hk_ hs_ => (hk_.2) hs_)) (fun k_ hk_ => hk_.1.2)); replace HB := Aside0.mk (hb); (try clear hb); (try clear hkp); (try clear hy0)) | ((with_reducible refine gc 93 rfl ?_); refine goesL_ (some 32) rfl rfl Try.func93 (by kernel_rfl) rfl #[.slice Ao26 t112.length co26] rfl (by (try simp only [List.map_toArray, List.map_cons, List.map_nil]); first | done | (rw [show t112.length = t106.length from (Kd.R_reads' HO108.out).1.symm] <;> rfl) | rfl | (simp only [List.length_drop, List.length_take]; rfl)) ?_; (with_reducible refine (shape_chain.calls kj1 _ _ t112 t113 _ ?side1 ?side2 A13.out).mono ?_); (case side1 => exact cs (Kd.R_reads' HO108.out).2.2); (case side2 => rw [show t112.length = t106.length from (Kd.R_reads' HO108.out).1.symm]; exact (Kd.R_reads' HO108.out).2.1); rintro e w29 ⟨v114, rfl, ho0, hb⟩; refine ⟨_, rfl, ?_⟩; have HO115 := Aside0.mk (Kd.R_lower (Kd.R_new' (Kd.R_new' ho0 (Kd.R_lt (ro HO108))) (Kd.R_lt (ro HO111))) (below_size bh)); replace HO108 := Aside0.mk (Kd.R_elder' (ro HO108) (Kd.R_base ho0) hb); replace HO111 := Aside0.mk (Kd.R_elder' (ro HO111) (Kd.R_base ho0) hb); replace HB := bz hb; (try clear hb); (try clear ho0)))
     replace HO108 := Aside0.mk (Kd.R_drew HO108.out)
     replace HO111 := Aside0.mk (Kd.R_drew HO111.out)
     replace HO115 := Aside0.mk (Kd.R_drew HO115.out)
     replace HB := Aside0.mk (below_drew1 HB.out)
     obtain ⟨Ao31, co31, eo31⟩ := Kd.R_slice HO111.out
     (first | subst eo31 | (injection eo31 with f1_ f2_ f3_; have f4_ := f1_.symm; have f5_ := f3_.symm; clear f1_ f2_ f3_; subst f4_; subst f5_))
     have q32 : ((ji14) : Int) ≤ ((t109.length : Int) : Int) := dt
     obtain ⟨i032, hi032, _, hsz32, _⟩ := info_parts info41
     have hroom32 : t109.length ≤ co31 := (Kd.R_reads' HO111.out).2.1
     have hC32 : Kd.F k41 _ _ Ao31 t109.length t109 := (Kd.V_at (base := w.heap.size) (Kd.R_V HO111.out)).2.2
     have hcut32 := cut_to (P := Try.prog) 22 41 .i64 Try.underlying22 hi032 Ao31 t109.length co31 (ji14) (dt) q32 hroom32
     have hr32 := Kd.F_take (m := ((ji14) : Int).toNat) hC32 (by omega)
     have hy32 : y116.length = ((ji14) : Int).toNat := (by rw [Ny116.out, List.length_take]; omega)
     rw [← Ny116.out] at hr32
     rw [← hy32] at hcut32
     have HO120 := Aside0.mk (show Kd.V k41 41 _ w.heap.size _ (.slice Ao31 y116.length co31) y116 from Kd.V_mk (by omega) hr32)
     have HC120 := Aside0.mk (show y116.length ≤ co31 from by omega)
     clear hr32 hC32 hroom32 hi032 hsz32
     have KY32 := Aside0.mk hy32
     clear hy32
     replace q32 := eq_true q32
     obtain ⟨Ao33, co33, eo33⟩ := Kd.R_slice HO115.out
     (first | subst eo33 | (injection eo33 with f1_ f2_ f3_; have f4_ := f1_.symm; have f5_ := f3_.symm; clear f1_ f2_ f3_; subst f4_; subst f5_))
     have q34 : ((ji17) : Int) ≤ ((t113.length : Int) : Int) := dt
     obtain ⟨i034, hi034, _, hsz34, _⟩ := info_parts info41
     have hroom34 : t113.length ≤ co33 := (Kd.R_reads' HO115.out).2.1
     have hC34 : Kd.F k41 _ _ Ao33 t113.length t113 := (Kd.V_at (base := w.heap.size) (Kd.R_V HO115.out)).2.2
     have hcut34 := cut_to (P := Try.prog) 22 41 .i64 Try.underlying22 hi034 Ao33 t113.length co33 (ji17) (dt) q34 hroom34
     have hr34 := Kd.F_take (m := ((ji17) : Int).toNat) hC34 (by omega)
     have hy34 : y121.length = ((ji17) : Int).toNat := (by rw [Ny121.out, List.length_take]; omega)
     rw [← Ny121.out] at hr34
     rw [← hy34] at hcut34
     have HO125 := Aside0.mk (show Kd.V k41 41 _ w.heap.size _ (.slice Ao33 y121.length co33) y121 from Kd.V_mk (by omega) hr34)
     have HC125 := Aside0.mk (show y121.length ≤ co33 from by omega)
     clear hr34 hC34 hroom34 hi034 hsz34
     have KY34 := Aside0.mk hy34
     clear hy34
     replace q34 := eq_true q34
     refine start_ (n := 13) (S := fun w' => True) (ds := []) #[N,N,N,N,N,N,N,N,N,N,N,N,N] (by kernel_rfl) rfl rfl trivial (fun hHeld => ?_); refine with_tabW shape_Hull.tab9 shape_Hull.bits9 (fun HT_ HW_ => ?_)
     generalize w29.drew = w30 at HO108 HO111 HO115 HB HO120 HO125 hHeld ⊢
     refine pu 0 33 HT_ ?_
     refine pu 1 34 HT_ ?_
     refine pu 2 35 HT_ ?_
     refine pu 3 36 HT_ ?_
     refine pu 4 37 HT_ ?_
     refine pu 5 38 HT_ ?_
     refine pu 6 39 HT_ ?_
     refine pu 7 40 HT_ ?_
     refine pu 8 41 HT_ ?_
     refine pu 9 42 HT_ ?_
     refine one_ (i := 10) (N := some 43) #[T,T,T,T,T,T,T,T,T,T,T,N,N] rfl rfl (on1 HT_) (by decide) (fun K hK => ?_)
     refine Kd.N_lit_step (Kd.slice 41 k41) _ 22 ?hg (N' := 43) ?hd (xs := ([y116, y121] : List (List (S41)))) (inner := [.slice Ao31 y116.length co31, .slice Ao33 y121.length co33]) (ok := (fun k_ => some k_ ≠ (.slice Ao26 t106.length co26 : Value).ownBlock)) (okp := (fun k_ => some k_ ≠ (.slice Ao26 t106.length co26 : Value).ownBlock)) ?hr ?hp (fun _ hk => hk) ((show ∀ k_, w30.heap.size ≤ k_ → (fun k_ => some k_ ≠ (.slice Ao26 t106.length co26 : Value).ownBlock) k_ from fun k_ hk => Kd.fresh' (Kd.R_lt (ro HO108)) k_ hk) _ (Nat.le_refl _)) (Below.refl _ _) (Nat.le_refl _) (by simp) ?_; (case hd => rfl); (case hg => rfl); (case hr => first | (go_simp; done) | (go_simp; rfl)); (case hp => exact (Reps.one (show Kd.FK (Kd.slice 41 k41) _ _ y116 [.slice Ao31 y116.length co31] from (Kd.FK_slice_mk (Kd.V_reads' (Kd.V_mono (ok' := (fun k_ => some k_ ≠ (.slice Ao26 t106.length co26 : Value).ownBlock)) (HO120.out) (fun k_ hk => hk.1))).2.1 (Kd.V_F (Kd.V_mono (ok' := (fun k_ => some k_ ≠ (.slice Ao26 t106.length co26 : Value).ownBlock)) (HO120.out) (fun k_ hk => hk.1))))) (Reps.one (show Kd.FK (Kd.slice 41 k41) _ _ y121 [.slice Ao33 y121.length co33] from (Kd.FK_slice_mk (Kd.V_reads' (Kd.V_mono (ok' := (fun k_ => some k_ ≠ (.slice Ao26 t106.length co26 : Value).ownBlock)) (HO125.out) (fun k_ hk => hk.1.2))).2.1 (Kd.V_F (Kd.V_mono (ok' := (fun k_ => some k_ ≠ (.slice Ao26 t106.length co26 : Value).ownBlock)) (HO125.out) (fun k_ hk => hk.1.2))))) (Reps.none _ _))))
     intro v127 w35 ho36 hb hg_ hnew_
     clear hg_ hnew_
     (first | rw [← Ny126.out] at ho36 | (simp only [Int.reduceToNat] at ho36; rw [← Ny126.out] at ho36))
     have HO128 := Aside0.mk (Kd.N_lower ho36 (below_size bh))
     replace HO108 := Aside0.mk (Kd.R_below (ro HO108) hb)
     replace HO111 := Aside0.mk (Kd.R_below (ro HO111) hb)
     replace HO115 := Aside0.mk (Kd.R_below (ro HO115) hb)
     replace HO120 := Aside0.mk (Kd.V_elder' (vo HO120) (Kd.N_base ho36) hb)
     replace HO125 := Aside0.mk (Kd.V_elder' (vo HO125) (Kd.N_base ho36) hb)
     replace HB := bz hb
     clear hb ho36
     obtain ⟨Ao37, co37, eo37⟩ := Kd.N_slice HO128.out
     (first | subst eo37 | (injection eo37 with f1_ f2_ f3_; have f4_ := f1_.symm; have f5_ := f3_.symm; clear f1_ f2_ f3_; subst f4_; subst f5_))
     refine hK.out _ _ trivial (fun hHeld => ?_)
     clear hK K
     refine nm 43 ?_
     refine one_ (i := 11) (N := some 44) #[T,T,T,T,T,T,T,T,T,T,T,T,N] rfl rfl (on1 HT_) (by decide) (fun K hK => ?_)
     refine goes_ Try.func95 (by kernel_rfl) rfl #[.slice Ao37 y126.length co37] (by rfl) rfl rfl sg ?_
     with_reducible refine (api_Point_95.calls kj1 _ _ y126 t129 _ ?side1 ?side2 A20.out).mono ?_
     (case side1 => exact cs (Kd.N_reads' HO128.out).2.2)
     (case side2 => exact (Kd.N_reads' HO128.out).2.1)
     rintro e w38 ⟨v130, rfl, ho0, hb⟩
     refine ⟨_, rfl, ?_⟩
     have HO131 := Aside0.mk (Kd.R_lower (Kd.R_new' (Kd.R_new' (Kd.R_new' ho0 (Kd.R_lt (ro HO108))) (Kd.R_lt (ro HO111))) (Kd.R_lt (ro HO115))) (below_size bh))
     replace HO108 := Aside0.mk (Kd.R_elder' (ro HO108) (Kd.R_base ho0) hb)
     replace HO111 := Aside0.mk (Kd.R_elder' (ro HO111) (Kd.R_base ho0) hb)
     replace HO115 := Aside0.mk (Kd.R_elder' (ro HO115) (Kd.R_base ho0) hb)
     replace HO120 := Aside0.mk (Kd.V_elder' (vo HO120) (Kd.R_base ho0) hb)
     replace HO125 := Aside0.mk (Kd.V_elder' (vo HO125) (Kd.R_base ho0) hb)
     replace HO128 := Aside0.mk (Kd.N_elder' (no HO128) (Kd.R_base ho0) hb)
     replace HB := bz hb
     (try clear hb); (try clear ho0)
     refine hK.out _ _ trivial (fun hHeld => ?_)
     clear hK K
     refine nm 44 ?_
     refine pu 12 7 HT_ ?_
     refine done_ (done_of HT_.out (by kernel_rfl)) ?_
     obtain ⟨Ao39, co39, eo39⟩ := Kd.R_slice HO131.out
     subst eo39
     try go_wp2
     go_ret2
     exact ⟨_, by first | rfl | (simp [errW_none, errW_some] <;> rfl) | (simp only [← hji14, ← hji17]; first | rfl | (simp [errW_none, errW_some] <;> rfl)) | (simp [*, errW_none, errW_some] <;> rfl), by first | exact Kd.R_nil _ _ _ _ _ | exact Kd.N_nil _ _ _ _ _ | exact Kd.V_nil _ _ _ _ _ | exact Kd.Q_nil _ _ _ _ _ | exact Kd.S_nil _ _ _ _ _, bh⟩
    ·rw [if_neg c21] at H
     have c21b0 := decide_eq_false c21
     have c21b1 : decide (t129.length < 3) = false := decide_eq_false (by omega)
     clear c21
     replace H := Option.bind_eq_some_iff.mp H
     obtain ⟨t132, A400, H⟩ := H
     replace H : (some (t132, 0)) = some (r1, r2) := H
     have A40 := Aside0.mk A400
     clear A400
     simp only [Option.some.injEq, Prod.mk.injEq] at H
     obtain ⟨rfl, rfl⟩ := H
     try go_wp2_with (first | ((with_reducible refine gc 87 rfl ?_); refine goesL_ (some 22) rfl rfl Try.func87 (by kernel_rfl) rfl #[.slice A0 l0.length c0] rfl sg ?_; (with_reducible refine (slices_Clone.calls _ _ l0 t102 _ ?side1 ?side2 A8.out).mono ?_); (case side1 => exact cs (Kd.C_below HR0.out HB.out)); (case side2 => exact HC0.out); rintro e w41 ⟨v103, rfl, ho0, hb⟩; refine ⟨_, rfl, ?_⟩; have HO104 := Aside0.mk (Kd.R_lower ho0 (below_size bh)); replace HB := bz hb; (try clear hb); (try clear ho0); obtain ⟨Ao42, co42, eo42⟩ := Kd.R_slice HO104.out; subst eo42) | ((with_reducible refine gc 88 rfl ?_); refine goesL_ (some 24) rfl rfl Try.func88 (by kernel_rfl) rfl #[.slice Ao42 t102.length co42, .func (.func 89) #[] #[]] rfl sg ?_; (with_reducible refine (slices_SortFunc_xy.calls (fun k_ => some k_ = (.slice Ao42 t102.length co42 : Value).ownBlock) (.slice Ao42 t102.length co42) t102  t105 w _ ?side1 ?side2 A9.out).mono ?_); (case side1 => repeat (first | (with_reducible first | exact HB.out | apply below_alloc | apply pw_below_drewN | apply below_drew1) | exact HB.out)); (case side2 => exact Kd.R_tight rfl HO104.out); rintro e w43 ⟨rfl, hy0, hb, hkp⟩; refine ⟨_, rfl, ?_⟩; replace HO104 := Aside0.mk (Kd.R_reok rfl hy0 (fun k_ e_ => HO104.out.1 k_ e_)); replace HB := Aside0.mk (hb); (try clear hb); (try clear hkp); (try clear hy0)) | ((with_reducible refine gc 92 rfl ?_); refine goesL_ (some 26) rfl rfl Try.func92 (by kernel_rfl) rfl #[.slice Ao42 t102.length co42] rfl sg ?_; (with_reducible refine (slices_Compact.calls (fun k_ => some k_ = (.slice Ao42 t102.length co42 : Value).ownBlock) (.slice Ao42 t102.length co42) t105 t106 w _ ?side1 ?side2 A10.out).mono ?_); (case side1 => repeat (first | (with_reducible first | exact HB.out | apply below_alloc | apply pw_below_drewN | apply below_drew1) | exact HB.out)); (case side2 => exact Kd.R_tight rfl HO104.out); rintro e w44 ⟨v107, rfl, ho0, hb, hkp⟩; refine ⟨_, rfl, ?_⟩; have HO108 := Aside0.mk (Kd.R_mono (ok' := fun k_ => True) ho0 (fun k_ hk_ => trivial)); replace HB := Aside0.mk (hb); clear HO104; (try clear hb); (try clear hkp); (try clear ho0); obtain ⟨Ao45, co45, eo45⟩ := Kd.R_slice HO108.out; subst eo45) | ((with_reducible refine gc 93 rfl ?_); refine goesL_ (some 28) rfl rfl Try.func93 (by kernel_rfl) rfl #[.slice Ao45 t106.length co45] rfl sg ?_; (with_reducible refine (shape_chain.calls kj1 _ _ t106 t109 _ ?side1 ?side2 A11.out).mono ?_); (case side1 => exact cs (Kd.R_reads' HO108.out).2.2); (case side2 => exact (Kd.R_reads' HO108.out).2.1); rintro e w46 ⟨v110, rfl, ho0, hb⟩; refine ⟨_, rfl, ?_⟩; have HO111 := Aside0.mk (Kd.R_lower (Kd.R_new' ho0 (Kd.R_lt (ro HO108))) (below_size bh)); replace HO108 := Aside0.mk (Kd.R_elder' (ro HO108) (Kd.R_base ho0) hb); replace HB := bz hb; (try clear hb); (try clear ho0)) | ((with_reducible refine gc 94 rfl ?_); refine goesL_ (some 30) rfl rfl Try.func94 (by kernel_rfl) rfl #[.slice Ao45 t106.length co45] rfl sg ?_; (with_reducible refine (slices_Reverse.calls (fun k_ => some k_ = (.slice Ao45 t106.length co45 : Value).ownBlock) (.slice Ao45 t106.length co45) t106 t112 w _ ?side1 ?side2 A12.out).mono ?_); (case side1 => repeat (first | (with_reducible first | exact HB.out | apply below_alloc | apply pw_below_drewN | apply below_drew1) | exact HB.out)); (case side2 => exact Kd.R_tight rfl HO108.out); rintro e w47 ⟨rfl, hy0, hb, hkp⟩; refine ⟨_, rfl, ?_⟩; replace HO108 := Aside0.mk (Kd.R_reok rfl hy0 (fun k_ e_ => HO108.out.1 k_ e_)); replace HO111 := Aside0.mk (Kd.R_mono (ok' := fun k_ => some k_ ≠ (.slice Ao45 t106.length co45 : Value).ownBlock) (Kd.R_keptB (HO111.out) hkp (fun k_ hk_ hs_ => (hk_.2) hs_)) (fun k_ hk_ => hk_.1.2)); replace HB := Aside0.mk (hb); (try clear hb); (try clear hkp); (try clear hy0)) | ((with_reducible refine gc 93 rfl ?_); refine goesL_ (some 32) rfl rfl Try.func93 (by kernel_rfl) rfl #[.slice Ao45 t112.length co45] rfl (by (try simp only [List.map_toArray, List.map_cons, List.map_nil]); first | done | (rw [show t112.length = t106.length from (Kd.R_reads' HO108.out).1.symm] <;> rfl) | rfl | (simp only [List.length_drop, List.length_take]; rfl)) ?_; (with_reducible refine (shape_chain.calls kj1 _ _ t112 t113 _ ?side1 ?side2 A13.out).mono ?_); (case side1 => exact cs (Kd.R_reads' HO108.out).2.2); (case side2 => rw [show t112.length = t106.length from (Kd.R_reads' HO108.out).1.symm]; exact (Kd.R_reads' HO108.out).2.1); rintro e w48 ⟨v114, rfl, ho0, hb⟩; refine ⟨_, rfl, ?_⟩; have HO115 := Aside0.mk (Kd.R_lower (Kd.R_new' (Kd.R_new' ho0 (Kd.R_lt (ro HO108))) (Kd.R_lt (ro HO111))) (below_size bh)); replace HO108 := Aside0.mk (Kd.R_elder' (ro HO108) (Kd.R_base ho0) hb); replace HO111 := Aside0.mk (Kd.R_elder' (ro HO111) (Kd.R_base ho0) hb); replace HB := bz hb; (try clear hb); (try clear ho0)))
     replace HO108 := Aside0.mk (Kd.R_drew HO108.out)
     replace HO111 := Aside0.mk (Kd.R_drew HO111.out)
     replace HO115 := Aside0.mk (Kd.R_drew HO115.out)
     replace HB := Aside0.mk (below_drew1 HB.out)
     obtain ⟨Ao50, co50, eo50⟩ := Kd.R_slice HO111.out
     (first | subst eo50 | (injection eo50 with f1_ f2_ f3_; have f4_ := f1_.symm; have f5_ := f3_.symm; clear f1_ f2_ f3_; subst f4_; subst f5_))
     have q51 : ((ji14) : Int) ≤ ((t109.length : Int) : Int) := dt
     obtain ⟨i051, hi051, _, hsz51, _⟩ := info_parts info41
     have hroom51 : t109.length ≤ co50 := (Kd.R_reads' HO111.out).2.1
     have hC51 : Kd.F k41 _ _ Ao50 t109.length t109 := (Kd.V_at (base := w.heap.size) (Kd.R_V HO111.out)).2.2
     have hcut51 := cut_to (P := Try.prog) 22 41 .i64 Try.underlying22 hi051 Ao50 t109.length co50 (ji14) (dt) q51 hroom51
     have hr51 := Kd.F_take (m := ((ji14) : Int).toNat) hC51 (by omega)
     have hy51 : y116.length = ((ji14) : Int).toNat := (by rw [Ny116.out, List.length_take]; omega)
     rw [← Ny116.out] at hr51
     rw [← hy51] at hcut51
     have HO120 := Aside0.mk (show Kd.V k41 41 _ w.heap.size _ (.slice Ao50 y116.length co50) y116 from Kd.V_mk (by omega) hr51)
     have HC120 := Aside0.mk (show y116.length ≤ co50 from by omega)
     clear hr51 hC51 hroom51 hi051 hsz51
     have KY51 := Aside0.mk hy51
     clear hy51
     replace q51 := eq_true q51
     obtain ⟨Ao52, co52, eo52⟩ := Kd.R_slice HO115.out
     (first | subst eo52 | (injection eo52 with f1_ f2_ f3_; have f4_ := f1_.symm; have f5_ := f3_.symm; clear f1_ f2_ f3_; subst f4_; subst f5_))
     have q53 : ((ji17) : Int) ≤ ((t113.length : Int) : Int) := dt
     obtain ⟨i053, hi053, _, hsz53, _⟩ := info_parts info41
     have hroom53 : t113.length ≤ co52 := (Kd.R_reads' HO115.out).2.1
     have hC53 : Kd.F k41 _ _ Ao52 t113.length t113 := (Kd.V_at (base := w.heap.size) (Kd.R_V HO115.out)).2.2
     have hcut53 := cut_to (P := Try.prog) 22 41 .i64 Try.underlying22 hi053 Ao52 t113.length co52 (ji17) (dt) q53 hroom53
     have hr53 := Kd.F_take (m := ((ji17) : Int).toNat) hC53 (by omega)
     have hy53 : y121.length = ((ji17) : Int).toNat := (by rw [Ny121.out, List.length_take]; omega)
     rw [← Ny121.out] at hr53
     rw [← hy53] at hcut53
     have HO125 := Aside0.mk (show Kd.V k41 41 _ w.heap.size _ (.slice Ao52 y121.length co52) y121 from Kd.V_mk (by omega) hr53)
     have HC125 := Aside0.mk (show y121.length ≤ co52 from by omega)
     clear hr53 hC53 hroom53 hi053 hsz53
     have KY53 := Aside0.mk hy53
     clear hy53
     replace q53 := eq_true q53
     refine start_ (n := 13) (S := fun w' => True) (ds := []) #[N,N,N,N,N,N,N,N,N,N,N,N,N] (by kernel_rfl) rfl rfl trivial (fun hHeld => ?_); refine with_tabW shape_Hull.tab9 shape_Hull.bits9 (fun HT_ HW_ => ?_)
     generalize w48.drew = w49 at HO108 HO111 HO115 HB HO120 HO125 hHeld ⊢
     refine pu 0 33 HT_ ?_
     refine pu 1 34 HT_ ?_
     refine pu 2 35 HT_ ?_
     refine pu 3 36 HT_ ?_
     refine pu 4 37 HT_ ?_
     refine pu 5 38 HT_ ?_
     refine pu 6 39 HT_ ?_
     refine pu 7 40 HT_ ?_
     refine pu 8 41 HT_ ?_
     refine pu 9 42 HT_ ?_
     refine one_ (i := 10) (N := some 43) #[T,T,T,T,T,T,T,T,T,T,T,N,N] rfl rfl (on1 HT_) (by decide) (fun K hK => ?_)
     refine Kd.N_lit_step (Kd.slice 41 k41) _ 22 ?hg (N' := 43) ?hd (xs := ([y116, y121] : List (List (S41)))) (inner := [.slice Ao50 y116.length co50, .slice Ao52 y121.length co52]) (ok := (fun k_ => some k_ ≠ (.slice Ao45 t106.length co45 : Value).ownBlock)) (okp := (fun k_ => some k_ ≠ (.slice Ao45 t106.length co45 : Value).ownBlock)) ?hr ?hp (fun _ hk => hk) ((show ∀ k_, w49.heap.size ≤ k_ → (fun k_ => some k_ ≠ (.slice Ao45 t106.length co45 : Value).ownBlock) k_ from fun k_ hk => Kd.fresh' (Kd.R_lt (ro HO108)) k_ hk) _ (Nat.le_refl _)) (Below.refl _ _) (Nat.le_refl _) (by simp) ?_; (case hd => rfl); (case hg => rfl); (case hr => first | (go_simp; done) | (go_simp; rfl)); (case hp => exact (Reps.one (show Kd.FK (Kd.slice 41 k41) _ _ y116 [.slice Ao50 y116.length co50] from (Kd.FK_slice_mk (Kd.V_reads' (Kd.V_mono (ok' := (fun k_ => some k_ ≠ (.slice Ao45 t106.length co45 : Value).ownBlock)) (HO120.out) (fun k_ hk => hk.1))).2.1 (Kd.V_F (Kd.V_mono (ok' := (fun k_ => some k_ ≠ (.slice Ao45 t106.length co45 : Value).ownBlock)) (HO120.out) (fun k_ hk => hk.1))))) (Reps.one (show Kd.FK (Kd.slice 41 k41) _ _ y121 [.slice Ao52 y121.length co52] from (Kd.FK_slice_mk (Kd.V_reads' (Kd.V_mono (ok' := (fun k_ => some k_ ≠ (.slice Ao45 t106.length co45 : Value).ownBlock)) (HO125.out) (fun k_ hk => hk.1.2))).2.1 (Kd.V_F (Kd.V_mono (ok' := (fun k_ => some k_ ≠ (.slice Ao45 t106.length co45 : Value).ownBlock)) (HO125.out) (fun k_ hk => hk.1.2))))) (Reps.none _ _))))
     intro v127 w54 ho55 hb hg_ hnew_
     clear hg_ hnew_
     (first | rw [← Ny126.out] at ho55 | (simp only [Int.reduceToNat] at ho55; rw [← Ny126.out] at ho55))
     have HO128 := Aside0.mk (Kd.N_lower ho55 (below_size bh))
     replace HO108 := Aside0.mk (Kd.R_below (ro HO108) hb)
     replace HO111 := Aside0.mk (Kd.R_below (ro HO111) hb)
     replace HO115 := Aside0.mk (Kd.R_below (ro HO115) hb)
     replace HO120 := Aside0.mk (Kd.V_elder' (vo HO120) (Kd.N_base ho55) hb)
     replace HO125 := Aside0.mk (Kd.V_elder' (vo HO125) (Kd.N_base ho55) hb)
     replace HB := bz hb
     clear hb ho55
     obtain ⟨Ao56, co56, eo56⟩ := Kd.N_slice HO128.out
     (first | subst eo56 | (injection eo56 with f1_ f2_ f3_; have f4_ := f1_.symm; have f5_ := f3_.symm; clear f1_ f2_ f3_; subst f4_; subst f5_))
     refine hK.out _ _ trivial (fun hHeld => ?_)
     clear hK K
     refine nm 43 ?_
     refine one_ (i := 11) (N := some 44) #[T,T,T,T,T,T,T,T,T,T,T,T,N] rfl rfl (on1 HT_) (by decide) (fun K hK => ?_)
     refine goes_ Try.func95 (by kernel_rfl) rfl #[.slice Ao56 y126.length co56] (by rfl) rfl rfl sg ?_
     with_reducible refine (api_Point_95.calls kj1 _ _ y126 t129 _ ?side1 ?side2 A20.out).mono ?_
     (case side1 => exact cs (Kd.N_reads' HO128.out).2.2)
     (case side2 => exact (Kd.N_reads' HO128.out).2.1)
     rintro e w57 ⟨v130, rfl, ho0, hb⟩
     refine ⟨_, rfl, ?_⟩
     have HO131 := Aside0.mk (Kd.R_lower (Kd.R_new' (Kd.R_new' (Kd.R_new' ho0 (Kd.R_lt (ro HO108))) (Kd.R_lt (ro HO111))) (Kd.R_lt (ro HO115))) (below_size bh))
     replace HO108 := Aside0.mk (Kd.R_elder' (ro HO108) (Kd.R_base ho0) hb)
     replace HO111 := Aside0.mk (Kd.R_elder' (ro HO111) (Kd.R_base ho0) hb)
     replace HO115 := Aside0.mk (Kd.R_elder' (ro HO115) (Kd.R_base ho0) hb)
     replace HO120 := Aside0.mk (Kd.V_elder' (vo HO120) (Kd.R_base ho0) hb)
     replace HO125 := Aside0.mk (Kd.V_elder' (vo HO125) (Kd.R_base ho0) hb)
     replace HO128 := Aside0.mk (Kd.N_elder' (no HO128) (Kd.R_base ho0) hb)
     replace HB := bz hb
     (try clear hb); (try clear ho0)
     refine hK.out _ _ trivial (fun hHeld => ?_)
     clear hK K
     refine nm 44 ?_
     refine pu 12 7 HT_ ?_
     refine done_ (done_of HT_.out (by kernel_rfl)) ?_
     obtain ⟨Ao58, co58, eo58⟩ := Kd.R_slice HO131.out
     subst eo58
     try go_wp2_with (first | ((with_reducible refine gc 96 rfl ?_); refine goesL_ (some 49) rfl rfl Try.func96 (by kernel_rfl) rfl #[.slice Ao58 t129.length co58] rfl sg ?_; (with_reducible refine (shape_begun.calls kj1 (fun k_ => some k_ = (.slice Ao58 t129.length co58 : Value).ownBlock) _ _ t129 t132 _ ?side1 A40.out).mono ?_); (case side1 => exact Kd.R_V (Kd.R_tight rfl (Kd.R_apart' (HO131.out) (Kd.N_typed HO128.out) (by decide)))); rintro e w59 ⟨v133, rfl, ho0, hb⟩; refine ⟨_, rfl, ?_⟩; have HO134 := Aside0.mk (Kd.R_lower (Kd.R_new' (Kd.R_new' (Kd.R_new' (Kd.R_new' (Kd.R_mono (ok' := fun k_ => True) ho0 (fun _ hk_ => trivial)) (Kd.R_lt (ro HO108))) (Kd.R_lt (ro HO111))) (Kd.R_lt (ro HO115))) (Kd.R_lt (ro HO131))) (below_size bh)); replace HO108 := Aside0.mk (Kd.R_elder' (ro HO108) (Kd.R_base ho0) hb); replace HO111 := Aside0.mk (Kd.R_elder' (ro HO111) (Kd.R_base ho0) hb); replace HO115 := Aside0.mk (Kd.R_elder' (ro HO115) (Kd.R_base ho0) hb); replace HO120 := Aside0.mk (Kd.V_elder' (vo HO120) (Kd.R_base ho0) hb); replace HO125 := Aside0.mk (Kd.V_elder' (vo HO125) (Kd.R_base ho0) hb); replace HO128 := Aside0.mk (Kd.N_elder' (no HO128) (Kd.R_base ho0) hb); replace HO131 := Aside0.mk (Kd.R_elder' (ro HO131) (Kd.R_base ho0) hb); replace HB := bz hb; (try clear hb); (try clear ho0)))
     go_ret2
     exact ⟨_, by first | rfl | (simp [errW_none, errW_some] <;> rfl) | (simp only [← hji14, ← hji17]; first | rfl | (simp [errW_none, errW_some] <;> rfl)) | (simp [*, errW_none, errW_some] <;> rfl), by (with_reducible repeat (first | apply Kd.R_alloc | apply Kd.R_drewN | apply Kd.R_drew)); exact Kd.R_mono HO134.out (fun _ hk => trivial), bh⟩
/-! ### cracknellaw04_lives: function 12 -/
def cracknellaw04_lives.f (k : Nat)  : Option (Bool) := (some (([(⟨0, 0⟩ : S41), (⟨2, 0⟩ : S41), (⟨2, 2⟩ : S41), (⟨0, 2⟩ : S41)] : List (S41)) : List (S41))).bind fun y101 => ((shape_Area2.f k y101).bind fun bt104 => ((shape_Lattice.f k y101).bind fun bt106 => ((shape_Hull.f k (([(⟨0, 0⟩ : S41), (⟨1, 0⟩ : S41), (⟨2, 0⟩ : S41), (⟨0, 2⟩ : S41), (⟨1, 1⟩ : S41)] : List (S41)))).bind fun bt112 => (if bt104.1 = 8 then (if bt104.2 = 0 then (if bt106.1 = 1 then (if bt106.2.1 = 8 then (if bt106.2.2 = 0 then (if bt112.2 = 0 then ((cracknelref04_Same.f k bt112.1 (([(⟨0, 0⟩ : S41), (⟨2, 0⟩ : S41), (⟨0, 2⟩ : S41)] : List (S41)))).bind fun t119 => (some t119)) else (some false)) else (some false)) else (some false)) else (some false)) else (some false)) else (some false)))))
set_option maxHeartbeats 8000000 in
set_option maxRecDepth 100000 in
theorem cracknellaw04_lives.calls (k : Nat)  (r : Bool) (w : World) (h : cracknellaw04_lives.f k  = some r) (hr : r = true) :
  Calls Try.prog 12 #[] w fun e w' => e = .returned (.bool r) ∧ Below w.heap.size w w' := by
 have hu41 := Try.underlying41
 have HB := Aside0.mk (Below.refl w.heap.size w)
 have H : ((some (([(⟨0, 0⟩ : S41), (⟨2, 0⟩ : S41), (⟨2, 2⟩ : S41), (⟨0, 2⟩ : S41)] : List (S41)) : List (S41))).bind fun y101 => ((shape_Area2.f k y101).bind fun bt104 => ((shape_Lattice.f k y101).bind fun bt106 => ((shape_Hull.f k (([(⟨0, 0⟩ : S41), (⟨1, 0⟩ : S41), (⟨2, 0⟩ : S41), (⟨0, 2⟩ : S41), (⟨1, 1⟩ : S41)] : List (S41)))).bind fun bt112 => (if bt104.1 = 8 then (if bt104.2 = 0 then (if bt106.1 = 1 then (if bt106.2.1 = 8 then (if bt106.2.2 = 0 then (if bt112.2 = 0 then ((cracknelref04_Same.f k bt112.1 (([(⟨0, 0⟩ : S41), (⟨2, 0⟩ : S41), (⟨0, 2⟩ : S41)] : List (S41)))).bind fun t119 => (some t119)) else (some false)) else (some false)) else (some false)) else (some false)) else (some false)) else (some false)))))) = some r := h
 clear h
 obtain ⟨y101, hy101⟩ : ∃ y_ : List (S41), y_ = (([(⟨0, 0⟩ : S41), (⟨2, 0⟩ : S41), (⟨2, 2⟩ : S41), (⟨0, 2⟩ : S41)] : List (S41))) := ⟨_, rfl⟩
 replace H : ((shape_Area2.f k y101).bind fun bt104 => ((shape_Lattice.f k y101).bind fun bt106 => ((shape_Hull.f k (([(⟨0, 0⟩ : S41), (⟨1, 0⟩ : S41), (⟨2, 0⟩ : S41), (⟨0, 2⟩ : S41), (⟨1, 1⟩ : S41)] : List (S41)))).bind fun bt112 => (if bt104.1 = 8 then (if bt104.2 = 0 then (if bt106.1 = 1 then (if bt106.2.1 = 8 then (if bt106.2.2 = 0 then (if bt112.2 = 0 then ((cracknelref04_Same.f k bt112.1 (([(⟨0, 0⟩ : S41), (⟨2, 0⟩ : S41), (⟨0, 2⟩ : S41)] : List (S41)))).bind fun t119 => (some t119)) else (some false)) else (some false)) else (some false)) else (some false)) else (some false)) else (some false))))) = some r := by first | (rw [hy101]; with_reducible exact H) | (have H2_ := (Option.bind_some _ _).symm.trans H; rw [hy101]; with_reducible exact H2_) | (have H2_ := (Option.bind_some _ _).symm.trans H; with_reducible exact H2_) | with_reducible exact H | (rw [hy101]; exact H) | exact H
 have Ny101 := Aside0.mk hy101
 clear hy101
 replace H := Option.bind_eq_some_iff.mp H
 obtain ⟨⟨t104, t105⟩, A10, H⟩ := H
 try dsimp only at H
 have A1 := Aside0.mk A10
 clear A10
 replace H := Option.bind_eq_some_iff.mp H
 obtain ⟨⟨t106, t107, t108⟩, A20, H⟩ := H
 try dsimp only at H
 have A2 := Aside0.mk A20
 clear A20
 obtain ⟨y109, hy109⟩ : ∃ y_ : List (S41), y_ = (([(⟨0, 0⟩ : S41), (⟨1, 0⟩ : S41), (⟨2, 0⟩ : S41), (⟨0, 2⟩ : S41), (⟨1, 1⟩ : S41)] : List (S41))) := ⟨_, rfl⟩
 replace H : ((shape_Hull.f k y109).bind fun bt112 => (if t104 = 8 then (if t105 = 0 then (if t106 = 1 then (if t107 = 8 then (if t108 = 0 then (if bt112.2 = 0 then ((cracknelref04_Same.f k bt112.1 (([(⟨0, 0⟩ : S41), (⟨2, 0⟩ : S41), (⟨0, 2⟩ : S41)] : List (S41)))).bind fun t119 => (some t119)) else (some false)) else (some false)) else (some false)) else (some false)) else (some false)) else (some false))) = some r := by first | (rw [hy109]; with_reducible exact H) | (have H2_ := (Option.bind_some _ _).symm.trans H; rw [hy109]; with_reducible exact H2_) | (have H2_ := (Option.bind_some _ _).symm.trans H; with_reducible exact H2_) | with_reducible exact H | (rw [hy109]; exact H) | exact H
 have Ny109 := Aside0.mk hy109
 clear hy109
 replace H := Option.bind_eq_some_iff.mp H
 obtain ⟨⟨t112, t113⟩, A30, H⟩ := H
 try dsimp only at H
 have A3 := Aside0.mk A30
 clear A30
 by_cases c4 : t104 = 8
 ·rw [if_pos c4] at H
  have c4b0 : (t104 == 8) = true := beq_iff_eq.mpr c4
  have c4b1 : (t104 != 8) = false := bne_eq_false_iff_eq.mpr c4
  clear c4
  by_cases c5 : t105 = 0
  ·rw [if_pos c5] at H
   have c5b0 : (t105 == 0) = true := beq_iff_eq.mpr c5
   have c5b1 : (t105 != 0) = false := bne_eq_false_iff_eq.mpr c5
   clear c5
   by_cases c6 : t106 = 1
   ·rw [if_pos c6] at H
    have c6b0 : (t106 == 1) = true := beq_iff_eq.mpr c6
    have c6b1 : (t106 != 1) = false := bne_eq_false_iff_eq.mpr c6
    clear c6
    by_cases c7 : t107 = 8
    ·rw [if_pos c7] at H
     have c7b0 : (t107 == 8) = true := beq_iff_eq.mpr c7
     have c7b1 : (t107 != 8) = false := bne_eq_false_iff_eq.mpr c7
     clear c7
     by_cases c8 : t108 = 0
     ·rw [if_pos c8] at H
      have c8b0 : (t108 == 0) = true := beq_iff_eq.mpr c8
      have c8b1 : (t108 != 0) = false := bne_eq_false_iff_eq.mpr c8
      clear c8
      by_cases c9 : t113 = 0
      ·rw [if_pos c9] at H
       have c9b0 : (t113 == 0) = true := beq_iff_eq.mpr c9
       have c9b1 : (t113 != 0) = false := bne_eq_false_iff_eq.mpr c9
       clear c9
       obtain ⟨y116, hy116⟩ : ∃ y_ : List (S41), y_ = (([(⟨0, 0⟩ : S41), (⟨2, 0⟩ : S41), (⟨0, 2⟩ : S41)] : List (S41))) := ⟨_, rfl⟩
       replace H : ((cracknelref04_Same.f k t112 y116).bind fun t119 => (some t119)) = some r := by first | (rw [hy116]; with_reducible exact H) | (have H2_ := (Option.bind_some _ _).symm.trans H; rw [hy116]; with_reducible exact H2_) | (have H2_ := (Option.bind_some _ _).symm.trans H; with_reducible exact H2_) | with_reducible exact H | (rw [hy116]; exact H) | exact H
       have Ny116 := Aside0.mk hy116
       clear hy116
       replace H := Option.bind_eq_some_iff.mp H
       obtain ⟨t119, A100, H⟩ := H
       try dsimp only at H
       have A10 := Aside0.mk A100
       clear A100
       obtain rfl := Option.some.inj H
       go_enter Try.func12, Try.ntmps12
       go_wp2_with (first | ((with_reducible refine gate_dst (N := 13) rfl ?_); (try (refine gate_guard (by rfl) ?_; dsimp only)); refine Kd.R_lit k41 _ 41 ?hg (N := 13) ?hd (xs := ([(⟨0, 0⟩ : S41), (⟨2, 0⟩ : S41), (⟨2, 2⟩ : S41), (⟨0, 2⟩ : S41)] : List (S41))) (inner := [.int .i64 0, .int .i64 0, .int .i64 2, .int .i64 0, .int .i64 2, .int .i64 2, .int .i64 0, .int .i64 2]) (ok := fun _ => True) (okp := fun _ => True) ?hr ?hp (fun _ hk => hk) trivial (Below.refl _ _) (Nat.le_refl _) (by simp) ?_; (case hd => rfl); (case hg => rfl); (case hr => first | (go_simp; done) | (go_simp; rfl)); (case hp => exact (Reps.c2 (k41_mkM _ _ _ (⟨0, 0⟩ : S41)) (Reps.c2 (k41_mkM _ _ _ (⟨2, 0⟩ : S41)) (Reps.c2 (k41_mkM _ _ _ (⟨2, 2⟩ : S41)) (Reps.c2 (k41_mkM _ _ _ (⟨0, 2⟩ : S41)) (Reps.none _ _)))))); intro v102 w11 ho12 hb hg_ hnew_; clear hg_ hnew_; (first | rw [← Ny101.out] at ho12 | (simp only [Int.reduceToNat] at ho12; rw [← Ny101.out] at ho12)); have HO103 := Aside0.mk (Kd.R_lower ho12 (below_size bh)); replace HB := bz hb; clear hb ho12; obtain ⟨Ao13, co13, eo13⟩ := Kd.R_slice HO103.out; subst eo13) | ((with_reducible refine gc 29 rfl ?_); refine goesL_ (some 16) rfl rfl Try.func29 (by kernel_rfl) rfl #[.slice Ao13 y101.length co13] rfl sg ?_; (with_reducible refine (shape_Area2.calls k _ _ y101 t104 t105 _ ?side1 ?side2 A1.out).mono ?_); (case side1 => exact cs (Kd.R_reads' HO103.out).2.2); (case side2 => exact (Kd.R_reads' HO103.out).2.1); rintro e w14 ⟨rfl, hb⟩; refine ⟨_, rfl, ?_⟩; replace HO103 := Aside0.mk (Kd.R_below (ro HO103) hb); replace HB := bz hb; (try clear hb)) | ((with_reducible refine gc 23 rfl ?_); refine goesL_ (some 21) rfl rfl Try.func23 (by kernel_rfl) rfl #[.slice Ao13 y101.length co13] rfl sg ?_; (with_reducible refine (shape_Lattice.calls k _ _ y101 t106 t107 t108 _ ?side1 ?side2 A2.out).mono ?_); (case side1 => exact cs (Kd.R_reads' HO103.out).2.2); (case side2 => exact (Kd.R_reads' HO103.out).2.1); rintro e w15 ⟨rfl, hb⟩; refine ⟨_, rfl, ?_⟩; replace HO103 := Aside0.mk (Kd.R_below (ro HO103) hb); replace HB := bz hb; (try clear hb)) | ((with_reducible refine gate_dst (N := 31) rfl ?_); (try (refine gate_guard (by rfl) ?_; dsimp only)); refine Kd.R_lit k41 _ 41 ?hg (N := 31) ?hd (xs := ([(⟨0, 0⟩ : S41), (⟨1, 0⟩ : S41), (⟨2, 0⟩ : S41), (⟨0, 2⟩ : S41), (⟨1, 1⟩ : S41)] : List (S41))) (inner := [.int .i64 0, .int .i64 0, .int .i64 1, .int .i64 0, .int .i64 2, .int .i64 0, .int .i64 0, .int .i64 2, .int .i64 1, .int .i64 1]) (ok := fun _ => True) (okp := fun _ => True) ?hr ?hp (fun _ hk => hk) trivial (Below.refl _ _) (Nat.le_refl _) (by simp) ?_; (case hd => rfl); (case hg => rfl); (case hr => first | (go_simp; done) | (go_simp; rfl)); (case hp => exact (Reps.c2 (k41_mkM _ _ _ (⟨0, 0⟩ : S41)) (Reps.c2 (k41_mkM _ _ _ (⟨1, 0⟩ : S41)) (Reps.c2 (k41_mkM _ _ _ (⟨2, 0⟩ : S41)) (Reps.c2 (k41_mkM _ _ _ (⟨0, 2⟩ : S41)) (Reps.c2 (k41_mkM _ _ _ (⟨1, 1⟩ : S41)) (Reps.none _ _))))))); intro v110 w16 ho17 hb hg_ hnew_; clear hg_ hnew_; (first | rw [← Ny109.out] at ho17 | (simp only [Int.reduceToNat] at ho17; rw [← Ny109.out] at ho17)); have HO111 := Aside0.mk (Kd.R_lower (Kd.R_new' ho17 (Kd.R_lt (ro HO103))) (below_size bh)); replace HO103 := Aside0.mk (Kd.R_elder' (ro HO103) (Kd.R_base ho17) hb); replace HB := bz hb; clear hb ho17; obtain ⟨Ao18, co18, eo18⟩ := Kd.R_slice HO111.out; subst eo18) | ((with_reducible refine gc 40 rfl ?_); refine goesL_ (some 32) rfl rfl Try.func40 (by kernel_rfl) rfl #[.slice Ao18 y109.length co18] rfl sg ?_; (with_reducible refine (shape_Hull.calls k _ _ y109 t112 t113 _ ?side1 ?side2 A3.out).mono ?_); (case side1 => exact cs (Kd.R_reads' HO111.out).2.2); (case side2 => exact (Kd.R_reads' HO111.out).2.1); rintro e w19 ⟨v114, rfl, ho0, hb⟩; refine ⟨_, rfl, ?_⟩; have HO115 := Aside0.mk (Kd.R_lower (Kd.R_new' (Kd.R_new' ho0 (Kd.R_lt (ro HO103))) (Kd.R_lt (ro HO111))) (below_size bh)); replace HO103 := Aside0.mk (Kd.R_elder' (ro HO103) (Kd.R_base ho0) hb); replace HO111 := Aside0.mk (Kd.R_elder' (ro HO111) (Kd.R_base ho0) hb); replace HB := bz hb; (try clear hb); (try clear ho0)) | ((with_reducible refine gate_dst (N := 62) rfl ?_); (try (refine gate_guard (by rfl) ?_; dsimp only)); refine Kd.R_lit k41 _ 41 ?hg (N := 62) ?hd (xs := ([(⟨0, 0⟩ : S41), (⟨2, 0⟩ : S41), (⟨0, 2⟩ : S41)] : List (S41))) (inner := [.int .i64 0, .int .i64 0, .int .i64 2, .int .i64 0, .int .i64 0, .int .i64 2]) (ok := fun _ => True) (okp := fun _ => True) ?hr ?hp (fun _ hk => hk) trivial (Below.refl _ _) (Nat.le_refl _) (by simp) ?_; (case hd => rfl); (case hg => rfl); (case hr => first | (go_simp; done) | (go_simp; rfl)); (case hp => exact (Reps.c2 (k41_mkM _ _ _ (⟨0, 0⟩ : S41)) (Reps.c2 (k41_mkM _ _ _ (⟨2, 0⟩ : S41)) (Reps.c2 (k41_mkM _ _ _ (⟨0, 2⟩ : S41)) (Reps.none _ _))))); intro v117 w20 ho21 hb hg_ hnew_; clear hg_ hnew_; (first | rw [← Ny116.out] at ho21 | (simp only [Int.reduceToNat] at ho21; rw [← Ny116.out] at ho21)); have HO118 := Aside0.mk (Kd.R_lower (Kd.R_new' (Kd.R_new' (Kd.R_new' ho21 (Kd.R_lt (ro HO103))) (Kd.R_lt (ro HO111))) (Kd.R_lt (ro HO115))) (below_size bh)); replace HO103 := Aside0.mk (Kd.R_elder' (ro HO103) (Kd.R_base ho21) hb); replace HO111 := Aside0.mk (Kd.R_elder' (ro HO111) (Kd.R_base ho21) hb); replace HO115 := Aside0.mk (Kd.R_elder' (ro HO115) (Kd.R_base ho21) hb); replace HB := bz hb; clear hb ho21; obtain ⟨Ao22, co22, eo22⟩ := Kd.R_slice HO115.out; subst eo22; obtain ⟨Ao23, co23, eo23⟩ := Kd.R_slice HO118.out; subst eo23) | (go_at_call 41; (with_reducible refine (cracknelref04_Same.calls k _ _ t112 _ _ y116 t119 _ ?side1 ?side2 ?side3 ?side4 A10.out).mono ?_); (case side1 => exact cs (Kd.R_reads' HO115.out).2.2); (case side2 => exact (Kd.R_reads' HO115.out).2.1); (case side3 => exact cs (Kd.R_reads' HO118.out).2.2); (case side4 => exact (Kd.R_reads' HO118.out).2.1); rintro e w' ⟨rfl, ⟨nd, rfl⟩⟩))
       go_ret
       exact ⟨by exact er, bh⟩
      ·rw [if_neg c9] at H
       have c9b0 : (t113 == 0) = false := beq_eq_false_iff_ne.mpr c9
       have c9b1 : (t113 != 0) = true := bne_iff_ne.mpr c9
       obtain rfl := Option.some.inj H
       cases hr
     ·rw [if_neg c8] at H
      have c8b0 : (t108 == 0) = false := beq_eq_false_iff_ne.mpr c8
      have c8b1 : (t108 != 0) = true := bne_iff_ne.mpr c8
      obtain rfl := Option.some.inj H
      cases hr
    ·rw [if_neg c7] at H
     have c7b0 : (t107 == 8) = false := beq_eq_false_iff_ne.mpr c7
     have c7b1 : (t107 != 8) = true := bne_iff_ne.mpr c7
     obtain rfl := Option.some.inj H
     cases hr
   ·rw [if_neg c6] at H
    have c6b0 : (t106 == 1) = false := beq_eq_false_iff_ne.mpr c6
    have c6b1 : (t106 != 1) = true := bne_iff_ne.mpr c6
    obtain rfl := Option.some.inj H
    cases hr
  ·rw [if_neg c5] at H
   have c5b0 : (t105 == 0) = false := beq_eq_false_iff_ne.mpr c5
   have c5b1 : (t105 != 0) = true := bne_iff_ne.mpr c5
   obtain rfl := Option.some.inj H
   cases hr
 ·rw [if_neg c4] at H
  have c4b0 : (t104 == 8) = false := beq_eq_false_iff_ne.mpr c4
  have c4b1 : (t104 != 8) = true := bne_iff_ne.mpr c4
  obtain rfl := Option.some.inj H
  cases hr
/-! ### cracknellaw04_ShapeShows: function 3 -/
def cracknellaw04_ShapeShows.f (k : Nat) (l0 : List (S41)) (l1 : List (S60)) : Option (Bool) := (cracknellaw04_cut.f l0 12).bind fun t101 => ((some (([] : List (S60)) : List (S60))).bind fun y104 => (if 0 ≤ (mn (l1.length : Int) 40) then (if (mn (l1.length : Int) 40) ≤ (l1.length : Int) then ((some (l1.take ((mn (l1.length : Int) 40) : Int).toNat : List (S60))).bind fun y107 => (if y104.length + y107.length < 5864062014805 then ((some (y104 ++ y107 : List (S60))).bind fun y111 => ((shape_Shows.f k t101 y111).bind fun bt114 => ((cracknellaw04_simple.f k t101).bind fun t116 => (if t116 = 0 then ((cracknelref04_Triangles.f k t101 y111).bind fun t118 => (if (bt114.1 == t118) = true then (if bt114.2 = 0 then ((cracknellaw04_lives.f k).bind fun t119 => (some t119)) else (some false)) else (some false))) else (if bt114.1 = true then (some false) else (if bt114.2 = t116 then ((cracknellaw04_lives.f k).bind fun t117 => (some t117)) else (some false))))))) else (none))) else (none)) else (none)))
set_option maxHeartbeats 8000000 in
set_option maxRecDepth 100000 in
theorem cracknellaw04_ShapeShows.calls (k : Nat) (A0 : Option Addr) (c0 : Nat) (l0 : List (S41)) (A1 : Option Addr) (c1 : Nat) (l1 : List (S60)) (r : Bool) (w : World) (hr0 : Kd.C k41 w A0 l0.length l0) (hc0 : l0.length ≤ c0) (hr1 : Kd.C k60 w A1 l1.length l1) (hc1 : l1.length ≤ c1) (h : cracknellaw04_ShapeShows.f k l0 l1 = some r) (hr : r = true) :
  Calls Try.prog 3 #[.slice A0 l0.length c0, .slice A1 l1.length c1] w fun e w' => e = .returned (.bool r) ∧ Below w.heap.size w w' := by
 have HR0 := Aside0.mk hr0
 have HC0 := Aside0.mk hc0
 clear hr0 hc0
 have HR1 := Aside0.mk hr1
 have HC1 := Aside0.mk hc1
 clear hr1 hc1
 have HB := Aside0.mk (Below.refl w.heap.size w)
 have H : ((cracknellaw04_cut.f l0 12).bind fun t101 => ((some (([] : List (S60)) : List (S60))).bind fun y104 => (if 0 ≤ (mn (l1.length : Int) 40) then (if (mn (l1.length : Int) 40) ≤ (l1.length : Int) then ((some (l1.take ((mn (l1.length : Int) 40) : Int).toNat : List (S60))).bind fun y107 => (if y104.length + y107.length < 5864062014805 then ((some (y104 ++ y107 : List (S60))).bind fun y111 => ((shape_Shows.f k t101 y111).bind fun bt114 => ((cracknellaw04_simple.f k t101).bind fun t116 => (if t116 = 0 then ((cracknelref04_Triangles.f k t101 y111).bind fun t118 => (if (bt114.1 == t118) = true then (if bt114.2 = 0 then ((cracknellaw04_lives.f k).bind fun t119 => (some t119)) else (some false)) else (some false))) else (if bt114.1 = true then (some false) else (if bt114.2 = t116 then ((cracknellaw04_lives.f k).bind fun t117 => (some t117)) else (some false))))))) else (none))) else (none)) else (none)))) = some r := h
 clear h
 replace H := Option.bind_eq_some_iff.mp H
 obtain ⟨t101, A30, H⟩ := H
 try dsimp only at H
 have A3 := Aside0.mk A30
 clear A30
 obtain ⟨y104, hy104⟩ : ∃ y_ : List (S60), y_ = (([] : List (S60))) := ⟨_, rfl⟩
 replace H : (if 0 ≤ (mn (l1.length : Int) 40) then (if (mn (l1.length : Int) 40) ≤ (l1.length : Int) then ((some (l1.take ((mn (l1.length : Int) 40) : Int).toNat : List (S60))).bind fun y107 => (if y104.length + y107.length < 5864062014805 then ((some (y104 ++ y107 : List (S60))).bind fun y111 => ((shape_Shows.f k t101 y111).bind fun bt114 => ((cracknellaw04_simple.f k t101).bind fun t116 => (if t116 = 0 then ((cracknelref04_Triangles.f k t101 y111).bind fun t118 => (if (bt114.1 == t118) = true then (if bt114.2 = 0 then ((cracknellaw04_lives.f k).bind fun t119 => (some t119)) else (some false)) else (some false))) else (if bt114.1 = true then (some false) else (if bt114.2 = t116 then ((cracknellaw04_lives.f k).bind fun t117 => (some t117)) else (some false))))))) else (none))) else (none)) else (none)) = some r := by first | (rw [hy104]; with_reducible exact H) | (have H2_ := (Option.bind_some _ _).symm.trans H; rw [hy104]; with_reducible exact H2_) | (have H2_ := (Option.bind_some _ _).symm.trans H; with_reducible exact H2_) | with_reducible exact H | (rw [hy104]; exact H) | exact H
 have Ny104 := Aside0.mk hy104
 clear hy104
 obtain ⟨ji4, hji4⟩ : ∃ j_ : Int, (mn (l1.length : Int) 40) = j_ := ⟨_, rfl⟩
 first | rw [hji4] at H | simp only [hji4] at H
 (try rw [hji4] at A3)
 (try (have hji4h : ji4 ≤ 40 := by (rw [← hji4]; unfold mn; (repeat' split) <;> omega)))
 (try (have hji4g : ji4 ≤ 64 := by omega))
 (try (have hji4l : 0 ≤ ji4 := by (rw [← hji4]; unfold mn; (repeat' split) <;> omega)))
 (try (have hji4m : 0 ≤ ji4 := by omega))
 have hji4_ : (if 40 < (l1.length : Int) then 40 else (l1.length : Int)) = ji4 := hji4
 obtain ⟨c5, H⟩ := oi H
 have c5b0 := eq_true c5
 have c5b1 := decide_eq_true c5
 clear c5
 obtain ⟨c6, H⟩ := oi H
 have c6b0 := eq_true c6
 have c6b1 := decide_eq_true c6
 clear c6
 obtain ⟨y107, hy107⟩ : ∃ y_ : List (S60), y_ = (l1.take ((ji4) : Int).toNat) := ⟨_, rfl⟩
 replace H : (if y104.length + y107.length < 5864062014805 then ((some (y104 ++ y107 : List (S60))).bind fun y111 => ((shape_Shows.f k t101 y111).bind fun bt114 => ((cracknellaw04_simple.f k t101).bind fun t116 => (if t116 = 0 then ((cracknelref04_Triangles.f k t101 y111).bind fun t118 => (if (bt114.1 == t118) = true then (if bt114.2 = 0 then ((cracknellaw04_lives.f k).bind fun t119 => (some t119)) else (some false)) else (some false))) else (if bt114.1 = true then (some false) else (if bt114.2 = t116 then ((cracknellaw04_lives.f k).bind fun t117 => (some t117)) else (some false))))))) else (none)) = some r := by first | (rw [hy107]; with_reducible exact H) | (have H2_ := (Option.bind_some _ _).symm.trans H; rw [hy107]; with_reducible exact H2_) | (have H2_ := (Option.bind_some _ _).symm.trans H; with_reducible exact H2_) | with_reducible exact H | (rw [hy107]; exact H) | exact H
 have Ny107 := Aside0.mk hy107
 clear hy107
 obtain ⟨c7, H⟩ := oi H
 have LMc7 := Aside0.mk c7
 clear c7
 obtain ⟨y111, hy111⟩ : ∃ y_ : List (S60), y_ = (y104 ++ y107) := ⟨_, rfl⟩
 replace H : ((shape_Shows.f k t101 y111).bind fun bt114 => ((cracknellaw04_simple.f k t101).bind fun t116 => (if t116 = 0 then ((cracknelref04_Triangles.f k t101 y111).bind fun t118 => (if (bt114.1 == t118) = true then (if bt114.2 = 0 then ((cracknellaw04_lives.f k).bind fun t119 => (some t119)) else (some false)) else (some false))) else (if bt114.1 = true then (some false) else (if bt114.2 = t116 then ((cracknellaw04_lives.f k).bind fun t117 => (some t117)) else (some false)))))) = some r := by first | (rw [hy111]; with_reducible exact H) | (have H2_ := (Option.bind_some _ _).symm.trans H; rw [hy111]; with_reducible exact H2_) | (have H2_ := (Option.bind_some _ _).symm.trans H; with_reducible exact H2_) | with_reducible exact H | (rw [hy111]; exact H) | exact H
 have Ny111 := Aside0.mk hy111
 clear hy111
 replace H := Option.bind_eq_some_iff.mp H
 obtain ⟨⟨t114, t115⟩, A80, H⟩ := H
 try dsimp only at H
 have A8 := Aside0.mk A80
 clear A80
 replace H := Option.bind_eq_some_iff.mp H
 obtain ⟨t116, A90, H⟩ := H
 try dsimp only at H
 have A9 := Aside0.mk A90
 clear A90
 by_cases c10 : t116 = 0
 ·rw [if_pos c10] at H
  have c10b0 : (t116 == 0) = true := beq_iff_eq.mpr c10
  have c10b1 : (t116 != 0) = false := bne_eq_false_iff_eq.mpr c10
  clear c10
  replace H := Option.bind_eq_some_iff.mp H
  obtain ⟨t118, A110, H⟩ := H
  try dsimp only at H
  have A11 := Aside0.mk A110
  clear A110
  by_cases c12 : (t114 == t118) = true
  ·rw [if_pos c12] at H
   have c12b0 : (t114 == t118) = true := c12
   (try (have c12b1 : decide (t114 = t118) = true := by simpa using c12))
   (try (have c12b2 : (t114 == t118) = true := by simpa using c12))
   clear c12
   by_cases c13 : t115 = 0
   ·rw [if_pos c13] at H
    have c13b0 : (t115 == 0) = true := beq_iff_eq.mpr c13
    have c13b1 : (t115 != 0) = false := bne_eq_false_iff_eq.mpr c13
    clear c13
    replace H := Option.bind_eq_some_iff.mp H
    obtain ⟨t119, A140, H⟩ := H
    try dsimp only at H
    have A14 := Aside0.mk A140
    clear A140
    obtain rfl := Option.some.inj H
    go_enter Try.func3, Try.ntmps3
    go_wp2_with (first | ((with_reducible refine gc 9 rfl ?_); refine goesL_ (some 10) rfl rfl Try.func9 (by kernel_rfl) rfl #[.slice A0 l0.length c0, .int .i64 12] rfl sg ?_; (with_reducible refine (cracknellaw04_cut.calls _ _ l0 12 t101 _ ?side1 ?side2 A3.out).mono ?_); (case side1 => exact cs HR0.out); (case side2 => exact HC0.out); rintro e w15 ⟨v102, rfl, ho0, hb⟩; refine ⟨_, rfl, ?_⟩; have HO103 := Aside0.mk (Kd.R_lower ho0 (below_size bh)); replace HB := bz hb; (try clear hb); (try clear ho0)) | ((with_reducible refine gate_dst (N := 11) rfl ?_); refine Kd.R_lit k60 _ 60 ?hg (N := 11) ?hd (xs := ([] : List (S60))) (inner := []) (ok := fun _ => True) (okp := fun _ => True) ?hr ?hp (fun _ hk => hk) trivial (Below.refl _ _) (Nat.le_refl _) (by simp) ?_; (case hd => rfl); (case hg => rfl); (case hr => first | (go_simp; done) | (go_simp; rfl)); (case hp => exact (Reps.none _ _)); intro v105 w16 ho17 hb hg_ hnew_; clear hg_ hnew_; (first | rw [← Ny104.out] at ho17 | (simp only [Int.reduceToNat] at ho17; rw [← Ny104.out] at ho17)); have HO106 := Aside0.mk (Kd.R_lower ho17 (below_size bh)); replace HO103 := Aside0.mk (Kd.R_below (ro HO103) hb); replace HB := bz hb; clear hb ho17; have q18 : ((ji4) : Int) ≤ ((l1.length : Int) : Int) := dt; obtain ⟨i018, hi018, _, hsz18, _⟩ := info_parts info60; have hroom18 : l1.length ≤ c1 := HC1.out; have hC18 : Kd.C k60 _ A1 l1.length l1 := HR1.out; have hcut18 := cut_to (P := Try.prog) 23 60 .i64 Try.underlying23 hi018 A1 l1.length c1 (ji4) (dt) q18 hroom18; have hr18 := Kd.C_take (m := ((ji4) : Int).toNat) hC18 (by omega); have hy18 : y107.length = ((ji4) : Int).toNat := (by rw [Ny107.out, List.length_take]; omega); rw [← Ny107.out] at hr18; rw [← hy18] at hcut18; have HR110 := Aside0.mk hr18; have HC110 := Aside0.mk (show y107.length ≤ c1 from by omega); clear hr18 hC18 hroom18 hi018 hsz18; have KY18 := Aside0.mk hy18; clear hy18; replace q18 := eq_true q18) | ((with_reducible refine gate_builtin (b := .append) (xs := #[.tmp 11, .tmp 16]) rfl ?_); at_builtin; refine Kd.R_append_rows k60 (w0 := w) w.heap.size rfl (.tmp 11) (.tmp 16) 23 60 (.agg #[(.int .i64 0), (.int .i64 0), (.int .i64 0)]) 24 rfl Try.underlying23 info60 rfl (by decide) (by omega) v105 y104 y107 _ _ _ (fun _ => True) (fun _ => False) rfl rfl ?aO ?aR (fun _ _ h => h) (fun _ h => h.elim) ?aF ?aB ?aS ?aL ?_; (case aR => repeat (first | exact (Kd.C_below HR110.out HB.out) | (with_reducible refine Kd.C_alloc ?_ _) | (with_reducible refine Kd.C_drewN ?_ _) | (with_reducible refine Kd.C_drew ?_))); (case aB => exact bh); (case aF => exact (fun _ _ => trivial)); (case aO => exact (ro HO106)); (case aS => exact (below_size bh)); (case aL => have := LMc7.out; omega); intro v112 w19 ho hb hg hat; rw [← Ny111.out] at ho; have HO113 := Aside0.mk (ho); replace HO103 := Aside0.mk (Kd.R_over' (ro HO103) (Kd.R_typed (ro HO106)) (by decide) hg); replace HB := Aside0.mk (hb); clear HO106; clear ho hb hg hat; obtain ⟨Ao20, co20, eo20⟩ := Kd.R_slice HO103.out; subst eo20; obtain ⟨Ao21, co21, eo21⟩ := Kd.R_slice HO113.out; subst eo21) | ((with_reducible refine gc 10 rfl ?_); refine goesL_ (some 21) rfl rfl Try.func10 (by kernel_rfl) rfl #[.slice Ao20 t101.length co20, .slice Ao21 y111.length co21] rfl sg ?_; (with_reducible refine (shape_Shows.calls k _ _ t101 _ _ y111 t114 t115 _ ?side1 ?side2 ?side3 ?side4 A8.out).mono ?_); (case side1 => exact cs (Kd.R_reads' HO103.out).2.2); (case side2 => exact (Kd.R_reads' HO103.out).2.1); (case side3 => exact cs (Kd.R_reads' HO113.out).2.2); (case side4 => exact (Kd.R_reads' HO113.out).2.1); rintro e w22 ⟨rfl, hb⟩; refine ⟨_, rfl, ?_⟩; replace HO103 := Aside0.mk (Kd.R_below (ro HO103) hb); replace HO113 := Aside0.mk (Kd.R_below (ro HO113) hb); replace HB := bz hb; (try clear hb)) | ((with_reducible refine gc 11 rfl ?_); refine goesL_ (some 25) rfl rfl Try.func11 (by kernel_rfl) rfl #[.slice Ao20 t101.length co20] rfl sg ?_; (with_reducible refine (cracknellaw04_simple.calls k _ _ t101 t116 _ ?side1 ?side2 A9.out).mono ?_); (case side1 => exact cs (Kd.R_reads' HO103.out).2.2); (case side2 => exact (Kd.R_reads' HO103.out).2.1); rintro e w23 ⟨rfl, hb⟩; refine ⟨_, rfl, ?_⟩; replace HO103 := Aside0.mk (Kd.R_below (ro HO103) hb); replace HO113 := Aside0.mk (Kd.R_below (ro HO113) hb); replace HB := bz hb; (try clear hb)) | ((with_reducible refine gc 13 rfl ?_); refine goesL_ (some 41) rfl rfl Try.func13 (by kernel_rfl) rfl #[.slice Ao20 t101.length co20, .slice Ao21 y111.length co21] rfl sg ?_; (with_reducible refine (cracknelref04_Triangles.calls k _ _ t101 _ _ y111 t118 _ ?side1 ?side2 ?side3 ?side4 A11.out).mono ?_); (case side1 => exact cs (Kd.R_reads' HO103.out).2.2); (case side2 => exact (Kd.R_reads' HO103.out).2.1); (case side3 => exact cs (Kd.R_reads' HO113.out).2.2); (case side4 => exact (Kd.R_reads' HO113.out).2.1); rintro e w24 ⟨rfl, hb⟩; refine ⟨_, rfl, ?_⟩; replace HO103 := Aside0.mk (Kd.R_below (ro HO103) hb); replace HO113 := Aside0.mk (Kd.R_below (ro HO113) hb); replace HB := bz hb; (try clear hb)) | (go_at_call 12; (with_reducible refine (cracknellaw04_lives.calls k  t119 _ A14.out hr).mono ?_); rintro e w25 ⟨rfl, hb⟩; replace HO103 := Aside0.mk (Kd.R_below (ro HO103) hb); replace HO113 := Aside0.mk (Kd.R_below (ro HO113) hb); replace HB := bz hb; (try clear hb)))
    go_ret
    exact ⟨by first | rfl | (simp [errW_none, errW_some] <;> rfl) | (simp only [← hji4]; first | rfl | (simp [errW_none, errW_some] <;> rfl)) | (simp [*, errW_none, errW_some] <;> rfl), bh⟩
   ·rw [if_neg c13] at H
    have c13b0 : (t115 == 0) = false := beq_eq_false_iff_ne.mpr c13
    have c13b1 : (t115 != 0) = true := bne_iff_ne.mpr c13
    obtain rfl := Option.some.inj H
    cases hr
  ·rw [if_neg c12] at H
   have c12b0 : (t114 == t118) = false := by simpa using c12
   (try (have c12b1 : decide (t114 = t118) = false := by simpa using c12))
   (try (have c12b2 : (t114 == t118) = false := by simpa using c12))
   (try (have c12b3 : ¬ (t114 = t118) := by simpa using c12))
   clear c12
   obtain rfl := Option.some.inj H
   cases hr
 ·rw [if_neg c10] at H
  have c10b0 : (t116 == 0) = false := beq_eq_false_iff_ne.mpr c10
  have c10b1 : (t116 != 0) = true := bne_iff_ne.mpr c10
  by_cases c46 : t114 = true
  ·subst c46
   rw [if_pos rfl] at H
   obtain rfl := Option.some.inj H
   cases hr
  ·replace c46 := Bool.eq_false_iff.mpr c46
   subst c46
   rw [if_neg (show ¬ (false = true) by decide)] at H
   by_cases c56 : t115 = t116
   ·rw [if_pos c56] at H
    have c56b0 : (t115 == t116) = true := beq_iff_eq.mpr c56
    have c56b1 : (t115 != t116) = false := bne_eq_false_iff_eq.mpr c56
    clear c56
    replace H := Option.bind_eq_some_iff.mp H
    obtain ⟨t117, A570, H⟩ := H
    try dsimp only at H
    have A57 := Aside0.mk A570
    clear A570
    obtain rfl := Option.some.inj H
    go_enter Try.func3, Try.ntmps3
    go_wp2_with (first | ((with_reducible refine gc 9 rfl ?_); refine goesL_ (some 10) rfl rfl Try.func9 (by kernel_rfl) rfl #[.slice A0 l0.length c0, .int .i64 12] rfl sg ?_; (with_reducible refine (cracknellaw04_cut.calls _ _ l0 12 t101 _ ?side1 ?side2 A3.out).mono ?_); (case side1 => exact cs HR0.out); (case side2 => exact HC0.out); rintro e w58 ⟨v102, rfl, ho0, hb⟩; refine ⟨_, rfl, ?_⟩; have HO103 := Aside0.mk (Kd.R_lower ho0 (below_size bh)); replace HB := bz hb; (try clear hb); (try clear ho0)) | ((with_reducible refine gate_dst (N := 11) rfl ?_); refine Kd.R_lit k60 _ 60 ?hg (N := 11) ?hd (xs := ([] : List (S60))) (inner := []) (ok := fun _ => True) (okp := fun _ => True) ?hr ?hp (fun _ hk => hk) trivial (Below.refl _ _) (Nat.le_refl _) (by simp) ?_; (case hd => rfl); (case hg => rfl); (case hr => first | (go_simp; done) | (go_simp; rfl)); (case hp => exact (Reps.none _ _)); intro v105 w59 ho60 hb hg_ hnew_; clear hg_ hnew_; (first | rw [← Ny104.out] at ho60 | (simp only [Int.reduceToNat] at ho60; rw [← Ny104.out] at ho60)); have HO106 := Aside0.mk (Kd.R_lower ho60 (below_size bh)); replace HO103 := Aside0.mk (Kd.R_below (ro HO103) hb); replace HB := bz hb; clear hb ho60; have q61 : ((ji4) : Int) ≤ ((l1.length : Int) : Int) := dt; obtain ⟨i061, hi061, _, hsz61, _⟩ := info_parts info60; have hroom61 : l1.length ≤ c1 := HC1.out; have hC61 : Kd.C k60 _ A1 l1.length l1 := HR1.out; have hcut61 := cut_to (P := Try.prog) 23 60 .i64 Try.underlying23 hi061 A1 l1.length c1 (ji4) (dt) q61 hroom61; have hr61 := Kd.C_take (m := ((ji4) : Int).toNat) hC61 (by omega); have hy61 : y107.length = ((ji4) : Int).toNat := (by rw [Ny107.out, List.length_take]; omega); rw [← Ny107.out] at hr61; rw [← hy61] at hcut61; have HR110 := Aside0.mk hr61; have HC110 := Aside0.mk (show y107.length ≤ c1 from by omega); clear hr61 hC61 hroom61 hi061 hsz61; have KY61 := Aside0.mk hy61; clear hy61; replace q61 := eq_true q61) | ((with_reducible refine gate_builtin (b := .append) (xs := #[.tmp 11, .tmp 16]) rfl ?_); at_builtin; refine Kd.R_append_rows k60 (w0 := w) w.heap.size rfl (.tmp 11) (.tmp 16) 23 60 (.agg #[(.int .i64 0), (.int .i64 0), (.int .i64 0)]) 24 rfl Try.underlying23 info60 rfl (by decide) (by omega) v105 y104 y107 _ _ _ (fun _ => True) (fun _ => False) rfl rfl ?aO ?aR (fun _ _ h => h) (fun _ h => h.elim) ?aF ?aB ?aS ?aL ?_; (case aR => repeat (first | exact (Kd.C_below HR110.out HB.out) | (with_reducible refine Kd.C_alloc ?_ _) | (with_reducible refine Kd.C_drewN ?_ _) | (with_reducible refine Kd.C_drew ?_))); (case aB => exact bh); (case aF => exact (fun _ _ => trivial)); (case aO => exact (ro HO106)); (case aS => exact (below_size bh)); (case aL => have := LMc7.out; omega); intro v112 w62 ho hb hg hat; rw [← Ny111.out] at ho; have HO113 := Aside0.mk (ho); replace HO103 := Aside0.mk (Kd.R_over' (ro HO103) (Kd.R_typed (ro HO106)) (by decide) hg); replace HB := Aside0.mk (hb); clear HO106; clear ho hb hg hat; obtain ⟨Ao63, co63, eo63⟩ := Kd.R_slice HO103.out; subst eo63; obtain ⟨Ao64, co64, eo64⟩ := Kd.R_slice HO113.out; subst eo64) | ((with_reducible refine gc 10 rfl ?_); refine goesL_ (some 21) rfl rfl Try.func10 (by kernel_rfl) rfl #[.slice Ao63 t101.length co63, .slice Ao64 y111.length co64] rfl sg ?_; (with_reducible refine (shape_Shows.calls k _ _ t101 _ _ y111 false t115 _ ?side1 ?side2 ?side3 ?side4 A8.out).mono ?_); (case side1 => exact cs (Kd.R_reads' HO103.out).2.2); (case side2 => exact (Kd.R_reads' HO103.out).2.1); (case side3 => exact cs (Kd.R_reads' HO113.out).2.2); (case side4 => exact (Kd.R_reads' HO113.out).2.1); rintro e w65 ⟨rfl, hb⟩; refine ⟨_, rfl, ?_⟩; replace HO103 := Aside0.mk (Kd.R_below (ro HO103) hb); replace HO113 := Aside0.mk (Kd.R_below (ro HO113) hb); replace HB := bz hb; (try clear hb)) | ((with_reducible refine gc 11 rfl ?_); refine goesL_ (some 25) rfl rfl Try.func11 (by kernel_rfl) rfl #[.slice Ao63 t101.length co63] rfl sg ?_; (with_reducible refine (cracknellaw04_simple.calls k _ _ t101 t116 _ ?side1 ?side2 A9.out).mono ?_); (case side1 => exact cs (Kd.R_reads' HO103.out).2.2); (case side2 => exact (Kd.R_reads' HO103.out).2.1); rintro e w66 ⟨rfl, hb⟩; refine ⟨_, rfl, ?_⟩; replace HO103 := Aside0.mk (Kd.R_below (ro HO103) hb); replace HO113 := Aside0.mk (Kd.R_below (ro HO113) hb); replace HB := bz hb; (try clear hb)) | (go_at_call 12; (with_reducible refine (cracknellaw04_lives.calls k  t117 _ A57.out hr).mono ?_); rintro e w67 ⟨rfl, hb⟩; replace HO103 := Aside0.mk (Kd.R_below (ro HO103) hb); replace HO113 := Aside0.mk (Kd.R_below (ro HO113) hb); replace HB := bz hb; (try clear hb)))
    go_ret
    exact ⟨by first | rfl | (simp [errW_none, errW_some] <;> rfl) | (simp only [← hji4]; first | rfl | (simp [errW_none, errW_some] <;> rfl)) | (simp [*, errW_none, errW_some] <;> rfl), bh⟩
   ·rw [if_neg c56] at H
    have c56b0 : (t115 == t116) = false := beq_eq_false_iff_ne.mpr c56
    have c56b1 : (t115 != t116) = true := bne_iff_ne.mpr c56
    obtain rfl := Option.some.inj H
    cases hr
end Go.Proofs.Ythehmkpcddafnaa.PG
end
section
namespace Go.Proofs.Ythehmkpcddafnaa.M
open Go.Proofs.Ythehmkpcddafnaa.PG
abbrev Pt := S41
instance decS29 : DecidableEq S41 := fun a b => if h : a.f0 = b.f0 ∧ a.f1 = b.f1 then isTrue (by cases a; cases b; simp_all) else isFalse (by intro e; exact h (by rw [e]; exact ⟨rfl, rfl⟩))
def cr (a b c : Pt) : Int := (b.f0-a.f0)*(c.f1-a.f1) - (c.f0-a.f0)*(b.f1-a.f1)
def btw (a b p : Pt) : Prop := min a.f0 b.f0 ≤ p.f0 ∧ p.f0 ≤ max a.f0 b.f0 ∧ min a.f1 b.f1 ≤ p.f1 ∧ p.f1 ≤ max a.f1 b.f1
theorem pt_ext {a b : Pt} (h0 : a.f0 = b.f0) (h1 : a.f1 = b.f1) : a = b := by
 cases a; cases b; simp_all
theorem cr_swap (a b c : Pt) : cr a c b = -(cr a b c) := by unfold cr; grind
theorem cr_rot (a b c : Pt) : cr b c a = cr a b c := by unfold cr; grind
def HE (S : List Pt) (a b : Pt) : Prop := a ≠ b ∧ a ∈ S ∧ b ∈ S ∧ ∀ p ∈ S, 0 ≤ cr a b p ∧ (cr a b p = 0 → btw a b p)
theorem btw_eq {a b c : Pt} (h1 : btw a b c) (h2 : btw a c b) : b = c := by
 unfold btw at h1 h2
 apply pt_ext <;> omega
theorem btw_eq' {a b c : Pt} (h1 : btw a c b) (h2 : btw b c a) : a = b := by
 unfold btw at h1 h2
 apply pt_ext <;> omega
def fn (p q : Int) (a b : Pt) : Int := p * (b.f0 - a.f0) + q * (b.f1 - a.f1)
def Pairs (R : Pt → Pt → Prop) : List Pt → Prop
 | [] => True
 | [_] => True
 | a :: b :: l => R a b ∧ Pairs R (b :: l)
def Ring (S : List Pt) (h : List Pt) : Prop := ∃ a t, h = a :: t ∧ a ∉ t ∧ Pairs (HE S) (a :: (t ++ [a]))
instance (a b c : Pt) : Decidable (btw a b c) := by unfold btw; infer_instance
def wrapStep (o tq p : Pt) : Pt := if p = o then tq else if tq = o ∨ cr o tq p < 0 ∨ (cr o tq p = 0 ∧ cr o p tq = 0 ∧ btw o p tq) then p else tq
def wrap (S : List Pt) (o : Pt) : Pt := S.foldl (wrapStep o) o
def first (a b : Pt) : Prop := a.f1 < b.f1 ∨ (a.f1 = b.f1 ∧ a.f0 < b.f0)
instance (a b : Pt) : Decidable (first a b) := by unfold first; infer_instance
def around (S : List Pt) : Nat → Pt → List Pt
 | 0, o => [o]
 | n + 1, o => o :: around S n (wrap S o)
def at_ (h : List Pt) (i : Nat) : Pt := h.getD i ⟨0, 0⟩
theorem at_eq {h : List Pt} {i : Nat} (hi : i < h.length) : at_ h i = h[i] := by
 unfold at_; rw [List.getD_eq_getElem?_getD, List.getElem?_eq_getElem hi]; rfl
theorem at_mem {h : List Pt} {i : Nat} (hi : i < h.length) : at_ h i ∈ h := by
 rw [at_eq hi]; exact List.getElem_mem hi
def Strong (h : List Pt) : Prop :=
 (∀ i, i < h.length → at_ h i ≠ at_ h ((i + 1) % h.length)) ∧
 (∀ i j, i < h.length → j < h.length → at_ h i = at_ h j → i = j) ∧
 ∀ i k, i < h.length → k < h.length → 0 ≤ cr (at_ h i) (at_ h ((i + 1) % h.length)) (at_ h k) ∧
  (cr (at_ h i) (at_ h ((i + 1) % h.length)) (at_ h k) = 0 → k = i ∨ k = (i + 1) % h.length)
def On (a b p : Pt) : Prop := cr a b p = 0 ∧ btw a b p
instance (a b p : Pt) : Decidable (On a b p) := by unfold On; infer_instance
def Meet (a b c d : Pt) : Prop := On a b c ∨ On a b d ∨ On c d a ∨ On c d b ∨
 (((0 < cr a b c ∧ cr a b d < 0) ∨ (cr a b c < 0 ∧ 0 < cr a b d)) ∧ ((0 < cr c d a ∧ cr c d b < 0) ∨ (cr c d a < 0 ∧ 0 < cr c d b)))
instance (a b c d : Pt) : Decidable (Meet a b c d) := by unfold Meet; infer_instance
def Simple (l : List Pt) : Prop :=
 (∀ i, i < l.length → at_ l i ≠ at_ l ((i + 1) % l.length)) ∧
 ∀ i, i < l.length → ¬ On (at_ l i) (at_ l ((i + 1) % l.length)) (at_ l ((i + 1 + 1) % l.length)) ∧
  ¬ On (at_ l ((i + 1) % l.length)) (at_ l ((i + 1 + 1) % l.length)) (at_ l i) ∧
  ∀ k, i + 2 ≤ k → k < l.length → (k + 1) % l.length ≠ i → ¬ Meet (at_ l i) (at_ l ((i + 1) % l.length)) (at_ l k) (at_ l ((k + 1) % l.length))
def Convex (l : List Pt) : Prop :=
 Simple l ∧ ∀ i, i < l.length → 0 < cr (at_ l i) (at_ l ((i + 1) % l.length)) (at_ l ((i + 1 + 1) % l.length)) ∧ (0 < i → first (at_ l 0) (at_ l i))
def Flat (S : List Pt) : Prop := ∀ a ∈ S, ∀ b ∈ S, ∀ c ∈ S, cr a b c = 0
end Go.Proofs.Ythehmkpcddafnaa.M
end
section
namespace Go.Proofs.Ythehmkpcddafnaa.M
open Go.RowKit Go.Proofs.Ythehmkpcddafnaa.PG Go.Proofs.YthehmkpcddafnaaW.PrintMore Go.Proofs.YthehmkpcddafnaaW.PrintWords
def Rt {α : Type} (g : Nat → Option α) (v : α) : Prop := ∃ K, ∀ k, K ≤ k → g k = some v
theorem wz (n : Int) (h0 : -9223372036854775808 ≤ n) (h1 : n ≤ 9223372036854775807) : wrap64 n = n := by unfold wrap64; omega
def Bd (p : Pt) : Prop := -1000000 ≤ p.f0 ∧ p.f0 ≤ 1000000 ∧ -1000000 ≤ p.f1 ∧ p.f1 ≤ 1000000
theorem mulb {a b : Int} (h0 : -2000000 ≤ a) (h1 : a ≤ 2000000) (h2 : -2000000 ≤ b) (h3 : b ≤ 2000000) : -4000000000000 ≤ a * b ∧ a * b ≤ 4000000000000 := by
 have h : (a * b).natAbs = a.natAbs * b.natAbs := Int.natAbs_mul a b
 have h' : a.natAbs * b.natAbs ≤ 2000000 * 2000000 := Nat.mul_le_mul (by omega) (by omega)
 omega
theorem cr_eq (a b c : Pt) : cr a b c = (b.f0 - a.f0) * (c.f1 - a.f1) - (c.f0 - a.f0) * (b.f1 - a.f1) := rfl
theorem cr_bd {a b c : Pt} (ha : Bd a) (hb : Bd b) (hc : Bd c) : -8000000000000 ≤ cr a b c ∧ cr a b c ≤ 8000000000000 := by
 obtain ⟨a0, a1, a2, a3⟩ := ha; obtain ⟨b0, b1, b2, b3⟩ := hb; obtain ⟨c0, c1, c2, c3⟩ := hc
 have h1 := @mulb (b.f0 - a.f0) (c.f1 - a.f1) (by omega) (by omega) (by omega) (by omega)
 have h2 := @mulb (c.f0 - a.f0) (b.f1 - a.f1) (by omega) (by omega) (by omega) (by omega)
 rw [cr_eq]; omega
theorem Cross_f {a b c : Pt} (ha : Bd a) (hb : Bd b) (hc : Bd c) : cracknelref04_Cross.f a.f0 a.f1 b.f0 b.f1 c.f0 c.f1 = some (cr a b c) := by
 obtain ⟨a0, a1, a2, a3⟩ := ha; obtain ⟨b0, b1, b2, b3⟩ := hb; obtain ⟨c0, c1, c2, c3⟩ := hc
 have h1 := @mulb (b.f0 - a.f0) (c.f1 - a.f1) (by omega) (by omega) (by omega) (by omega)
 have h2 := @mulb (c.f0 - a.f0) (b.f1 - a.f1) (by omega) (by omega) (by omega) (by omega)
 unfold cracknelref04_Cross.f
 rw [wz (b.f0 - a.f0) (by omega) (by omega), wz (c.f1 - a.f1) (by omega) (by omega), wz (c.f0 - a.f0) (by omega) (by omega), wz (b.f1 - a.f1) (by omega) (by omega), wz ((b.f0 - a.f0) * (c.f1 - a.f1)) (by omega) (by omega), wz ((c.f0 - a.f0) * (b.f1 - a.f1)) (by omega) (by omega), wz _ (by omega) (by omega), cr_eq]
theorem side_f {a b c : Pt} (ha : Bd a) (hb : Bd b) (hc : Bd c) : shape_side.f a.f0 a.f1 b.f0 b.f1 c.f0 c.f1 = some (cr a b c) := by
 obtain ⟨a0, a1, a2, a3⟩ := ha; obtain ⟨b0, b1, b2, b3⟩ := hb; obtain ⟨c0, c1, c2, c3⟩ := hc
 have h1 := @mulb (b.f0 - a.f0) (c.f1 - a.f1) (by omega) (by omega) (by omega) (by omega)
 have h2 := @mulb (b.f1 - a.f1) (c.f0 - a.f0) (by omega) (by omega) (by omega) (by omega)
 unfold shape_side.f shape_sub.f shape_cross.f
 simp only [Option.bind_some]
 rw [wz (b.f0 - a.f0) (by omega) (by omega), wz (c.f1 - a.f1) (by omega) (by omega), wz (c.f0 - a.f0) (by omega) (by omega), wz (b.f1 - a.f1) (by omega) (by omega), wz ((b.f0 - a.f0) * (c.f1 - a.f1)) (by omega) (by omega), wz ((b.f1 - a.f1) * (c.f0 - a.f0)) (by omega) (by omega), wz _ (by omega) (by omega), cr_eq]
 congr 1; grind
theorem in_f (v a b : Int) : cracknelref04_in.f v a b = some (decide (a ≤ v ∧ v ≤ b)) := by
 unfold cracknelref04_in.f
 by_cases h : v ≥ a
 ·rw [if_pos h]; simp; omega
 ·rw [if_neg h]; simp; omega
theorem mn_eq (a b : Int) : mn a b = min a b := by unfold mn; split <;> omega
theorem mx_eq (a b : Int) : mx a b = max a b := by unfold mx; split <;> omega
theorem On_f {a b c : Pt} (ha : Bd a) (hb : Bd b) (hc : Bd c) : cracknelref04_On.f a.f0 a.f1 b.f0 b.f1 c.f0 c.f1 = some (decide (On a b c)) := by
 unfold cracknelref04_On.f
 rw [Cross_f ha hb hc]
 simp only [Option.bind_some, in_f, mn_eq, mx_eq]
 by_cases h : cr a b c = 0
 ·rw [if_pos h]
  by_cases h2 : min a.f0 b.f0 ≤ c.f0 ∧ c.f0 ≤ max a.f0 b.f0
  ·simp only [h2, and_self, decide_true, if_true]; simp only [On, btw, h, h2, true_and]
  ·rw [if_neg (by simpa using h2)]; simp only [On, btw, h, true_and]; rw [decide_eq_false]; intro h3; exact h2 ⟨h3.1, h3.2.1⟩
 ·rw [if_neg h]; simp only [On, h, false_and, decide_false]
theorem sq_nn (x : Int) : 0 ≤ x * x := by
 rcases Int.le_total 0 x with h | h
 ·exact Int.mul_nonneg h h
 ·exact Int.mul_nonneg_of_nonpos_of_nonpos h h
theorem dot_on {a b p : Pt} (h : cr a b p = 0) : (a.f0 - p.f0) * (b.f0 - p.f0) + (a.f1 - p.f1) * (b.f1 - p.f1) ≤ 0 ↔ btw a b p := by
 have hx : (a.f0 - p.f0) * (b.f1 - p.f1) = (a.f1 - p.f1) * (b.f0 - p.f0) := by rw [cr_eq] at h; grind
 generalize hu : a.f0 - p.f0 = u at *
 generalize hv : b.f0 - p.f0 = v at *
 generalize hs : a.f1 - p.f1 = s at *
 generalize ht : b.f1 - p.f1 = t at *
 have key : u * v + s * t ≤ 0 ↔ (u * v ≤ 0 ∧ s * t ≤ 0) := by
  constructor
  ·intro h0
   have e : (u * v) * (s * t) = (u * t) * (u * t) := by grind
   have sq : 0 ≤ (u * v) * (s * t) := by rw [e]; exact sq_nn _
   constructor
   ·rcases Int.lt_or_le 0 (u * v) with h1 | h1
    ·have h2 : s * t < 0 := by omega
     have := Int.mul_neg_of_pos_of_neg h1 h2; omega
    ·exact h1
   ·rcases Int.lt_or_le 0 (s * t) with h1 | h1
    ·have h2 : u * v < 0 := by omega
     have := Int.mul_neg_of_neg_of_pos h2 h1; omega
    ·exact h1
  ·omega
 have sgn : ∀ x y : Int, x * y ≤ 0 ↔ ((x ≤ 0 ∧ 0 ≤ y) ∨ (0 ≤ x ∧ y ≤ 0)) := by
  intro x y
  constructor
  ·intro h
   rcases Int.lt_trichotomy x 0 with h1 | h1 | h1
   ·rcases Int.lt_or_le y 0 with h2 | h2
    ·have := Int.mul_pos_of_neg_of_neg h1 h2; omega
    ·omega
   ·omega
   ·rcases Int.lt_or_le 0 y with h2 | h2
    ·have := Int.mul_pos h1 h2; omega
    ·omega
  ·rintro (⟨h1, h2⟩ | ⟨h1, h2⟩)
   ·exact Int.mul_nonpos_of_nonpos_of_nonneg h1 h2
   ·exact Int.mul_nonpos_of_nonneg_of_nonpos h1 h2
 rw [key, sgn, sgn]; unfold btw; omega
theorem dot_f {a b p : Pt} (ha : Bd a) (hb : Bd b) (hp : Bd p) : shape_dot.f (a.f0 - p.f0) (a.f1 - p.f1) (b.f0 - p.f0) (b.f1 - p.f1) = some ((a.f0 - p.f0) * (b.f0 - p.f0) + (a.f1 - p.f1) * (b.f1 - p.f1)) := by
 obtain ⟨a0, a1, a2, a3⟩ := ha; obtain ⟨b0, b1, b2, b3⟩ := hb; obtain ⟨c0, c1, c2, c3⟩ := hp
 have h1 := @mulb (a.f0 - p.f0) (b.f0 - p.f0) (by omega) (by omega) (by omega) (by omega)
 have h2 := @mulb (a.f1 - p.f1) (b.f1 - p.f1) (by omega) (by omega) (by omega) (by omega)
 unfold shape_dot.f
 rw [wz ((a.f0 - p.f0) * (b.f0 - p.f0)) (by omega) (by omega), wz ((a.f1 - p.f1) * (b.f1 - p.f1)) (by omega) (by omega), wz _ (by omega) (by omega)]
theorem sub_f {a b : Pt} (ha : Bd a) (hb : Bd b) : shape_sub.f a.f0 a.f1 b.f0 b.f1 = some (a.f0 - b.f0, a.f1 - b.f1) := by
 obtain ⟨a0, a1, a2, a3⟩ := ha; obtain ⟨b0, b1, b2, b3⟩ := hb
 unfold shape_sub.f
 rw [wz _ (by omega) (by omega), wz _ (by omega) (by omega)]
theorem on_f {a b c : Pt} (ha : Bd a) (hb : Bd b) (hc : Bd c) : shape_on.f a.f0 a.f1 b.f0 b.f1 c.f0 c.f1 = some (decide (On a b c)) := by
 unfold shape_on.f
 rw [side_f ha hb hc, sub_f ha hc, sub_f hb hc]
 simp only [Option.bind_some]
 rw [dot_f ha hb hc]
 simp only [Option.bind_some]
 by_cases h : cr a b c = 0
 ·rw [if_pos h]; have e := dot_on h; simp only [e, On, h, true_and]
 ·rw [if_neg h]; simp only [On, h, false_and, decide_false]
def sg (n : Int) : Int := if n > 0 then 1 else if n < 0 then -1 else 0
theorem compare_f (a b : Int) : cmp_Compare_int.f a b = some (sg (a - b)) := by
 unfold cmp_Compare_int.f cmp_isNaN_int.f sg
 simp
 split <;> (try split) <;> (try split) <;> (try split) <;> first | rfl | omega | (simp; done) | skip
theorem sign_f (n : Int) : shape_sign.f n = some (sg n) := by
 unfold shape_sign.f; rw [compare_f]; simp
theorem sg_neg (x y : Int) : wrap64 (sg x * sg y) < 0 ↔ ((0 < x ∧ y < 0) ∨ (x < 0 ∧ 0 < y)) := by
 unfold sg
 split <;> (try split) <;> (try split) <;> (try split) <;> simp only [wrap64] <;> omega
theorem meet_f {a b c d : Pt} (ha : Bd a) (hb : Bd b) (hc : Bd c) (hd : Bd d) (k : Nat) : shape_meet.f (k + 1) a.f0 a.f1 b.f0 b.f1 c.f0 c.f1 d.f0 d.f1 = some (decide (Meet a b c d)) := by
 unfold shape_meet.f
 simp only [shape_meet.j0, on_f ha hb hc, on_f ha hb hd, on_f hc hd ha, on_f hc hd hb, side_f ha hb hc, side_f ha hb hd, side_f hc hd ha, side_f hc hd hb, sign_f, Option.bind_some, sg_neg, decide_eq_true_eq]
 unfold Meet
 split
 ·simp_all
 ·split
  ·simp_all
  ·split
   ·simp_all
   ·split
    ·simp_all
    ·split <;> simp_all <;> omega
theorem rd_at (l : List Pt) (i : Nat) : rd_T41 l (i : Int) = at_ l i := rfl
theorem tmod_nat (i n : Nat) (h : (i : Int) ≤ 9223372036854775806) : Int.tmod (wrap64 ((i : Int) + 1)) (n : Int) = (((i + 1) % n : Nat) : Int) := by
 rw [wz _ (by omega) (by omega)]
 rw [show ((i : Int) + 1) = ((i + 1 : Nat) : Int) by omega, ← Int.ofNat_tmod]
theorem pt_beq (a b : Pt) : (a.f0 == b.f0 && a.f1 == b.f1) = decide (a = b) := by
 by_cases h : a = b
 ·subst h; simp
 ·simp only [h, decide_false, Bool.and_eq_false_imp, beq_iff_eq]
  intro h0
  simp only [beq_eq_false_iff_ne, ne_eq]
  intro h1; exact h (pt_ext h0 h1)
theorem from_split {n i : Nat} (hi : i < n) (P : Nat → Prop) : (∀ i', i ≤ i' → i' < n → P i') ↔ (P i ∧ ∀ i', i + 1 ≤ i' → i' < n → P i') := by
 constructor
 ·intro h; exact ⟨h i (Nat.le_refl _) hi, fun j' h1 h2 => h j' (by omega) h2⟩
 ·rintro ⟨h0, h⟩ j' h1 h2
  rcases Nat.eq_or_lt_of_le h1 with rfl | h3
  ·exact h0
  ·exact h j' h3 h2
theorem fuel1 {k K : Nat} (h : K + 1 ≤ k) : ∃ m, k = m + 1 := ⟨k - 1, by omega⟩
theorem fuel2 {k K : Nat} (h : K + 2 ≤ k) : ∃ m, k = m + 1 + 1 := ⟨k - 2, by omega⟩
theorem rt_step {α : Type} {g h : Nat → Option α} {v : α} (e : ∀ k, g (k + 1) = h k) (r : Rt h v) : Rt g v := by
 obtain ⟨K, hK⟩ := r
 refine ⟨K + 1, fun k hk => ?_⟩
 obtain ⟨k, rfl⟩ := fuel1 hk
 rw [e]; exact hK k (by omega)
theorem rt_ret {α : Type} {g : Nat → Option α} {v : α} (e : ∀ k, g (k + 1) = some v) : Rt g v := by
 refine ⟨0 + 1, fun k hk => ?_⟩
 obtain ⟨k, rfl⟩ := fuel1 hk
 exact e k
theorem wrap_succ (i : Nat) (h : i ≤ 1000000) : wrap64 ((i : Int) + 1) = ((i + 1 : Nat) : Int) := by rw [wz _ (by omega) (by omega)]; omega
theorem wrap_succ2 (i : Nat) (h : i ≤ 1000000) : wrap64 ((i : Int) + 2) = ((i + 2 : Nat) : Int) := by rw [wz _ (by omega) (by omega)]; omega
theorem tmod_nat' (i n : Nat) (_h : i ≤ 1000000) : Int.tmod (((i + 1 : Nat)) : Int) (n : Int) = (((i + 1) % n : Nat) : Int) := by
 rw [← Int.ofNat_tmod]
theorem at_bd {l : List Pt} (hb : ∀ p ∈ l, Bd p) {i : Nat} (hi : i < l.length) : Bd (at_ l i) := hb _ (at_mem hi)
theorem tmod_in (i n : Nat) (hn : 0 < n) : (0 : Int) ≤ (((i % n : Nat)) : Int) ∧ (((i % n : Nat)) : Int) < (n : Int) := by
 have := Nat.mod_lt i hn; omega
end Go.Proofs.Ythehmkpcddafnaa.M
end
section
namespace Go.Proofs.Ythehmkpcddafnaa.M
open Go.RowKit Go.Proofs.Ythehmkpcddafnaa.PG Go.Proofs.YthehmkpcddafnaaW.PrintMore Go.Proofs.YthehmkpcddafnaaW.PrintWords
theorem on_line {a b c : Pt} (h : cr a b c = 0) : btw a c b ∨ btw a b c ∨ btw b c a := by
 have h2 : cr a c b = 0 := by rw [cr_swap]; omega
 have h3 : cr b c a = 0 := by rw [cr_rot]; exact h
 rw [← dot_on h, ← dot_on h2, ← dot_on h3]
 rcases Int.lt_or_le 0 ((a.f0 - b.f0) * (c.f0 - b.f0) + (a.f1 - b.f1) * (c.f1 - b.f1)) with q1 | q1
 ·rcases Int.lt_or_le 0 ((a.f0 - c.f0) * (b.f0 - c.f0) + (a.f1 - c.f1) * (b.f1 - c.f1)) with q2 | q2
  ·rcases Int.lt_or_le 0 ((b.f0 - a.f0) * (c.f0 - a.f0) + (b.f1 - a.f1) * (c.f1 - a.f1)) with q3 | q3
   ·exfalso
    rw [cr_eq] at h
    have e2 : (a.f0 - c.f0) * (b.f0 - c.f0) + (a.f1 - c.f1) * (b.f1 - c.f1) = ((c.f0 - b.f0) * (c.f0 - b.f0) + (c.f1 - b.f1) * (c.f1 - b.f1)) - ((a.f0 - b.f0) * (c.f0 - b.f0) + (a.f1 - b.f1) * (c.f1 - b.f1)) := by grind
    have e3 : (b.f0 - a.f0) * (c.f0 - a.f0) + (b.f1 - a.f1) * (c.f1 - a.f1) = ((a.f0 - b.f0) * (a.f0 - b.f0) + (a.f1 - b.f1) * (a.f1 - b.f1)) - ((a.f0 - b.f0) * (c.f0 - b.f0) + (a.f1 - b.f1) * (c.f1 - b.f1)) := by grind
    have e4 : ((a.f0 - b.f0) * (c.f0 - b.f0) + (a.f1 - b.f1) * (c.f1 - b.f1)) * ((a.f0 - b.f0) * (c.f0 - b.f0) + (a.f1 - b.f1) * (c.f1 - b.f1)) = ((a.f0 - b.f0) * (a.f0 - b.f0) + (a.f1 - b.f1) * (a.f1 - b.f1)) * ((c.f0 - b.f0) * (c.f0 - b.f0) + (c.f1 - b.f1) * (c.f1 - b.f1)) := by grind
    rw [e2] at q2; rw [e3] at q3
    generalize (a.f0 - b.f0) * (c.f0 - b.f0) + (a.f1 - b.f1) * (c.f1 - b.f1) = P at *
    generalize (a.f0 - b.f0) * (a.f0 - b.f0) + (a.f1 - b.f1) * (a.f1 - b.f1) = Q at *
    generalize (c.f0 - b.f0) * (c.f0 - b.f0) + (c.f1 - b.f1) * (c.f1 - b.f1) = R at *
    have : P * P < Q * R := Int.lt_of_lt_of_le (Int.mul_lt_mul_of_pos_left (show P < R by omega) q1) (Int.mul_le_mul_of_nonneg_right (by omega) (by omega))
    omega
   ·right; right; have : (b.f0 - a.f0) * (c.f0 - a.f0) + (b.f1 - a.f1) * (c.f1 - a.f1) ≤ 0 := q3; exact this
  ·right; left; exact q2
 ·left; exact q1
theorem spike {a b c : Pt} (hab : a ≠ b) (hbc : b ≠ c) : (cr b a c = 0 ∧ 0 < (a.f0 - b.f0) * (c.f0 - b.f0) + (a.f1 - b.f1) * (c.f1 - b.f1)) ↔ (On a b c ∨ On b c a) := by
 have e1 : cr b a c = - cr a b c := by rw [cr_eq, cr_eq]; grind
 have e2 : cr a c b = - cr a b c := cr_swap a b c
 have e3 : cr b c a = cr a b c := cr_rot a b c
 by_cases h : cr a b c = 0
 ·have d := dot_on (show cr a c b = 0 by omega)
  have t := on_line h
  have x1 : btw a c b → btw a b c → False := fun p q => hbc (btw_eq q p)
  have x2 : btw a c b → btw b c a → False := fun p q => hab (btw_eq' p q)
  unfold On
  rw [e1, e3, h]
  constructor
  ·rintro ⟨_, h1⟩
   have : ¬ btw a c b := by rw [← d]; omega
   rcases t with t | t | t
   ·exact absurd t this
   ·exact Or.inl ⟨rfl, t⟩
   ·exact Or.inr ⟨rfl, t⟩
  ·intro h1
   refine ⟨by omega, ?_⟩
   have : ¬ btw a c b := by
    intro hb
    rcases h1 with ⟨_, h1⟩ | ⟨_, h1⟩
    ·exact x1 hb h1
    ·exact x2 hb h1
   rw [← d] at this; omega
 ·unfold On; rw [e1, e3]
  constructor
  ·rintro ⟨h1, _⟩; omega
  ·rintro (⟨h1, _⟩ | ⟨h1, _⟩) <;> omega
theorem Meet_comm (a b c d : Pt) : Meet a b c d ↔ Meet c d a b := by
 unfold Meet
 constructor
 ·rintro (h | h | h | h | h)
  ·exact Or.inr (Or.inr (Or.inl h))
  ·exact Or.inr (Or.inr (Or.inr (Or.inl h)))
  ·exact Or.inl h
  ·exact Or.inr (Or.inl h)
  ·exact Or.inr (Or.inr (Or.inr (Or.inr h.symm)))
 ·rintro (h | h | h | h | h)
  ·exact Or.inr (Or.inr (Or.inl h))
  ·exact Or.inr (Or.inr (Or.inr (Or.inl h)))
  ·exact Or.inl h
  ·exact Or.inr (Or.inl h)
  ·exact Or.inr (Or.inr (Or.inr (Or.inr h.symm)))
def CSimple (l : List Pt) : Prop := ∀ i, i < l.length →
 at_ l i ≠ at_ l ((i + 1) % l.length) ∧
 ¬ (cr (at_ l i) (at_ l ((i + l.length - 1) % l.length)) (at_ l ((i + 1) % l.length)) = 0 ∧ 0 < ((at_ l ((i + l.length - 1) % l.length)).f0 - (at_ l i).f0) * ((at_ l ((i + 1) % l.length)).f0 - (at_ l i).f0) + ((at_ l ((i + l.length - 1) % l.length)).f1 - (at_ l i).f1) * ((at_ l ((i + 1) % l.length)).f1 - (at_ l i).f1)) ∧
 ∀ j, j < i → j + 1 ≠ i → (j ≠ 0 ∨ i + 1 ≠ l.length) → ¬ Meet (at_ l i) (at_ l ((i + 1) % l.length)) (at_ l j) (at_ l (j + 1))
theorem csimple_iff (l : List Pt) (hn : 3 ≤ l.length) : CSimple l ↔ Simple l := by
 unfold CSimple Simple
 generalize hl : l.length = n at *
 have prev : ∀ i, i < n → (((i + n - 1) % n) + 1) % n = i ∧ (i + n - 1) % n < n := by
  intro i hi
  refine ⟨?_, Nat.mod_lt _ (by omega)⟩
  by_cases h0 : i = 0
  ·subst h0; rw [show 0 + n - 1 = n - 1 by omega, Nat.mod_eq_of_lt (show n - 1 < n by omega), show n - 1 + 1 = n by omega, Nat.mod_self]
  ·rw [show i + n - 1 = (i - 1) + n by omega, Nat.add_mod_right, Nat.mod_eq_of_lt (show i - 1 < n by omega), show i - 1 + 1 = i by omega, Nat.mod_eq_of_lt hi]
 have nxt : ∀ i, i < n → ((i + 1) % n + n - 1) % n = i ∧ (i + 1) % n < n := by
  intro i hi
  refine ⟨?_, Nat.mod_lt _ (by omega)⟩
  by_cases h0 : i + 1 = n
  ·rw [h0, Nat.mod_self, show 0 + n - 1 = n - 1 by omega, Nat.mod_eq_of_lt (by omega)]; omega
  ·rw [Nat.mod_eq_of_lt (show i + 1 < n by omega), show i + 1 + n - 1 = i + n by omega, Nat.add_mod_right, Nat.mod_eq_of_lt hi]
 have two : ∀ i, ((i + 1) % n + 1) % n = (i + 1 + 1) % n := fun i => by rw [Nat.mod_add_mod]
 constructor
 ·intro h
  refine ⟨fun i hi => (h i hi).1, fun i hi => ?_⟩
  obtain ⟨p1, p2⟩ := nxt i hi
  have q := (h _ p2).2.1
  rw [p1, two i] at q
  have e1 := (h i hi).1
  have e2 := (h _ p2).1
  rw [two i] at e2
  rw [spike e1 e2] at q
  refine ⟨fun h1 => q (Or.inl h1), fun h1 => q (Or.inr h1), fun k hk hkn hki hm => ?_⟩
  have hw : i ≠ 0 ∨ k + 1 ≠ n := by
   rcases Nat.lt_or_ge (k + 1) n with h1 | h1
   ·right; omega
   ·left; intro h0; apply hki; rw [show k + 1 = n by omega, Nat.mod_self, h0]
  have := (h k hkn).2.2 i (by omega) (by omega) hw
  apply this
  rw [Meet_comm]
  rwa [Nat.mod_eq_of_lt (show i + 1 < n by omega)] at hm
 ·rintro ⟨h0, h⟩ i hi
  obtain ⟨p1, p2⟩ := prev i hi
  refine ⟨h0 i hi, ?_, fun j hj hji hw hm => ?_⟩
  ·have e1 := h0 _ p2
   rw [p1] at e1
   rw [spike e1 (h0 i hi)]
   have q := h _ p2
   rw [← two ((i + n - 1) % n), p1] at q
   rintro (h1 | h1)
   ·exact q.1 h1
   ·exact q.2.1 h1
  ·have q := (h j (by omega)).2.2 i (by omega) hi (by
    rcases Nat.lt_or_ge (i + 1) n with h1 | h1
    ·rw [Nat.mod_eq_of_lt h1]; omega
    ·rw [show i + 1 = n by omega, Nat.mod_self]; omega)
   apply q
   rw [Nat.mod_eq_of_lt (show j + 1 < n by omega), Meet_comm]
   exact hm
theorem simple_l1 {l : List Pt} (hb : ∀ p ∈ l, Bd p) (hn : 3 ≤ l.length) (hN : l.length ≤ 1000000) {i : Nat} (hi : i < l.length) {b' : Bool} (hnext : Rt (fun k => shape_simple.l0 k l (l.length : Int) (l.length : Int) ((i + 1 : Nat) : Int)) b') :
  ∀ d j, i = j + d → ∃ b, Rt (fun k => shape_simple.l1 k l (l.length : Int) (i : Int) (l.length : Int) (i : Int) (i : Int) (j : Int) (at_ l ((i + 1) % l.length)).f0 (at_ l ((i + 1) % l.length)).f1) b ∧ (b = true ↔ (∀ j', j ≤ j' → j' < i → j' + 1 ≠ i → (j' ≠ 0 ∨ i + 1 ≠ l.length) → ¬ Meet (at_ l i) (at_ l ((i + 1) % l.length)) (at_ l j') (at_ l (j' + 1))) ∧ b' = true) := by
 intro d
 induction d with
 | zero =>
  intro j hj
  obtain ⟨K, hK⟩ := hnext
  refine ⟨b', ⟨K + 1, fun k hk => ?_⟩, ⟨fun h => ⟨fun j' h1 h2 => by omega, h⟩, fun h => h.2⟩⟩
  obtain ⟨k, rfl⟩ : ∃ m, k = m + 1 := ⟨k - 1, by omega⟩
  dsimp only; rw [shape_simple.l1, if_neg (by omega), wz _ (by omega) (by omega)]
  exact hK k (by omega)
 | succ d ih =>
  intro j hj
  obtain ⟨b1, ⟨K, hK⟩, hb1⟩ := ih (j + 1) (by omega)
  have skip : ∀ k, K + 1 ≤ k → shape_simple.j3 k l (l.length : Int) (i : Int) (l.length : Int) (i : Int) (i : Int) (j : Int) false (at_ l ((i + 1) % l.length)).f0 (at_ l ((i + 1) % l.length)).f1 = some b1 := by
   intro k hk
   obtain ⟨k, rfl⟩ : ∃ m, k = m + 1 := ⟨k - 1, by omega⟩
   rw [shape_simple.j3, if_neg (by simp), wz _ (by omega) (by omega)]
   exact hK k (by omega)
  have split_ : ∀ (P : Nat → Prop), (∀ j', j ≤ j' → j' < i → P j') ↔ (P j ∧ ∀ j', j + 1 ≤ j' → j' < i → P j') := by
   intro P
   constructor
   ·intro h; exact ⟨h j (Nat.le_refl _) (by omega), fun j' h1 h2 => h j' (by omega) h2⟩
   ·rintro ⟨h0, h⟩ j' h1 h2
    rcases Nat.eq_or_lt_of_le h1 with rfl | h3
    ·exact h0
    ·exact h j' h3 h2
  rw [show (∃ b, Rt (fun k => shape_simple.l1 k l (l.length : Int) (i : Int) (l.length : Int) (i : Int) (i : Int) (j : Int) (at_ l ((i + 1) % l.length)).f0 (at_ l ((i + 1) % l.length)).f1) b ∧ (b = true ↔ (∀ j', j ≤ j' → j' < i → j' + 1 ≠ i → (j' ≠ 0 ∨ i + 1 ≠ l.length) → ¬ Meet (at_ l i) (at_ l ((i + 1) % l.length)) (at_ l j') (at_ l (j' + 1))) ∧ b' = true)) ↔ (∃ b, Rt (fun k => shape_simple.l1 k l (l.length : Int) (i : Int) (l.length : Int) (i : Int) (i : Int) (j : Int) (at_ l ((i + 1) % l.length)).f0 (at_ l ((i + 1) % l.length)).f1) b ∧ (b = true ↔ ((j + 1 ≠ i → (j ≠ 0 ∨ i + 1 ≠ l.length) → ¬ Meet (at_ l i) (at_ l ((i + 1) % l.length)) (at_ l j) (at_ l (j + 1))) ∧ b1 = true))) from by
   rw [split_]; simp only [hb1, and_assoc]]
  by_cases h1 : j + 1 = i
  ·refine ⟨b1, ⟨K + 2, fun k hk => ?_⟩, ⟨fun h => ⟨fun h2 => absurd h1 h2, h⟩, fun h => h.2⟩⟩
   obtain ⟨k, rfl⟩ : ∃ m, k = m + 1 := ⟨k - 1, by omega⟩
   dsimp only; rw [shape_simple.l1, if_pos (by omega), wz _ (by omega) (by omega), if_pos (by omega)]
   exact skip k (by omega)
  ·have hBi := at_bd hb hi
   have hBn := at_bd hb (show (i + 1) % l.length < l.length from Nat.mod_lt _ (by omega))
   have hBj := at_bd hb (show j < l.length by omega)
   have hBk := at_bd hb (show j + 1 < l.length by omega)
   have go : (j ≠ 0 ∨ i + 1 ≠ l.length) → ∀ k, K + 2 ≤ k → ((shape_meet.f k (rd_T41 l i).f0 (rd_T41 l i).f1 (at_ l ((i + 1) % l.length)).f0 (at_ l ((i + 1) % l.length)).f1 (rd_T41 l j).f0 (rd_T41 l j).f1 (rd_T41 l (((j + 1 : Nat)) : Int)).f0 (rd_T41 l ((j + 1 : Nat) : Int)).f1).bind fun t => shape_simple.j3 k l (l.length : Int) (i : Int) (l.length : Int) (i : Int) (i : Int) (j : Int) t (at_ l ((i + 1) % l.length)).f0 (at_ l ((i + 1) % l.length)).f1) = some (!decide (Meet (at_ l i) (at_ l ((i + 1) % l.length)) (at_ l j) (at_ l (j + 1))) && b1) := by
    intro hw k hk
    obtain ⟨k, rfl⟩ : ∃ m, k = m + 1 := ⟨k - 1, by omega⟩
    rw [rd_at, rd_at, rd_at, meet_f hBi hBn hBj hBk, Option.bind_some]
    by_cases hm : Meet (at_ l i) (at_ l ((i + 1) % l.length)) (at_ l j) (at_ l (j + 1))
    ·simp only [hm, decide_true, Bool.not_true, Bool.false_and]
     rw [shape_simple.j3, if_pos rfl]
    ·simp only [hm, decide_false, Bool.not_false, Bool.true_and]
     exact skip (k + 1) (by omega)
   by_cases h2 : j = 0
   ·by_cases h3 : i + 1 = l.length
    ·refine ⟨b1, ⟨K + 2, fun k hk => ?_⟩, ⟨fun h => ⟨fun _ h2 => by omega, h⟩, fun h => h.2⟩⟩
     obtain ⟨k, rfl⟩ : ∃ m, k = m + 1 := ⟨k - 1, by omega⟩
     dsimp only; rw [shape_simple.l1, if_pos (by omega), wz ((j : Int) + 1) (by omega) (by omega), if_neg (by omega), if_pos (by omega), wz _ (by omega) (by omega), if_pos (by omega)]
     exact skip k (by omega)
    ·refine ⟨(!decide (Meet (at_ l i) (at_ l ((i + 1) % l.length)) (at_ l j) (at_ l (j + 1))) && b1), ⟨K + 3, fun k hk => ?_⟩, ?_⟩
     ·obtain ⟨k, rfl⟩ : ∃ m, k = m + 1 := ⟨k - 1, by omega⟩
      dsimp only; rw [shape_simple.l1, if_pos (by omega), wz ((j : Int) + 1) (by omega) (by omega), if_neg (by omega), if_pos (by omega), wz _ (by omega) (by omega), if_neg (by omega), if_pos (by omega), if_pos (by omega), if_pos (by omega), if_pos (by omega), if_pos (by omega), if_pos (by omega)]
      exact go (by omega) k (by omega)
     ·simp only [Bool.and_eq_true, Bool.not_eq_true', decide_eq_false_iff_not]
      exact ⟨fun h => ⟨fun _ _ => h.1, h.2⟩, fun h => ⟨h.1 h1 (Or.inr h3), h.2⟩⟩
   ·refine ⟨(!decide (Meet (at_ l i) (at_ l ((i + 1) % l.length)) (at_ l j) (at_ l (j + 1))) && b1), ⟨K + 3, fun k hk => ?_⟩, ?_⟩
    ·obtain ⟨k, rfl⟩ : ∃ m, k = m + 1 := ⟨k - 1, by omega⟩
     dsimp only; rw [shape_simple.l1, if_pos (by omega), wz ((j : Int) + 1) (by omega) (by omega), if_neg (by omega), if_neg (by omega), if_pos (by omega), if_pos (by omega), if_pos (by omega), if_pos (by omega), if_pos (by omega), if_pos (by omega)]
     exact go (by omega) k (by omega)
    ·simp only [Bool.and_eq_true, Bool.not_eq_true', decide_eq_false_iff_not]
     exact ⟨fun h => ⟨fun _ _ => h.1, h.2⟩, fun h => ⟨h.1 h1 (Or.inl h2), h.2⟩⟩
theorem tmod_last (i n : Nat) (hi : i < n) (hN : n ≤ 1000000) : Int.tmod (wrap64 (wrap64 ((i : Int) + (n : Int)) - 1)) (n : Int) = (((i + n - 1) % n : Nat) : Int) := by
 rw [wz ((i : Int) + (n : Int)) (by omega) (by omega), wz _ (by omega) (by omega), show ((i : Int) + (n : Int)) - 1 = ((i + n - 1 : Nat) : Int) by omega, ← Int.ofNat_tmod]
theorem simple_l0 {l : List Pt} (hb : ∀ p ∈ l, Bd p) (hn : 3 ≤ l.length) (hN : l.length ≤ 1000000) :
  ∀ d i, l.length = i + d → ∃ b, Rt (fun k => shape_simple.l0 k l (l.length : Int) (l.length : Int) (i : Int)) b ∧ (b = true ↔ ∀ i', i ≤ i' → i' < l.length →
   at_ l i' ≠ at_ l ((i' + 1) % l.length) ∧
   ¬ (cr (at_ l i') (at_ l ((i' + l.length - 1) % l.length)) (at_ l ((i' + 1) % l.length)) = 0 ∧ 0 < ((at_ l ((i' + l.length - 1) % l.length)).f0 - (at_ l i').f0) * ((at_ l ((i' + 1) % l.length)).f0 - (at_ l i').f0) + ((at_ l ((i' + l.length - 1) % l.length)).f1 - (at_ l i').f1) * ((at_ l ((i' + 1) % l.length)).f1 - (at_ l i').f1)) ∧
   ∀ j, j < i' → j + 1 ≠ i' → (j ≠ 0 ∨ i' + 1 ≠ l.length) → ¬ Meet (at_ l i') (at_ l ((i' + 1) % l.length)) (at_ l j) (at_ l (j + 1))) := by
 intro d
 induction d with
 | zero =>
  intro i hi
  refine ⟨true, ⟨1, fun k hk => ?_⟩, ⟨fun _ i' h1 h2 => by omega, fun _ => rfl⟩⟩
  obtain ⟨k, rfl⟩ : ∃ m, k = m + 1 := ⟨k - 1, by omega⟩
  dsimp only; rw [shape_simple.l0, if_neg (by omega)]
 | succ d ih =>
  intro i hi
  obtain ⟨b1, hR1, hb1⟩ := ih (i + 1) (by omega)
  obtain ⟨b2, ⟨K, hK⟩, hb2⟩ := simple_l1 hb hn hN (show i < l.length by omega) hR1 i 0 (by omega)
  have hlt : i < l.length := by omega
  have hBi := at_bd hb hlt
  have hBn := at_bd hb (show (i + 1) % l.length < l.length from Nat.mod_lt _ (by omega))
  have hBl := at_bd hb (show (i + l.length - 1) % l.length < l.length from Nat.mod_lt _ (by omega))
  have t1 := tmod_in (i + 1) l.length (by omega)
  have t2 := tmod_in (i + l.length - 1) l.length (by omega)
  have hcross : shape_cross.f ((at_ l ((i + l.length - 1) % l.length)).f0 - (at_ l i).f0) ((at_ l ((i + l.length - 1) % l.length)).f1 - (at_ l i).f1) ((at_ l ((i + 1) % l.length)).f0 - (at_ l i).f0) ((at_ l ((i + 1) % l.length)).f1 - (at_ l i).f1) = some (cr (at_ l i) (at_ l ((i + l.length - 1) % l.length)) (at_ l ((i + 1) % l.length))) := by
   have := side_f hBi hBl hBn
   unfold shape_side.f at this
   rw [sub_f hBl hBi, sub_f hBn hBi] at this
   simpa using this
  have split_ : ∀ (P : Nat → Prop), (∀ i', i ≤ i' → i' < l.length → P i') ↔ (P i ∧ ∀ i', i + 1 ≤ i' → i' < l.length → P i') := by
   intro P
   constructor
   ·intro h; exact ⟨h i (Nat.le_refl _) hlt, fun j' h1 h2 => h j' (by omega) h2⟩
   ·rintro ⟨h0, h⟩ j' h1 h2
    rcases Nat.eq_or_lt_of_le h1 with rfl | h3
    ·exact h0
    ·exact h j' h3 h2
  by_cases e1 : at_ l i = at_ l ((i + 1) % l.length)
  ·refine ⟨false, ⟨1, fun k hk => ?_⟩, ⟨fun h => by simp at h, fun h => absurd e1 (h i (Nat.le_refl _) hlt).1⟩⟩
   obtain ⟨k, rfl⟩ : ∃ m, k = m + 1 := ⟨k - 1, by omega⟩
   dsimp only
   rw [shape_simple.l0, if_pos (by omega), if_neg (by omega), tmod_last i l.length hlt hN, tmod_nat i l.length (by omega), if_pos (by omega), if_pos (by omega), if_pos (by omega), if_pos (by omega), if_pos (by omega), if_pos (by omega), rd_at, rd_at, rd_at, pt_beq, if_pos (by simpa using e1)]
  ·by_cases e2 : (cr (at_ l i) (at_ l ((i + l.length - 1) % l.length)) (at_ l ((i + 1) % l.length)) = 0 ∧ 0 < ((at_ l ((i + l.length - 1) % l.length)).f0 - (at_ l i).f0) * ((at_ l ((i + 1) % l.length)).f0 - (at_ l i).f0) + ((at_ l ((i + l.length - 1) % l.length)).f1 - (at_ l i).f1) * ((at_ l ((i + 1) % l.length)).f1 - (at_ l i).f1))
   ·refine ⟨false, ⟨2, fun k hk => ?_⟩, ⟨fun h => by simp at h, fun h => absurd e2 (h i (Nat.le_refl _) hlt).2.1⟩⟩
    obtain ⟨k, rfl⟩ : ∃ m, k = m + 1 + 1 := ⟨k - 2, by omega⟩
    dsimp only
    rw [shape_simple.l0, if_pos (by omega), if_neg (by omega), tmod_last i l.length hlt hN, tmod_nat i l.length (by omega), if_pos (by omega), if_pos (by omega), if_pos (by omega), if_pos (by omega), if_pos (by omega), if_pos (by omega), rd_at, rd_at, rd_at, pt_beq, if_neg (by simpa using e1), sub_f hBl hBi, Option.bind_some, sub_f hBn hBi, Option.bind_some, hcross, Option.bind_some, if_pos e2.1, dot_f hBl hBn hBi, Option.bind_some, shape_simple.j1, if_pos (by simpa using e2.2)]
   ·refine ⟨b2, ⟨K + 2, fun k hk => ?_⟩, ?_⟩
    ·obtain ⟨k, rfl⟩ : ∃ m, k = m + 1 + 1 := ⟨k - 2, by omega⟩
     dsimp only
     rw [shape_simple.l0, if_pos (by omega), if_neg (by omega), tmod_last i l.length hlt hN, tmod_nat i l.length (by omega), if_pos (by omega), if_pos (by omega), if_pos (by omega), if_pos (by omega), if_pos (by omega), if_pos (by omega), rd_at, rd_at, rd_at, pt_beq, if_neg (by simpa using e1), sub_f hBl hBi, Option.bind_some, sub_f hBn hBi, Option.bind_some, hcross, Option.bind_some]
     have := hK k (by omega)
     by_cases h3 : cr (at_ l i) (at_ l ((i + l.length - 1) % l.length)) (at_ l ((i + 1) % l.length)) = 0
     ·rw [if_pos h3, dot_f hBl hBn hBi, Option.bind_some, shape_simple.j1, if_neg (by simpa using fun h4 => e2 ⟨h3, h4⟩)]
      exact this
     ·rw [if_neg h3, shape_simple.j1, if_neg (by simp)]
      exact this
    ·rw [split_, hb2, hb1]
     constructor
     ·rintro ⟨h1, h2⟩
      exact ⟨⟨e1, e2, fun j hj h3 h4 => h1 j (Nat.zero_le _) hj h3 h4⟩, h2⟩
     ·rintro ⟨⟨_, _, h1⟩, h2⟩
      exact ⟨fun j _ hj h3 h4 => h1 j hj h3 h4, h2⟩
theorem simple_run {l : List Pt} (hb : ∀ p ∈ l, Bd p) (hn : 3 ≤ l.length) (hN : l.length ≤ 1000000) : ∃ b, Rt (fun k => shape_simple.f k l) b ∧ (b = true ↔ Simple l) := by
 obtain ⟨b, hR, h⟩ := simple_l0 hb hn hN l.length 0 (by omega)
 refine ⟨b, hR, ?_⟩
 rw [← csimple_iff l hn, h]
 exact ⟨fun h i hi => h i (Nat.zero_le _) hi, fun h i _ hi => h i hi⟩
end Go.Proofs.Ythehmkpcddafnaa.M
end
section
namespace Go.Proofs.Ythehmkpcddafnaa.M
open Go.RowKit Go.Proofs.Ythehmkpcddafnaa.PG Go.Proofs.YthehmkpcddafnaaW.PrintMore Go.Proofs.YthehmkpcddafnaaW.PrintWords
end Go.Proofs.Ythehmkpcddafnaa.M
end
section
namespace Go.Proofs.Ythehmkpcddafnaa.M
open Go.RowKit Go.Proofs.Ythehmkpcddafnaa.PG Go.Proofs.YthehmkpcddafnaaW.PrintMore Go.Proofs.YthehmkpcddafnaaW.PrintWords
def In (m : Int) (p : Pt) : Prop := -m ≤ p.f0 ∧ p.f0 ≤ m ∧ -m ≤ p.f1 ∧ p.f1 ≤ m
instance (m : Int) (p : Pt) : Decidable (In m p) := by unfold In; infer_instance
def Poly (l : List Pt) : Prop := 3 ≤ l.length ∧ l.length ≤ 32 ∧ ∀ p ∈ l, In 10000 p
instance (l : List Pt) : Decidable (Poly l) := by unfold Poly; infer_instance
theorem beyond_f (m : Int) (h0 : 0 ≤ m) (h1 : m ≤ 1000000) (p : Pt) : beyond m p = !decide (In m p) := by
 unfold beyond
 rw [wz _ (by omega) (by omega), Bool.eq_iff_iff]
 simp only [Bool.or_eq_true, decide_eq_true_eq, Bool.not_eq_true']
 rw [decide_eq_false_iff_not]
 unfold In
 omega
theorem within_f (l : List Pt) (m : Int) (h0 : 0 ≤ m) (h1 : m ≤ 1000000) : shape_within.f l m = some (decide (∀ p ∈ l, In m p)) := by
 unfold shape_within.f
 congr 1
 rw [Bool.eq_iff_iff]
 simp only [Bool.not_eq_true', List.any_eq_false, beyond_f m h0 h1, decide_eq_true_eq, Bool.not_eq_true', decide_eq_false_iff_not, Decidable.not_not]
theorem polygon_f (l : List Pt) : shape_polygon.f l = some (decide (Poly l)) := by
 unfold shape_polygon.f
 by_cases h : (l.length : Int) ≥ 3
 ·rw [if_pos h]
  by_cases h2 : (l.length : Int) ≤ 32
  ·rw [if_pos h2, within_f _ _ (by omega) (by omega), Option.bind_some]
   congr 1; rw [decide_eq_decide]
   exact ⟨fun h3 => ⟨by omega, by omega, h3⟩, fun h3 => h3.2.2⟩
  ·rw [if_neg h2]
   congr 1; symm; rw [decide_eq_false_iff_not]
   intro h3; have := h3.2.1; omega
 ·rw [if_neg h]
  congr 1; symm; rw [decide_eq_false_iff_not]
  intro h3; have := h3.1; omega
theorem in_bd {p : Pt} (h : In 10000 p) : Bd p := by unfold In at h; unfold Bd; omega
def term (l : List Pt) (i : Nat) : Int := (at_ l i).f0 * (at_ l ((i + 1) % l.length)).f1 - (at_ l i).f1 * (at_ l ((i + 1) % l.length)).f0
def areaTo (l : List Pt) : Nat → Int
 | 0 => 0
 | i + 1 => areaTo l i + term l i
def area (l : List Pt) : Int := areaTo l l.length
theorem prod_bd {a b : Pt} (ha : Bd a) (hb : Bd b) : (-4000000000000 ≤ a.f0 * b.f1 ∧ a.f0 * b.f1 ≤ 4000000000000) ∧ (-4000000000000 ≤ a.f1 * b.f0 ∧ a.f1 * b.f0 ≤ 4000000000000) := by
 obtain ⟨a0, a1, a2, a3⟩ := ha; obtain ⟨b0, b1, b2, b3⟩ := hb
 exact ⟨mulb (by omega) (by omega) (by omega) (by omega), mulb (by omega) (by omega) (by omega) (by omega)⟩
theorem areaTo_bd {l : List Pt} (hb : ∀ p ∈ l, Bd p) : ∀ i, i ≤ l.length → -8000000000000 * (i : Int) ≤ areaTo l i ∧ areaTo l i ≤ 8000000000000 * (i : Int) := by
 intro i
 induction i with
 | zero => intro _; unfold areaTo; omega
 | succ i ih =>
  intro hi
  have h := ih (by omega)
  have h2 := prod_bd (at_bd hb (show i < l.length by omega)) (at_bd hb (show (i + 1) % l.length < l.length from Nat.mod_lt _ (by omega)))
  unfold areaTo term; omega
theorem area_l0 {l : List Pt} (hb : ∀ p ∈ l, Bd p) (hN : l.length ≤ 1000000) : ∀ d i, l.length = i + d → Rt (fun k => shape_area2.l0 k l (areaTo l i) (l.length : Int) (i : Int)) (area l) := by
 intro d
 induction d with
 | zero =>
  intro i hi
  refine ⟨0 + 1, fun k hk => ?_⟩
  obtain ⟨k, rfl⟩ := fuel1 hk
  dsimp only; rw [shape_area2.l0, if_neg (by omega)]
  rw [show i = l.length by omega]; rfl
 | succ d ih =>
  intro i hi
  have hlt : i < l.length := by omega
  obtain ⟨K, hK⟩ := ih (i + 1) (by omega)
  refine ⟨K + 1, fun k hk => ?_⟩
  obtain ⟨k, rfl⟩ := fuel1 hk
  have t1 := tmod_in (i + 1) l.length (by omega)
  have h2 := prod_bd (at_bd hb hlt) (at_bd hb (show (i + 1) % l.length < l.length from Nat.mod_lt _ (by omega)))
  have h3 := areaTo_bd hb (i + 1) (by omega)
  have h4 := areaTo_bd hb i (by omega)
  have e : areaTo l (i + 1) = areaTo l i + term l i := rfl
  unfold term at e
  dsimp only
  rw [shape_area2.l0, if_pos (by omega), if_pos (by omega), if_pos (by omega), if_neg (by omega), tmod_nat i _ (by omega), if_pos (by omega), if_pos (by omega), rd_at, rd_at]
  unfold shape_cross.f
  rw [Option.bind_some, wz ((at_ l i).f0 * _) (by omega) (by omega), wz ((at_ l i).f1 * _) (by omega) (by omega), wz (_ - _) (by omega) (by omega), wz (areaTo l i + _) (by omega) (by omega), ← e, wrap_succ i (by omega)]
  exact hK k (by omega)
theorem area_run {l : List Pt} (hb : ∀ p ∈ l, Bd p) (hN : l.length ≤ 1000000) : Rt (fun k => shape_area2.f k l) (area l) := by
 obtain ⟨K, hK⟩ := area_l0 hb hN l.length 0 (by omega)
 exact ⟨K, fun k hk => hK k hk⟩
end Go.Proofs.Ythehmkpcddafnaa.M
end
section
namespace Go.Proofs.Ythehmkpcddafnaa.M
open Go.RowKit Go.Proofs.Ythehmkpcddafnaa.PG Go.Proofs.YthehmkpcddafnaaW.PrintMore Go.Proofs.YthehmkpcddafnaaW.PrintWords
def shift (v p : Pt) : Pt := ⟨p.f0 + v.f0, p.f1 + v.f1⟩
def shifted (v : Pt) (l : List Pt) : List Pt := l.map (shift v)
def SepAt (a b : List Pt) (i : Nat) : Prop := ∀ q ∈ b, cr (at_ a i) (at_ a ((i + 1) % a.length)) q ≤ 0
def Sep (a b : List Pt) : Prop := ∃ i, i < a.length ∧ SepAt a b i
theorem ex_split {n i : Nat} (hi : i < n) (P : Nat → Prop) : (∃ i', i ≤ i' ∧ i' < n ∧ P i') ↔ (P i ∨ ∃ i', i + 1 ≤ i' ∧ i' < n ∧ P i') := by
 constructor
 ·rintro ⟨j, h1, h2, h3⟩
  rcases Nat.eq_or_lt_of_le h1 with rfl | h4
  ·exact Or.inl h3
  ·exact Or.inr ⟨j, h4, h2, h3⟩
 ·rintro (h | ⟨j, h1, h2, h3⟩)
  ·exact ⟨i, Nat.le_refl _, hi, h⟩
  ·exact ⟨j, by omega, h2, h3⟩
theorem left_f {a b : Pt} {l : List Pt} (ha : Bd a) (hb : Bd b) (hl : ∀ q ∈ l, Bd q) : ∃ c, left_any.f l a.f0 a.f1 b.f0 b.f1 = some c ∧ (c = true ↔ ¬ ∀ q ∈ l, cr a b q ≤ 0) := by
 refine ⟨_, rfl, ?_⟩
 rw [List.any_eq_true]
 constructor
 ·rintro ⟨q, hq, h⟩ hn
  unfold PG.leftOf at h
  rw [side_f ha hb (hl q hq), decide_eq_true_eq, Option.getD_some] at h
  have := hn q hq; omega
 ·intro hn
  apply Classical.byContradiction
  intro h
  apply hn
  intro q hq
  apply Classical.byContradiction
  intro h2
  apply h
  refine ⟨q, hq, ?_⟩
  unfold PG.leftOf
  rw [side_f ha hb (hl q hq), decide_eq_true_eq, Option.getD_some]; omega
theorem parted_run {a b : List Pt} (ha : ∀ p ∈ a, Bd p) (hb : ∀ p ∈ b, Bd p) (hN : a.length ≤ 1000000) : ∃ c, Rt (fun k => shape_parted.f k a b) c ∧ (c = true ↔ Sep a b) := by
 have H : ∀ d i, a.length = i + d → ∃ c, Rt (fun k => shape_parted.l0 k a b (a.length : Int) (i : Int)) c ∧ (c = true ↔ ∃ i', i ≤ i' ∧ i' < a.length ∧ SepAt a b i') := by
  intro d
  induction d with
  | zero =>
   intro i hi
   refine ⟨false, rt_ret fun k => ?_, ⟨fun h => by simp at h, fun ⟨j, h1, h2, _⟩ => by omega⟩⟩
   rw [shape_parted.l0, if_neg (by omega)]
  | succ d ih =>
   intro i hi
   have hlt : i < a.length := by omega
   have t1 := tmod_in (i + 1) a.length (by omega)
   obtain ⟨c1, hc1, hc2⟩ := ih (i + 1) (by omega)
   obtain ⟨e, he1, he2⟩ := left_f (at_bd ha hlt) (at_bd ha (show (i + 1) % a.length < a.length from Nat.mod_lt _ (by omega))) hb
   rw [ex_split hlt]
   have st : ∀ k, shape_parted.l0 (k + 1) a b (a.length : Int) (i : Int) = if e = true then shape_parted.l0 k a b (a.length : Int) ((i + 1 : Nat) : Int) else some true := by
    intro k
    rw [shape_parted.l0, if_pos (by omega), if_pos (by omega), if_pos (by omega), if_neg (by omega), tmod_nat i _ (by omega), if_pos (by omega), if_pos (by omega), rd_at, rd_at, he1, Option.bind_some, wrap_succ i (by omega)]
   cases e with
   | true =>
    refine ⟨c1, rt_step (fun k => by rw [st, if_pos rfl]) hc1, ?_⟩
    rw [hc2]
    exact ⟨Or.inr, fun h => h.resolve_left (he2.mp rfl)⟩
   | false =>
    refine ⟨true, rt_ret (fun k => by rw [st, if_neg (by simp)]), ⟨fun _ => Or.inl ?_, fun _ => rfl⟩⟩
    apply Classical.byContradiction
    intro h
    have := he2.mpr h
    simp at this
 obtain ⟨c, ⟨K, hK⟩, h⟩ := H a.length 0 (by omega)
 refine ⟨c, ⟨K, fun k hk => hK k hk⟩, ?_⟩
 rw [h]
 exact ⟨fun ⟨i, _, h1, h2⟩ => ⟨i, h1, h2⟩, fun ⟨i, h1, h2⟩ => ⟨i, Nat.zero_le _, h1, h2⟩⟩
end Go.Proofs.Ythehmkpcddafnaa.M
end
section
namespace Go.Proofs.Ythehmkpcddafnaa.M
open Go.RowKit Go.Proofs.Ythehmkpcddafnaa.PG Go.Proofs.YthehmkpcddafnaaW.PrintMore Go.Proofs.YthehmkpcddafnaaW.PrintWords
theorem refsign_f (n : Int) : cracknelref04_sign.f n = some (sg n) := by
 unfold cracknelref04_sign.f sg; split <;> (try split) <;> rfl
theorem refMeet_f {a b c d : Pt} (ha : Bd a) (hb : Bd b) (hc : Bd c) (hd : Bd d) (k : Nat) : cracknelref04_Meet.f (k + 1) a.f0 a.f1 b.f0 b.f1 c.f0 c.f1 d.f0 d.f1 = some (decide (Meet a b c d)) := by
 unfold cracknelref04_Meet.f
 simp only [cracknelref04_Meet.j0, On_f ha hb hc, On_f ha hb hd, On_f hc hd ha, On_f hc hd hb, Cross_f ha hb hc, Cross_f ha hb hd, Cross_f hc hd ha, Cross_f hc hd hb, refsign_f, Option.bind_some, sg_neg, decide_eq_true_eq]
 unfold Meet
 split
 ·simp_all
 ·split
  ·simp_all
  ·split
   ·simp_all
   ·split
    ·simp_all
    ·split <;> simp_all <;> omega
theorem next_f {l : List Pt} {i : Nat} (hl : 0 < l.length) (hi : (i : Int) ≤ 9223372036854775806) : cracknelref04_next.f l (i : Int) = some ((at_ l ((i + 1) % l.length)).f0, (at_ l ((i + 1) % l.length)).f1) := by
 have h2 : (i + 1) % l.length < l.length := Nat.mod_lt _ hl
 unfold cracknelref04_next.f
 rw [tmod_nat i l.length hi, if_neg (by omega), if_pos (by omega), if_pos (by omega), rd_at]
end Go.Proofs.Ythehmkpcddafnaa.M
end
section
namespace Go.Proofs.Ythehmkpcddafnaa.M
open Go.RowKit Go.Proofs.Ythehmkpcddafnaa.PG Go.Proofs.YthehmkpcddafnaaW.PrintMore Go.Proofs.YthehmkpcddafnaaW.PrintWords
theorem ref_l2 {l : List Pt} (hb : ∀ p ∈ l, Bd p) (hn : 3 ≤ l.length) (hN : l.length ≤ 1000000) {i : Nat} (hi : i < l.length) {b' : Bool} (hnext : Rt (fun k => cracknelref04_Simple.l1 k l (l.length : Int) ((i + 1 : Nat) : Int)) b') :
  ∀ d j, l.length + 1 = j + d → ∃ b, Rt (fun k => cracknelref04_Simple.l2 k l (l.length : Int) (i : Int) (j : Int) (at_ l i).f0 (at_ l i).f1 (at_ l ((i + 1) % l.length)).f0 (at_ l ((i + 1) % l.length)).f1) b ∧ (b = true ↔ (∀ j', j ≤ j' → j' < l.length → (j' + 1) % l.length ≠ i → ¬ Meet (at_ l i) (at_ l ((i + 1) % l.length)) (at_ l j') (at_ l ((j' + 1) % l.length))) ∧ b' = true) := by
 intro d
 induction d with
 | zero =>
  intro j hj
  obtain ⟨K, hK⟩ := hnext
  refine ⟨b', ⟨K + 1, fun k hk => ?_⟩, ⟨fun h => ⟨fun j' h1 h2 => by omega, h⟩, fun h => h.2⟩⟩
  obtain ⟨k, rfl⟩ := fuel1 hk
  dsimp only; rw [cracknelref04_Simple.l2, if_neg (by omega), wrap_succ i (by omega)]
  exact hK k (by omega)
 | succ d ih =>
  intro j hj
  by_cases hlt : j < l.length
  rotate_left
  ·obtain ⟨K, hK⟩ := hnext
   refine ⟨b', ⟨K + 1, fun k hk => ?_⟩, ⟨fun h => ⟨fun j' h1 h2 => by omega, h⟩, fun h => h.2⟩⟩
   obtain ⟨k, rfl⟩ := fuel1 hk
   dsimp only; rw [cracknelref04_Simple.l2, if_neg (by omega), wrap_succ i (by omega)]
   exact hK k (by omega)
  obtain ⟨b1, ⟨K, hK⟩, hb1⟩ := ih (j + 1) (by omega)
  have hBi := at_bd hb hi
  have hBn := at_bd hb (show (i + 1) % l.length < l.length from Nat.mod_lt _ (by omega))
  have hBj := at_bd hb hlt
  have hBk := at_bd hb (show (j + 1) % l.length < l.length from Nat.mod_lt _ (by omega))
  rw [from_split hlt]
  by_cases h1 : (j + 1) % l.length = i
  ·refine ⟨b1, ⟨K + 1, fun k hk => ?_⟩, ?_⟩
   ·obtain ⟨k, rfl⟩ := fuel1 hk
    dsimp only; rw [cracknelref04_Simple.l2, if_pos (by omega), if_neg (by omega), wrap_succ j (by omega), tmod_nat' j _ (by omega), if_pos (by omega)]
    exact hK k (by omega)
   ·rw [hb1]; exact ⟨fun h => ⟨⟨fun h2 => absurd h1 h2, h.1⟩, h.2⟩, fun h => ⟨h.1.2, h.2⟩⟩
  ·by_cases hm : Meet (at_ l i) (at_ l ((i + 1) % l.length)) (at_ l j) (at_ l ((j + 1) % l.length))
   ·refine ⟨false, ⟨0 + 2, fun k hk => ?_⟩, ⟨fun h => by simp at h, fun h => absurd hm (h.1.1 h1)⟩⟩
    obtain ⟨k, rfl⟩ := fuel2 hk
    dsimp only; rw [cracknelref04_Simple.l2, if_pos (by omega), if_neg (by omega), wrap_succ j (by omega), tmod_nat' j _ (by omega), if_neg (by omega), if_pos (by omega), if_pos (by omega), next_f (by omega) (by omega), Option.bind_some, rd_at, refMeet_f hBi hBn hBj hBk, Option.bind_some, if_pos (by simpa using hm)]
   ·refine ⟨b1, ⟨K + 2, fun k hk => ?_⟩, ?_⟩
    ·obtain ⟨k, rfl⟩ := fuel2 hk
     dsimp only; rw [cracknelref04_Simple.l2, if_pos (by omega), if_neg (by omega), wrap_succ j (by omega), tmod_nat' j _ (by omega), if_neg (by omega), if_pos (by omega), if_pos (by omega), next_f (by omega) (by omega), Option.bind_some, rd_at, refMeet_f hBi hBn hBj hBk, Option.bind_some, if_neg (by simpa using hm)]
     exact hK _ (by omega)
    ·rw [hb1]; exact ⟨fun h => ⟨⟨fun _ => hm, h.1⟩, h.2⟩, fun h => ⟨h.1.2, h.2⟩⟩
theorem ref_l1 {l : List Pt} (hb : ∀ p ∈ l, Bd p) (hn : 3 ≤ l.length) (hN : l.length ≤ 1000000) :
  ∀ d i, l.length = i + d → ∃ b, Rt (fun k => cracknelref04_Simple.l1 k l (l.length : Int) (i : Int)) b ∧ (b = true ↔ ∀ i', i ≤ i' → i' < l.length →
   ¬ On (at_ l i') (at_ l ((i' + 1) % l.length)) (at_ l ((i' + 1 + 1) % l.length)) ∧
   ¬ On (at_ l ((i' + 1) % l.length)) (at_ l ((i' + 1 + 1) % l.length)) (at_ l i') ∧
   ∀ k, i' + 2 ≤ k → k < l.length → (k + 1) % l.length ≠ i' → ¬ Meet (at_ l i') (at_ l ((i' + 1) % l.length)) (at_ l k) (at_ l ((k + 1) % l.length))) := by
 intro d
 induction d with
 | zero =>
  intro i hi
  refine ⟨true, ⟨0 + 1, fun k hk => ?_⟩, ⟨fun _ i' h1 h2 => by omega, fun _ => rfl⟩⟩
  obtain ⟨k, rfl⟩ := fuel1 hk
  dsimp only; rw [cracknelref04_Simple.l1, if_neg (by omega)]
 | succ d ih =>
  intro i hi
  have hlt : i < l.length := by omega
  obtain ⟨b1, hR1, hb1⟩ := ih (i + 1) (by omega)
  obtain ⟨b2, ⟨K, hK⟩, hb2⟩ := ref_l2 hb hn hN hlt hR1 (l.length + 1 - (i + 2)) (i + 2) (by omega)
  have hBi := at_bd hb hlt
  have hBn := at_bd hb (show (i + 1) % l.length < l.length from Nat.mod_lt _ (by omega))
  have hBm := at_bd hb (show (i + 1 + 1) % l.length < l.length from Nat.mod_lt _ (by omega))
  rw [from_split hlt]
  by_cases h1 : On (at_ l i) (at_ l ((i + 1) % l.length)) (at_ l ((i + 1 + 1) % l.length))
  ·refine ⟨false, ⟨0 + 2, fun k hk => ?_⟩, ⟨fun h => by simp at h, fun h => absurd h1 h.1.1⟩⟩
   obtain ⟨k, rfl⟩ := fuel2 hk
   dsimp only; rw [cracknelref04_Simple.l1, if_pos (by omega), if_pos (by omega), if_pos (by omega), next_f (by omega) (by omega), Option.bind_some, wrap_succ i (by omega), next_f (by omega) (by omega), Option.bind_some, rd_at, On_f hBi hBn hBm, Option.bind_some, if_pos (by simpa using h1), cracknelref04_Simple.j2, if_pos rfl]
  ·by_cases h2 : On (at_ l ((i + 1) % l.length)) (at_ l ((i + 1 + 1) % l.length)) (at_ l i)
   ·refine ⟨false, ⟨0 + 2, fun k hk => ?_⟩, ⟨fun h => by simp at h, fun h => absurd h2 h.1.2.1⟩⟩
    obtain ⟨k, rfl⟩ := fuel2 hk
    dsimp only; rw [cracknelref04_Simple.l1, if_pos (by omega), if_pos (by omega), if_pos (by omega), next_f (by omega) (by omega), Option.bind_some, wrap_succ i (by omega), next_f (by omega) (by omega), Option.bind_some, rd_at, On_f hBi hBn hBm, Option.bind_some, if_neg (by simpa using h1), On_f hBn hBm hBi, Option.bind_some, cracknelref04_Simple.j2, if_pos (by simpa using h2)]
   ·refine ⟨b2, ⟨K + 2, fun k hk => ?_⟩, ?_⟩
    ·obtain ⟨k, rfl⟩ := fuel2 hk
     dsimp only; rw [cracknelref04_Simple.l1, if_pos (by omega), if_pos (by omega), if_pos (by omega), next_f (by omega) (by omega), Option.bind_some, wrap_succ i (by omega), next_f (by omega) (by omega), Option.bind_some, rd_at, On_f hBi hBn hBm, Option.bind_some, if_neg (by simpa using h1), On_f hBn hBm hBi, Option.bind_some, cracknelref04_Simple.j2, if_neg (by simpa using h2), wrap_succ2 i (by omega)]
     exact hK _ (by omega)
    ·rw [hb2, hb1]
     exact ⟨fun h => ⟨⟨h1, h2, fun k h3 h4 h5 => h.1 k h3 h4 h5⟩, h.2⟩, fun h => ⟨fun k h3 h4 h5 => h.1.2.2 k h3 h4 h5, h.2⟩⟩
theorem ref_l0 {l : List Pt} (hn : 3 ≤ l.length) (hN : l.length ≤ 1000000) {b' : Bool} (hnext : Rt (fun k => cracknelref04_Simple.l1 k l (l.length : Int) 0) b') :
  ∀ d i, l.length = i + d → ∃ b, Rt (fun k => cracknelref04_Simple.l0 k l (l.length : Int) (i : Int)) b ∧ (b = true ↔ (∀ i', i ≤ i' → i' < l.length → at_ l i' ≠ at_ l ((i' + 1) % l.length)) ∧ b' = true) := by
 intro d
 induction d with
 | zero =>
  intro i hi
  obtain ⟨K, hK⟩ := hnext
  refine ⟨b', ⟨K + 1, fun k hk => ?_⟩, ⟨fun h => ⟨fun i' h1 h2 => by omega, h⟩, fun h => h.2⟩⟩
  obtain ⟨k, rfl⟩ := fuel1 hk
  dsimp only; rw [cracknelref04_Simple.l0, if_neg (by omega)]
  exact hK k (by omega)
 | succ d ih =>
  intro i hi
  have hlt : i < l.length := by omega
  obtain ⟨b1, ⟨K, hK⟩, hb1⟩ := ih (i + 1) (by omega)
  rw [from_split hlt]
  by_cases h1 : at_ l i = at_ l ((i + 1) % l.length)
  ·refine ⟨false, ⟨0 + 1, fun k hk => ?_⟩, ⟨fun h => by simp at h, fun h => absurd h1 h.1.1⟩⟩
   obtain ⟨k, rfl⟩ := fuel1 hk
   dsimp only; rw [cracknelref04_Simple.l0, if_pos (by omega), if_pos (by omega), if_pos (by omega), next_f (by omega) (by omega), Option.bind_some, rd_at, pt_beq, if_pos (by simpa using h1)]
  ·refine ⟨b1, ⟨K + 1, fun k hk => ?_⟩, ?_⟩
   ·obtain ⟨k, rfl⟩ := fuel1 hk
    dsimp only; rw [cracknelref04_Simple.l0, if_pos (by omega), if_pos (by omega), if_pos (by omega), next_f (by omega) (by omega), Option.bind_some, rd_at, pt_beq, if_neg (by simpa using h1), wrap_succ i (by omega)]
    exact hK k (by omega)
   ·rw [hb1]; exact ⟨fun h => ⟨⟨h1, h.1⟩, h.2⟩, fun h => ⟨h.1.2, h.2⟩⟩
theorem refSimple_run {l : List Pt} (hb : ∀ p ∈ l, Bd p) (hn : 3 ≤ l.length) (hN : l.length ≤ 1000000) : ∃ b, Rt (fun k => cracknelref04_Simple.f k l) b ∧ (b = true ↔ Simple l) := by
 obtain ⟨b1, hR1, h1⟩ := ref_l1 hb hn hN l.length 0 (by omega)
 obtain ⟨b, hR, h⟩ := ref_l0 hn hN hR1 l.length 0 (by omega)
 refine ⟨b, hR, ?_⟩
 rw [h, h1]
 exact ⟨fun h => ⟨fun i hi => h.1 i (Nat.zero_le _) hi, fun i hi => h.2 i (Nat.zero_le _) hi⟩, fun h => ⟨fun i _ hi => h.1 i hi, fun i _ hi => h.2 i hi⟩⟩
end Go.Proofs.Ythehmkpcddafnaa.M
end
section
namespace Go.Proofs.Ythehmkpcddafnaa.M
open Go.RowKit Go.Proofs.Ythehmkpcddafnaa.PG Go.Proofs.YthehmkpcddafnaaW.PrintMore Go.Proofs.YthehmkpcddafnaaW.PrintWords
end Go.Proofs.Ythehmkpcddafnaa.M
end
section
namespace Go.Proofs.Ythehmkpcddafnaa.M
open Go.RowKit Go.Proofs.Ythehmkpcddafnaa.PG Go.Proofs.YthehmkpcddafnaaW.PrintMore Go.Proofs.YthehmkpcddafnaaW.PrintWords
theorem cut_f (l : List Pt) (m : Nat) (hm : m ≤ 32) : ∃ r, cracknellaw04_cut.f l (m : Int) = some r ∧ r.length ≤ 33 := by
 unfold cracknellaw04_cut.f
 by_cases h : (l.length : Int) > 32
 ·rw [if_pos h, mn_eq, Option.bind_some, if_pos (by omega), if_pos (by omega), Option.bind_some, if_pos (by simp only [List.length_nil, List.length_take]; omega)]
  refine ⟨_, rfl, ?_⟩
  simp only [List.nil_append, List.length_take]; omega
 ·rw [if_neg h, mn_eq, Option.bind_some, if_pos (by omega), if_pos (by omega), Option.bind_some, if_pos (by simp only [List.length_nil, List.length_take]; omega)]
  refine ⟨_, rfl, ?_⟩
  simp only [List.nil_append, List.length_take]; omega
theorem valid_f (p : Pt) (m : Int) (h0 : 0 ≤ m) (h1 : m ≤ 1000000) : cracknelref04_Valid.f p.f0 p.f1 m = some (decide (In m p)) := by
 unfold cracknelref04_Valid.f
 rw [wz _ (by omega) (by omega), in_f, Option.bind_some, in_f]
 by_cases h : -m ≤ p.f0 ∧ p.f0 ≤ m
 ·rw [if_pos (by simpa using h), Option.bind_some]
  congr 1; rw [decide_eq_decide]; unfold In; omega
 ·rw [if_neg (by simpa using h)]
  congr 1; symm; rw [decide_eq_false_iff_not]; unfold In; omega
theorem refPolygon_l0 (l : List Pt) (hN : l.length ≤ 1000000) : ∀ d i, l.length = i + d → ∃ b, Rt (fun k => cracknelref04_Polygon.l0 k l (i : Int)) b ∧ (b = true ↔ ((∀ i', i ≤ i' → i' < l.length → In 10000 (at_ l i')) ∧ 3 ≤ l.length ∧ l.length ≤ 32)) := by
 intro d
 induction d with
 | zero =>
  intro i hi
  refine ⟨decide (3 ≤ l.length ∧ l.length ≤ 32), ⟨0 + 1, fun k hk => ?_⟩, ?_⟩
  ·obtain ⟨k, rfl⟩ := fuel1 hk
   dsimp only; rw [cracknelref04_Polygon.l0, if_neg (by omega), in_f, Option.bind_some]
   congr 1; rw [decide_eq_decide]; omega
  ·rw [decide_eq_true_eq]
   exact ⟨fun h => ⟨fun i' h1 h2 => by omega, by omega⟩, fun h => by omega⟩
 | succ d ih =>
  intro i hi
  have hlt : i < l.length := by omega
  obtain ⟨b, ⟨K, hK⟩, hb⟩ := ih (i + 1) (by omega)
  rw [from_split hlt]
  by_cases h : In 10000 (at_ l i)
  ·refine ⟨b, ⟨K + 1, fun k hk => ?_⟩, ?_⟩
   ·obtain ⟨k, rfl⟩ := fuel1 hk
    dsimp only; rw [cracknelref04_Polygon.l0, if_pos (by omega), if_pos (by omega), rd_at, valid_f _ _ (by omega) (by omega), Option.bind_some, if_pos (by simpa using h), wrap_succ i (by omega)]
    exact hK k (by omega)
   ·rw [hb]
    exact ⟨fun h1 => ⟨⟨h, h1.1⟩, h1.2⟩, fun h1 => ⟨h1.1.2, h1.2⟩⟩
  ·refine ⟨false, ⟨0 + 1, fun k hk => ?_⟩, ⟨fun h1 => by simp at h1, fun h1 => absurd h1.1.1 h⟩⟩
   obtain ⟨k, rfl⟩ := fuel1 hk
   dsimp only; rw [cracknelref04_Polygon.l0, if_pos (by omega), if_pos (by omega), rd_at, valid_f _ _ (by omega) (by omega), Option.bind_some, if_neg (by simpa using h)]
theorem refPolygon_run (l : List Pt) (hN : l.length ≤ 1000000) : Rt (fun k => cracknelref04_Polygon.f k l) (decide (Poly l)) := by
 obtain ⟨b, ⟨K, hK⟩, hb⟩ := refPolygon_l0 l hN l.length 0 (by omega)
 refine ⟨K, fun k hk => ?_⟩
 have := hK k hk
 unfold cracknelref04_Polygon.f
 dsimp only at this ⊢
 rw [show (0 : Int) = ((0 : Nat) : Int) from rfl, this]
 congr 1; rw [Bool.eq_iff_iff, hb, decide_eq_true_eq]
 unfold Poly
 constructor
 ·rintro ⟨h1, h2, h3⟩
  refine ⟨h2, h3, fun p hp => ?_⟩
  obtain ⟨j, hj, rfl⟩ := List.mem_iff_getElem.mp hp
  rw [← at_eq hj]; exact h1 j (Nat.zero_le _) hj
 ·rintro ⟨h1, h2, h3⟩
  exact ⟨fun i _ hi => h3 _ (at_mem hi), h1, h2⟩
theorem refArea_l0 {l : List Pt} (hb : ∀ p ∈ l, Bd p) (hN : l.length ≤ 1000000) : ∀ d i, l.length = i + d → Rt (fun k => cracknelref04_Area2.l0 k l (areaTo l i) (i : Int)) (area l) := by
 intro d
 induction d with
 | zero =>
  intro i hi
  refine ⟨0 + 1, fun k hk => ?_⟩
  obtain ⟨k, rfl⟩ := fuel1 hk
  dsimp only; rw [cracknelref04_Area2.l0, if_neg (by omega)]
  rw [show i = l.length by omega]; rfl
 | succ d ih =>
  intro i hi
  have hlt : i < l.length := by omega
  obtain ⟨K, hK⟩ := ih (i + 1) (by omega)
  refine ⟨K + 1, fun k hk => ?_⟩
  obtain ⟨k, rfl⟩ := fuel1 hk
  have h2 := prod_bd (at_bd hb hlt) (at_bd hb (show (i + 1) % l.length < l.length from Nat.mod_lt _ (by omega)))
  have h3 := areaTo_bd hb (i + 1) (by omega)
  have h4 := areaTo_bd hb i (by omega)
  have e : areaTo l (i + 1) = areaTo l i + term l i := rfl
  unfold term at e
  dsimp only
  rw [cracknelref04_Area2.l0, if_pos (by omega), if_pos (by omega), next_f (by omega) (by omega), Option.bind_some, rd_at]
  dsimp only
  rw [Int.mul_comm (at_ l ((i + 1) % l.length)).f0, wz ((at_ l i).f0 * _) (by omega) (by omega), wz ((at_ l i).f1 * _) (by omega) (by omega), wz (_ - _) (by omega) (by omega), wz (areaTo l i + _) (by omega) (by omega), ← e, wrap_succ i (by omega)]
  exact hK k (by omega)
theorem refArea_run {l : List Pt} (hb : ∀ p ∈ l, Bd p) (hN : l.length ≤ 1000000) : Rt (fun k => cracknelref04_Area2.f k l) (area l) := by
 obtain ⟨K, hK⟩ := refArea_l0 hb hN l.length 0 (by omega)
 exact ⟨K, fun k hk => hK k hk⟩
end Go.Proofs.Ythehmkpcddafnaa.M
end
section
namespace Go.Proofs.Ythehmkpcddafnaa.M
open Go.RowKit Go.Proofs.Ythehmkpcddafnaa.PG Go.Proofs.YthehmkpcddafnaaW.PrintMore Go.Proofs.YthehmkpcddafnaaW.PrintWords
theorem parts_run {a b : List Pt} (ha : ∀ p ∈ a, Bd p) (hb : ∀ p ∈ b, Bd p) (hN : a.length ≤ 1000000) (hM : b.length ≤ 1000000) : ∃ c, Rt (fun k => cracknelref04_parts.f k a b) c ∧ (c = true ↔ Sep a b) := by
 have H1 : ∀ i, i < a.length → ∀ c1, Rt (fun k => cracknelref04_parts.l0 k a b ((i + 1 : Nat) : Int)) c1 → ∀ d j (s : Bool), b.length = j + d → ∃ c, Rt (fun k => cracknelref04_parts.l1 k a b (i : Int) s (j : Int)) c ∧ (c = true ↔ (s = true ∧ ∀ j', j ≤ j' → j' < b.length → cr (at_ a i) (at_ a ((i + 1) % a.length)) (at_ b j') ≤ 0) ∨ c1 = true) := by
  intro i hlt c1 hc1 d
  induction d with
  | zero =>
   intro j s hj
   cases s with
   | true =>
    refine ⟨true, rt_ret fun k => ?_, ⟨fun _ => Or.inl ⟨rfl, fun j' h1 h2 => by omega⟩, fun _ => rfl⟩⟩
    rw [cracknelref04_parts.l1, if_neg (by omega), if_pos rfl]
   | false =>
    refine ⟨c1, rt_step (fun k => ?_) hc1, ⟨Or.inr, fun h => h.resolve_left (by simp)⟩⟩
    rw [cracknelref04_parts.l1, if_neg (by omega), if_neg (by simp), wrap_succ i (by omega)]
  | succ d ih =>
   intro j s hj
   have hltj : j < b.length := by omega
   cases s with
   | true =>
    obtain ⟨c, hr, hc⟩ := ih (j + 1) (decide (cr (at_ a i) (at_ a ((i + 1) % a.length)) (at_ b j) ≤ 0)) (by omega)
    refine ⟨c, rt_step (fun k => ?_) hr, ?_⟩
    ·rw [cracknelref04_parts.l1, if_pos (by omega), if_pos rfl, if_pos (by omega), if_pos (by omega), next_f (by omega) (by omega), Option.bind_some, if_pos (by omega), rd_at, rd_at, Cross_f (at_bd ha hlt) (at_bd ha (show (i + 1) % a.length < a.length from Nat.mod_lt _ (by omega))) (at_bd hb hltj), Option.bind_some, wrap_succ j (by omega)]
    ·rw [hc, decide_eq_true_eq, from_split hltj]
     exact ⟨fun h => h.imp (fun h => ⟨rfl, h⟩) id, fun h => h.imp (fun h => h.2) id⟩
   | false =>
    obtain ⟨c, hr, hc⟩ := ih (j + 1) false (by omega)
    refine ⟨c, rt_step (fun k => ?_) hr, ?_⟩
    ·rw [cracknelref04_parts.l1, if_pos (by omega), if_neg (by simp), wrap_succ j (by omega)]
    ·rw [hc]; simp
 have H : ∀ d i, a.length = i + d → ∃ c, Rt (fun k => cracknelref04_parts.l0 k a b (i : Int)) c ∧ (c = true ↔ ∃ i', i ≤ i' ∧ i' < a.length ∧ SepAt a b i') := by
  intro d
  induction d with
  | zero =>
   intro i hi
   refine ⟨false, rt_ret fun k => ?_, ⟨fun h => by simp at h, fun ⟨j, h1, h2, _⟩ => by omega⟩⟩
   rw [cracknelref04_parts.l0, if_neg (by omega)]
  | succ d ih =>
   intro i hi
   have hlt : i < a.length := by omega
   obtain ⟨c1, hc1, hc2⟩ := ih (i + 1) (by omega)
   obtain ⟨c, hr, hc⟩ := H1 i hlt c1 hc1 b.length 0 true (by omega)
   rw [ex_split hlt]
   refine ⟨c, rt_step (fun k => ?_) hr, ?_⟩
   ·rw [cracknelref04_parts.l0, if_pos (by omega)]; rfl
   ·rw [hc, hc2]
    unfold SepAt
    constructor
    ·rintro (⟨_, h⟩ | h)
     ·left
      intro q hq
      obtain ⟨j, hj, rfl⟩ := List.mem_iff_getElem.mp hq
      rw [← at_eq hj]; exact h j (Nat.zero_le _) hj
     ·exact Or.inr h
    ·rintro (h | h)
     ·exact Or.inl ⟨rfl, fun j _ hj => h _ (at_mem hj)⟩
     ·exact Or.inr h
 obtain ⟨c, ⟨K, hK⟩, h⟩ := H a.length 0 (by omega)
 refine ⟨c, ⟨K, fun k hk => hK k hk⟩, ?_⟩
 rw [h]
 exact ⟨fun ⟨i, _, h1, h2⟩ => ⟨i, h1, h2⟩, fun ⟨i, h1, h2⟩ => ⟨i, Nat.zero_le _, h1, h2⟩⟩
theorem apart_run {a b : List Pt} (ha : ∀ p ∈ a, Bd p) (hb : ∀ p ∈ b, Bd p) (hN : a.length ≤ 1000000) (hM : b.length ≤ 1000000) : ∃ c, Rt (fun k => shape_apart.f k a b) c ∧ Rt (fun k => cracknelref04_Apart.f k a b) c ∧ (c = true ↔ Sep a b ∨ Sep b a) := by
 obtain ⟨c1, ⟨K1, h1⟩, i1⟩ := parted_run ha hb hN
 obtain ⟨c2, ⟨K2, h2⟩, i2⟩ := parted_run hb ha hM
 obtain ⟨c3, ⟨K3, h3⟩, i3⟩ := parts_run ha hb hN hM
 obtain ⟨c4, ⟨K4, h4⟩, i4⟩ := parts_run hb ha hM hN
 have e1 : c1 = c3 := by rw [Bool.eq_iff_iff, i1, i3]
 have e2 : c2 = c4 := by rw [Bool.eq_iff_iff, i2, i4]
 subst e1 e2
 refine ⟨c1 || c2, ⟨K1 + K2, fun k hk => ?_⟩, ⟨K3 + K4, fun k hk => ?_⟩, ?_⟩
 ·have a1 := h1 k (by omega)
  have a2 := h2 k (by omega)
  dsimp only at a1 a2 ⊢
  unfold shape_apart.f
  rw [a1, Option.bind_some]
  cases c1
  ·rw [if_neg (by simp), a2, Option.bind_some]; rfl
  ·rw [if_pos rfl]; rfl
 ·have a1 := h3 k (by omega)
  have a2 := h4 k (by omega)
  dsimp only at a1 a2 ⊢
  unfold cracknelref04_Apart.f
  rw [a1, Option.bind_some]
  cases c1
  ·rw [if_neg (by simp), a2, Option.bind_some]; rfl
  ·rw [if_pos rfl]; rfl
 ·rw [Bool.or_eq_true, i1, i2]
end Go.Proofs.Ythehmkpcddafnaa.M
end
section
namespace Go.Proofs.Ythehmkpcddafnaa.M
open Go.RowKit Go.Proofs.Ythehmkpcddafnaa.PG Go.Proofs.YthehmkpcddafnaaW.PrintMore Go.Proofs.YthehmkpcddafnaaW.PrintWords
theorem sgm_ {a b : Int} (ha : 0 < a) : (0 ≤ b → 0 ≤ a * b) ∧ (0 < b → 0 < a * b) ∧ (b ≤ 0 → a * b ≤ 0) ∧ (b < 0 → a * b < 0) :=
 ⟨fun h => Int.mul_nonneg (by omega) h, fun h => Int.mul_pos ha h, fun h => Int.mul_nonpos_of_nonneg_of_nonpos (by omega) h, fun h => Int.mul_neg_of_pos_of_neg ha h⟩
theorem pair_ {D a0 a1 b0 b1 w0 w1 w2 : Int} (hD : 0 < D) (e2 : D * w2 = a0 * b1 - a1 * b0) (d0 : w0 - w2 = a1 - b1) (d1 : w1 - w2 = b0 - a0)
  (n0 : ¬ (a0 ≤ 0 ∧ b0 ≤ 0)) (n1 : ¬ (a1 ≤ 0 ∧ b1 ≤ 0)) (ne : ¬ (a0 = b0 ∧ a1 = b1)) :
  ((0 ≤ w2 ∧ w2 ≤ w0 ∧ w2 ≤ w1) → a0 < 0 ∧ 0 < b0 ∧ b1 < 0 ∧ 0 < a1 ∧ ¬ (a0 * b1 < a1 * b0)) ∧
  ((w2 ≤ 0 ∧ w0 ≤ w2 ∧ w1 ≤ w2) → a1 < 0 ∧ 0 < b1 ∧ b0 < 0 ∧ 0 < a0 ∧ ¬ (a1 * b0 < a0 * b1)) := by
 have m := sgm_ (b := w2) hD
 refine ⟨fun ⟨h0, h1, h2⟩ => ?_, fun ⟨h0, h1, h2⟩ => ?_⟩
 ·have pb0 : 0 < b0 := by omega
  have pa1 : 0 < a1 := by omega
  have p := Int.mul_pos pa1 pb0
  have q : 0 < a0 * b1 := by have := m.1 h0; omega
  rcases Int.lt_trichotomy a0 0 with s | s | s
  ·have b1n : b1 < 0 := by
    rcases Int.lt_or_le b1 0 with t | t
    ·exact t
    ·have := Int.mul_nonpos_of_nonpos_of_nonneg (show a0 ≤ 0 by omega) t; omega
   exact ⟨s, pb0, b1n, pa1, by have := m.1 h0; omega⟩
  ·rw [s, Int.zero_mul] at q; omega
  ·exfalso
   have b1p : 0 < b1 := by
    rcases Int.lt_or_le 0 b1 with t | t
    ·exact t
    ·have := Int.mul_nonpos_of_nonneg_of_nonpos (show 0 ≤ a0 by omega) t; omega
   have r1 : a0 * b1 ≤ a0 * a1 := Int.mul_le_mul_of_nonneg_left (by omega) (by omega)
   have r2 : a1 * a0 ≤ a1 * b0 := Int.mul_le_mul_of_nonneg_left (by omega) (by omega)
   have r3 : a0 * a1 = a1 * a0 := Int.mul_comm _ _
   have w0' := m.1 h0
   have eq1 : a0 * b1 = a0 * a1 := by omega
   have eq2 : a1 * a0 = a1 * b0 := by omega
   have f1 := Int.eq_of_mul_eq_mul_left (show a0 ≠ 0 by omega) eq1
   have f2 := Int.eq_of_mul_eq_mul_left (show a1 ≠ 0 by omega) eq2
   exact ne ⟨f2, f1.symm⟩
 ·have pb1 : 0 < b1 := by omega
  have pa0 : 0 < a0 := by omega
  have p := Int.mul_pos pa0 pb1
  have q : 0 < a1 * b0 := by have := m.2.2.1 h0; omega
  rcases Int.lt_trichotomy a1 0 with s | s | s
  ·have b0n : b0 < 0 := by
    rcases Int.lt_or_le b0 0 with t | t
    ·exact t
    ·have := Int.mul_nonpos_of_nonpos_of_nonneg (show a1 ≤ 0 by omega) t; omega
   exact ⟨s, pb1, b0n, pa0, by have := m.2.2.1 h0; omega⟩
  ·rw [s, Int.zero_mul] at q; omega
  ·exfalso
   have b0p : 0 < b0 := by
    rcases Int.lt_or_le 0 b0 with t | t
    ·exact t
    ·have := Int.mul_nonpos_of_nonneg_of_nonpos (show 0 ≤ a1 by omega) t; omega
   have r1 : a1 * b0 ≤ a1 * a0 := Int.mul_le_mul_of_nonneg_left (by omega) (by omega)
   have r2 : a0 * a1 ≤ a0 * b1 := Int.mul_le_mul_of_nonneg_left (by omega) (by omega)
   have r3 : a0 * a1 = a1 * a0 := Int.mul_comm _ _
   have w0' := m.2.2.1 h0
   have eq1 : a1 * b0 = a1 * a0 := by omega
   have eq2 : a0 * a1 = a0 * b1 := by omega
   have f1 := Int.eq_of_mul_eq_mul_left (show a1 ≠ 0 by omega) eq1
   have f2 := Int.eq_of_mul_eq_mul_left (show a0 ≠ 0 by omega) eq2
   exact ne ⟨f1.symm, f2⟩
def LH (ai bi aj bj : Int) : Prop := ai < 0 → 0 < bi → 0 < aj → bj < 0 → ai * bj < aj * bi
theorem cross_cut {a0 a1 a2 b0 b1 b2 w0 w1 w2 D : Int} (hD : 0 < D) (sa : a0 + a1 + a2 = D) (sb : b0 + b1 + b2 = D)
  (e0 : D * w0 = a1 * b2 - a2 * b1) (e1 : D * w1 = a2 * b0 - a0 * b2) (e2 : D * w2 = a0 * b1 - a1 * b0)
  (d02 : w0 - w2 = a1 - b1) (d10 : w1 - w0 = a2 - b2) (d21 : w2 - w1 = a0 - b0)
  (ne : ¬ (a0 = b0 ∧ a1 = b1 ∧ a2 = b2)) (n0 : ¬ (a0 ≤ 0 ∧ b0 ≤ 0)) (n1 : ¬ (a1 ≤ 0 ∧ b1 ≤ 0)) (n2 : ¬ (a2 ≤ 0 ∧ b2 ≤ 0)) :
  ((0 < w0 ∨ 0 < w1 ∨ 0 < w2) ∧ (w0 < 0 ∨ w1 < 0 ∨ w2 < 0)) ↔
  (LH a0 b0 a1 b1 ∧ LH a1 b1 a2 b2 ∧ LH a2 b2 a0 b0 ∧ LH a1 b1 a0 b0 ∧ LH a2 b2 a1 b1 ∧ LH a0 b0 a2 b2) := by
 have m0 := sgm_ (b := w0) hD
 have m1 := sgm_ (b := w1) hD
 have m2 := sgm_ (b := w2) hD
 constructor
 ·rintro ⟨hl, hr⟩
  refine ⟨fun h1 h2 h3 h4 => ?_, fun h1 h2 h3 h4 => ?_, fun h1 h2 h3 h4 => ?_, fun h1 h2 h3 h4 => ?_, fun h1 h2 h3 h4 => ?_, fun h1 h2 h3 h4 => ?_⟩
  ·rcases Int.lt_or_le w2 0 with k | k
   ·have := m2.2.2.2 k; omega
   ·omega
  ·rcases Int.lt_or_le w0 0 with k | k
   ·have := m0.2.2.2 k; omega
   ·omega
  ·rcases Int.lt_or_le w1 0 with k | k
   ·have := m1.2.2.2 k; omega
   ·omega
  ·rcases Int.lt_or_le 0 w2 with k | k
   ·have := m2.2.1 k; omega
   ·omega
  ·rcases Int.lt_or_le 0 w0 with k | k
   ·have := m0.2.1 k; omega
   ·omega
  ·rcases Int.lt_or_le 0 w1 with k | k
   ·have := m1.2.1 k; omega
   ·omega
 ·rintro ⟨l01, l12, l20, l10, l21, l02⟩
  obtain ⟨p2, q2⟩ := pair_ (w0 := w0) (w1 := w1) hD e2 d02 (by omega) n0 n1 (fun h => ne (by omega))
  obtain ⟨p0, q0⟩ := pair_ (w0 := w1) (w1 := w2) hD e0 d10 (by omega) n1 n2 (fun h => ne (by omega))
  obtain ⟨p1, q1⟩ := pair_ (w0 := w2) (w1 := w0) hD e1 d21 (by omega) n2 n0 (fun h => ne (by omega))
  constructor
  ·-- some corner to the left
   apply Classical.byContradiction
   intro hno
   have all : w0 ≤ 0 ∧ w1 ≤ 0 ∧ w2 ≤ 0 := by omega
   by_cases k2 : w0 ≤ w2 ∧ w1 ≤ w2
   ·obtain ⟨x1, x2, x3, x4, x5⟩ := q2 ⟨by omega, k2⟩
    exact x5 (l10 x1 x2 x4 x3)
   ·by_cases k0 : w1 ≤ w0 ∧ w2 ≤ w0
    ·obtain ⟨x1, x2, x3, x4, x5⟩ := q0 ⟨by omega, k0⟩
     exact x5 (l21 x1 x2 x4 x3)
    ·obtain ⟨x1, x2, x3, x4, x5⟩ := q1 ⟨by omega, by omega, by omega⟩
     exact x5 (l02 x1 x2 x4 x3)
  ·apply Classical.byContradiction
   intro hno
   have all : 0 ≤ w0 ∧ 0 ≤ w1 ∧ 0 ≤ w2 := by omega
   by_cases k2 : w2 ≤ w0 ∧ w2 ≤ w1
   ·obtain ⟨x1, x2, x3, x4, x5⟩ := p2 ⟨by omega, k2⟩
    exact x5 (l01 x1 x2 x4 x3)
   ·by_cases k0 : w0 ≤ w1 ∧ w0 ≤ w2
    ·obtain ⟨x1, x2, x3, x4, x5⟩ := p0 ⟨by omega, k0⟩
     exact x5 (l12 x1 x2 x4 x3)
    ·obtain ⟨x1, x2, x3, x4, x5⟩ := p1 ⟨by omega, by omega, by omega⟩
     exact x5 (l20 x1 x2 x4 x3)
theorem frac_lt {n d a b c e m f : Int} (hb : 0 < b) (hd : 0 < d) (he : 0 < e) (hf : 0 < f) (h1 : n * b ≤ a * d) (h2 : a * e < c * b) (h3 : c * f ≤ m * e) : n * f < m * d := by
 have k1 : n * b * (e * f) ≤ a * d * (e * f) := Int.mul_le_mul_of_nonneg_right h1 (Int.le_of_lt (Int.mul_pos he hf))
 have k2 : a * e * (d * f) < c * b * (d * f) := Int.mul_lt_mul_of_pos_right h2 (Int.mul_pos hd hf)
 have k3 : c * f * (b * d) ≤ m * e * (b * d) := Int.mul_le_mul_of_nonneg_right h3 (Int.le_of_lt (Int.mul_pos hb hd))
 have k4 : (n * f) * (b * e) < (m * d) * (b * e) := by
  have e1 : (n * f) * (b * e) = n * b * (e * f) := by grind
  have e2 : a * d * (e * f) = a * e * (d * f) := by grind
  have e3 : c * b * (d * f) = c * f * (b * d) := by grind
  have e4 : (m * d) * (b * e) = m * e * (b * d) := by grind
  omega
 exact Int.lt_of_mul_lt_mul_right k4 (Int.le_of_lt (Int.mul_pos hb he))
def cutF : List (Int × Int) → Int → Int → Int → Int → Bool
 | [], ln, ld, hn, hd => decide (ln * hd < hn * ld)
 | (u, v) :: r, ln, ld, hn, hd =>
  if u ≤ 0 ∧ v ≤ 0 then false
  else if (u > 0 ∧ v ≥ 0) ∨ (u ≥ 0 ∧ v > 0) then cutF r ln ld hn hd
  else if u < 0 then (if -u * ld > ln * (v - u) then cutF r (-u) (v - u) hn hd else cutF r ln ld hn hd)
  else (if u * hd < hn * (u - v) then cutF r ln ld u (u - v) else cutF r ln ld hn hd)
def Low (p : Int × Int) : Prop := p.1 < 0 ∧ 0 < p.2
def High (p : Int × Int) : Prop := 0 < p.1 ∧ p.2 < 0
theorem cutF_iff : ∀ (l : List (Int × Int)) (ln ld hn hd : Int), 0 < ld → 0 < hd → (cutF l ln ld hn hd = true ↔ (∀ p ∈ l, ¬ (p.1 ≤ 0 ∧ p.2 ≤ 0)) ∧ ln * hd < hn * ld ∧ (∀ p ∈ l, Low p → -p.1 * hd < hn * (p.2 - p.1)) ∧ (∀ p ∈ l, High p → ln * (p.1 - p.2) < p.1 * ld) ∧ ∀ p ∈ l, ∀ q ∈ l, Low p → High q → -p.1 * (q.1 - q.2) < q.1 * (p.2 - p.1)) := by
 intro l
 induction l with
 | nil => intro ln ld hn hd h1 h2; unfold cutF; simp
 | cons p r ih =>
  obtain ⟨u, v⟩ := p
  intro ln ld hn hd h1 h2
  unfold cutF
  by_cases c0 : u ≤ 0 ∧ v ≤ 0
  ·rw [if_pos c0]
   refine ⟨fun h => by simp at h, fun h => absurd c0 (h.1 _ List.mem_cons_self)⟩
  ·rw [if_neg c0]
   have nz : ∀ p : Int × Int, p = (u, v) → ¬ (p.1 ≤ 0 ∧ p.2 ≤ 0) := fun p e => by rw [e]; exact c0
   by_cases c1 : (u > 0 ∧ v ≥ 0) ∨ (u ≥ 0 ∧ v > 0)
   ·rw [if_pos c1, ih _ _ _ _ h1 h2]
    have nl : ¬ Low (u, v) := by unfold Low; dsimp only; omega
    have nh : ¬ High (u, v) := by unfold High; dsimp only; omega
    refine ⟨fun ⟨a, b, c, d, e⟩ => ⟨fun p hp => ?_, b, fun p hp hl => ?_, fun p hp hl => ?_, fun p hp q hq hl hh => ?_⟩, fun ⟨a, b, c, d, e⟩ => ⟨fun p hp => a p (List.mem_cons_of_mem _ hp), b, fun p hp => c p (List.mem_cons_of_mem _ hp), fun p hp => d p (List.mem_cons_of_mem _ hp), fun p hp q hq => e p (List.mem_cons_of_mem _ hp) q (List.mem_cons_of_mem _ hq)⟩⟩
    ·exact (List.mem_cons.mp hp).elim (nz p) (a p)
    ·exact (List.mem_cons.mp hp).elim (fun k => absurd (k ▸ hl) nl) (fun k => c p k hl)
    ·exact (List.mem_cons.mp hp).elim (fun k => absurd (k ▸ hl) nh) (fun k => d p k hl)
    ·rcases List.mem_cons.mp hp with k | k
     ·exact absurd (k ▸ hl) nl
     ·rcases List.mem_cons.mp hq with k2 | k2
      ·exact absurd (k2 ▸ hh) nh
      ·exact e p k q k2 hl hh
   ·rw [if_neg c1]
    by_cases c2 : u < 0
    ·have hv : 0 < v := by omega
     have hd0 : 0 < v - u := by omega
     have nh : ¬ High (u, v) := by unfold High; dsimp only; omega
     have hL : Low (u, v) := ⟨c2, hv⟩
     rw [if_pos c2]
     have key : ∀ (an ad bn bd : Int), 0 < ad → 0 < bd → bn * ad ≤ an * bd → (cutF r an ad hn hd = true ↔ (∀ p ∈ r, ¬ (p.1 ≤ 0 ∧ p.2 ≤ 0)) ∧ (an * hd < hn * ad ∧ bn * hd < hn * bd) ∧ (∀ p ∈ r, Low p → -p.1 * hd < hn * (p.2 - p.1)) ∧ (∀ p ∈ r, High p → an * (p.1 - p.2) < p.1 * ad ∧ bn * (p.1 - p.2) < p.1 * bd) ∧ ∀ p ∈ r, ∀ q ∈ r, Low p → High q → -p.1 * (q.1 - q.2) < q.1 * (p.2 - p.1)) := by
      intro an ad bn bd ha hb hle
      rw [ih _ _ _ _ ha h2]
      refine ⟨fun ⟨a, b, c, d, e⟩ => ⟨a, ⟨b, frac_lt ha hb h2 h2 hle b (Int.le_refl _)⟩, c, fun p hp hh => ⟨d p hp hh, ?_⟩, e⟩, fun ⟨a, b, c, d, e⟩ => ⟨a, b.1, c, fun p hp hh => (d p hp hh).1, e⟩⟩
      have hdp : 0 < p.1 - p.2 := by unfold High at hh; omega
      exact frac_lt ha hb hdp hdp hle (d p hp hh) (Int.le_refl _)
     have fin : ((∀ p ∈ r, ¬ (p.1 ≤ 0 ∧ p.2 ≤ 0)) ∧ (-u * hd < hn * (v - u) ∧ ln * hd < hn * ld) ∧ (∀ p ∈ r, Low p → -p.1 * hd < hn * (p.2 - p.1)) ∧ (∀ p ∈ r, High p → -u * (p.1 - p.2) < p.1 * (v - u) ∧ ln * (p.1 - p.2) < p.1 * ld) ∧ ∀ p ∈ r, ∀ q ∈ r, Low p → High q → -p.1 * (q.1 - q.2) < q.1 * (p.2 - p.1)) ↔
       (∀ p ∈ (u, v) :: r, ¬ (p.1 ≤ 0 ∧ p.2 ≤ 0)) ∧ ln * hd < hn * ld ∧ (∀ p ∈ (u, v) :: r, Low p → -p.1 * hd < hn * (p.2 - p.1)) ∧ (∀ p ∈ (u, v) :: r, High p → ln * (p.1 - p.2) < p.1 * ld) ∧ ∀ p ∈ (u, v) :: r, ∀ q ∈ (u, v) :: r, Low p → High q → -p.1 * (q.1 - q.2) < q.1 * (p.2 - p.1) := by
      refine ⟨fun ⟨a, b, c, d, e⟩ => ⟨fun p hp => ?_, b.2, fun p hp hl => ?_, fun p hp hl => ?_, fun p hp q hq hl hh => ?_⟩, fun ⟨a, b, c, d, e⟩ => ⟨fun p hp => a p (List.mem_cons_of_mem _ hp), ⟨c _ List.mem_cons_self hL, b⟩, fun p hp => c p (List.mem_cons_of_mem _ hp), fun p hp hh => ⟨e _ List.mem_cons_self p (List.mem_cons_of_mem _ hp) hL hh, d p (List.mem_cons_of_mem _ hp) hh⟩, fun p hp q hq => e p (List.mem_cons_of_mem _ hp) q (List.mem_cons_of_mem _ hq)⟩⟩
      ·exact (List.mem_cons.mp hp).elim (nz p) (a p)
      ·rcases List.mem_cons.mp hp with k | k
       ·subst k; exact b.1
       ·exact c p k hl
      ·exact (List.mem_cons.mp hp).elim (fun k => absurd (k ▸ hl) nh) (fun k => (d p k hl).2)
      ·rcases List.mem_cons.mp hq with k2 | k2
       ·exact absurd (k2 ▸ hh) nh
       ·rcases List.mem_cons.mp hp with k | k
        ·subst k; exact (d q k2 hh).1
        ·exact e p k q k2 hl hh
     rw [← fin]
     by_cases c3 : -u * ld > ln * (v - u)
     ·rw [if_pos c3, key (-u) (v - u) ln ld hd0 h1 (by omega)]
     ·rw [if_neg c3, key ln ld (-u) (v - u) h1 hd0 (by omega)]
      refine ⟨fun ⟨a, b, c, d, e⟩ => ⟨a, b.symm, c, fun p hp hh => (d p hp hh).symm, e⟩, fun ⟨a, b, c, d, e⟩ => ⟨a, b.symm, c, fun p hp hh => (d p hp hh).symm, e⟩⟩
    ·have hu : 0 < u := by omega
     have hv : v < 0 := by omega
     have hd0 : 0 < u - v := by omega
     have nl : ¬ Low (u, v) := by unfold Low; dsimp only; omega
     have hH : High (u, v) := ⟨hu, hv⟩
     rw [if_neg c2]
     have key : ∀ (an ad bn bd : Int), 0 < ad → 0 < bd → an * bd ≤ bn * ad → (cutF r ln ld an ad = true ↔ (∀ p ∈ r, ¬ (p.1 ≤ 0 ∧ p.2 ≤ 0)) ∧ (ln * ad < an * ld ∧ ln * bd < bn * ld) ∧ (∀ p ∈ r, Low p → -p.1 * ad < an * (p.2 - p.1) ∧ -p.1 * bd < bn * (p.2 - p.1)) ∧ (∀ p ∈ r, High p → ln * (p.1 - p.2) < p.1 * ld) ∧ ∀ p ∈ r, ∀ q ∈ r, Low p → High q → -p.1 * (q.1 - q.2) < q.1 * (p.2 - p.1)) := by
      intro an ad bn bd ha hb hle
      rw [ih _ _ _ _ h1 ha]
      refine ⟨fun ⟨a, b, c, d, e⟩ => ⟨a, ⟨b, frac_lt h1 h1 ha hb (Int.le_refl _) b hle⟩, fun p hp hh => ⟨c p hp hh, ?_⟩, d, e⟩, fun ⟨a, b, c, d, e⟩ => ⟨a, b.1, fun p hp hh => (c p hp hh).1, d, e⟩⟩
      have hdp : 0 < p.2 - p.1 := by unfold Low at hh; omega
      exact frac_lt hdp hdp ha hb (Int.le_refl _) (c p hp hh) hle
     have fin : ((∀ p ∈ r, ¬ (p.1 ≤ 0 ∧ p.2 ≤ 0)) ∧ (ln * (u - v) < u * ld ∧ ln * hd < hn * ld) ∧ (∀ p ∈ r, Low p → -p.1 * (u - v) < u * (p.2 - p.1) ∧ -p.1 * hd < hn * (p.2 - p.1)) ∧ (∀ p ∈ r, High p → ln * (p.1 - p.2) < p.1 * ld) ∧ ∀ p ∈ r, ∀ q ∈ r, Low p → High q → -p.1 * (q.1 - q.2) < q.1 * (p.2 - p.1)) ↔
       (∀ p ∈ (u, v) :: r, ¬ (p.1 ≤ 0 ∧ p.2 ≤ 0)) ∧ ln * hd < hn * ld ∧ (∀ p ∈ (u, v) :: r, Low p → -p.1 * hd < hn * (p.2 - p.1)) ∧ (∀ p ∈ (u, v) :: r, High p → ln * (p.1 - p.2) < p.1 * ld) ∧ ∀ p ∈ (u, v) :: r, ∀ q ∈ (u, v) :: r, Low p → High q → -p.1 * (q.1 - q.2) < q.1 * (p.2 - p.1) := by
      refine ⟨fun ⟨a, b, c, d, e⟩ => ⟨fun p hp => ?_, b.2, fun p hp hl => ?_, fun p hp hl => ?_, fun p hp q hq hl hh => ?_⟩, fun ⟨a, b, c, d, e⟩ => ⟨fun p hp => a p (List.mem_cons_of_mem _ hp), ⟨d _ List.mem_cons_self hH, b⟩, fun p hp hl => ⟨e p (List.mem_cons_of_mem _ hp) _ List.mem_cons_self hl hH, c p (List.mem_cons_of_mem _ hp) hl⟩, fun p hp => d p (List.mem_cons_of_mem _ hp), fun p hp q hq => e p (List.mem_cons_of_mem _ hp) q (List.mem_cons_of_mem _ hq)⟩⟩
      ·exact (List.mem_cons.mp hp).elim (nz p) (a p)
      ·exact (List.mem_cons.mp hp).elim (fun k => absurd (k ▸ hl) nl) (fun k => (c p k hl).2)
      ·rcases List.mem_cons.mp hp with k | k
       ·subst k; exact b.1
       ·exact d p k hl
      ·rcases List.mem_cons.mp hp with k | k
       ·exact absurd (k ▸ hl) nl
       ·rcases List.mem_cons.mp hq with k2 | k2
        ·subst k2; exact (c p k hl).1
        ·exact e p k q k2 hl hh
     rw [← fin]
     by_cases c3 : u * hd < hn * (u - v)
     ·rw [if_pos c3, key u (u - v) hn hd hd0 h2 (by omega)]
     ·rw [if_neg c3, key hn hd u (u - v) h2 hd0 (by omega)]
      refine ⟨fun ⟨a, b, c, d, e⟩ => ⟨a, b.symm, fun p hp hh => (c p hp hh).symm, d, e⟩, fun ⟨a, b, c, d, e⟩ => ⟨a, b.symm, fun p hp hh => (c p hp hh).symm, d, e⟩⟩
end Go.Proofs.Ythehmkpcddafnaa.M
end
section
namespace Go.Proofs.Ythehmkpcddafnaa.M
open Go.RowKit Go.Proofs.Ythehmkpcddafnaa.PG Go.Proofs.YthehmkpcddafnaaW.PrintMore Go.Proofs.YthehmkpcddafnaaW.PrintWords
def Hit (a b p : Pt) : Prop := (a.f1 ≤ p.f1 ∧ p.f1 < b.f1 ∧ 0 < cr a b p) ∨ (b.f1 ≤ p.f1 ∧ p.f1 < a.f1 ∧ 0 < cr b a p)
instance (a b p : Pt) : Decidable (Hit a b p) := by unfold Hit; infer_instance
def wh (l : List Pt) (p : Pt) : Nat → Nat → Bool → Int
 | 0, _, s => if s = true then 1 else -1
 | d + 1, i, s => if On (at_ l i) (at_ l ((i + 1) % l.length)) p then 0 else wh l p d (i + 1) (s != decide (Hit (at_ l i) (at_ l ((i + 1) % l.length)) p))
def whereOf (l : List Pt) (p : Pt) : Int := wh l p l.length 0 false
theorem where_j1 {l : List Pt} {p a b : Pt} (hp : Bd p) (ha : Bd a) (hb : Bd b) (hab : a.f1 ≤ b.f1) (s : Bool) (i : Nat) {v : Int} {c : Bool} (hc : c = decide (Hit a b p)) (hi : i < l.length) (hN : l.length ≤ 1000000) (K : Nat)
  (hK : ∀ k, K ≤ k → shape_where.l0 k l (if (s != c) = true then 1 else -1) (l.length : Int) ((i + 1 : Nat) : Int) p.f0 p.f1 = some v) (k : Nat) (hk : K + 2 ≤ k) :
  shape_where.j1 k l (if s = true then 1 else -1) (l.length : Int) (i : Int) p.f0 p.f1 a.f0 a.f1 b.f0 b.f1 = some v := by
 obtain ⟨k, rfl⟩ := fuel2 hk
 have fin : shape_where.j2 (k + 1) l (if s = true then 1 else -1) (l.length : Int) (i : Int) c p.f0 p.f1 = some v := by
  rw [shape_where.j2, wrap_succ i (by omega)]
  have := hK k (by omega)
  cases c <;> cases s <;> simp_all [wrap64]
 have h2 : Hit a b p ↔ (a.f1 ≤ p.f1 ∧ p.f1 < b.f1 ∧ 0 < cr a b p) := by
  unfold Hit
  constructor
  ·rintro (h | h)
   ·exact h
   ·omega
  ·exact Or.inl
 rw [shape_where.j1]
 by_cases h3 : a.f1 ≤ p.f1
 ·rw [if_pos h3]
  by_cases h4 : p.f1 < b.f1
  ·rw [if_pos h4, side_f ha hb hp, Option.bind_some]
   rw [show decide (cr a b p > 0) = c by rw [hc, decide_eq_decide, h2]; exact ⟨fun h => ⟨h3, h4, h⟩, fun h => h.2.2⟩]
   exact fin
  ·rw [if_neg h4]
   rw [show (false : Bool) = c by rw [hc]; symm; rw [decide_eq_false_iff_not, h2]; intro h; exact h4 h.2.1]
   exact fin
 ·rw [if_neg h3]
  rw [show (false : Bool) = c by rw [hc]; symm; rw [decide_eq_false_iff_not, h2]; intro h; exact h3 h.1]
  exact fin
theorem hit_comm (a b p : Pt) : Hit a b p ↔ Hit b a p := by unfold Hit; exact or_comm
theorem where_l0 {l : List Pt} {p : Pt} (hb : ∀ p ∈ l, Bd p) (hp : Bd p) (hN : l.length ≤ 1000000) : ∀ d i s, l.length = i + d → Rt (fun k => shape_where.l0 k l (if s = true then 1 else -1) (l.length : Int) (i : Int) p.f0 p.f1) (wh l p d i s) := by
 intro d
 induction d with
 | zero =>
  intro i s hi
  refine ⟨0 + 1, fun k hk => ?_⟩
  obtain ⟨k, rfl⟩ := fuel1 hk
  dsimp only; rw [shape_where.l0, if_neg (by omega)]; rfl
 | succ d ih =>
  intro i s hi
  have hlt : i < l.length := by omega
  have hBi := at_bd hb hlt
  have hBn := at_bd hb (show (i + 1) % l.length < l.length from Nat.mod_lt _ (by omega))
  have t1 := tmod_in (i + 1) l.length (by omega)
  obtain ⟨K, hK⟩ := ih (i + 1) (s != decide (Hit (at_ l i) (at_ l ((i + 1) % l.length)) p)) (by omega)
  refine ⟨K + 3, fun k hk => ?_⟩
  obtain ⟨k, rfl⟩ : ∃ m, k = m + 1 := ⟨k - 1, by omega⟩
  dsimp only
  rw [shape_where.l0, if_pos (by omega), if_pos (by omega), if_pos (by omega), if_neg (by omega), tmod_nat i _ (by omega), if_pos (by omega), if_pos (by omega), rd_at, rd_at, on_f hBi hBn hp, Option.bind_some]
  unfold wh
  by_cases h1 : On (at_ l i) (at_ l ((i + 1) % l.length)) p
  ·rw [if_pos (by simpa using h1), if_pos h1]
  ·rw [if_neg (by simpa using h1), if_neg h1]
   by_cases h2 : (at_ l i).f1 > (at_ l ((i + 1) % l.length)).f1
   ·rw [if_pos h2]
    exact where_j1 hp hBn hBi (by omega) s i (by rw [decide_eq_decide]; exact hit_comm _ _ _) hlt hN K hK k (by omega)
   ·rw [if_neg h2]
    exact where_j1 hp hBi hBn (by omega) s i rfl hlt hN K hK k (by omega)
theorem where_run {l : List Pt} {p : Pt} (hb : ∀ p ∈ l, Bd p) (hp : Bd p) (hN : l.length ≤ 1000000) : Rt (fun k => shape_where.f k l p.f0 p.f1) (whereOf l p) := by
 obtain ⟨K, hK⟩ := where_l0 hb hp hN l.length 0 false (by omega)
 exact ⟨K, fun k hk => hK k hk⟩
end Go.Proofs.Ythehmkpcddafnaa.M
end
section
namespace Go.Proofs.Ythehmkpcddafnaa.M
open Go.RowKit Go.Proofs.Ythehmkpcddafnaa.PG Go.Proofs.YthehmkpcddafnaaW.PrintMore Go.Proofs.YthehmkpcddafnaaW.PrintWords
end Go.Proofs.Ythehmkpcddafnaa.M
end
section
namespace Go.Proofs.Ythehmkpcddafnaa.M
open Go.RowKit Go.Proofs.Ythehmkpcddafnaa.PG Go.Proofs.YthehmkpcddafnaaW.PrintMore Go.Proofs.YthehmkpcddafnaaW.PrintWords
def nx (h : List Pt) (i : Nat) : Nat := (i + 1) % h.length
end Go.Proofs.Ythehmkpcddafnaa.M
end
section
namespace Go.Proofs.Ythehmkpcddafnaa.M
open Go.RowKit Go.Proofs.Ythehmkpcddafnaa.PG Go.Proofs.YthehmkpcddafnaaW.PrintMore Go.Proofs.YthehmkpcddafnaaW.PrintWords
end Go.Proofs.Ythehmkpcddafnaa.M
end
section
namespace Go.Proofs.Ythehmkpcddafnaa.M
open Go.Proofs.Ythehmkpcddafnaa.PG
def vec (a b : Pt) : Pt := ⟨b.f0 - a.f0, b.f1 - a.f1⟩
def cx (u v : Pt) : Int := u.f0 * v.f1 - u.f1 * v.f0
def ph (p q : Int) (u : Pt) : Int := p * u.f0 + q * u.f1
def plus (u v : Pt) : Pt := ⟨u.f0 + v.f0, u.f1 + v.f1⟩
def P (l : List Pt) (i : Nat) : Pt := at_ l (i % l.length)
def ed (l : List Pt) (i : Nat) : Pt := vec (P l i) (P l (i + 1))
structure Cvx (p q : Int) (l : List Pt) : Prop where
 three : 3 ≤ l.length
 strong : Strong l
 low : ∀ k, k < l.length → k = 0 ∨ 0 < fn p q (at_ l 0) (at_ l k)
 some_ : ∀ i, ph p q (ed l i) ≠ 0
section
variable {p q : Int} {l : List Pt}
def Bf (p q : Int) (u v : Pt) : Prop := (0 < ph p q u ∧ ph p q v < 0) ∨ (0 < ph p q u ∧ 0 < ph p q v ∧ 0 < cx u v) ∨ (ph p q u < 0 ∧ ph p q v < 0 ∧ 0 < cx u v)
end
end Go.Proofs.Ythehmkpcddafnaa.M
end
section
namespace Go.Proofs.Ythehmkpcddafnaa.M
open Go.Proofs.Ythehmkpcddafnaa.PG
section
variable {p q : Int} {a b : List Pt} {S : List Pt}
def Sums (a b S : List Pt) : Prop := ∀ s, s ∈ S ↔ ∃ k l, k < a.length ∧ l < b.length ∧ s = plus (at_ a k) (at_ b l)
def V (a b : List Pt) (i j : Nat) : Pt := plus (P a i) (P b j)
end
end Go.Proofs.Ythehmkpcddafnaa.M
end
section
namespace Go.Proofs.Ythehmkpcddafnaa.M
open Go.Proofs.Ythehmkpcddafnaa.PG
def path (a b : List Pt) : Nat → Nat → Nat → List Pt
 | 0, _, _ => []
 | d + 1, i, j =>
  if i < a.length ∧ (j < b.length → 0 < cx (ed a i) (ed b j)) then V a b (i + 1) j :: path a b d (i + 1) j
  else if j < b.length ∧ (i < a.length → cx (ed a i) (ed b j) < 0) then V a b i (j + 1) :: path a b d i (j + 1)
  else if i < a.length ∧ j < b.length then V a b (i + 1) (j + 1) :: path a b d (i + 1) (j + 1)
  else []
end Go.Proofs.Ythehmkpcddafnaa.M
end
section
namespace Go.Proofs.Ythehmkpcddafnaa.M
open Go.RowKit Go.Proofs.Ythehmkpcddafnaa.PG Go.Proofs.YthehmkpcddafnaaW.PrintMore Go.Proofs.YthehmkpcddafnaaW.PrintWords
end Go.Proofs.Ythehmkpcddafnaa.M
end
section
namespace Go.Proofs.Ythehmkpcddafnaa.M
open Go.RowKit Go.Proofs.Ythehmkpcddafnaa.PG Go.Proofs.YthehmkpcddafnaaW.PrintMore Go.Proofs.YthehmkpcddafnaaW.PrintWords
end Go.Proofs.Ythehmkpcddafnaa.M
end
section
namespace Go.Proofs.Ythehmkpcddafnaa.M
open Go.RowKit Go.Proofs.Ythehmkpcddafnaa.PG Go.Proofs.YthehmkpcddafnaaW.PrintMore Go.Proofs.YthehmkpcddafnaaW.PrintWords
structure Nf (m : Int) (h : List Pt) : Prop where
 ring : Ring h h
 flat : ¬ Flat h
 fst : ∀ p ∈ h, p = at_ h 0 ∨ first (at_ h 0) p
 inb : ∀ p ∈ h, In m p
def sums (a b : List Pt) : List Pt := a.flatMap fun x => b.map (plus x)
end Go.Proofs.Ythehmkpcddafnaa.M
end
section
namespace Go.Proofs.Ythehmkpcddafnaa.M
open Go.RowKit Go.Proofs.Ythehmkpcddafnaa.PG Go.Proofs.YthehmkpcddafnaaW.PrintMore Go.Proofs.YthehmkpcddafnaaW.PrintWords
end Go.Proofs.Ythehmkpcddafnaa.M
end
section
namespace Go.Proofs.Ythehmkpcddafnaa.M
open Go.RowKit Go.Proofs.Ythehmkpcddafnaa.PG Go.Proofs.YthehmkpcddafnaaW.PrintMore Go.Proofs.YthehmkpcddafnaaW.PrintWords
end Go.Proofs.Ythehmkpcddafnaa.M
end
section
namespace Go.Proofs.Ythehmkpcddafnaa.M
open Go.RowKit Go.Proofs.Ythehmkpcddafnaa.PG Go.Proofs.YthehmkpcddafnaaW.PrintMore Go.Proofs.YthehmkpcddafnaaW.PrintWords
end Go.Proofs.Ythehmkpcddafnaa.M
end
section
namespace Go.Proofs.Ythehmkpcddafnaa.M
open Go.RowKit Go.Proofs.Ythehmkpcddafnaa.PG Go.Proofs.YthehmkpcddafnaaW.PrintMore Go.Proofs.YthehmkpcddafnaaW.PrintWords
end Go.Proofs.Ythehmkpcddafnaa.M
end
section
namespace Go.Proofs.Ythehmkpcddafnaa.M
open Go.RowKit Go.Proofs.Ythehmkpcddafnaa.PG Go.Proofs.YthehmkpcddafnaaW.PrintMore Go.Proofs.YthehmkpcddafnaaW.PrintWords
end Go.Proofs.Ythehmkpcddafnaa.M
end
section
namespace Go.Proofs.Ythehmkpcddafnaa.M
open Go.RowKit Go.Proofs.Ythehmkpcddafnaa.PG Go.Proofs.YthehmkpcddafnaaW.PrintMore Go.Proofs.YthehmkpcddafnaaW.PrintWords
end Go.Proofs.Ythehmkpcddafnaa.M
end
section
namespace Go.Proofs.Ythehmkpcddafnaa.M
open Go.RowKit Go.Proofs.Ythehmkpcddafnaa.PG Go.Proofs.YthehmkpcddafnaaW.PrintMore Go.Proofs.YthehmkpcddafnaaW.PrintWords
theorem sort5 : slices_SortFunc_xy.f [(⟨0, 0⟩ : S41), (⟨1, 0⟩ : S41), (⟨2, 0⟩ : S41), (⟨0, 2⟩ : S41), (⟨1, 1⟩ : S41)] = some [(⟨0, 0⟩ : S41), (⟨0, 2⟩ : S41), (⟨1, 0⟩ : S41), (⟨1, 1⟩ : S41), (⟨2, 0⟩ : S41)] := by
 simp [slices_SortFunc_xy.f, List.mergeSort, List.MergeSort.Internal.splitInTwo, xyLt]
theorem area_ok (k : Nat) : shape_Area2.f (k + 60) [(⟨0, 0⟩ : S41), (⟨2, 0⟩ : S41), (⟨2, 2⟩ : S41), (⟨0, 2⟩ : S41)] = some (8, 0) := by kernel_rfl
theorem simple_ok (k : Nat) : shape_simple.f (k + 60) [(⟨0, 0⟩ : S41), (⟨2, 0⟩ : S41), (⟨2, 2⟩ : S41), (⟨0, 2⟩ : S41)] = some true := by kernel_rfl
theorem lattice_l0 (k : Nat) : shape_Lattice.l0 (k + 60) [(⟨0, 0⟩ : S41), (⟨2, 0⟩ : S41), (⟨2, 2⟩ : S41), (⟨0, 2⟩ : S41)] 0 4 0 = some (1, 8, 0) := by kernel_rfl
theorem lattice_ok (k : Nat) : shape_Lattice.f (k + 60) [(⟨0, 0⟩ : S41), (⟨2, 0⟩ : S41), (⟨2, 2⟩ : S41), (⟨0, 2⟩ : S41)] = some (1, 8, 0) := by
 unfold shape_Lattice.f shape_refused_simple.f
 rw [simple_ok, show shape_polygon.f [(⟨0, 0⟩ : S41), (⟨2, 0⟩ : S41), (⟨2, 2⟩ : S41), (⟨0, 2⟩ : S41)] = some true by decide +kernel, Option.bind_some, if_pos rfl, Option.bind_some, if_pos rfl, Option.bind_some, if_pos rfl]
 exact lattice_l0 k
theorem same_ok (k : Nat) : cracknelref04_Same.f (k + 60) [(⟨0, 0⟩ : S41), (⟨2, 0⟩ : S41), (⟨0, 2⟩ : S41)] [(⟨0, 0⟩ : S41), (⟨2, 0⟩ : S41), (⟨0, 2⟩ : S41)] = some true := by kernel_rfl
theorem hull_rest (k : Nat) : shape_Hull.j0 (k + 60) [(⟨0, 0⟩ : S41), (⟨1, 0⟩ : S41), (⟨2, 0⟩ : S41), (⟨0, 2⟩ : S41), (⟨1, 1⟩ : S41)] false = some ([(⟨0, 0⟩ : S41), (⟨2, 0⟩ : S41), (⟨0, 2⟩ : S41)], 0) := by
 rw [show k + 60 = (k + 59) + 1 from rfl, shape_Hull.j0, if_neg (by simp), show slices_Clone.f [(⟨0, 0⟩ : S41), (⟨1, 0⟩ : S41), (⟨2, 0⟩ : S41), (⟨0, 2⟩ : S41), (⟨1, 1⟩ : S41)] = some [(⟨0, 0⟩ : S41), (⟨1, 0⟩ : S41), (⟨2, 0⟩ : S41), (⟨0, 2⟩ : S41), (⟨1, 1⟩ : S41)] by decide +kernel, Option.bind_some, sort5, Option.bind_some]
 kernel_rfl
theorem hull_pre (k : Nat) : shape_Hull.f k [(⟨0, 0⟩ : S41), (⟨1, 0⟩ : S41), (⟨2, 0⟩ : S41), (⟨0, 2⟩ : S41), (⟨1, 1⟩ : S41)] = shape_Hull.j0 k [(⟨0, 0⟩ : S41), (⟨1, 0⟩ : S41), (⟨2, 0⟩ : S41), (⟨0, 2⟩ : S41), (⟨1, 1⟩ : S41)] false := by
 unfold shape_Hull.f
 rw [show shape_within.f [(⟨0, 0⟩ : S41), (⟨1, 0⟩ : S41), (⟨2, 0⟩ : S41), (⟨0, 2⟩ : S41), (⟨1, 1⟩ : S41)] 10000 = some true by decide +kernel, Option.bind_some]
 simp only [List.length_cons, List.length_nil]
 rw [if_neg (by omega), if_neg (by omega)]
 rfl
theorem lives_ok (k : Nat) (hk : 60 ≤ k) : cracknellaw04_lives.f k = some true := by
 obtain ⟨d, rfl⟩ : ∃ d, k = d + 60 := ⟨k - 60, by omega⟩
 unfold cracknellaw04_lives.f
 rw [hull_pre, hull_rest, Option.bind_some, area_ok, lattice_ok]
 simp only [Option.bind_some, if_true, same_ok]
end Go.Proofs.Ythehmkpcddafnaa.M
end
section
namespace Go.Proofs.Ythehmkpcddafnaa.M
open Go.RowKit Go.Proofs.Ythehmkpcddafnaa.PG Go.Proofs.YthehmkpcddafnaaW.PrintMore Go.Proofs.YthehmkpcddafnaaW.PrintWords
end Go.Proofs.Ythehmkpcddafnaa.M
end
section
namespace Go.Proofs.Ythehmkpcddafnaa.M
open Go.RowKit Go.Proofs.Ythehmkpcddafnaa.PG Go.Proofs.YthehmkpcddafnaaW.PrintMore Go.Proofs.YthehmkpcddafnaaW.PrintWords
theorem rt_bind {α β : Type} {f : Nat → Option α} {g : α → Nat → Option β} {h : Nat → Option β} {v : α} {r : β} (rf : Rt f v) (rg : Rt (g v) r) (e : ∀ k, h (k + 1) = (f k).bind fun x => g x k) : Rt h r := by
 obtain ⟨K1, h1⟩ := rf
 obtain ⟨K2, h2⟩ := rg
 refine ⟨K1 + K2 + 1, fun k hk => ?_⟩
 obtain ⟨k, rfl⟩ : ∃ m, k = m + 1 := ⟨k - 1, by omega⟩
 rw [e, h1 k (by omega), Option.bind_some, h2 k (by omega)]
theorem rt_bind0 {α β : Type} {f : Nat → Option α} {g : α → Nat → Option β} {h : Nat → Option β} {v : α} {r : β} (rf : Rt f v) (rg : Rt (g v) r) (e : ∀ k, h k = (f k).bind fun x => g x k) : Rt h r := by
 obtain ⟨K1, h1⟩ := rf
 obtain ⟨K2, h2⟩ := rg
 refine ⟨K1 + K2, fun k hk => ?_⟩
 rw [e, h1 k (by omega), Option.bind_some, h2 k (by omega)]
def bstep (s : Int × Int × Int × Int) (p : Pt) : Int × Int × Int × Int := (min s.1 p.f0, min s.2.1 p.f1, max s.2.2.1 p.f0, max s.2.2.2 p.f1)
def box (l : List Pt) : Int × Int × Int × Int := l.foldl bstep ((at_ l 0).f0, (at_ l 0).f1, (at_ l 0).f0, (at_ l 0).f1)
end Go.Proofs.Ythehmkpcddafnaa.M
end
section
namespace Go.Proofs.Ythehmkpcddafnaa.M
open Go.RowKit Go.Proofs.Ythehmkpcddafnaa.PG Go.Proofs.YthehmkpcddafnaaW.PrintMore Go.Proofs.YthehmkpcddafnaaW.PrintWords
theorem mulB {x y : Int} {A B : Nat} (hx : -A ≤ x ∧ x ≤ A) (hy : -B ≤ y ∧ y ≤ B) : -((A * B : Nat) : Int) ≤ x * y ∧ x * y ≤ ((A * B : Nat) : Int) := by
 have h1 : x.natAbs ≤ A := by omega
 have h2 : y.natAbs ≤ B := by omega
 have h3 := Nat.mul_le_mul h1 h2
 rw [← Int.natAbs_mul] at h3
 generalize x * y = z at h3 ⊢
 generalize A * B = C at h3 ⊢
 omega
theorem wmul {x y : Int} (hx : -1600000000 ≤ x ∧ x ≤ 1600000000) (hy : -1600000000 ≤ y ∧ y ≤ 1600000000) : wrap64 (x * y) = x * y := by
 have h := mulB (A := 1600000000) (B := 1600000000) hx hy
 exact wz _ (by omega) (by omega)
theorem cr_in {a b c : Pt} (ha : In 10000 a) (hb : In 10000 b) (hc : In 10000 c) : -800000000 ≤ cr a b c ∧ cr a b c ≤ 800000000 := by
 unfold In at ha hb hc
 unfold cr
 have h1 := mulB (x := b.f0 - a.f0) (y := c.f1 - a.f1) (A := 20000) (B := 20000) (by omega) (by omega)
 have h2 := mulB (x := c.f0 - a.f0) (y := b.f1 - a.f1) (A := 20000) (B := 20000) (by omega) (by omega)
 omega
theorem in_bd10 {p : Pt} (h : In 10000 p) : Bd p := by unfold In at h; unfold Bd; omega
theorem cut_step {t : List Pt} {a b : Pt} (ht : t.length = 3) (hti : ∀ p ∈ t, In 10000 p) (ha : In 10000 a) (hb : In 10000 b) {i : Nat} (hi : i < 3) {r : List (Int × Int)}
  (H : ∀ ln ld hn hd : Int, 0 ≤ ln → ln ≤ 800000000 → 0 < ld → ld ≤ 1600000000 → 0 ≤ hn → hn ≤ 800000000 → 0 < hd → hd ≤ 1600000000 → Rt (fun k => cracknelref04_cuts.l0 k t ln ld hn hd ((i + 1 : Nat) : Int) a.f0 a.f1 b.f0 b.f1) (cutF r ln ld hn hd))
  {ln ld hn hd : Int} (l0 : 0 ≤ ln) (l1 : ln ≤ 800000000) (l2 : 0 < ld) (l3 : ld ≤ 1600000000) (h0 : 0 ≤ hn) (h1 : hn ≤ 800000000) (h2 : 0 < hd) (h3 : hd ≤ 1600000000) :
  Rt (fun k => cracknelref04_cuts.l0 k t ln ld hn hd (i : Int) a.f0 a.f1 b.f0 b.f1) (cutF ((cr (at_ t i) (at_ t ((i + 1) % 3)) a, cr (at_ t i) (at_ t ((i + 1) % 3)) b) :: r) ln ld hn hd) := by
 have m1 : In 10000 (at_ t i) := hti _ (at_mem (by omega))
 have m2 : In 10000 (at_ t ((i + 1) % 3)) := hti _ (at_mem (by omega))
 have bu := cr_in m1 m2 ha
 have bv := cr_in m1 m2 hb
 have cu := Cross_f (in_bd10 m1) (in_bd10 m2) (in_bd10 ha)
 have cv := Cross_f (in_bd10 m1) (in_bd10 m2) (in_bd10 hb)
 have nx := next_f (l := t) (i := i) (by omega) (by omega)
 rw [ht] at nx
 generalize cr (at_ t i) (at_ t ((i + 1) % 3)) a = u at *
 generalize cr (at_ t i) (at_ t ((i + 1) % 3)) b = v at *
 have first : ∀ {x : Bool}, (∀ c : Bool, (c = true ↔ (u ≤ 0 ∧ v ≤ 0)) → Rt (fun k => cracknelref04_cuts.j1 k t ln ld hn hd (i : Int) u v c a.f0 a.f1 b.f0 b.f1) x) → Rt (fun k => cracknelref04_cuts.l0 k t ln ld hn hd (i : Int) a.f0 a.f1 b.f0 b.f1) x := by
  intro x hx
  have st : ∀ k, cracknelref04_cuts.l0 (k + 1) t ln ld hn hd (i : Int) a.f0 a.f1 b.f0 b.f1 = if u ≤ 0 then cracknelref04_cuts.j1 k t ln ld hn hd (i : Int) u v (decide (v ≤ 0)) a.f0 a.f1 b.f0 b.f1 else cracknelref04_cuts.j1 k t ln ld hn hd (i : Int) u v false a.f0 a.f1 b.f0 b.f1 := by
   intro k
   rw [cracknelref04_cuts.l0, if_pos (by omega), if_pos (by omega), if_pos (by omega), nx, Option.bind_some, rd_at, cu, Option.bind_some, Option.bind_some, cv, Option.bind_some]
  by_cases c : u ≤ 0
  ·exact rt_step (fun k => by rw [st, if_pos c]) (hx (decide (v ≤ 0)) (by rw [decide_eq_true_eq]; exact ⟨fun h => ⟨c, h⟩, fun h => h.2⟩))
  ·exact rt_step (fun k => by rw [st, if_neg c]) (hx false ⟨fun h => by simp at h, fun h => absurd h.1 c⟩)
 refine first (fun c hc => ?_)
 unfold cutF
 cases c with
 | true =>
  rw [if_pos (hc.mp rfl)]
  exact rt_ret (fun k => by rw [cracknelref04_cuts.j1, if_pos rfl])
 | false =>
  have n0 : ¬ (u ≤ 0 ∧ v ≤ 0) := fun h => by have := hc.mpr h; simp at this
  rw [if_neg n0]
  have second : ∀ {x : Bool}, (∀ c : Bool, (c = true ↔ ((u > 0 ∧ v ≥ 0) ∨ (u ≥ 0 ∧ v > 0))) → Rt (fun k => cracknelref04_cuts.j2 k t ln ld hn hd (i : Int) u v c a.f0 a.f1 b.f0 b.f1) x) → Rt (fun k => cracknelref04_cuts.j1 k t ln ld hn hd (i : Int) u v false a.f0 a.f1 b.f0 b.f1) x := by
   intro x hx
   by_cases c1 : u > 0
   ·by_cases c2 : v ≥ 0
    ·exact rt_step (fun k => by rw [cracknelref04_cuts.j1, if_neg (by simp), if_pos c1, if_pos c2]) (hx true ⟨fun _ => Or.inl ⟨c1, c2⟩, fun _ => rfl⟩)
    ·exact rt_step (fun k => by rw [cracknelref04_cuts.j1, if_neg (by simp), if_pos c1, if_neg c2, if_pos (show u ≥ 0 by omega)]) (hx (decide (v > 0)) (by rw [decide_eq_true_eq]; omega))
   ·by_cases c2 : u ≥ 0
    ·exact rt_step (fun k => by rw [cracknelref04_cuts.j1, if_neg (by simp), if_neg c1, if_pos c2]) (hx (decide (v > 0)) (by rw [decide_eq_true_eq]; omega))
    ·exact rt_step (fun k => by rw [cracknelref04_cuts.j1, if_neg (by simp), if_neg c1, if_neg c2]) (hx false ⟨fun h => by simp at h, fun h => by omega⟩)
  refine second (fun c hc => ?_)
  cases c with
  | true =>
   rw [if_pos (hc.mp rfl)]
   exact rt_step (fun k => by rw [cracknelref04_cuts.j2, if_pos rfl, wrap_succ i (by omega)]) (H ln ld hn hd l0 l1 l2 l3 h0 h1 h2 h3)
  | false =>
   have n1 : ¬ ((u > 0 ∧ v ≥ 0) ∨ (u ≥ 0 ∧ v > 0)) := fun h => by have := hc.mpr h; simp at this
   rw [if_neg n1]
   have w1 : wrap64 (-u) = -u := wz _ (by omega) (by omega)
   have w2 : wrap64 (v - u) = v - u := wz _ (by omega) (by omega)
   have w3 : wrap64 (u - v) = u - v := wz _ (by omega) (by omega)
   by_cases c2 : u < 0
   ·rw [if_pos c2]
    have w4 : wrap64 (-u * ld) = -u * ld := wmul (by omega) (by omega)
    have w5 : wrap64 (ln * (v - u)) = ln * (v - u) := wmul (by omega) (by omega)
    by_cases c3 : -u * ld > ln * (v - u)
    ·rw [if_pos c3]
     exact rt_step (fun k => by rw [cracknelref04_cuts.j2, if_neg (by simp), if_pos c2, w1, w2, w4, w5, if_pos c3, wrap_succ i (by omega)]) (H (-u) (v - u) hn hd (by omega) (by omega) (by omega) (by omega) h0 h1 h2 h3)
    ·rw [if_neg c3]
     exact rt_step (fun k => by rw [cracknelref04_cuts.j2, if_neg (by simp), if_pos c2, w1, w2, w4, w5, if_neg c3, wrap_succ i (by omega)]) (H ln ld hn hd l0 l1 l2 l3 h0 h1 h2 h3)
   ·rw [if_neg c2]
    have w4 : wrap64 (u * hd) = u * hd := wmul (by omega) (by omega)
    have w5 : wrap64 (hn * (u - v)) = hn * (u - v) := wmul (by omega) (by omega)
    by_cases c3 : u * hd < hn * (u - v)
    ·rw [if_pos c3]
     exact rt_step (fun k => by rw [cracknelref04_cuts.j2, if_neg (by simp), if_neg c2, w3, w4, w5, if_pos c3, wrap_succ i (by omega)]) (H ln ld u (u - v) l0 l1 l2 l3 (by omega) (by omega) (by omega) (by omega))
    ·rw [if_neg c3]
     exact rt_step (fun k => by rw [cracknelref04_cuts.j2, if_neg (by simp), if_neg c2, w3, w4, w5, if_neg c3, wrap_succ i (by omega)]) (H ln ld hn hd l0 l1 l2 l3 h0 h1 h2 h3)
def ends (t : List Pt) (a b : Pt) : List (Int × Int) := [(cr (at_ t 0) (at_ t 1) a, cr (at_ t 0) (at_ t 1) b), (cr (at_ t 1) (at_ t 2) a, cr (at_ t 1) (at_ t 2) b), (cr (at_ t 2) (at_ t 0) a, cr (at_ t 2) (at_ t 0) b)]
theorem cuts_run {t : List Pt} {a b : Pt} (ht : t.length = 3) (hti : ∀ p ∈ t, In 10000 p) (ha : In 10000 a) (hb : In 10000 b) : Rt (fun k => cracknelref04_cuts.f k t a.f0 a.f1 b.f0 b.f1) (cutF (ends t a b) 0 1 1 1) := by
 have H3 : ∀ ln ld hn hd : Int, 0 ≤ ln → ln ≤ 800000000 → 0 < ld → ld ≤ 1600000000 → 0 ≤ hn → hn ≤ 800000000 → 0 < hd → hd ≤ 1600000000 → Rt (fun k => cracknelref04_cuts.l0 k t ln ld hn hd ((2 + 1 : Nat) : Int) a.f0 a.f1 b.f0 b.f1) (cutF [] ln ld hn hd) := by
  intro ln ld hn hd l0 l1 l2 l3 h0 h1 h2 h3
  refine rt_ret fun k => ?_
  rw [cracknelref04_cuts.l0, if_neg (by omega), wmul (by omega) (by omega), wmul (by omega) (by omega)]; rfl
 have H2 := fun ln ld hn hd a1 a2 a3 a4 a5 a6 a7 a8 => cut_step (ln := ln) (ld := ld) (hn := hn) (hd := hd) ht hti ha hb (show 2 < 3 by omega) H3 a1 a2 a3 a4 a5 a6 a7 a8
 have H1 := fun ln ld hn hd a1 a2 a3 a4 a5 a6 a7 a8 => cut_step (ln := ln) (ld := ld) (hn := hn) (hd := hd) ht hti ha hb (show 1 < 3 by omega) H2 a1 a2 a3 a4 a5 a6 a7 a8
 exact cut_step ht hti ha hb (show 0 < 3 by omega) H1 (ln := 0) (ld := 1) (hn := 1) (hd := 1) (by omega) (by omega) (by omega) (by omega) (by omega) (by omega) (by omega) (by omega)
theorem right_f {a b : Pt} {l : List Pt} (ha : Bd a) (hb : Bd b) (hl : ∀ q ∈ l, Bd q) : ∃ c, cr_right.f l a.f0 a.f1 b.f0 b.f1 = some c ∧ (c = true ↔ ∃ q ∈ l, cr a b q < 0) := by
 refine ⟨_, rfl, ?_⟩
 rw [List.any_eq_true]
 constructor
 ·rintro ⟨q, hq, h⟩
  unfold PG.rightOf at h
  rw [side_f ha hb (hl q hq), decide_eq_true_eq, Option.getD_some] at h
  exact ⟨q, hq, h⟩
 ·rintro ⟨q, hq, h⟩
  refine ⟨q, hq, ?_⟩
  unfold PG.rightOf
  rw [side_f ha hb (hl q hq), decide_eq_true_eq, Option.getD_some]; exact h
theorem left2_f {a b : Pt} {l : List Pt} (ha : Bd a) (hb : Bd b) (hl : ∀ q ∈ l, Bd q) : ∃ c, cr_left.f l a.f0 a.f1 b.f0 b.f1 = some c ∧ (c = true ↔ ∃ q ∈ l, 0 < cr a b q) := by
 refine ⟨_, rfl, ?_⟩
 rw [List.any_eq_true]
 constructor
 ·rintro ⟨q, hq, h⟩
  unfold PG.leftOf at h
  rw [side_f ha hb (hl q hq), decide_eq_true_eq, Option.getD_some] at h
  exact ⟨q, hq, h⟩
 ·rintro ⟨q, hq, h⟩
  refine ⟨q, hq, ?_⟩
  unfold PG.leftOf
  rw [side_f ha hb (hl q hq), decide_eq_true_eq, Option.getD_some]; exact h
theorem crosses_run {t : List Pt} {a b : Pt} (hti : ∀ p ∈ t, Bd p) (ha : Bd a) (hb : Bd b) (hN : t.length ≤ 1000000) : ∃ c, Rt (fun k => shape_crosses.f k a.f0 a.f1 b.f0 b.f1 t) c ∧ (c = true ↔ (∃ q ∈ t, 0 < cr a b q) ∧ (∃ q ∈ t, cr a b q < 0) ∧ ¬ Sep t [a, b]) := by
 obtain ⟨c1, e1, i1⟩ := left2_f ha hb hti
 obtain ⟨c2, e2, i2⟩ := right_f ha hb hti
 obtain ⟨c3, ⟨K, h3⟩, i3⟩ := parted_run (a := t) (b := [a, b]) hti (fun p hp => by
  rcases List.mem_cons.mp hp with e | e
  ·rw [e]; exact ha
  ·rw [List.mem_singleton.mp e]; exact hb) hN
 refine ⟨c1 && (c2 && !c3), ⟨K, fun k hk => ?_⟩, ?_⟩
 ·have h := h3 k hk
  dsimp only at h ⊢
  unfold shape_crosses.f
  rw [e1, Option.bind_some, e2, Option.bind_some]
  cases c1 with
  | false => rfl
  | true =>
   rw [if_pos rfl]
   cases c2 with
   | false => rfl
   | true =>
    rw [if_pos rfl]
    have : shape_parted.f k t [⟨a.f0, a.f1⟩, ⟨b.f0, b.f1⟩] = some c3 := h
    rw [this]; rfl
 ·rw [Bool.and_eq_true, Bool.and_eq_true, i1, i2, Bool.not_eq_true']
  refine ⟨fun ⟨x, y, z⟩ => ⟨x, y, fun s => by rw [i3.mpr s] at z; simp at z⟩, fun ⟨x, y, z⟩ => ⟨x, y, ?_⟩⟩
  cases hc : c3 with
  | false => rfl
  | true => exact absurd (i3.mp hc) z
theorem low_of {p q : Int × Int} (h : -p.1 * (q.1 - q.2) < q.1 * (p.2 - p.1)) : p.1 * q.2 < q.1 * p.2 := by
 have e1 : -p.1 * (q.1 - q.2) = p.1 * q.2 - q.1 * p.1 := by grind
 have e2 : q.1 * (p.2 - p.1) = q.1 * p.2 - q.1 * p.1 := by grind
 omega
theorem of_low {p q : Int × Int} (h : p.1 * q.2 < q.1 * p.2) : -p.1 * (q.1 - q.2) < q.1 * (p.2 - p.1) := by
 have e1 : -p.1 * (q.1 - q.2) = p.1 * q.2 - q.1 * p.1 := by grind
 have e2 : q.1 * (p.2 - p.1) = q.1 * p.2 - q.1 * p.1 := by grind
 omega
theorem cross_same {t0 t1 t2 a b : Pt} (hD : 0 < cr t0 t1 t2) (hab : a ≠ b) :
  ((∃ q ∈ [t0, t1, t2], 0 < cr a b q) ∧ (∃ q ∈ [t0, t1, t2], cr a b q < 0) ∧ ¬ Sep [t0, t1, t2] [a, b]) ↔ cutF (ends [t0, t1, t2] a b) 0 1 1 1 = true := by
 have ee : ends [t0, t1, t2] a b = [(cr t0 t1 a, cr t0 t1 b), (cr t1 t2 a, cr t1 t2 b), (cr t2 t0 a, cr t2 t0 b)] := rfl
 rw [ee, cutF_iff _ _ _ _ _ (by omega) (by omega)]
 have sep : ¬ Sep [t0, t1, t2] [a, b] ↔ ¬ (cr t1 t2 a ≤ 0 ∧ cr t1 t2 b ≤ 0) ∧ ¬ (cr t2 t0 a ≤ 0 ∧ cr t2 t0 b ≤ 0) ∧ ¬ (cr t0 t1 a ≤ 0 ∧ cr t0 t1 b ≤ 0) := by
  have s : ∀ u v : Pt, (∀ q ∈ [a, b], cr u v q ≤ 0) ↔ (cr u v a ≤ 0 ∧ cr u v b ≤ 0) := fun u v => by simp
  have q0 : SepAt [t0, t1, t2] [a, b] 0 ↔ (cr t0 t1 a ≤ 0 ∧ cr t0 t1 b ≤ 0) := by unfold SepAt; rw [show (0 + 1) % [t0, t1, t2].length = 1 from rfl]; exact s t0 t1
  have q1 : SepAt [t0, t1, t2] [a, b] 1 ↔ (cr t1 t2 a ≤ 0 ∧ cr t1 t2 b ≤ 0) := by unfold SepAt; rw [show (1 + 1) % [t0, t1, t2].length = 2 from rfl]; exact s t1 t2
  have q2 : SepAt [t0, t1, t2] [a, b] 2 ↔ (cr t2 t0 a ≤ 0 ∧ cr t2 t0 b ≤ 0) := by unfold SepAt; rw [show (2 + 1) % [t0, t1, t2].length = 0 by simp]; exact s t2 t0
  constructor
  ·intro h
   refine ⟨fun k => h ⟨1, by simp, q1.mpr k⟩, fun k => h ⟨2, by simp, q2.mpr k⟩, fun k => h ⟨0, by simp, q0.mpr k⟩⟩
  ·rintro ⟨h1, h2, h0⟩ ⟨i, hi, k⟩
   have hi3 : i < 3 := hi
   match i, hi3, k with
   | 0, _, k => exact h0 (q0.mp k)
   | 1, _, k => exact h1 (q1.mp k)
   | 2, _, k => exact h2 (q2.mp k)
 rw [sep]
 have ex1 : (∃ q ∈ [t0, t1, t2], 0 < cr a b q) ↔ (0 < cr a b t0 ∨ 0 < cr a b t1 ∨ 0 < cr a b t2) := by simp
 have ex2 : (∃ q ∈ [t0, t1, t2], cr a b q < 0) ↔ (cr a b t0 < 0 ∨ cr a b t1 < 0 ∨ cr a b t2 < 0) := by simp
 rw [ex1, ex2]
 have sa : cr t1 t2 a + cr t2 t0 a + cr t0 t1 a = cr t0 t1 t2 := by unfold cr; grind
 have sb : cr t1 t2 b + cr t2 t0 b + cr t0 t1 b = cr t0 t1 t2 := by unfold cr; grind
 have e0 : cr t0 t1 t2 * cr a b t0 = cr t2 t0 a * cr t0 t1 b - cr t0 t1 a * cr t2 t0 b := by unfold cr; grind
 have e1 : cr t0 t1 t2 * cr a b t1 = cr t0 t1 a * cr t1 t2 b - cr t1 t2 a * cr t0 t1 b := by unfold cr; grind
 have e2 : cr t0 t1 t2 * cr a b t2 = cr t1 t2 a * cr t2 t0 b - cr t2 t0 a * cr t1 t2 b := by unfold cr; grind
 have d02 : cr a b t0 - cr a b t2 = cr t2 t0 a - cr t2 t0 b := by unfold cr; grind
 have d10 : cr a b t1 - cr a b t0 = cr t0 t1 a - cr t0 t1 b := by unfold cr; grind
 have d21 : cr a b t2 - cr a b t1 = cr t1 t2 a - cr t1 t2 b := by unfold cr; grind
 have ne : ¬ (cr t1 t2 a = cr t1 t2 b ∧ cr t2 t0 a = cr t2 t0 b ∧ cr t0 t1 a = cr t0 t1 b) := by
  rintro ⟨f0, f1, f2⟩
  apply hab
  have x0 : cr t0 t1 t2 * (a.f0 - b.f0) = (t1.f0 - t0.f0) * ((cr t2 t0 a - cr t2 t0 b)) + (t2.f0 - t0.f0) * (cr t0 t1 a - cr t0 t1 b) := by unfold cr; grind
  have x1 : cr t0 t1 t2 * (a.f1 - b.f1) = (t1.f1 - t0.f1) * ((cr t2 t0 a - cr t2 t0 b)) + (t2.f1 - t0.f1) * (cr t0 t1 a - cr t0 t1 b) := by unfold cr; grind
  rw [f1, f2, Int.sub_self, Int.sub_self, Int.mul_zero, Int.mul_zero, Int.add_zero] at x0 x1
  have y0 : a.f0 - b.f0 = 0 := (Int.mul_eq_zero.mp x0).resolve_left (by omega)
  have y1 : a.f1 - b.f1 = 0 := (Int.mul_eq_zero.mp x1).resolve_left (by omega)
  cases a; cases b; simp only [S41.mk.injEq]; dsimp only at y0 y1; omega
 have key := fun n0 n1 n2 => cross_cut (a0 := cr t1 t2 a) (a1 := cr t2 t0 a) (a2 := cr t0 t1 a) (b0 := cr t1 t2 b) (b1 := cr t2 t0 b) (b2 := cr t0 t1 b) (w0 := cr a b t0) (w1 := cr a b t1) (w2 := cr a b t2) hD sa sb e0 e1 e2 d02 d10 d21 ne n0 n1 n2
 generalize cr t1 t2 a = a0 at *
 generalize cr t2 t0 a = a1 at *
 generalize cr t0 t1 a = a2 at *
 generalize cr t1 t2 b = b0 at *
 generalize cr t2 t0 b = b1 at *
 generalize cr t0 t1 b = b2 at *
 constructor
 ·rintro ⟨hl, hr, n0, n1, n2⟩
  obtain ⟨l01, l12, l20, l10, l21, l02⟩ := (key n0 n1 n2).mp ⟨hl, hr⟩
  refine ⟨?_, by omega, ?_, ?_, ?_⟩
  ·intro p hp
   simp only [List.mem_cons, List.mem_nil_iff, or_false] at hp
   rcases hp with rfl | rfl | rfl
   ·exact n2
   ·exact n0
   ·exact n1
  ·intro p _ h; unfold Low at h; omega
  ·intro p _ h; unfold High at h; omega
  ·intro p hp q hq hlo hhi
   apply of_low
   unfold Low at hlo
   unfold High at hhi
   simp only [List.mem_cons, List.mem_nil_iff, or_false] at hp hq
   rcases hp with rfl | rfl | rfl <;> rcases hq with rfl | rfl | rfl <;> dsimp only at hlo hhi ⊢
   ·omega
   ·exact l20 hlo.1 hlo.2 hhi.1 hhi.2
   ·exact l21 hlo.1 hlo.2 hhi.1 hhi.2
   ·exact l02 hlo.1 hlo.2 hhi.1 hhi.2
   ·omega
   ·exact l01 hlo.1 hlo.2 hhi.1 hhi.2
   ·exact l12 hlo.1 hlo.2 hhi.1 hhi.2
   ·exact l10 hlo.1 hlo.2 hhi.1 hhi.2
   ·omega
 ·rintro ⟨hn, _, _, _, hp⟩
  have n2 := hn (a2, b2) (by simp)
  have n0 := hn (a0, b0) (by simp)
  have n1 := hn (a1, b1) (by simp)
  have P : ∀ p q : Int × Int, p ∈ [(a2, b2), (a0, b0), (a1, b1)] → q ∈ [(a2, b2), (a0, b0), (a1, b1)] → LH p.1 p.2 q.1 q.2 := fun p q h1 h2 x1 x2 x3 x4 => low_of (hp p h1 q h2 ⟨x1, x2⟩ ⟨x3, x4⟩)
  have := (key n0 n1 n2).mpr ⟨P (a0, b0) (a1, b1) (by simp) (by simp), P (a1, b1) (a2, b2) (by simp) (by simp), P (a2, b2) (a0, b0) (by simp) (by simp), P (a1, b1) (a0, b0) (by simp) (by simp), P (a2, b2) (a1, b1) (by simp) (by simp), P (a0, b0) (a2, b2) (by simp) (by simp)⟩
  exact ⟨this.1, this.2, n0, n1, n2⟩
end Go.Proofs.Ythehmkpcddafnaa.M
end
section
namespace Go.Proofs.Ythehmkpcddafnaa.M
open Go.RowKit Go.Proofs.Ythehmkpcddafnaa.PG Go.Proofs.YthehmkpcddafnaaW.PrintMore Go.Proofs.YthehmkpcddafnaaW.PrintWords
theorem refWhere_l0 {l : List Pt} {p : Pt} (hb : ∀ p ∈ l, Bd p) (hp : Bd p) (hN : l.length ≤ 1000000) : ∀ d i s, l.length = i + d → Rt (fun k => cracknelref04_Where.l0 k l s (i : Int) p.f0 p.f1) (wh l p d i s) := by
 intro d
 induction d with
 | zero =>
  intro i s hi
  refine ⟨0 + 1, fun k hk => ?_⟩
  obtain ⟨k, rfl⟩ := fuel1 hk
  dsimp only; rw [cracknelref04_Where.l0, if_neg (by omega)]; cases s <;> rfl
 | succ d ih =>
  intro i s hi
  have hlt : i < l.length := by omega
  have hBi := at_bd hb hlt
  have hBn := at_bd hb (show (i + 1) % l.length < l.length from Nat.mod_lt _ (by omega))
  obtain ⟨K, hK⟩ := ih (i + 1) (s != decide (Hit (at_ l i) (at_ l ((i + 1) % l.length)) p)) (by omega)
  have hcr := cr_bd hBi hBn hp
  have hneg : cr (at_ l ((i + 1) % l.length)) (at_ l i) p = - cr (at_ l i) (at_ l ((i + 1) % l.length)) p := by rw [cr_eq, cr_eq]; grind
  refine ⟨K + 3, fun k hk => ?_⟩
  obtain ⟨k, rfl⟩ : ∃ m, k = m + 1 := ⟨k - 1, by omega⟩
  dsimp only
  rw [cracknelref04_Where.l0, if_pos (by omega), if_pos (by omega), next_f (by omega) (by omega), Option.bind_some, rd_at, On_f hBi hBn hp, Option.bind_some]
  dsimp only
  unfold wh
  have fin : ∀ x : Int, (0 < x ↔ Hit (at_ l i) (at_ l ((i + 1) % l.length)) p) → cracknelref04_Where.j1 k l s (i : Int) x p.f0 p.f1 = some (wh l p d (i + 1) (s != decide (Hit (at_ l i) (at_ l ((i + 1) % l.length)) p))) := by
   intro x hx
   obtain ⟨k, rfl⟩ : ∃ m, k = m + 1 := ⟨k - 1, by omega⟩
   have := hK k (by omega)
   dsimp only at this
   rw [cracknelref04_Where.j1, wrap_succ i (by omega)]
   by_cases h : 0 < x
   ·rw [if_pos h, ← this, decide_eq_true (hx.mp h)]; simp
   ·rw [if_neg h, ← this, decide_eq_false (fun h2 => h (hx.mpr h2))]; simp
  by_cases h1 : On (at_ l i) (at_ l ((i + 1) % l.length)) p
  ·rw [if_pos (by simpa using h1), if_pos h1]
  ·rw [if_neg (by simpa using h1), if_neg h1]
   by_cases h2 : ((decide ((at_ l i).f1 > p.f1)) != (decide ((at_ l ((i + 1) % l.length)).f1 > p.f1))) = true
   ·rw [if_pos h2, Cross_f hBi hBn hp, Option.bind_some]
    have h2' : ¬ ((at_ l i).f1 > p.f1 ↔ (at_ l ((i + 1) % l.length)).f1 > p.f1) := by
     intro e; simp only [e, bne_self_eq_false, Bool.false_eq_true] at h2
    by_cases h3 : (at_ l ((i + 1) % l.length)).f1 < (at_ l i).f1
    ·rw [if_pos h3, wz _ (by omega) (by omega)]
     apply fin; unfold Hit; rw [hneg]; omega
    ·rw [if_neg h3]
     apply fin; unfold Hit; rw [hneg]; omega
   ·rw [if_neg h2, wrap_succ i (by omega)]
    have := hK k (by omega)
    dsimp only at this
    have h2' : ((at_ l i).f1 > p.f1 ↔ (at_ l ((i + 1) % l.length)).f1 > p.f1) := by
     simp only [bne_iff_ne, ne_eq, Decidable.not_not, decide_eq_decide] at h2; exact h2
    rw [← this, decide_eq_false (by unfold Hit; omega)]; simp
theorem refWhere_run {l : List Pt} {p : Pt} (hb : ∀ p ∈ l, Bd p) (hp : Bd p) (hN : l.length ≤ 1000000) : Rt (fun k => cracknelref04_Where.f k l p.f0 p.f1) (whereOf l p) := by
 obtain ⟨K, hK⟩ := refWhere_l0 hb hp hN l.length 0 false (by omega)
 exact ⟨K, fun k hk => hK k hk⟩
end Go.Proofs.Ythehmkpcddafnaa.M
end
section
namespace Go.Proofs.Ythehmkpcddafnaa.M
open Go.RowKit Go.Proofs.Ythehmkpcddafnaa.PG Go.Proofs.YthehmkpcddafnaaW.PrintMore Go.Proofs.YthehmkpcddafnaaW.PrintWords
theorem wh_on2 {l : List Pt} {p : Pt} : ∀ d i s, (∃ j, i ≤ j ∧ j < i + d ∧ On (at_ l j) (at_ l ((j + 1) % l.length)) p) → wh l p d i s = 0 := by
 intro d
 induction d with
 | zero => rintro i s ⟨j, h1, h2, _⟩; omega
 | succ d ih =>
  rintro i s ⟨j, h1, h2, h3⟩
  unfold wh
  by_cases c : On (at_ l i) (at_ l ((i + 1) % l.length)) p
  ·rw [if_pos c]
  ·rw [if_neg c]
   refine ih (i + 1) _ ⟨j, ?_, by omega, h3⟩
   rcases Nat.eq_or_lt_of_le h1 with e | e
   ·subst e; exact absurd h3 c
   ·exact e
theorem on_fst (a b : Pt) : On a b a := ⟨by unfold cr; grind, by unfold btw; omega⟩
theorem where_corner {l : List Pt} {p : Pt} (h : p ∈ l) : whereOf l p = 0 := by
 obtain ⟨j, hj, e⟩ := List.mem_iff_getElem.mp h
 have ea : at_ l j = p := by unfold at_; rw [List.getD_eq_getElem?_getD, List.getElem?_eq_getElem hj, e]; rfl
 exact wh_on2 _ _ _ ⟨j, Nat.zero_le _, by omega, by rw [ea]; exact on_fst _ _⟩
def tripled (l : List Pt) : List Pt := l.map fun p => ⟨3 * p.f0, 3 * p.f1⟩
theorem tripled_take {l : List Pt} {i : Nat} (hi : i < l.length) : tripled (l.take i) ++ [(⟨3 * (at_ l i).f0, 3 * (at_ l i).f1⟩ : S41)] = tripled (l.take (i + 1)) := by
 unfold tripled
 rw [List.take_add_one, List.getElem?_eq_getElem hi, Option.toList_some, List.map_append]
 have : at_ l i = l[i] := by unfold at_; rw [List.getD_eq_getElem?_getD, List.getElem?_eq_getElem hi]; rfl
 rw [this]; rfl
theorem edge_run {c0 c1 c2 a b : Pt} (hti : ∀ p ∈ [c0, c1, c2], In 10000 p) (ha : In 10000 a) (hb : In 10000 b) (hD : 0 < cr c0 c1 c2) (hab : a ≠ b) :
  ∃ c, Rt (fun k => shape_crosses.f k a.f0 a.f1 b.f0 b.f1 [c0, c1, c2]) c ∧ Rt (fun k => cracknelref04_cuts.f k [c0, c1, c2] a.f0 a.f1 b.f0 b.f1) c := by
 obtain ⟨c, rc, ic⟩ := crosses_run (t := [c0, c1, c2]) (fun p hp => in_bd10 (hti p hp)) (in_bd10 ha) (in_bd10 hb) (by simp)
 rw [cross_same hD hab] at ic
 have ru := cuts_run (t := [c0, c1, c2]) rfl hti ha hb
 generalize cutF (ends [c0, c1, c2] a b) 0 1 1 1 = e at ic ru
 have : e = c := by cases c <;> cases e <;> simp at ic ⊢
 subst this
 exact ⟨e, rc, ru⟩
section
variable {l : List Pt} {c0 c1 c2 : Pt}
theorem inside_run (hb : ∀ p ∈ l, In 10000 p) (hl : l.length ≤ 1000) (hd : ∀ i, i < l.length → at_ l i ≠ at_ l ((i + 1) % l.length)) (h0 : c0 ∈ l) (h1 : c1 ∈ l) (h2 : c2 ∈ l) (hD : 0 < cr c0 c1 c2) :
  ∃ e, Rt (fun k => shape_inside.f k l [c0, c1, c2]) e ∧ Rt (fun k => cracknelref04_Within.f k l [c0, c1, c2]) e := by
 have b0 := hb _ h0
 have b1 := hb _ h1
 have b2 := hb _ h2
 have hti : ∀ p ∈ [c0, c1, c2], In 10000 p := by
  intro p hp
  simp only [List.mem_cons, List.mem_nil_iff, or_false] at hp
  rcases hp with rfl | rfl | rfl
  ·exact b0
  ·exact b1
  ·exact b2
 have hlb : ∀ p ∈ l, Bd p := fun p hp => in_bd10 (hb p hp)
 have h3 : ∀ p ∈ tripled l, Bd p := by
  intro p hp
  unfold tripled at hp
  obtain ⟨q, hq, rfl⟩ := List.mem_map.mp hp
  have := hb q hq
  unfold In at this; unfold Bd; dsimp only; omega
 have hm : Bd (⟨c0.f0 + c1.f0 + c2.f0, c0.f1 + c1.f1 + c2.f1⟩ : S41) := by unfold In at b0 b1 b2; unfold Bd; dsimp only; omega
 have tl : (tripled l).length = l.length := by unfold tripled; rw [List.length_map]
 have w1 := where_run (l := tripled l) (p := ⟨c0.f0 + c1.f0 + c2.f0, c0.f1 + c1.f1 + c2.f1⟩) h3 hm (by omega)
 have w2 := refWhere_run (l := tripled l) (p := ⟨c0.f0 + c1.f0 + c2.f0, c0.f1 + c1.f1 + c2.f1⟩) h3 hm (by omega)
 generalize whereOf (tripled l) ⟨c0.f0 + c1.f0 + c2.f0, c0.f1 + c1.f1 + c2.f1⟩ = W at w1 w2
 dsimp only at w1 w2
 have s0 : wrap64 (wrap64 (c0.f0 + c1.f0) + c2.f0) = c0.f0 + c1.f0 + c2.f0 := by unfold In at b0 b1 b2; rw [wz (c0.f0 + c1.f0) (by omega) (by omega)]; exact wz _ (by omega) (by omega)
 have s1 : wrap64 (wrap64 (c0.f1 + c1.f1) + c2.f1) = c0.f1 + c1.f1 + c2.f1 := by unfold In at b0 b1 b2; rw [wz (c0.f1 + c1.f1) (by omega) (by omega)]; exact wz _ (by omega) (by omega)
 have r0 : rd_T41 [c0, c1, c2] 0 = c0 := rfl
 have r1 : rd_T41 [c0, c1, c2] 1 = c1 := rfl
 have r2 : rd_T41 [c0, c1, c2] 2 = c2 := rfl
 have z3 : ∀ i, i < l.length → wrap64 (3 * (at_ l i).f0) = 3 * (at_ l i).f0 ∧ wrap64 (3 * (at_ l i).f1) = 3 * (at_ l i).f1 := fun i hi => by
  have := hb _ (at_mem hi)
  unfold In at this
  exact ⟨wz _ (by omega) (by omega), wz _ (by omega) (by omega)⟩
 have A1 : ∀ d i, l.length = i + d → Rt (fun k => shape_inside.l1 k [c0, c1, c2] (tripled (l.take i)) l (l.length : Int) (i : Int)) (decide (W > 0)) := by
  intro d
  induction d with
  | zero =>
   intro i hi
   have e : tripled (l.take i) = tripled l := by rw [List.take_of_length_le (by omega)]
   refine rt_bind w1 (g := fun t _ => some (decide (t > 0))) ⟨0, fun k _ => rfl⟩ (fun k => ?_)
   rw [shape_inside.l1, if_neg (by omega), if_pos (by simp), if_pos (by simp), r0, r1, r2]
   unfold shape_add.f
   rw [Option.bind_some, if_pos (by simp), Option.bind_some]
   dsimp only
   rw [s0, s1, e]
  | succ d ih =>
   intro i hi
   have hlt : i < l.length := by omega
   refine rt_step (fun k => ?_) (ih (i + 1) (by omega))
   rw [shape_inside.l1, if_pos (by omega), if_pos (by omega), if_pos (by omega), if_pos (by unfold tripled; rw [List.length_map, List.length_take]; omega), rd_at, (z3 i hlt).1, (z3 i hlt).2, tripled_take hlt, wrap_succ i (by omega)]
 have B1 : ∀ d i, l.length = i + d → Rt (fun k => cracknelref04_Within.l2 k l [c0, c1, c2] (tripled (l.take i)) (i : Int)) (decide (W > 0)) := by
  intro d
  induction d with
  | zero =>
   intro i hi
   have e : tripled (l.take i) = tripled l := by rw [List.take_of_length_le (by omega)]
   refine rt_bind w2 (g := fun t _ => some (decide (t > 0))) ⟨0, fun k _ => rfl⟩ (fun k => ?_)
   rw [cracknelref04_Within.l2, if_neg (by omega), if_pos (by simp), if_pos (by simp), if_pos (by simp), r0, r1, r2, s0, s1, e]
  | succ d ih =>
   intro i hi
   have hlt : i < l.length := by omega
   refine rt_step (fun k => ?_) (ih (i + 1) (by omega))
   rw [cracknelref04_Within.l2, if_pos (by omega), if_pos (by omega), if_pos (by unfold tripled; rw [List.length_map, List.length_take]; omega), rd_at, (z3 i hlt).1, (z3 i hlt).2, tripled_take hlt, wrap_succ i (by omega)]
 clear s0 s1 z3 w1 w2 hm h3 tl
 have E : ∀ d i, l.length = i + d → ∃ e, Rt (fun k => shape_inside.l0 k l [c0, c1, c2] (l.length : Int) (i : Int)) e ∧ Rt (fun k => cracknelref04_Within.l1 k l [c0, c1, c2] (i : Int)) e := by
  intro d
  induction d with
  | zero =>
   intro i hi
   refine ⟨_, rt_step (fun k => ?_) (A1 l.length 0 (by omega)), rt_step (fun k => ?_) (B1 l.length 0 (by omega))⟩
   ·rw [shape_inside.l0, if_neg (by omega)]; rfl
   ·rw [cracknelref04_Within.l1, if_neg (by omega)]; rfl
  | succ d ih =>
   intro i hi
   have hlt : i < l.length := by omega
   have hlt2 : (i + 1) % l.length < l.length := Nat.mod_lt _ (by omega)
   have m1 := at_mem (h := l) hlt
   have m2 := at_mem (h := l) hlt2
   obtain ⟨c, rc, ru⟩ := edge_run hti (hb _ m1) (hb _ m2) hD (hd i hlt)
   obtain ⟨e, i1, i2⟩ := ih (i + 1) (by omega)
   have t1 := tmod_nat i l.length (by omega)
   have t2 := tmod_in (i + 1) l.length (by omega)
   have nx := next_f (l := l) (i := i) (by omega) (by omega)
   refine ⟨if c = true then false else e, ?_, ?_⟩
   ·refine rt_bind rc (g := fun t k => if t = true then some false else shape_inside.l0 k l [c0, c1, c2] (l.length : Int) ((i + 1 : Nat) : Int)) ?_ (fun k => by
     rw [shape_inside.l0, if_pos (by omega), if_pos (by omega), if_pos (by omega), if_neg (by omega), t1, if_pos (by omega), if_pos (by omega), rd_at, rd_at, wrap_succ i (by omega)])
    cases c with
    | true => exact ⟨0, fun k _ => rfl⟩
    | false => exact i1
   ·refine rt_bind ru (g := fun t k => if t = true then some false else cracknelref04_Within.l1 k l [c0, c1, c2] ((i + 1 : Nat) : Int)) ?_ (fun k => by
     rw [cracknelref04_Within.l1, if_pos (by omega), if_pos (by omega), nx, Option.bind_some, rd_at, wrap_succ i (by omega)])
    cases c with
    | true => exact ⟨0, fun k _ => rfl⟩
    | false => exact i2
 obtain ⟨e, i1, i2⟩ := E l.length 0 (by omega)
 have corner : ∀ (j : Nat) (p : Pt) (x : Bool), j < 3 → rd_T41 [c0, c1, c2] (j : Int) = p → p ∈ l → Rt (fun k => cracknelref04_Within.l0 k l [c0, c1, c2] ((j + 1 : Nat) : Int)) x → Rt (fun k => cracknelref04_Within.l0 k l [c0, c1, c2] (j : Int)) x := by
  intro j p x hj hp hm hx
  have w := refWhere_run (l := l) (p := p) hlb (hlb _ hm) (by omega)
  rw [where_corner hm] at w
  refine rt_bind w (g := fun t k => if t < 0 then some false else cracknelref04_Within.l0 k l [c0, c1, c2] ((j + 1 : Nat) : Int)) (by simp only [if_neg (show ¬ ((0 : Int) < 0) by omega)]; exact hx) (fun k => ?_)
  rw [cracknelref04_Within.l0, if_pos (by omega), if_pos (by omega), if_pos (by simp; omega), hp, wrap_succ j (by omega)]
 have C3 : Rt (fun k => cracknelref04_Within.l0 k l [c0, c1, c2] ((2 + 1 : Nat) : Int)) e := rt_step (fun k => by rw [cracknelref04_Within.l0, if_neg (by omega)]; rfl) i2
 have C0 := corner 0 c0 e (by omega) rfl h0 (corner 1 c1 e (by omega) rfl h1 (corner 2 c2 e (by omega) rfl h2 C3))
 exact ⟨e, i1, C0⟩
end
end Go.Proofs.Ythehmkpcddafnaa.M
end
section
namespace Go.Proofs.Ythehmkpcddafnaa.M
open Go.Proofs.Ythehmkpcddafnaa.PG
abbrev El := Pt × Int × Int
abbrev X (e : El) : Int := e.2.1
abbrev Y (e : El) : Int := e.2.2
def s0 (f : El → Int) : List El → Int
 | [] => 0
 | e :: L => f e * e.1.f0 + s0 f L
def s1 (f : El → Int) : List El → Int
 | [] => 0
 | e :: L => f e * e.1.f1 + s1 f L
def Bq (f g : El → Int) : List El → Int
 | [] => 0
 | e :: L => f e * (e.1.f0 * s1 g L - e.1.f1 * s0 g L) + g e * (e.1.f0 * s1 f L - e.1.f1 * s0 f L) + Bq f g L
end Go.Proofs.Ythehmkpcddafnaa.M
end
section
namespace Go.Proofs.Ythehmkpcddafnaa.M
open Go.Proofs.Ythehmkpcddafnaa.PG
end Go.Proofs.Ythehmkpcddafnaa.M
end
section
namespace Go.Proofs.Ythehmkpcddafnaa.M
open Go.Proofs.Ythehmkpcddafnaa.PG
end Go.Proofs.Ythehmkpcddafnaa.M
end
section
namespace Go.Proofs.Ythehmkpcddafnaa.M
open Go.Proofs.Ythehmkpcddafnaa.PG
end Go.Proofs.Ythehmkpcddafnaa.M
end
section
namespace Go.Proofs.Ythehmkpcddafnaa.M
open Go.Proofs.Ythehmkpcddafnaa.PG
def arA (l : List Pt) : Nat → Nat → Int
 | 0, _ => 0
 | d + 1, i => cx (P l i) (P l (i + 1)) + arA l d (i + 1)
def par : List Pt → Int
 | a :: b :: r => cx a b + par (b :: r)
 | _ => 0
section
variable {p q : Int} {a b S : List Pt}
def Z (e : El) : Int := X e + Y e
structure Way (p q : Int) (a b : List Pt) (d i j : Nat) (U : List El) : Prop where
 ord : U.Pairwise (fun e e' => Bf p q e.1 e'.1)
 bef : ∀ e ∈ U, (0 < i → Bf p q (ed a (i - 1)) e.1) ∧ (0 < j → Bf p q (ed b (j - 1)) e.1)
 pos : ∀ e ∈ U, 0 ≤ X e ∧ 0 ≤ Y e
 sx0 : s0 X U = (P a a.length).f0 - (P a i).f0
 sx1 : s1 X U = (P a a.length).f1 - (P a i).f1
 sy0 : s0 Y U = (P b b.length).f0 - (P b j).f0
 sy1 : s1 Y U = (P b b.length).f1 - (P b j).f1
 az : 2 * par (V a b i j :: path a b d i j) = 2 * ((V a b i j).f0 * s1 Z U - (V a b i j).f1 * s0 Z U) + Bq Z Z U
 ax : 2 * arA a (a.length - i) i = 2 * ((P a i).f0 * s1 X U - (P a i).f1 * s0 X U) + Bq X X U
 ay : 2 * arA b (b.length - j) j = 2 * ((P b j).f0 * s1 Y U - (P b j).f1 * s0 Y U) + Bq Y Y U
end
end Go.Proofs.Ythehmkpcddafnaa.M
end
section
namespace Go.Proofs.Ythehmkpcddafnaa.M
open Go.Proofs.Ythehmkpcddafnaa.PG
section
variable (p q : Int) (l : List Pt)
def F (i j : Nat) : Pt := vec (P l i) (P l j)
end
section
variable {p q : Int} {l : List Pt}
structure Free (p q : Int) (l : List Pt) : Prop where
 three : 3 ≤ l.length
 lev : ∀ i j, i < j → j ≤ l.length → ¬ (i = 0 ∧ j = l.length) → ph p q (F l i j) ≠ 0
 apart : ∀ i j, i + 2 ≤ j → j < l.length → ¬ (i = 0 ∧ j + 1 = l.length) → ¬ Meet (P l i) (P l (i + 1)) (P l j) (P l (j + 1))
def seg (l : List Pt) (s m : Nat) : List El := (List.range' s m).map fun t => (ed l t, 1, 1)
end
end Go.Proofs.Ythehmkpcddafnaa.M
end
section
namespace Go.Proofs.Ythehmkpcddafnaa.M
open Go.RowKit Go.Proofs.Ythehmkpcddafnaa.PG Go.Proofs.YthehmkpcddafnaaW.PrintMore Go.Proofs.YthehmkpcddafnaaW.PrintWords
end Go.Proofs.Ythehmkpcddafnaa.M
end
section
namespace Go.Proofs.Ythehmkpcddafnaa.M
open Go.RowKit Go.Proofs.Ythehmkpcddafnaa.PG Go.Proofs.YthehmkpcddafnaaW.PrintMore Go.Proofs.YthehmkpcddafnaaW.PrintWords
noncomputable def tv (P : Prop) : Bool := @decide P (Classical.propDecidable P)
theorem tv_iff {P : Prop} : tv P = true ↔ P := @decide_eq_true_iff P (Classical.propDecidable P)
theorem tv_eq {P Q : Prop} (h : P ↔ Q) : tv P = tv Q := by rw [propext h]
theorem tv_t {P : Prop} (h : P) : tv P = true := tv_iff.mpr h
theorem tv_f {P : Prop} (h : ¬ P) : tv P = false := by
 cases e : tv P
 ·rfl
 ·exact absurd (tv_iff.mp e) h
def Ap (a b : List Pt) : Prop := Sep a b ∨ Sep b a
def base (s : List Pt) : List Pt := shifted ⟨-(box s).1, -(box s).2.1⟩ s
def wide (s : List Pt) : Int := (box s).2.2.1 - (box s).1
def high (s : List Pt) : Int := (box s).2.2.2 - (box s).2.1
structure Shp (s : List Pt) : Prop where
 nf : Nf 10000 s
 len : s.length ≤ 32
structure Lie (q : List Pt) : Prop where
 nf : Nf 40000 q
 len : q.length ≤ 32
theorem rd_l2 {pl : List (List Pt)} {i : Nat} (h : i < pl.length) : rd_L2 pl (i : Int) = pl[i] := by
 unfold rd_L2
 rw [Int.toNat_natCast, List.getD_eq_getElem?_getD, List.getElem?_eq_getElem h]; rfl
end Go.Proofs.Ythehmkpcddafnaa.M
end
section
namespace Go.Proofs.Ythehmkpcddafnaa.M
open Go.RowKit Go.Proofs.Ythehmkpcddafnaa.PG Go.Proofs.YthehmkpcddafnaaW.PrintMore Go.Proofs.YthehmkpcddafnaaW.PrintWords
theorem bad_simple (r : List Pt) (hl : r.length ≤ 1000000) : ∃ c : Int, Rt (fun k => shape_refused_simple.f k r) c ∧ Rt (fun k => cracknellaw04_simple.f k r) c ∧ (c = 0 ↔ Poly r ∧ Simple r) ∧ (c = 0 ∨ c = 1 ∨ c = 2) := by
 obtain ⟨K1, h1⟩ := refPolygon_run r hl
 by_cases hp : Poly r
 ·have hb : ∀ p ∈ r, Bd p := fun p h => in_bd (hp.2.2 p h)
  obtain ⟨b4, ⟨K4, h4⟩, i4⟩ := simple_run hb hp.1 hl
  obtain ⟨b5, ⟨K5, h5⟩, i5⟩ := refSimple_run hb hp.1 hl
  have e1 : b4 = b5 := by rw [Bool.eq_iff_iff, i4, i5]
  subst e1
  refine ⟨if b4 = true then 0 else 2, ⟨K4, fun k hk => ?_⟩, ⟨K1 + K5, fun k hk => ?_⟩, ?_, ?_⟩
  ·have a4 := h4 k hk
   dsimp only at a4 ⊢
   unfold shape_refused_simple.f
   rw [polygon_f, Option.bind_some, if_pos (by simpa using hp), a4, Option.bind_some]
   cases b4 <;> rfl
  ·have a1 := h1 k (by omega)
   have a5 := h5 k (by omega)
   dsimp only at a1 a5 ⊢
   unfold cracknellaw04_simple.f
   rw [a1, Option.bind_some, if_pos (by simpa using hp), a5, Option.bind_some]
   cases b4 <;> rfl
  ·rw [← i4]; cases b4 <;> simp [hp]
  ·cases b4 <;> simp
 ·refine ⟨1, ⟨0, fun k hk => ?_⟩, ⟨K1, fun k hk => ?_⟩, ?_, ?_⟩
  ·dsimp only
   unfold shape_refused_simple.f
   rw [polygon_f, Option.bind_some, if_neg (by simpa using hp)]
  ·have a1 := h1 k (by omega)
   dsimp only at a1 ⊢
   unfold cracknellaw04_simple.f
   rw [a1, Option.bind_some, if_neg (by simpa using hp)]
  ·simp [hp]
  ·simp
end Go.Proofs.Ythehmkpcddafnaa.M
end
section
namespace Go.Proofs.Ythehmkpcddafnaa.M
open Go.RowKit Go.Proofs.Ythehmkpcddafnaa.PG Go.Proofs.YthehmkpcddafnaaW.PrintMore Go.Proofs.YthehmkpcddafnaaW.PrintWords
theorem area_three (a b c : Pt) : area [a, b, c] = cr a b c := by
 have e : area [a, b, c] = 0 + term [a, b, c] 0 + term [a, b, c] 1 + term [a, b, c] 2 := rfl
 rw [e]
 have t0 : term [a, b, c] 0 = a.f0 * b.f1 - a.f1 * b.f0 := rfl
 have t1 : term [a, b, c] 1 = b.f0 * c.f1 - b.f1 * c.f0 := rfl
 have t2 : term [a, b, c] 2 = c.f0 * a.f1 - c.f1 * a.f0 := by unfold term; rw [show (2 + 1) % [a, b, c].length = 0 by simp]; rfl
 rw [t0, t1, t2]; unfold cr; grind
theorem sgn3_f (t : Int) : shape_sign.f t = some (if t < 0 then -1 else if 0 < t then 1 else 0) := by
 unfold shape_sign.f cmp_Compare_int.f cmp_isNaN_int.f
 by_cases h1 : t < 0
 ·simp [h1]
 ·by_cases h2 : 0 < t
  ·simp [h1, h2]
  ·simp [h1, h2]
theorem in2_f (a lo hi : Int) : cracknelref04_in.f a lo hi = some (decide (lo ≤ a ∧ a ≤ hi)) := by
 unfold cracknelref04_in.f
 by_cases h : a ≥ lo
 ·rw [if_pos h]; congr 1; rw [decide_eq_decide]; omega
 ·rw [if_neg h]; congr 1; rw [eq_comm, decide_eq_false_iff_not]; omega
theorem rd60 {l : List S60} {n : Nat} (h : n < l.length) : rd_T60 l (n : Int) = l[n] := by
 unfold rd_T60
 rw [Int.toNat_natCast, List.getD_eq_getElem?_getD, List.getElem?_eq_getElem h]; rfl
theorem any_run {c : List Pt} (hc : ∀ p ∈ c, Bd p) (hcl : c.length ≤ 1000000) : ∀ all : List (List Pt), (∀ q ∈ all, (∀ p ∈ q, Bd p) ∧ q.length ≤ 1000000) → Rt (fun k => shows_any.f k c all) (tv (∃ q ∈ all, ¬ Ap q c)) := by
 intro all
 induction all with
 | nil => intro _; rw [tv_f (by simp)]; exact ⟨0, fun k _ => rfl⟩
 | cons y t ih =>
  intro h
  have hy := h y List.mem_cons_self
  obtain ⟨e, r1, _, ie⟩ := apart_run (a := c) (b := y) hc hy.1 hcl hy.2
  obtain ⟨K1, h1⟩ := r1
  obtain ⟨K2, h2⟩ := ih (fun q hq => h q (List.mem_cons_of_mem _ hq))
  refine ⟨K1 + K2, fun k hk => ?_⟩
  have a1 := h1 k (by omega)
  have a2 := h2 k (by omega)
  dsimp only at a1 a2 ⊢
  unfold shows_any.f
  rw [a1, Option.bind_some, a2, Option.bind_some]
  have ey : e = true ↔ Ap y c := ie.trans (Or.comm)
  congr 1
  cases e with
  | true =>
   have := ey.mp rfl
   rw [Bool.not_true, Bool.false_or]
   exact tv_eq ⟨fun ⟨q, hq, n⟩ => ⟨q, List.mem_cons_of_mem _ hq, n⟩, fun ⟨q, hq, n⟩ => (List.mem_cons.mp hq).elim (fun e => absurd this (e ▸ n)) (fun k => ⟨q, k, n⟩)⟩
  | false =>
   rw [Bool.not_false, Bool.true_or]
   exact (tv_t ⟨y, List.mem_cons_self, fun k => by have := ey.mpr k; simp at this⟩).symm
def turned (a b c : Pt) : List Pt := if cr a b c < 0 then [a, c, b] else [a, b, c]
section
variable {l : List Pt} {y : List S60}
theorem tri_l1 {c : List Pt} {all : List (List Pt)} {s t : Int} {i : Nat} {v : Bool} (hc : ∀ p ∈ c, Bd p) (hcl : c.length ≤ 1000000) (hall : ∀ q ∈ all, (∀ p ∈ q, Bd p) ∧ q.length ≤ 1000000) (hN : all.length ≤ 1000)
  (hv : Rt (fun k => cracknelref04_Triangles.l0 k l y (wrap64 (s + t)) (all ++ [c]) (wrap64 ((i : Int) + 1))) v) :
  ∀ d j, all.length = j + d → Rt (fun k => cracknelref04_Triangles.l1 k l y s all (i : Int) c t (j : Int)) (tv (∀ q ∈ all.drop j, Ap q c) && v) := by
 intro d
 induction d with
 | zero =>
  intro j hj
  rw [List.drop_of_length_le (by omega), tv_t (fun q hq => absurd hq (by simp)), Bool.true_and]
  exact rt_step (fun k => by rw [cracknelref04_Triangles.l1, if_neg (by omega), if_pos (by omega)]) hv
 | succ d ih =>
  intro j hj
  have hlt : j < all.length := by omega
  have hq := hall _ (List.getElem_mem hlt)
  have hd : all.drop j = all[j] :: all.drop (j + 1) := List.drop_eq_getElem_cons hlt
  obtain ⟨e, _, r2, ie⟩ := apart_run (a := all[j]) (b := c) hq.1 hc hq.2 hcl
  refine rt_bind r2 (g := fun t127 k => if t127 = true then cracknelref04_Triangles.l1 k l y s all (i : Int) c t ((j + 1 : Nat) : Int) else some false) ?_ (fun k => by
   rw [cracknelref04_Triangles.l1, if_pos (by omega), if_pos (by omega), rd_l2 hlt, wrap_succ j (by omega)])
  rw [hd]
  cases he : e with
  | true =>
   have ha : Ap all[j] c := ie.mp he
   rw [tv_eq (Q := ∀ q ∈ all.drop (j + 1), Ap q c) ⟨fun h q hq => h q (List.mem_cons_of_mem _ hq), fun h q hq => (List.mem_cons.mp hq).elim (fun e => by rw [e]; exact ha) (h q)⟩]
   simp only [if_true]
   exact ih (j + 1) (by omega)
  | false =>
   have ha : ¬ Ap all[j] c := fun h => by have := ie.mpr h; rw [he] at this; simp at this
   rw [tv_f (fun h => ha (h _ List.mem_cons_self)), Bool.false_and]
   exact ⟨0, fun k _ => rfl⟩
theorem shows_l0 (hb : ∀ p ∈ l, In 10000 p) (h3 : 3 ≤ l.length) (hl : l.length ≤ 1000) (hd : ∀ i, i < l.length → at_ l i ≠ at_ l ((i + 1) % l.length)) (hy : y.length ≤ 1000) :
  ∀ d i (s : Int) (all : List (List Pt)), y.length = i + d → all.length ≤ i → (∀ q ∈ all, (∀ p ∈ q, Bd p) ∧ q.length ≤ 1000000) →
   ∃ b, Rt (fun k => shape_shows.l0 k l y s all y (y.length : Int) (i : Int)) (b && decide ((y.length : Int) = (l.length : Int) - 2)) ∧ Rt (fun k => cracknelref04_Triangles.l0 k l y s all (i : Int)) b := by
 have hlb : ∀ p ∈ l, Bd p := fun p hp => in_bd10 (hb p hp)
 have wl : wrap64 ((l.length : Int) - 2) = (l.length : Int) - 2 := wz _ (by omega) (by omega)
 have wl1 : wrap64 ((l.length : Int) - 1) = (l.length : Int) - 1 := wz _ (by omega) (by omega)
 have ar := area_run hlb (by omega)
 have rr := refArea_run hlb (by omega)
 intro d
 induction d with
 | zero =>
  intro i s all hi _ _
  refine ⟨(s == mx (area l) (wrap64 (-(area l)))), ?_, ?_⟩
  ·refine rt_bind ar (g := fun t _ => if (y.length : Int) = (l.length : Int) - 2 then some (s == mx t (wrap64 (-t))) else some false) ?_ (fun k => by
    rw [shape_shows.l0, if_neg (by omega), wl])
   by_cases c : (y.length : Int) = (l.length : Int) - 2
   ·rw [decide_eq_true c, Bool.and_true]; exact ⟨0, fun k _ => by dsimp only; rw [if_pos c]⟩
   ·rw [decide_eq_false c, Bool.and_false]; exact ⟨0, fun k _ => by dsimp only; rw [if_neg c]⟩
  ·refine rt_bind rr (g := fun t k => (cracknelref04_Area2.f k l).bind fun t129 => some (s == mx t (wrap64 (-t129)))) ?_ (fun k => by
    rw [cracknelref04_Triangles.l0, if_neg (by omega)])
   exact rt_bind0 rr (g := fun t129 _ => some (s == mx (area l) (wrap64 (-t129)))) ⟨0, fun k _ => rfl⟩ (fun k => rfl)
 | succ d ih =>
  intro i s all hi ha hall
  have hlt : i < y.length := by omega
  have ry := rd60 hlt
  generalize y[i] = t at ry
  obtain ⟨f0, f1, f2⟩ := t
  have stp : wrap64 ((i : Int) + 1) = ((i + 1 : Nat) : Int) := wrap_succ i (by omega)
  have code : ∀ {v : Bool}, (∀ b : Bool, (b = false ↔ (0 ≤ f0 ∧ f0 < f1 ∧ f1 < f2 ∧ f2 < (l.length : Int))) → Rt (fun k => shape_shows.j1 k l y s all y (y.length : Int) (i : Int) b f0 f1 f2) v) → Rt (fun k => shape_shows.l0 k l y s all y (y.length : Int) (i : Int)) v := by
   intro v hv
   have st : ∀ k, shape_shows.l0 (k + 1) l y s all y (y.length : Int) (i : Int) = if f0 < 0 then shape_shows.j1 k l y s all y (y.length : Int) (i : Int) true f0 f1 f2 else if f0 ≥ f1 then shape_shows.j1 k l y s all y (y.length : Int) (i : Int) true f0 f1 f2 else if f1 ≥ f2 then shape_shows.j1 k l y s all y (y.length : Int) (i : Int) true f0 f1 f2 else shape_shows.j1 k l y s all y (y.length : Int) (i : Int) (decide (f2 ≥ (l.length : Int))) f0 f1 f2 := by
    intro k
    rw [shape_shows.l0, if_pos (by omega), if_pos (by omega), if_pos (by omega), ry]
   by_cases c1 : f0 < 0
   ·exact rt_step (fun k => by rw [st, if_pos c1]) (hv true ⟨fun h => by simp at h, fun h => by omega⟩)
   ·by_cases c2 : f0 ≥ f1
    ·exact rt_step (fun k => by rw [st, if_neg c1, if_pos c2]) (hv true ⟨fun h => by simp at h, fun h => by omega⟩)
    ·by_cases c3 : f1 ≥ f2
     ·exact rt_step (fun k => by rw [st, if_neg c1, if_neg c2, if_pos c3]) (hv true ⟨fun h => by simp at h, fun h => by omega⟩)
     ·exact rt_step (fun k => by rw [st, if_neg c1, if_neg c2, if_neg c3]) (hv (decide (f2 ≥ (l.length : Int))) (by rw [decide_eq_false_iff_not]; omega))
  have refc : ∀ {v : Bool}, (∀ b : Bool, (b = false ↔ (0 ≤ f0 ∧ f0 < f1 ∧ f1 < f2 ∧ f2 < (l.length : Int))) → Rt (fun k => cracknelref04_Triangles.j1 k l y s all (i : Int) b f0 f1 f2) v) → Rt (fun k => cracknelref04_Triangles.l0 k l y s all (i : Int)) v := by
   intro v hv
   have st : ∀ k, cracknelref04_Triangles.l0 (k + 1) l y s all (i : Int) = if decide (0 ≤ f0 ∧ f0 ≤ (l.length : Int) - 1) = true then (if decide (wrap64 (f0 + 1) ≤ f1 ∧ f1 ≤ (l.length : Int) - 1) = true then cracknelref04_Triangles.j1 k l y s all (i : Int) (!decide (wrap64 (f1 + 1) ≤ f2 ∧ f2 ≤ (l.length : Int) - 1)) f0 f1 f2 else cracknelref04_Triangles.j1 k l y s all (i : Int) true f0 f1 f2) else cracknelref04_Triangles.j1 k l y s all (i : Int) true f0 f1 f2 := by
    intro k
    rw [cracknelref04_Triangles.l0, if_pos (by omega), if_pos (by omega), ry]
    dsimp only
    rw [wl1, in2_f, in2_f, in2_f, Option.bind_some, Option.bind_some, Option.bind_some]
   by_cases c1 : 0 ≤ f0 ∧ f0 ≤ (l.length : Int) - 1
   ·have w0 : wrap64 (f0 + 1) = f0 + 1 := wz _ (by omega) (by omega)
    by_cases c2 : f0 + 1 ≤ f1 ∧ f1 ≤ (l.length : Int) - 1
    ·have w1 : wrap64 (f1 + 1) = f1 + 1 := wz _ (by omega) (by omega)
     refine rt_step (fun k => by rw [st, decide_eq_true c1, if_pos rfl, w0, decide_eq_true c2, if_pos rfl]) (hv _ ?_)
     rw [w1, Bool.not_eq_false', decide_eq_true_eq]; omega
    ·exact rt_step (fun k => by rw [st, decide_eq_true c1, if_pos rfl, w0, decide_eq_false c2, if_neg (by simp)]) (hv true ⟨fun h => by simp at h, fun h => by omega⟩)
   ·exact rt_step (fun k => by rw [st, decide_eq_false c1, if_neg (by simp)]) (hv true ⟨fun h => by simp at h, fun h => by omega⟩)
  by_cases val : 0 ≤ f0 ∧ f0 < f1 ∧ f1 < f2 ∧ f2 < (l.length : Int)
  ·obtain ⟨n0, e0⟩ : ∃ n : Nat, f0 = (n : Int) := ⟨f0.toNat, by omega⟩
   obtain ⟨n1, e1⟩ : ∃ n : Nat, f1 = (n : Int) := ⟨f1.toNat, by omega⟩
   obtain ⟨n2, e2⟩ : ∃ n : Nat, f2 = (n : Int) := ⟨f2.toNat, by omega⟩
   subst e0 e1 e2
   have m0 := at_mem (h := l) (i := n0) (by omega)
   have m1 := at_mem (h := l) (i := n1) (by omega)
   have m2 := at_mem (h := l) (i := n2) (by omega)
   have key : ∃ b, Rt (fun k => shape_shows.j1 k l y s all y (y.length : Int) (i : Int) false (n0 : Int) (n1 : Int) (n2 : Int)) (b && decide ((y.length : Int) = (l.length : Int) - 2)) ∧ Rt (fun k => cracknelref04_Triangles.j1 k l y s all (i : Int) false (n0 : Int) (n1 : Int) (n2 : Int)) b := by
    clear code refc ry
    generalize hA : at_ l n0 = A at *
    generalize hB : at_ l n1 = B at *
    generalize hC : at_ l n2 = C at *
    have tb : ∀ (P Q R : Pt), P ∈ l → Q ∈ l → R ∈ l → ∀ p ∈ [P, Q, R], Bd p := by
     intro P Q R a1 a2 a3 p hp
     simp only [List.mem_cons, List.mem_nil_iff, or_false] at hp
     rcases hp with rfl | rfl | rfl
     ·exact hlb _ a1
     ·exact hlb _ a2
     ·exact hlb _ a3
    have area3 := area_run (l := [A, B, C]) (tb A B C m0 m1 m2) (by simp)
    rw [area_three] at area3
    have cross3 := Cross_f (hlb _ m0) (hlb _ m1) (hlb _ m2)
    have turn : ∀ P Q R : Pt, P ∈ l → Q ∈ l → R ∈ l → 0 < cr P Q R → ∃ b, Rt (fun k => shape_shows.j2 k l y s all [P, Q, R] y (y.length : Int) (i : Int)) (b && decide ((y.length : Int) = (l.length : Int) - 2)) ∧ Rt (fun k => (cracknelref04_Within.f k l [P, Q, R]).bind fun t122 => if t122 = true then cracknelref04_Triangles.l1 k l y s all (i : Int) [P, Q, R] (cr P Q R) 0 else some false) b := by
     intro P Q R a1 a2 a3 hD
     obtain ⟨e, w1, w2⟩ := inside_run hb hl hd a1 a2 a3 hD
     have tt := tb P Q R a1 a2 a3
     have ar3 := area_run (l := [P, Q, R]) tt (by simp)
     rw [area_three] at ar3
     obtain ⟨b, i1, i2⟩ := ih (i + 1) (wrap64 (s + cr P Q R)) (all ++ [[P, Q, R]]) (by omega) (by simp; omega) (fun q hq => by
      rcases List.mem_append.mp hq with h | h
      ·exact hall q h
      ·rw [List.mem_singleton.mp h]; exact ⟨tt, by simp⟩)
     have an := any_run tt (by simp) all hall
     have L1 := tri_l1 (l := l) (y := y) (s := s) (t := cr P Q R) (i := i) tt (by simp) hall (by omega) (by rw [stp]; exact i2) all.length 0 (by omega)
     rw [List.drop_zero] at L1
     refine ⟨e && (tv (∀ q ∈ all, Ap q [P, Q, R]) && b), ?_, ?_⟩
     ·refine rt_bind w1 (g := fun t116 k => if t116 = true then ((shows_any.f k [P, Q, R] all).bind fun t117 => if t117 = true then some false else (if all.length < 5864062014805 then ((shape_area2.f k [P, Q, R]).bind fun t121 => shape_shows.l0 k l y (wrap64 (s + t121)) (all ++ [[P, Q, R]]) y (y.length : Int) (wrap64 ((i : Int) + 1))) else none)) else some false) ?_ (fun k => by rw [shape_shows.j2])
      cases e with
      | false => exact ⟨0, fun k _ => rfl⟩
      | true =>
       simp only [if_true, Bool.true_and]
       refine rt_bind0 an (g := fun t117 k => if t117 = true then some false else (if all.length < 5864062014805 then ((shape_area2.f k [P, Q, R]).bind fun t121 => shape_shows.l0 k l y (wrap64 (s + t121)) (all ++ [[P, Q, R]]) y (y.length : Int) (wrap64 ((i : Int) + 1))) else none)) ?_ (fun k => rfl)
       by_cases h : ∃ q ∈ all, ¬ Ap q [P, Q, R]
       ·have h2 : ¬ ∀ q ∈ all, Ap q [P, Q, R] := fun k => by obtain ⟨q, hq, n⟩ := h; exact n (k q hq)
        rw [tv_t h, tv_f h2]
        exact ⟨0, fun k _ => rfl⟩
       ·have h2 : ∀ q ∈ all, Ap q [P, Q, R] := fun q hq => Classical.byContradiction fun n => h ⟨q, hq, n⟩
        rw [tv_f h, tv_t h2, Bool.true_and]
        simp only [if_pos (show all.length < 5864062014805 by omega)]
        refine rt_bind0 ar3 (g := fun t121 k => shape_shows.l0 k l y (wrap64 (s + t121)) (all ++ [[P, Q, R]]) y (y.length : Int) (wrap64 ((i : Int) + 1))) ?_ (fun k => rfl)
        rw [stp]; exact i1
     ·refine rt_bind0 w2 (g := fun t122 k => if t122 = true then cracknelref04_Triangles.l1 k l y s all (i : Int) [P, Q, R] (cr P Q R) 0 else some false) ?_ (fun k => rfl)
      cases e with
      | false => exact ⟨0, fun k _ => rfl⟩
      | true => simp only [if_true, Bool.true_and]; exact L1
    have refj : ∀ (c : List Pt) (P Q R : Pt) (v : Bool), c = [P, Q, R] → cracknelref04_ccw.f [A, B, C] = some c → P ∈ l → Q ∈ l → R ∈ l →
      Rt (fun k => if cr P Q R = 0 then cracknelref04_Triangles.l0 k l y s all ((i + 1 : Nat) : Int) else (cracknelref04_Within.f k l c).bind fun t122 => if t122 = true then cracknelref04_Triangles.l1 k l y s all (i : Int) c (cr P Q R) 0 else some false) v →
      Rt (fun k => cracknelref04_Triangles.j1 k l y s all (i : Int) false (n0 : Int) (n1 : Int) (n2 : Int)) v := by
     intro c P Q R v ec hc a1 a2 a3 hv
     subst ec
     have cc := Cross_f (hlb _ a1) (hlb _ a2) (hlb _ a3)
     refine rt_step (fun k => ?_) hv
     rw [cracknelref04_Triangles.j1, if_neg (by simp), if_pos (by omega), if_pos (by omega), if_pos (by omega), if_pos (by omega), if_pos (by omega), if_pos (by omega), rd_at, rd_at, rd_at, hA, hB, hC, hc, Option.bind_some, if_pos (by simp), if_pos (by simp), if_pos (by simp)]
     have r0 : rd_T41 [P, Q, R] 0 = P := rfl
     have r1 : rd_T41 [P, Q, R] 1 = Q := rfl
     have r2 : rd_T41 [P, Q, R] 2 = R := rfl
     rw [r0, r1, r2, cc, Option.bind_some, stp]
    have ccw : cracknelref04_ccw.f [A, B, C] = some (turned A B C) := by
     unfold cracknelref04_ccw.f turned
     have r0 : rd_T41 [A, B, C] 0 = A := rfl
     have r1 : rd_T41 [A, B, C] 1 = B := rfl
     have r2 : rd_T41 [A, B, C] 2 = C := rfl
     rw [if_pos (by simp), if_pos (by simp), if_pos (by simp), r0, r1, r2, cross3, Option.bind_some]
     split <;> rfl
    have codej : ∀ {v : Bool}, Rt (fun k => if cr A B C = 0 then shape_shows.l0 k l y s all y (y.length : Int) ((i + 1 : Nat) : Int) else shape_shows.j2 k l y s all (turned A B C) y (y.length : Int) (i : Int)) v → Rt (fun k => shape_shows.j1 k l y s all y (y.length : Int) (i : Int) false (n0 : Int) (n1 : Int) (n2 : Int)) v := by
     intro v hv
     refine rt_bind area3 (g := fun t110 k => (shape_sign.f t110).bind fun t111 => (if t111 = 0 then (shape_shows.l0 k l y s all y (y.length : Int) (wrap64 ((i : Int) + 1))) else (if t111 = (-1) then (shape_shows.j2 k l y s all [A, C, B] y (y.length : Int) (i : Int)) else (shape_shows.j2 k l y s all [A, B, C] y (y.length : Int) (i : Int))))) ?_ (fun k => by
      rw [shape_shows.j1, if_neg (by simp), if_pos (by omega), if_pos (by omega), if_pos (by omega), if_pos (by omega), if_pos (by omega), if_pos (by omega), rd_at, rd_at, rd_at, hA, hB, hC, Option.bind_some]
      rfl)
     obtain ⟨K, hK⟩ := hv
     refine ⟨K, fun k hk => ?_⟩
     have a := hK k hk
     dsimp only at a ⊢
     rw [sgn3_f, Option.bind_some, stp]
     rcases Int.lt_trichotomy (cr A B C) 0 with c | c | c
     ·rw [if_neg (by omega)] at a
      unfold turned at a
      rw [if_pos c] at a
      rw [if_pos c, if_neg (by omega), if_pos rfl]; exact a
     ·rw [if_pos c] at a
      have sg : (if cr A B C < 0 then (-1 : Int) else if 0 < cr A B C then 1 else 0) = 0 := by rw [if_neg (by omega), if_neg (by omega)]
      rw [sg, if_pos rfl]; exact a
     ·rw [if_neg (by omega)] at a
      unfold turned at a
      rw [if_neg (by omega)] at a
      have sg : (if cr A B C < 0 then (-1 : Int) else if 0 < cr A B C then 1 else 0) = 1 := by rw [if_neg (by omega), if_pos c]
      rw [sg, if_neg (by omega), if_neg (by omega)]; exact a
    rcases Int.lt_trichotomy (cr A B C) 0 with c | c | c
    ·have c1 : cr A C B = - cr A B C := by unfold cr; grind
     have c2 : 0 < cr A C B := by omega
     have et : turned A B C = [A, C, B] := by unfold turned; rw [if_pos c]
     obtain ⟨b, i1, i2⟩ := turn A C B m0 m2 m1 c2
     refine ⟨b, codej ?_, refj (turned A B C) A C B b et ccw m0 m2 m1 ?_⟩
     ·simp only [if_neg (show ¬ cr A B C = 0 by omega), et]; exact i1
     ·simp only [if_neg (show ¬ cr A C B = 0 by omega), et]; exact i2
    ·have et : turned A B C = [A, B, C] := by unfold turned; rw [if_neg (by omega)]
     obtain ⟨b, i1, i2⟩ := ih (i + 1) s all (by omega) (by omega) hall
     refine ⟨b, codej ?_, refj (turned A B C) A B C b et ccw m0 m1 m2 ?_⟩
     ·simp only [if_pos c]; exact i1
     ·simp only [if_pos c]; exact i2
    ·have et : turned A B C = [A, B, C] := by unfold turned; rw [if_neg (by omega)]
     obtain ⟨b, i1, i2⟩ := turn A B C m0 m1 m2 c
     refine ⟨b, codej ?_, refj (turned A B C) A B C b et ccw m0 m1 m2 ?_⟩
     ·simp only [if_neg (show ¬ cr A B C = 0 by omega), et]; exact i1
     ·simp only [if_neg (show ¬ cr A B C = 0 by omega), et]; exact i2
   obtain ⟨b, k1, k2⟩ := key
   refine ⟨b, code (fun b' hb' => ?_), refc (fun b' hb' => ?_)⟩
   ·rw [hb'.mpr val]; exact k1
   ·rw [hb'.mpr val]; exact k2
  ·refine ⟨false, code (fun b hb' => ?_), refc (fun b hb' => ?_)⟩
   ·cases b with
    | false => exact absurd (hb'.mp rfl) val
    | true => exact rt_ret (fun k => by rw [shape_shows.j1, if_pos rfl]; rfl)
   ·cases b with
    | false => exact absurd (hb'.mp rfl) val
    | true => exact rt_ret (fun k => by rw [cracknelref04_Triangles.j1, if_pos rfl])
end
end Go.Proofs.Ythehmkpcddafnaa.M
end
section
namespace Go.Proofs.Ythehmkpcddafnaa.M
open Go.RowKit Go.Proofs.Ythehmkpcddafnaa.PG Go.Proofs.YthehmkpcddafnaaW.PrintMore Go.Proofs.YthehmkpcddafnaaW.PrintWords
theorem shows_run {l : List Pt} {y : List S60} (hp : Poly l) (hs : Simple l) (hy : y.length ≤ 1000) : ∃ b, Rt (fun k => shape_shows.f k l y) b ∧ Rt (fun k => cracknelref04_Triangles.f k l y) b := by
 obtain ⟨h3, h32, hb⟩ := hp
 obtain ⟨b, ⟨K1, i1⟩, ⟨K2, i2⟩⟩ := shows_l0 hb h3 (by omega) hs.1 hy y.length 0 0 [] (by omega) (by simp) (fun q hq => absurd hq (by simp))
 have wl : wrap64 ((l.length : Int) - 2) = (l.length : Int) - 2 := wz _ (by omega) (by omega)
 refine ⟨b && decide ((y.length : Int) = (l.length : Int) - 2), ⟨K1, fun k hk => i1 k hk⟩, ⟨K2, fun k hk => ?_⟩⟩
 have a := i2 k hk
 dsimp only at a ⊢
 unfold cracknelref04_Triangles.f
 rw [wl]
 by_cases c : (y.length : Int) = (l.length : Int) - 2
 ·rw [if_pos c, decide_eq_true c, Bool.and_true]; exact a
 ·rw [if_neg c, decide_eq_false c, Bool.and_false]
theorem lives_rt2 : Rt (fun k => cracknellaw04_lives.f k) true := ⟨60, fun k hk => lives_ok k hk⟩
theorem shows_plain (x : List S41) (t : List S60) : ∃ k, cracknellaw04_ShapeShows.f k x t = some true := by
 obtain ⟨l, hl, hll⟩ := cut_f x 12 (by omega)
 have e12 : ((12 : Nat) : Int) = 12 := rfl
 rw [e12] at hl
 obtain ⟨c, ⟨K1, r1⟩, ⟨K2, r2⟩, ic, _⟩ := bad_simple l (by omega)
 obtain ⟨K3, r3⟩ := lives_rt2
 have hm : mn (t.length : Int) 40 = min (t.length : Int) 40 := mn_eq _ _
 obtain ⟨y, hy⟩ : ∃ y, y = t.take (mn (t.length : Int) 40).toNat := ⟨_, rfl⟩
 have yl : y.length ≤ 40 := by rw [hy, List.length_take, hm]; omega
 have go : ∀ k, cracknellaw04_ShapeShows.f k x t = ((shape_Shows.f k l y).bind fun bt114 => ((cracknellaw04_simple.f k l).bind fun t116 => (if t116 = 0 then ((cracknelref04_Triangles.f k l y).bind fun t118 => (if (bt114.1 == t118) = true then (if bt114.2 = 0 then ((cracknellaw04_lives.f k).bind fun t119 => (some t119)) else (some false)) else (some false))) else (if bt114.1 = true then (some false) else (if bt114.2 = t116 then ((cracknellaw04_lives.f k).bind fun t117 => (some t117)) else (some false)))))) := by
  intro k
  unfold cracknellaw04_ShapeShows.f
  rw [hl, Option.bind_some, Option.bind_some, if_pos (by rw [hm]; omega), if_pos (by rw [hm]; omega), Option.bind_some, ← hy, if_pos (by simp only [List.length_nil]; omega), Option.bind_some, List.nil_append]
 by_cases hc : c = 0
 ·subst hc
  obtain ⟨hp, hs⟩ := ic.mp rfl
  obtain ⟨b, ⟨K4, r4⟩, ⟨K5, r5⟩⟩ := shows_run (y := y) hp hs (by omega)
  refine ⟨K1 + K2 + K3 + K4 + K5, ?_⟩
  rw [go]
  have a1 := r1 (K1 + K2 + K3 + K4 + K5) (by omega)
  have a2 := r2 (K1 + K2 + K3 + K4 + K5) (by omega)
  have a3 := r3 (K1 + K2 + K3 + K4 + K5) (by omega)
  have a4 := r4 (K1 + K2 + K3 + K4 + K5) (by omega)
  have a5 := r5 (K1 + K2 + K3 + K4 + K5) (by omega)
  dsimp only at a1 a2 a3 a4 a5
  unfold shape_Shows.f
  rw [a1, Option.bind_some, if_pos rfl, a4, Option.bind_some, Option.bind_some, a2, Option.bind_some, if_pos rfl, a5, Option.bind_some, if_pos (beq_self_eq_true b), if_pos rfl, a3]; rfl
 ·refine ⟨K1 + K2 + K3, ?_⟩
  rw [go]
  have a1 := r1 (K1 + K2 + K3) (by omega)
  have a2 := r2 (K1 + K2 + K3) (by omega)
  have a3 := r3 (K1 + K2 + K3) (by omega)
  dsimp only at a1 a2 a3
  unfold shape_Shows.f
  rw [a1, Option.bind_some, if_neg hc, Option.bind_some, a2, Option.bind_some, if_neg hc, if_neg (by simp), if_pos rfl, a3]; rfl
end Go.Proofs.Ythehmkpcddafnaa.M
end
