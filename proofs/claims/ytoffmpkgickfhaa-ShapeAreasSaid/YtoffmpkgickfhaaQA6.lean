/- Parts of the proof of YtoffmpkgickfhaaLawShapeAreas: printed walks, their words, and plain laws. -/
import Derived.Test.YtoffmpkgickfhaaQA5
import Derived.Test.YtoffmpkgickfhaaQA3
import Derived.Test.YtoffmpkgickfhaaQA1
section
namespace Go.Proofs.Ytoffmpkgickfhaa.M
open Go.RowKit Go.Proofs.Ytoffmpkgickfhaa.PG Go.Proofs.YtoffmpkgickfhaaW.PrintMore Go.Proofs.YtoffmpkgickfhaaW.PrintWords
theorem or_f (a b : Int) (k : Nat) (hk : 3 ≤ k) : cmp_Or_int.f k [a, b] = some (if a = 0 then b else a) := by
 obtain ⟨k, rfl⟩ : ∃ m, k = m + 3 := ⟨k - 3, by omega⟩
 unfold cmp_Or_int.f
 rw [cmp_Or_int.l0]
 simp only [List.length_cons, List.length_nil]
 rw [if_pos (by omega), if_pos (by omega), if_pos (by omega)]
 by_cases h : a = 0
 ·rw [if_pos (show rd [a, b] 0 = 0 from h), cmp_Or_int.l0]
  rw [show wrap64 (0 + 1) = 1 from by unfold wrap64; omega]
  simp only [List.length_cons, List.length_nil]
  rw [if_pos (by omega), if_pos (by omega), if_pos (by omega), if_pos h]
  by_cases h2 : b = 0
  ·rw [if_pos (show rd [a, b] 1 = 0 from h2), cmp_Or_int.l0]
   rw [show wrap64 (1 + 1) = 2 from by unfold wrap64; omega]
   simp only [List.length_cons, List.length_nil]
   rw [if_neg (by omega), h2]
  ·rw [if_neg (show ¬ rd [a, b] 1 = 0 from h2)]; rfl
 ·rw [if_neg (show ¬ rd [a, b] 0 = 0 from h), if_neg h]; rfl
theorem lower_f (a b : Pt) (k : Nat) (hk : 3 ≤ k) : ∃ c, shape_lower.f k a.f0 a.f1 b.f0 b.f1 = some c ∧ (c < 0 ↔ first a b) := by
 refine ⟨_, by unfold shape_lower.f; rw [compare_f, Option.bind_some, compare_f, Option.bind_some, or_f _ _ _ hk, Option.bind_some], ?_⟩
 unfold sg first
 split <;> (try split) <;> (try split) <;> (try split) <;> (try split) <;> omega
/-- the least of the first n points, from m on -/
theorem min_l0 {l : List Pt} (hN : l.length ≤ 1000000) : ∀ d i (m : Pt), l.length = i + d → ∃ r : Pt, Rt (fun k => slices_MinFunc_lower.l0 k l (i : Int) m.f0 m.f1) (r.f0, r.f1) ∧ (r = m ∨ ∃ j, i ≤ j ∧ j < l.length ∧ r = at_ l j) ∧ ¬ first m r ∧ ∀ j, i ≤ j → j < l.length → ¬ first (at_ l j) r := by
 intro d
 induction d with
 | zero =>
  intro i m hi
  refine ⟨m, ⟨0 + 1, fun k hk => ?_⟩, Or.inl rfl, first_irrefl m, fun j h1 h2 => by omega⟩
  obtain ⟨k, rfl⟩ := fuel1 hk
  dsimp only; rw [slices_MinFunc_lower.l0, if_neg (by omega)]
 | succ d ih =>
  intro i m hi
  have hlt : i < l.length := by omega
  by_cases h : first (at_ l i) m
  ·obtain ⟨r, ⟨K, hK⟩, h1, h2, h3⟩ := ih (i + 1) (at_ l i) (by omega)
   refine ⟨r, ⟨K + 4, fun k hk => ?_⟩, ?_, ?_, ?_⟩
   ·obtain ⟨k, rfl⟩ : ∃ m, k = m + 1 := ⟨k - 1, by omega⟩
    obtain ⟨c, hc, hc'⟩ := lower_f (at_ l i) m k (by omega)
    dsimp only; rw [slices_MinFunc_lower.l0, if_pos (by omega), if_pos (by omega), rd_at, hc, Option.bind_some, if_pos (hc'.mpr h), wrap_succ i (by omega)]
    exact hK k (by omega)
   ·right
    rcases h1 with h1 | ⟨j, h4, h5, h6⟩
    ·exact ⟨i, Nat.le_refl _, hlt, h1⟩
    ·exact ⟨j, by omega, h5, h6⟩
   ·intro h4
    exact h2 (first_trans h h4)
   ·intro j h4 h5
    rcases Nat.eq_or_lt_of_le h4 with rfl | h6
    ·exact h2
    ·exact h3 j h6 h5
  ·obtain ⟨r, ⟨K, hK⟩, h1, h2, h3⟩ := ih (i + 1) m (by omega)
   refine ⟨r, ⟨K + 4, fun k hk => ?_⟩, ?_, h2, ?_⟩
   ·obtain ⟨k, rfl⟩ : ∃ m, k = m + 1 := ⟨k - 1, by omega⟩
    obtain ⟨c, hc, hc'⟩ := lower_f (at_ l i) m k (by omega)
    dsimp only; rw [slices_MinFunc_lower.l0, if_pos (by omega), if_pos (by omega), rd_at, hc, Option.bind_some, if_neg (fun h4 => h (hc'.mp h4)), wrap_succ i (by omega)]
    exact hK k (by omega)
   ·rcases h1 with h1 | ⟨j, h4, h5, h6⟩
    ·exact Or.inl h1
    ·exact Or.inr ⟨j, by omega, h5, h6⟩
   ·intro j h4 h5
    rcases Nat.eq_or_lt_of_le h4 with rfl | h6
    ·intro h7
     rcases first_tri m r with e | e | e
     ·rw [e] at h; exact h h7
     ·exact h2 e
     ·exact h (first_trans h7 e)
    ·exact h3 j h6 h5
theorem min_run {l : List Pt} (h0 : 0 < l.length) (hN : l.length ≤ 1000000) : ∃ r : Pt, Rt (fun k => slices_MinFunc_lower.f k l) (r.f0, r.f1) ∧ r ∈ l ∧ ∀ p ∈ l, ¬ first p r := by
 obtain ⟨r, ⟨K, hK⟩, h1, h2, h3⟩ := min_l0 hN (l.length - 1) 1 (at_ l 0) (by omega)
 refine ⟨r, ⟨K, fun k hk => ?_⟩, ?_, ?_⟩
 ·unfold slices_MinFunc_lower.f
  dsimp only; rw [if_neg (by omega), if_pos (by omega)]
  exact hK k hk
 ·rcases h1 with rfl | ⟨j, _, h5, rfl⟩
  ·exact at_mem h0
  ·exact at_mem h5
 ·intro p hp
  obtain ⟨j, hj, rfl⟩ := List.mem_iff_getElem.mp hp
  rw [← at_eq hj]
  by_cases h4 : j = 0
  ·subst h4; exact h2
  ·exact h3 j (by omega) hj
theorem tmod_two (i n : Nat) (h : i ≤ 1000000) : Int.tmod (wrap64 ((i : Int) + 2)) (n : Int) = (((i + 1 + 1) % n : Nat) : Int) := by
 rw [wrap_succ2 i h, ← Int.ofNat_tmod]
theorem normal_l0 {l : List Pt} (hb : ∀ p ∈ l, Bd p) (hn : 3 ≤ l.length) (hN : l.length ≤ 1000000) {r : Pt} (hmin : Rt (fun k => slices_MinFunc_lower.f k l) (r.f0, r.f1)) {b' : Bool} (hs : Rt (fun k => shape_simple.f k l) b') :
  ∀ d i, l.length = i + d → ∃ b, Rt (fun k => shape_normal.l0 k l (l.length : Int) (i : Int)) b ∧ (b = true ↔ (∀ i', i ≤ i' → i' < l.length → 0 < cr (at_ l i') (at_ l ((i' + 1) % l.length)) (at_ l ((i' + 1 + 1) % l.length))) ∧ at_ l 0 = r ∧ b' = true) := by
 intro d
 induction d with
 | zero =>
  intro i hi
  obtain ⟨K1, hK1⟩ := hmin
  obtain ⟨K2, hK2⟩ := hs
  refine ⟨decide (at_ l 0 = r) && b', ⟨K1 + K2 + 1, fun k hk => ?_⟩, ?_⟩
  ·obtain ⟨k, rfl⟩ := fuel1 hk
   have e1 := hK1 k (by omega)
   have e2 := hK2 k (by omega)
   dsimp only at e1 e2 ⊢
   rw [shape_normal.l0, if_neg (by omega), if_pos (by omega), e1, Option.bind_some]
   dsimp only
   rw [show rd_T29 l 0 = at_ l 0 from rfl, pt_beq]
   by_cases h : at_ l 0 = r
   ·rw [if_pos (by simpa using h), e2, Option.bind_some]; simp [h]
   ·rw [if_neg (by simpa using h)]; simp [h]
  ·simp only [Bool.and_eq_true, decide_eq_true_eq]
   exact ⟨fun h => ⟨fun i' h1 h2 => by omega, h⟩, fun h => h.2⟩
 | succ d ih =>
  intro i hi
  have hlt : i < l.length := by omega
  obtain ⟨b1, ⟨K, hK⟩, hb1⟩ := ih (i + 1) (by omega)
  have hBi := at_bd hb hlt
  have hBn := at_bd hb (show (i + 1) % l.length < l.length from Nat.mod_lt _ (by omega))
  have hBm := at_bd hb (show (i + 1 + 1) % l.length < l.length from Nat.mod_lt _ (by omega))
  have t1 := tmod_in (i + 1) l.length (by omega)
  have t2 := tmod_in (i + 1 + 1) l.length (by omega)
  rw [from_split hlt]
  by_cases h1 : cr (at_ l i) (at_ l ((i + 1) % l.length)) (at_ l ((i + 1 + 1) % l.length)) ≤ 0
  ·refine ⟨false, ⟨0 + 1, fun k hk => ?_⟩, ⟨fun h => by simp at h, fun h => absurd h.1.1 (by omega)⟩⟩
   obtain ⟨k, rfl⟩ := fuel1 hk
   dsimp only
   rw [shape_normal.l0, if_pos (by omega), if_pos (by omega), if_pos (by omega), if_neg (by omega), tmod_nat i _ (by omega), tmod_two i _ (by omega), if_pos (by omega), if_pos (by omega), if_pos (by omega), if_pos (by omega), rd_at, rd_at, rd_at, side_f hBi hBn hBm, Option.bind_some, if_pos h1]
  ·refine ⟨b1, ⟨K + 1, fun k hk => ?_⟩, ?_⟩
   ·obtain ⟨k, rfl⟩ := fuel1 hk
    dsimp only
    rw [shape_normal.l0, if_pos (by omega), if_pos (by omega), if_pos (by omega), if_neg (by omega), tmod_nat i _ (by omega), tmod_two i _ (by omega), if_pos (by omega), if_pos (by omega), if_pos (by omega), if_pos (by omega), rd_at, rd_at, rd_at, side_f hBi hBn hBm, Option.bind_some, if_neg h1, wrap_succ i (by omega)]
    exact hK k (by omega)
   ·rw [hb1]; exact ⟨fun h => ⟨⟨by omega, h.1⟩, h.2⟩, fun h => ⟨h.1.2, h.2⟩⟩
/-- a simple polygon comes to its first corner but once -/
theorem simple_once {l : List Pt} (hn : 3 ≤ l.length) (h : Simple l) {i : Nat} (hi : i < l.length) (h0 : 0 < i) : at_ l 0 ≠ at_ l i := by
 intro e
 by_cases h1 : i = 1
 ·subst h1
  have := h.1 0 (by omega)
  rw [Nat.mod_eq_of_lt (by omega)] at this; exact this e
 ·by_cases h2 : i + 1 = l.length
  ·have := h.1 i hi
   rw [h2, Nat.mod_self] at this; exact this e.symm
  ·have := (h.2 0 (by omega)).2.2 i (by omega) hi (by rw [Nat.mod_eq_of_lt (by omega)]; omega)
   apply this
   left
   rw [← e]
   exact ⟨cr_self1 _ _, btw_start _ _⟩
theorem normal_run {l : List Pt} (hb : ∀ p ∈ l, Bd p) (hn : 3 ≤ l.length) (hN : l.length ≤ 1000000) : ∃ b, Rt (fun k => shape_normal.f k l) b ∧ (b = true ↔ Convex l) := by
 obtain ⟨r, hR, hr1, hr2⟩ := min_run (show 0 < l.length by omega) hN
 obtain ⟨b1, hS, hb1⟩ := simple_run hb hn hN
 obtain ⟨b, hB, hb2⟩ := normal_l0 hb hn hN hR hS l.length 0 (by omega)
 refine ⟨b, hB, ?_⟩
 rw [hb2, hb1]
 constructor
 ·rintro ⟨h1, h2, h3⟩
  refine ⟨h3, fun i hi => ⟨h1 i (Nat.zero_le _) hi, fun h0 => ?_⟩⟩
  rcases first_tri (at_ l 0) (at_ l i) with e | e | e
  ·exact absurd e (simple_once hn h3 hi h0)
  ·exact e
  ·rw [h2] at e; exact absurd e (hr2 _ (at_mem hi))
 ·rintro ⟨h3, h4⟩
  refine ⟨fun i _ hi => (h4 i hi).1, ?_, h3⟩
  obtain ⟨j, hj, rfl⟩ := List.mem_iff_getElem.mp hr1
  rw [← at_eq hj] at hr2 ⊢
  by_cases h5 : j = 0
  ·rw [h5]
  ·exact absurd ((h4 j hj).2 (by omega)) (hr2 _ (at_mem (by omega)))
theorem refConvex_l0 {l : List Pt} (hb : ∀ p ∈ l, Bd p) (hn : 3 ≤ l.length) (hN : l.length ≤ 1000000) :
  ∀ d i, l.length = i + d → ∃ b, Rt (fun k => cracknelref04_Convex.l0 k l (i : Int)) b ∧ (b = true ↔ (∀ i', i ≤ i' → i' < l.length → 0 < cr (at_ l i') (at_ l ((i' + 1) % l.length)) (at_ l ((i' + 1 + 1) % l.length)) ∧ (0 < i' → first (at_ l 0) (at_ l i')))) := by
 intro d
 induction d with
 | zero =>
  intro i hi
  refine ⟨true, ⟨0 + 1, fun k hk => ?_⟩, ⟨fun _ i' h1 h2 => by omega, fun _ => rfl⟩⟩
  obtain ⟨k, rfl⟩ := fuel1 hk
  dsimp only; rw [cracknelref04_Convex.l0, if_neg (by omega)]
 | succ d ih =>
  intro i hi
  have hlt : i < l.length := by omega
  obtain ⟨b1, ⟨K, hK⟩, hb1⟩ := ih (i + 1) (by omega)
  have hBi := at_bd hb hlt
  have hBn := at_bd hb (show (i + 1) % l.length < l.length from Nat.mod_lt _ (by omega))
  have hBm := at_bd hb (show (i + 1 + 1) % l.length < l.length from Nat.mod_lt _ (by omega))
  rw [from_split hlt]
  by_cases h1 : cr (at_ l i) (at_ l ((i + 1) % l.length)) (at_ l ((i + 1 + 1) % l.length)) ≤ 0
  ·refine ⟨false, ⟨0 + 2, fun k hk => ?_⟩, ⟨fun h => by simp at h, fun h => absurd h.1.1 (by omega)⟩⟩
   obtain ⟨k, rfl⟩ := fuel2 hk
   dsimp only
   rw [cracknelref04_Convex.l0, if_pos (by omega), if_pos (by omega), next_f (by omega) (by omega), Option.bind_some, wrap_succ i (by omega), next_f (by omega) (by omega), Option.bind_some, rd_at, Cross_f hBi hBn hBm, Option.bind_some, if_pos h1, cracknelref04_Convex.j1, if_pos rfl]
  ·by_cases h2 : 0 < i
   ·by_cases h3 : first (at_ l 0) (at_ l i)
    ·refine ⟨b1, ⟨K + 2, fun k hk => ?_⟩, ?_⟩
     ·obtain ⟨k, rfl⟩ := fuel2 hk
      dsimp only
      rw [cracknelref04_Convex.l0, if_pos (by omega), if_pos (by omega), next_f (by omega) (by omega), Option.bind_some, wrap_succ i (by omega), next_f (by omega) (by omega), Option.bind_some, rd_at, Cross_f hBi hBn hBm, Option.bind_some, if_neg h1, if_pos (by omega), if_pos (by omega), show rd_T29 l 0 = at_ l 0 from rfl, first_f, Option.bind_some, cracknelref04_Convex.j1, if_neg (by simpa using h3), wrap_succ i (by omega)]
      exact hK _ (by omega)
     ·rw [hb1]; exact ⟨fun h => ⟨⟨by omega, fun _ => h3⟩, h⟩, fun h => h.2⟩
    ·refine ⟨false, ⟨0 + 2, fun k hk => ?_⟩, ⟨fun h => by simp at h, fun h => absurd (h.1.2 h2) h3⟩⟩
     obtain ⟨k, rfl⟩ := fuel2 hk
     dsimp only
     rw [cracknelref04_Convex.l0, if_pos (by omega), if_pos (by omega), next_f (by omega) (by omega), Option.bind_some, wrap_succ i (by omega), next_f (by omega) (by omega), Option.bind_some, rd_at, Cross_f hBi hBn hBm, Option.bind_some, if_neg h1, if_pos (by omega), if_pos (by omega), show rd_T29 l 0 = at_ l 0 from rfl, first_f, Option.bind_some, cracknelref04_Convex.j1, if_pos (by simpa using h3)]
   ·refine ⟨b1, ⟨K + 2, fun k hk => ?_⟩, ?_⟩
    ·obtain ⟨k, rfl⟩ := fuel2 hk
     dsimp only
     rw [cracknelref04_Convex.l0, if_pos (by omega), if_pos (by omega), next_f (by omega) (by omega), Option.bind_some, wrap_succ i (by omega), next_f (by omega) (by omega), Option.bind_some, rd_at, Cross_f hBi hBn hBm, Option.bind_some, if_neg h1, if_neg (by omega), cracknelref04_Convex.j1, if_neg (by simp), wrap_succ i (by omega)]
     exact hK _ (by omega)
    ·rw [hb1]; exact ⟨fun h => ⟨⟨by omega, fun h4 => absurd h4 h2⟩, h⟩, fun h => h.2⟩
theorem refConvex_run {l : List Pt} (hb : ∀ p ∈ l, Bd p) (hn : 3 ≤ l.length) (hN : l.length ≤ 1000000) : ∃ b, Rt (fun k => cracknelref04_Convex.f k l) b ∧ (b = true ↔ Convex l) := by
 obtain ⟨b1, ⟨K1, hS⟩, hb1⟩ := refSimple_run hb hn hN
 obtain ⟨b, ⟨K2, hB⟩, hb2⟩ := refConvex_l0 hb hn hN l.length 0 (by omega)
 refine ⟨b1 && b, ⟨K1 + K2, fun k hk => ?_⟩, ?_⟩
 ·have e1 := hS k (by omega)
  have e2 := hB k (by omega)
  dsimp only at e1 e2 ⊢
  unfold cracknelref04_Convex.f
  rw [e1, Option.bind_some]
  cases b1
  ·rw [if_neg (by simp)]; rfl
  ·rw [if_pos rfl]; exact e2
 ·rw [Bool.and_eq_true, hb1, hb2]
  unfold Convex
  exact ⟨fun h => ⟨h.1, fun i hi => h.2 i (Nat.zero_le _) hi⟩, fun h => ⟨h.1, fun i _ hi => h.2 i hi⟩⟩
end Go.Proofs.Ytoffmpkgickfhaa.M
end
section
namespace Go.Proofs.Ytoffmpkgickfhaa.M
open Go.RowKit Go.Proofs.Ytoffmpkgickfhaa.PG Go.Proofs.YtoffmpkgickfhaaW.PrintMore Go.Proofs.YtoffmpkgickfhaaW.PrintWords
theorem cut_f (l : List Pt) (m : Nat) (hm : m ≤ 32) : ∃ r, cracknellaw04_cut.f l (m : Int) = some r ∧ r.length ≤ 33 := by
 unfold cracknellaw04_cut.f
 by_cases h : (l.length : Int) > 32
 ·rw [if_pos h, mn_eq, Option.bind_some, if_pos (by omega), if_pos (by omega), Option.bind_some, if_pos (by simp only [List.length_nil, List.length_take]; omega)]
  refine ⟨_, rfl, ?_⟩
  simp only [List.nil_append, List.length_take]; omega
 ·rw [if_neg h, mn_eq, Option.bind_some, if_pos (by omega), if_pos (by omega), Option.bind_some, if_pos (by simp only [List.length_nil, List.length_take]; omega)]
  refine ⟨_, rfl, ?_⟩
  simp only [List.nil_append, List.length_take]; omega
/-- coordinates up to a limit -/
def In (m : Int) (p : Pt) : Prop := -m ≤ p.f0 ∧ p.f0 ≤ m ∧ -m ≤ p.f1 ∧ p.f1 ≤ m
instance (m : Int) (p : Pt) : Decidable (In m p) := by unfold In; infer_instance
def Poly (l : List Pt) : Prop := 3 ≤ l.length ∧ l.length ≤ 32 ∧ ∀ p ∈ l, In 10000 p
instance (l : List Pt) : Decidable (Poly l) := by unfold Poly; infer_instance
theorem beyond_f (m : Int) (h0 : 0 ≤ m) (h1 : m ≤ 1000000) (p : Pt) : beyond m p = !decide (In m p) := by
 unfold beyond
 rw [wz _ (by omega) (by omega), Bool.eq_iff_iff]
 simp only [Bool.or_eq_true, decide_eq_true_eq, Bool.not_eq_true']
 rw [decide_eq_false_iff_not]
 unfold In
 omega
theorem within_f (l : List Pt) (m : Int) (h0 : 0 ≤ m) (h1 : m ≤ 1000000) : shape_within.f l m = some (decide (∀ p ∈ l, In m p)) := by
 unfold shape_within.f
 congr 1
 rw [Bool.eq_iff_iff]
 simp only [Bool.not_eq_true', List.any_eq_false, beyond_f m h0 h1, decide_eq_true_eq, Bool.not_eq_true', decide_eq_false_iff_not, Decidable.not_not]
theorem polygon_f (l : List Pt) : shape_polygon.f l = some (decide (Poly l)) := by
 unfold shape_polygon.f
 by_cases h : (l.length : Int) ≥ 3
 ·rw [if_pos h]
  by_cases h2 : (l.length : Int) ≤ 32
  ·rw [if_pos h2, within_f _ _ (by omega) (by omega), Option.bind_some]
   congr 1; rw [decide_eq_decide]
   exact ⟨fun h3 => ⟨by omega, by omega, h3⟩, fun h3 => h3.2.2⟩
  ·rw [if_neg h2]
   congr 1; symm; rw [decide_eq_false_iff_not]
   intro h3; have := h3.2.1; omega
 ·rw [if_neg h]
  congr 1; symm; rw [decide_eq_false_iff_not]
  intro h3; have := h3.1; omega
theorem valid_f (p : Pt) (m : Int) (h0 : 0 ≤ m) (h1 : m ≤ 1000000) : cracknelref04_Valid.f p.f0 p.f1 m = some (decide (In m p)) := by
 unfold cracknelref04_Valid.f
 rw [wz _ (by omega) (by omega), in_f, Option.bind_some, in_f]
 by_cases h : -m ≤ p.f0 ∧ p.f0 ≤ m
 ·rw [if_pos (by simpa using h), Option.bind_some]
  congr 1; rw [decide_eq_decide]; unfold In; omega
 ·rw [if_neg (by simpa using h)]
  congr 1; symm; rw [decide_eq_false_iff_not]; unfold In; omega
theorem refPolygon_l0 (l : List Pt) (hN : l.length ≤ 1000000) : ∀ d i, l.length = i + d → ∃ b, Rt (fun k => cracknelref04_Polygon.l0 k l (i : Int)) b ∧ (b = true ↔ ((∀ i', i ≤ i' → i' < l.length → In 10000 (at_ l i')) ∧ 3 ≤ l.length ∧ l.length ≤ 32)) := by
 intro d
 induction d with
 | zero =>
  intro i hi
  refine ⟨decide (3 ≤ l.length ∧ l.length ≤ 32), ⟨0 + 1, fun k hk => ?_⟩, ?_⟩
  ·obtain ⟨k, rfl⟩ := fuel1 hk
   dsimp only; rw [cracknelref04_Polygon.l0, if_neg (by omega), in_f, Option.bind_some]
   congr 1; rw [decide_eq_decide]; omega
  ·rw [decide_eq_true_eq]
   exact ⟨fun h => ⟨fun i' h1 h2 => by omega, by omega⟩, fun h => by omega⟩
 | succ d ih =>
  intro i hi
  have hlt : i < l.length := by omega
  obtain ⟨b, ⟨K, hK⟩, hb⟩ := ih (i + 1) (by omega)
  rw [from_split hlt]
  by_cases h : In 10000 (at_ l i)
  ·refine ⟨b, ⟨K + 1, fun k hk => ?_⟩, ?_⟩
   ·obtain ⟨k, rfl⟩ := fuel1 hk
    dsimp only; rw [cracknelref04_Polygon.l0, if_pos (by omega), if_pos (by omega), rd_at, valid_f _ _ (by omega) (by omega), Option.bind_some, if_pos (by simpa using h), wrap_succ i (by omega)]
    exact hK k (by omega)
   ·rw [hb]
    exact ⟨fun h1 => ⟨⟨h, h1.1⟩, h1.2⟩, fun h1 => ⟨h1.1.2, h1.2⟩⟩
  ·refine ⟨false, ⟨0 + 1, fun k hk => ?_⟩, ⟨fun h1 => by simp at h1, fun h1 => absurd h1.1.1 h⟩⟩
   obtain ⟨k, rfl⟩ := fuel1 hk
   dsimp only; rw [cracknelref04_Polygon.l0, if_pos (by omega), if_pos (by omega), rd_at, valid_f _ _ (by omega) (by omega), Option.bind_some, if_neg (by simpa using h)]
theorem refPolygon_run (l : List Pt) (hN : l.length ≤ 1000000) : Rt (fun k => cracknelref04_Polygon.f k l) (decide (Poly l)) := by
 obtain ⟨b, ⟨K, hK⟩, hb⟩ := refPolygon_l0 l hN l.length 0 (by omega)
 refine ⟨K, fun k hk => ?_⟩
 have := hK k hk
 unfold cracknelref04_Polygon.f
 dsimp only at this ⊢
 rw [show (0 : Int) = ((0 : Nat) : Int) from rfl, this]
 congr 1; rw [Bool.eq_iff_iff, hb, decide_eq_true_eq]
 unfold Poly
 constructor
 ·rintro ⟨h1, h2, h3⟩
  refine ⟨h2, h3, fun p hp => ?_⟩
  obtain ⟨j, hj, rfl⟩ := List.mem_iff_getElem.mp hp
  rw [← at_eq hj]; exact h1 j (Nat.zero_le _) hj
 ·rintro ⟨h1, h2, h3⟩
  exact ⟨fun i _ hi => h3 _ (at_mem hi), h1, h2⟩
theorem in_bd {p : Pt} (h : In 10000 p) : Bd p := by unfold In at h; unfold Bd; omega
/-- what edge i adds to twice the area -/
def term (l : List Pt) (i : Nat) : Int := (at_ l i).f0 * (at_ l ((i + 1) % l.length)).f1 - (at_ l i).f1 * (at_ l ((i + 1) % l.length)).f0
def areaTo (l : List Pt) : Nat → Int
 | 0 => 0
 | i + 1 => areaTo l i + term l i
/-- twice the signed area -/
def area (l : List Pt) : Int := areaTo l l.length
theorem prod_bd {a b : Pt} (ha : Bd a) (hb : Bd b) : (-4000000000000 ≤ a.f0 * b.f1 ∧ a.f0 * b.f1 ≤ 4000000000000) ∧ (-4000000000000 ≤ a.f1 * b.f0 ∧ a.f1 * b.f0 ≤ 4000000000000) := by
 obtain ⟨a0, a1, a2, a3⟩ := ha; obtain ⟨b0, b1, b2, b3⟩ := hb
 exact ⟨mulb (by omega) (by omega) (by omega) (by omega), mulb (by omega) (by omega) (by omega) (by omega)⟩
theorem areaTo_bd {l : List Pt} (hb : ∀ p ∈ l, Bd p) : ∀ i, i ≤ l.length → -8000000000000 * (i : Int) ≤ areaTo l i ∧ areaTo l i ≤ 8000000000000 * (i : Int) := by
 intro i
 induction i with
 | zero => intro _; unfold areaTo; omega
 | succ i ih =>
  intro hi
  have h := ih (by omega)
  have h2 := prod_bd (at_bd hb (show i < l.length by omega)) (at_bd hb (show (i + 1) % l.length < l.length from Nat.mod_lt _ (by omega)))
  unfold areaTo term; omega
theorem area_l0 {l : List Pt} (hb : ∀ p ∈ l, Bd p) (hN : l.length ≤ 1000000) : ∀ d i, l.length = i + d → Rt (fun k => shape_area2.l0 k l (areaTo l i) (l.length : Int) (i : Int)) (area l) := by
 intro d
 induction d with
 | zero =>
  intro i hi
  refine ⟨0 + 1, fun k hk => ?_⟩
  obtain ⟨k, rfl⟩ := fuel1 hk
  dsimp only; rw [shape_area2.l0, if_neg (by omega)]
  rw [show i = l.length by omega]; rfl
 | succ d ih =>
  intro i hi
  have hlt : i < l.length := by omega
  obtain ⟨K, hK⟩ := ih (i + 1) (by omega)
  refine ⟨K + 1, fun k hk => ?_⟩
  obtain ⟨k, rfl⟩ := fuel1 hk
  have t1 := tmod_in (i + 1) l.length (by omega)
  have h2 := prod_bd (at_bd hb hlt) (at_bd hb (show (i + 1) % l.length < l.length from Nat.mod_lt _ (by omega)))
  have h3 := areaTo_bd hb (i + 1) (by omega)
  have h4 := areaTo_bd hb i (by omega)
  have e : areaTo l (i + 1) = areaTo l i + term l i := rfl
  unfold term at e
  dsimp only
  rw [shape_area2.l0, if_pos (by omega), if_pos (by omega), if_pos (by omega), if_neg (by omega), tmod_nat i _ (by omega), if_pos (by omega), if_pos (by omega), rd_at, rd_at]
  unfold shape_cross.f
  rw [Option.bind_some, wz ((at_ l i).f0 * _) (by omega) (by omega), wz ((at_ l i).f1 * _) (by omega) (by omega), wz (_ - _) (by omega) (by omega), wz (areaTo l i + _) (by omega) (by omega), ← e, wrap_succ i (by omega)]
  exact hK k (by omega)
theorem area_run {l : List Pt} (hb : ∀ p ∈ l, Bd p) (hN : l.length ≤ 1000000) : Rt (fun k => shape_area2.f k l) (area l) := by
 obtain ⟨K, hK⟩ := area_l0 hb hN l.length 0 (by omega)
 exact ⟨K, fun k hk => hK k hk⟩
theorem refArea_l0 {l : List Pt} (hb : ∀ p ∈ l, Bd p) (hN : l.length ≤ 1000000) : ∀ d i, l.length = i + d → Rt (fun k => cracknelref04_Area2.l0 k l (areaTo l i) (i : Int)) (area l) := by
 intro d
 induction d with
 | zero =>
  intro i hi
  refine ⟨0 + 1, fun k hk => ?_⟩
  obtain ⟨k, rfl⟩ := fuel1 hk
  dsimp only; rw [cracknelref04_Area2.l0, if_neg (by omega)]
  rw [show i = l.length by omega]; rfl
 | succ d ih =>
  intro i hi
  have hlt : i < l.length := by omega
  obtain ⟨K, hK⟩ := ih (i + 1) (by omega)
  refine ⟨K + 1, fun k hk => ?_⟩
  obtain ⟨k, rfl⟩ := fuel1 hk
  have h2 := prod_bd (at_bd hb hlt) (at_bd hb (show (i + 1) % l.length < l.length from Nat.mod_lt _ (by omega)))
  have h3 := areaTo_bd hb (i + 1) (by omega)
  have h4 := areaTo_bd hb i (by omega)
  have e : areaTo l (i + 1) = areaTo l i + term l i := rfl
  unfold term at e
  dsimp only
  rw [cracknelref04_Area2.l0, if_pos (by omega), if_pos (by omega), next_f (by omega) (by omega), Option.bind_some, rd_at]
  dsimp only
  rw [Int.mul_comm (at_ l ((i + 1) % l.length)).f0, wz ((at_ l i).f0 * _) (by omega) (by omega), wz ((at_ l i).f1 * _) (by omega) (by omega), wz (_ - _) (by omega) (by omega), wz (areaTo l i + _) (by omega) (by omega), ← e, wrap_succ i (by omega)]
  exact hK k (by omega)
theorem refArea_run {l : List Pt} (hb : ∀ p ∈ l, Bd p) (hN : l.length ≤ 1000000) : Rt (fun k => cracknelref04_Area2.f k l) (area l) := by
 obtain ⟨K, hK⟩ := refArea_l0 hb hN l.length 0 (by omega)
 exact ⟨K, fun k hk => hK k hk⟩
end Go.Proofs.Ytoffmpkgickfhaa.M
end
section
namespace Go.Proofs.Ytoffmpkgickfhaa.M
open Go.RowKit Go.Proofs.Ytoffmpkgickfhaa.PG Go.Proofs.YtoffmpkgickfhaaW.PrintMore Go.Proofs.YtoffmpkgickfhaaW.PrintWords
theorem sort5 : slices_SortFunc_xy.f [(⟨0, 0⟩ : S29), (⟨1, 0⟩ : S29), (⟨2, 0⟩ : S29), (⟨0, 2⟩ : S29), (⟨1, 1⟩ : S29)] = some [(⟨0, 0⟩ : S29), (⟨0, 2⟩ : S29), (⟨1, 0⟩ : S29), (⟨1, 1⟩ : S29), (⟨2, 0⟩ : S29)] := by
 simp [slices_SortFunc_xy.f, List.mergeSort, List.MergeSort.Internal.splitInTwo, xyLt]
theorem hull_ok (k : Nat) (hk : shape_Hull.f k [(⟨0, 0⟩ : S29), (⟨1, 0⟩ : S29), (⟨2, 0⟩ : S29), (⟨0, 2⟩ : S29), (⟨1, 1⟩ : S29)] = shape_Hull.j0 k [(⟨0, 0⟩ : S29), (⟨1, 0⟩ : S29), (⟨2, 0⟩ : S29), (⟨0, 2⟩ : S29), (⟨1, 1⟩ : S29)] false) (h60 : k = 60) : shape_Hull.f k [(⟨0, 0⟩ : S29), (⟨1, 0⟩ : S29), (⟨2, 0⟩ : S29), (⟨0, 2⟩ : S29), (⟨1, 1⟩ : S29)] = some ([(⟨0, 0⟩ : S29), (⟨2, 0⟩ : S29), (⟨0, 2⟩ : S29)], 0) := by
 rw [hk]; subst h60
 rw [shape_Hull.j0, if_neg (by simp), show slices_Clone.f [(⟨0, 0⟩ : S29), (⟨1, 0⟩ : S29), (⟨2, 0⟩ : S29), (⟨0, 2⟩ : S29), (⟨1, 1⟩ : S29)] = some [(⟨0, 0⟩ : S29), (⟨1, 0⟩ : S29), (⟨2, 0⟩ : S29), (⟨0, 2⟩ : S29), (⟨1, 1⟩ : S29)] by decide +kernel, Option.bind_some, sort5, Option.bind_some]
 decide +kernel
theorem area_ok : shape_Area2.f 60 [(⟨0, 0⟩ : S29), (⟨2, 0⟩ : S29), (⟨2, 2⟩ : S29), (⟨0, 2⟩ : S29)] = some (8, 0) := by decide +kernel
theorem simple_ok : shape_simple.f 60 [(⟨0, 0⟩ : S29), (⟨2, 0⟩ : S29), (⟨2, 2⟩ : S29), (⟨0, 2⟩ : S29)] = some true := by decide +kernel
theorem lattice_ok : shape_Lattice.f 60 [(⟨0, 0⟩ : S29), (⟨2, 0⟩ : S29), (⟨2, 2⟩ : S29), (⟨0, 2⟩ : S29)] = some (1, 8, 0) := by
 unfold shape_Lattice.f shape_refused_simple.f
 rw [simple_ok, show shape_polygon.f [(⟨0, 0⟩ : S29), (⟨2, 0⟩ : S29), (⟨2, 2⟩ : S29), (⟨0, 2⟩ : S29)] = some true by decide +kernel]
 decide +kernel
theorem same_ok : cracknelref04_Same.f 60 [(⟨0, 0⟩ : S29), (⟨2, 0⟩ : S29), (⟨0, 2⟩ : S29)] [(⟨0, 0⟩ : S29), (⟨2, 0⟩ : S29), (⟨0, 2⟩ : S29)] = some true := by decide +kernel
theorem hull_pre (k : Nat) : shape_Hull.f k [(⟨0, 0⟩ : S29), (⟨1, 0⟩ : S29), (⟨2, 0⟩ : S29), (⟨0, 2⟩ : S29), (⟨1, 1⟩ : S29)] = shape_Hull.j0 k [(⟨0, 0⟩ : S29), (⟨1, 0⟩ : S29), (⟨2, 0⟩ : S29), (⟨0, 2⟩ : S29), (⟨1, 1⟩ : S29)] false := by
 unfold shape_Hull.f
 rw [show shape_within.f [(⟨0, 0⟩ : S29), (⟨1, 0⟩ : S29), (⟨2, 0⟩ : S29), (⟨0, 2⟩ : S29), (⟨1, 1⟩ : S29)] 10000 = some true by decide +kernel, Option.bind_some]
 simp only [List.length_cons, List.length_nil]
 rw [if_neg (by omega), if_neg (by omega)]
 rfl
theorem hull_60 : ∀ k, k = 60 → shape_Hull.f k [(⟨0, 0⟩ : S29), (⟨1, 0⟩ : S29), (⟨2, 0⟩ : S29), (⟨0, 2⟩ : S29), (⟨1, 1⟩ : S29)] = some ([(⟨0, 0⟩ : S29), (⟨2, 0⟩ : S29), (⟨0, 2⟩ : S29)], 0) := fun k h => hull_ok k (hull_pre k) h
theorem lives_at (k : Nat) (h : k = 60) : cracknellaw04_lives.f k = some true := by
 unfold cracknellaw04_lives.f
 rw [hull_60 k h, Option.bind_some, show shape_Area2.f k [(⟨0, 0⟩ : S29), (⟨2, 0⟩ : S29), (⟨2, 2⟩ : S29), (⟨0, 2⟩ : S29)] = some (8, 0) by rw [h]; exact area_ok, show shape_Lattice.f k [(⟨0, 0⟩ : S29), (⟨2, 0⟩ : S29), (⟨2, 2⟩ : S29), (⟨0, 2⟩ : S29)] = some (1, 8, 0) by rw [h]; exact lattice_ok]
 simp only [Option.bind_some, if_true, show cracknelref04_Same.f k [(⟨0, 0⟩ : S29), (⟨2, 0⟩ : S29), (⟨0, 2⟩ : S29)] [(⟨0, 0⟩ : S29), (⟨2, 0⟩ : S29), (⟨0, 2⟩ : S29)] = some true by rw [h]; exact same_ok]
theorem lives_60 : cracknellaw04_lives.f 60 = some true := lives_at 60 rfl
theorem lives_ok (k : Nat) (hk : 60 ≤ k) : cracknellaw04_lives.f k = some true := by
 obtain ⟨d, rfl⟩ : ∃ d, k = 60 + d := ⟨k - 60, by omega⟩
 clear hk
 induction d with
 | zero => exact lives_60
 | succ d ih => exact cracknellaw04_lives.mono _ _ ih
end Go.Proofs.Ytoffmpkgickfhaa.M
end
section
namespace Go.Proofs.Ytoffmpkgickfhaa.M
open Go.RowKit Go.Proofs.Ytoffmpkgickfhaa.PG Go.Proofs.YtoffmpkgickfhaaW.PrintMore Go.Proofs.YtoffmpkgickfhaaW.PrintWords
theorem areas_plain (l : List S29) : ∃ k, cracknellaw04_ShapeAreas.f k l = some true := by
 obtain ⟨r, hr, hl⟩ := cut_f l 20 (by omega)
 have hl' : r.length ≤ 1000000 := by omega
 obtain ⟨K1, h1⟩ := refPolygon_run r hl'
 by_cases hp : Poly r
 ·have hb : ∀ p ∈ r, Bd p := fun p h => in_bd (hp.2.2 p h)
  obtain ⟨K2, h2⟩ := area_run hb hl'
  obtain ⟨K3, h3⟩ := refArea_run hb hl'
  obtain ⟨b4, ⟨K4, h4⟩, i4⟩ := simple_run hb hp.1 hl'
  obtain ⟨b5, ⟨K5, h5⟩, i5⟩ := refSimple_run hb hp.1 hl'
  obtain ⟨b6, ⟨K6, h6⟩, i6⟩ := normal_run hb hp.1 hl'
  obtain ⟨b7, ⟨K7, h7⟩, i7⟩ := refConvex_run hb hp.1 hl'
  have e1 : b4 = b5 := by rw [Bool.eq_iff_iff, i4, i5]
  have e2 : b6 = b7 := by rw [Bool.eq_iff_iff, i6, i7]
  subst e1 e2
  refine ⟨K1 + K2 + K3 + K4 + K5 + K6 + K7 + 60, ?_⟩
  generalize hk : K1 + K2 + K3 + K4 + K5 + K6 + K7 + 60 = k
  have a1 := h1 k (by omega)
  have a2 := h2 k (by omega)
  have a3 := h3 k (by omega)
  have a4 := h4 k (by omega)
  have a5 := h5 k (by omega)
  have a6 := h6 k (by omega)
  have a7 := h7 k (by omega)
  have a8 := lives_ok k (by omega)
  unfold cracknellaw04_ShapeAreas.f shape_Area2.f shape_Simple.f shape_Convex.f
  dsimp only at a1 a2 a3 a4 a5 a6 a7
  rw [show (20 : Int) = ((20 : Nat) : Int) from rfl, hr]
  simp only [Option.bind_some, polygon_f, hp, decide_true, if_true, a1, a2, a3, a4, a5, a6, a7, a8, beq_self_eq_true]
 ·refine ⟨K1 + 60, ?_⟩
  generalize hk : K1 + 60 = k
  have a1 := h1 k (by omega)
  have a8 := lives_ok k (by omega)
  unfold cracknellaw04_ShapeAreas.f shape_Area2.f shape_Simple.f shape_Convex.f
  dsimp only at a1
  rw [show (20 : Int) = ((20 : Nat) : Int) from rfl, hr]
  simp only [Option.bind_some, polygon_f, hp, decide_false, if_true, a1, a8, Bool.false_eq_true, if_false]
end Go.Proofs.Ytoffmpkgickfhaa.M
end
