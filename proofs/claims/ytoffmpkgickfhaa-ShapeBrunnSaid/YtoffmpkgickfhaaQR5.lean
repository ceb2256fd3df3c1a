/- Parts of the proof of YtoffmpkgickfhaaLawShapeBrunn: printed walks, their words, and plain laws. -/
import Derived.Test.YtoffmpkgickfhaaQR4
import Derived.Test.YtoffmpkgickfhaaQR3
import Derived.Test.YtoffmpkgickfhaaQR1
import Derived.Test.YtoffmpkgickfhaaQR2
import Derived.KernelRfl
section
namespace Go.Proofs.Ytoffmpkgickfhaa.M
open Go.RowKit Go.Proofs.Ytoffmpkgickfhaa.PG Go.Proofs.YtoffmpkgickfhaaW.PrintMore Go.Proofs.YtoffmpkgickfhaaW.PrintWords
theorem on_line {a b c : Pt} (h : cr a b c = 0) : btw a c b ∨ btw a b c ∨ btw b c a := by
 have h2 : cr a c b = 0 := by rw [cr_swap]; omega
 have h3 : cr b c a = 0 := by rw [cr_rot]; exact h
 rw [← dot_on h, ← dot_on h2, ← dot_on h3]
 rcases Int.lt_or_le 0 ((a.f0 - b.f0) * (c.f0 - b.f0) + (a.f1 - b.f1) * (c.f1 - b.f1)) with q1 | q1
 ·rcases Int.lt_or_le 0 ((a.f0 - c.f0) * (b.f0 - c.f0) + (a.f1 - c.f1) * (b.f1 - c.f1)) with q2 | q2
  ·rcases Int.lt_or_le 0 ((b.f0 - a.f0) * (c.f0 - a.f0) + (b.f1 - a.f1) * (c.f1 - a.f1)) with q3 | q3
   ·exfalso
    rw [cr_eq] at h
    have e2 : (a.f0 - c.f0) * (b.f0 - c.f0) + (a.f1 - c.f1) * (b.f1 - c.f1) = ((c.f0 - b.f0) * (c.f0 - b.f0) + (c.f1 - b.f1) * (c.f1 - b.f1)) - ((a.f0 - b.f0) * (c.f0 - b.f0) + (a.f1 - b.f1) * (c.f1 - b.f1)) := by grind
    have e3 : (b.f0 - a.f0) * (c.f0 - a.f0) + (b.f1 - a.f1) * (c.f1 - a.f1) = ((a.f0 - b.f0) * (a.f0 - b.f0) + (a.f1 - b.f1) * (a.f1 - b.f1)) - ((a.f0 - b.f0) * (c.f0 - b.f0) + (a.f1 - b.f1) * (c.f1 - b.f1)) := by grind
    have e4 : ((a.f0 - b.f0) * (c.f0 - b.f0) + (a.f1 - b.f1) * (c.f1 - b.f1)) * ((a.f0 - b.f0) * (c.f0 - b.f0) + (a.f1 - b.f1) * (c.f1 - b.f1)) = ((a.f0 - b.f0) * (a.f0 - b.f0) + (a.f1 - b.f1) * (a.f1 - b.f1)) * ((c.f0 - b.f0) * (c.f0 - b.f0) + (c.f1 - b.f1) * (c.f1 - b.f1)) := by grind
    rw [e2] at q2; rw [e3] at q3
    generalize (a.f0 - b.f0) * (c.f0 - b.f0) + (a.f1 - b.f1) * (c.f1 - b.f1) = P at *
    generalize (a.f0 - b.f0) * (a.f0 - b.f0) + (a.f1 - b.f1) * (a.f1 - b.f1) = Q at *
    generalize (c.f0 - b.f0) * (c.f0 - b.f0) + (c.f1 - b.f1) * (c.f1 - b.f1) = R at *
    have : P * P < Q * R := Int.lt_of_lt_of_le (Int.mul_lt_mul_of_pos_left (show P < R by omega) q1) (Int.mul_le_mul_of_nonneg_right (by omega) (by omega))
    omega
   ·right; right; have : (b.f0 - a.f0) * (c.f0 - a.f0) + (b.f1 - a.f1) * (c.f1 - a.f1) ≤ 0 := q3; exact this
  ·right; left; exact q2
 ·left; exact q1
theorem spike {a b c : Pt} (hab : a ≠ b) (hbc : b ≠ c) : (cr b a c = 0 ∧ 0 < (a.f0 - b.f0) * (c.f0 - b.f0) + (a.f1 - b.f1) * (c.f1 - b.f1)) ↔ (On a b c ∨ On b c a) := by
 have e1 : cr b a c = - cr a b c := by rw [cr_eq, cr_eq]; grind
 have e2 : cr a c b = - cr a b c := cr_swap a b c
 have e3 : cr b c a = cr a b c := cr_rot a b c
 by_cases h : cr a b c = 0
 ·have d := dot_on (show cr a c b = 0 by omega)
  have t := on_line h
  have x1 : btw a c b → btw a b c → False := fun p q => hbc (btw_eq q p)
  have x2 : btw a c b → btw b c a → False := fun p q => hab (btw_eq' p q)
  unfold On
  rw [e1, e3, h]
  constructor
  ·rintro ⟨_, h1⟩
   have : ¬ btw a c b := by rw [← d]; omega
   rcases t with t | t | t
   ·exact absurd t this
   ·exact Or.inl ⟨rfl, t⟩
   ·exact Or.inr ⟨rfl, t⟩
  ·intro h1
   refine ⟨by omega, ?_⟩
   have : ¬ btw a c b := by
    intro hb
    rcases h1 with ⟨_, h1⟩ | ⟨_, h1⟩
    ·exact x1 hb h1
    ·exact x2 hb h1
   rw [← d] at this; omega
 ·unfold On; rw [e1, e3]
  constructor
  ·rintro ⟨h1, _⟩; omega
  ·rintro (⟨h1, _⟩ | ⟨h1, _⟩) <;> omega
theorem Meet_comm (a b c d : Pt) : Meet a b c d ↔ Meet c d a b := by
 unfold Meet
 constructor
 ·rintro (h | h | h | h | h)
  ·exact Or.inr (Or.inr (Or.inl h))
  ·exact Or.inr (Or.inr (Or.inr (Or.inl h)))
  ·exact Or.inl h
  ·exact Or.inr (Or.inl h)
  ·exact Or.inr (Or.inr (Or.inr (Or.inr h.symm)))
 ·rintro (h | h | h | h | h)
  ·exact Or.inr (Or.inr (Or.inl h))
  ·exact Or.inr (Or.inr (Or.inr (Or.inl h)))
  ·exact Or.inl h
  ·exact Or.inr (Or.inl h)
  ·exact Or.inr (Or.inr (Or.inr (Or.inr h.symm)))
def CSimple (l : List Pt) : Prop := ∀ i, i < l.length →
 at_ l i ≠ at_ l ((i + 1) % l.length) ∧
 ¬ (cr (at_ l i) (at_ l ((i + l.length - 1) % l.length)) (at_ l ((i + 1) % l.length)) = 0 ∧ 0 < ((at_ l ((i + l.length - 1) % l.length)).f0 - (at_ l i).f0) * ((at_ l ((i + 1) % l.length)).f0 - (at_ l i).f0) + ((at_ l ((i + l.length - 1) % l.length)).f1 - (at_ l i).f1) * ((at_ l ((i + 1) % l.length)).f1 - (at_ l i).f1)) ∧
 ∀ j, j < i → j + 1 ≠ i → (j ≠ 0 ∨ i + 1 ≠ l.length) → ¬ Meet (at_ l i) (at_ l ((i + 1) % l.length)) (at_ l j) (at_ l (j + 1))
theorem csimple_iff (l : List Pt) (hn : 3 ≤ l.length) : CSimple l ↔ Simple l := by
 unfold CSimple Simple
 generalize hl : l.length = n at *
 have prev : ∀ i, i < n → (((i + n - 1) % n) + 1) % n = i ∧ (i + n - 1) % n < n := by
  intro i hi
  refine ⟨?_, Nat.mod_lt _ (by omega)⟩
  by_cases h0 : i = 0
  ·subst h0; rw [show 0 + n - 1 = n - 1 by omega, Nat.mod_eq_of_lt (show n - 1 < n by omega), show n - 1 + 1 = n by omega, Nat.mod_self]
  ·rw [show i + n - 1 = (i - 1) + n by omega, Nat.add_mod_right, Nat.mod_eq_of_lt (show i - 1 < n by omega), show i - 1 + 1 = i by omega, Nat.mod_eq_of_lt hi]
 have nxt : ∀ i, i < n → ((i + 1) % n + n - 1) % n = i ∧ (i + 1) % n < n := by
  intro i hi
  refine ⟨?_, Nat.mod_lt _ (by omega)⟩
  by_cases h0 : i + 1 = n
  ·rw [h0, Nat.mod_self, show 0 + n - 1 = n - 1 by omega, Nat.mod_eq_of_lt (by omega)]; omega
  ·rw [Nat.mod_eq_of_lt (show i + 1 < n by omega), show i + 1 + n - 1 = i + n by omega, Nat.add_mod_right, Nat.mod_eq_of_lt hi]
 have two : ∀ i, ((i + 1) % n + 1) % n = (i + 1 + 1) % n := fun i => by rw [Nat.mod_add_mod]
 constructor
 ·intro h
  refine ⟨fun i hi => (h i hi).1, fun i hi => ?_⟩
  obtain ⟨p1, p2⟩ := nxt i hi
  have q := (h _ p2).2.1
  rw [p1, two i] at q
  have e1 := (h i hi).1
  have e2 := (h _ p2).1
  rw [two i] at e2
  rw [spike e1 e2] at q
  refine ⟨fun h1 => q (Or.inl h1), fun h1 => q (Or.inr h1), fun k hk hkn hki hm => ?_⟩
  have hw : i ≠ 0 ∨ k + 1 ≠ n := by
   rcases Nat.lt_or_ge (k + 1) n with h1 | h1
   ·right; omega
   ·left; intro h0; apply hki; rw [show k + 1 = n by omega, Nat.mod_self, h0]
  have := (h k hkn).2.2 i (by omega) (by omega) hw
  apply this
  rw [Meet_comm]
  rwa [Nat.mod_eq_of_lt (show i + 1 < n by omega)] at hm
 ·rintro ⟨h0, h⟩ i hi
  obtain ⟨p1, p2⟩ := prev i hi
  refine ⟨h0 i hi, ?_, fun j hj hji hw hm => ?_⟩
  ·have e1 := h0 _ p2
   rw [p1] at e1
   rw [spike e1 (h0 i hi)]
   have q := h _ p2
   rw [← two ((i + n - 1) % n), p1] at q
   rintro (h1 | h1)
   ·exact q.1 h1
   ·exact q.2.1 h1
  ·have q := (h j (by omega)).2.2 i (by omega) hi (by
    rcases Nat.lt_or_ge (i + 1) n with h1 | h1
    ·rw [Nat.mod_eq_of_lt h1]; omega
    ·rw [show i + 1 = n by omega, Nat.mod_self]; omega)
   apply q
   rw [Nat.mod_eq_of_lt (show j + 1 < n by omega), Meet_comm]
   exact hm
theorem simple_l1 {l : List Pt} (hb : ∀ p ∈ l, Bd p) (hn : 3 ≤ l.length) (hN : l.length ≤ 1000000) {i : Nat} (hi : i < l.length) {b' : Bool} (hnext : Rt (fun k => shape_simple.l0 k l (l.length : Int) (l.length : Int) ((i + 1 : Nat) : Int)) b') :
  ∀ d j, i = j + d → ∃ b, Rt (fun k => shape_simple.l1 k l (l.length : Int) (i : Int) (l.length : Int) (i : Int) (i : Int) (j : Int) (at_ l ((i + 1) % l.length)).f0 (at_ l ((i + 1) % l.length)).f1) b ∧ (b = true ↔ (∀ j', j ≤ j' → j' < i → j' + 1 ≠ i → (j' ≠ 0 ∨ i + 1 ≠ l.length) → ¬ Meet (at_ l i) (at_ l ((i + 1) % l.length)) (at_ l j') (at_ l (j' + 1))) ∧ b' = true) := by
 intro d
 induction d with
 | zero =>
  intro j hj
  obtain ⟨K, hK⟩ := hnext
  refine ⟨b', ⟨K + 1, fun k hk => ?_⟩, ⟨fun h => ⟨fun j' h1 h2 => by omega, h⟩, fun h => h.2⟩⟩
  obtain ⟨k, rfl⟩ : ∃ m, k = m + 1 := ⟨k - 1, by omega⟩
  dsimp only; rw [shape_simple.l1, if_neg (by omega), wz _ (by omega) (by omega)]
  exact hK k (by omega)
 | succ d ih =>
  intro j hj
  obtain ⟨b1, ⟨K, hK⟩, hb1⟩ := ih (j + 1) (by omega)
  have skip : ∀ k, K + 1 ≤ k → shape_simple.j3 k l (l.length : Int) (i : Int) (l.length : Int) (i : Int) (i : Int) (j : Int) false (at_ l ((i + 1) % l.length)).f0 (at_ l ((i + 1) % l.length)).f1 = some b1 := by
   intro k hk
   obtain ⟨k, rfl⟩ : ∃ m, k = m + 1 := ⟨k - 1, by omega⟩
   rw [shape_simple.j3, if_neg (by simp), wz _ (by omega) (by omega)]
   exact hK k (by omega)
  have split_ : ∀ (P : Nat → Prop), (∀ j', j ≤ j' → j' < i → P j') ↔ (P j ∧ ∀ j', j + 1 ≤ j' → j' < i → P j') := by
   intro P
   constructor
   ·intro h; exact ⟨h j (Nat.le_refl _) (by omega), fun j' h1 h2 => h j' (by omega) h2⟩
   ·rintro ⟨h0, h⟩ j' h1 h2
    rcases Nat.eq_or_lt_of_le h1 with rfl | h3
    ·exact h0
    ·exact h j' h3 h2
  rw [show (∃ b, Rt (fun k => shape_simple.l1 k l (l.length : Int) (i : Int) (l.length : Int) (i : Int) (i : Int) (j : Int) (at_ l ((i + 1) % l.length)).f0 (at_ l ((i + 1) % l.length)).f1) b ∧ (b = true ↔ (∀ j', j ≤ j' → j' < i → j' + 1 ≠ i → (j' ≠ 0 ∨ i + 1 ≠ l.length) → ¬ Meet (at_ l i) (at_ l ((i + 1) % l.length)) (at_ l j') (at_ l (j' + 1))) ∧ b' = true)) ↔ (∃ b, Rt (fun k => shape_simple.l1 k l (l.length : Int) (i : Int) (l.length : Int) (i : Int) (i : Int) (j : Int) (at_ l ((i + 1) % l.length)).f0 (at_ l ((i + 1) % l.length)).f1) b ∧ (b = true ↔ ((j + 1 ≠ i → (j ≠ 0 ∨ i + 1 ≠ l.length) → ¬ Meet (at_ l i) (at_ l ((i + 1) % l.length)) (at_ l j) (at_ l (j + 1))) ∧ b1 = true))) from by
   rw [split_]; simp only [hb1, and_assoc]]
  by_cases h1 : j + 1 = i
  ·refine ⟨b1, ⟨K + 2, fun k hk => ?_⟩, ⟨fun h => ⟨fun h2 => absurd h1 h2, h⟩, fun h => h.2⟩⟩
   obtain ⟨k, rfl⟩ : ∃ m, k = m + 1 := ⟨k - 1, by omega⟩
   dsimp only; rw [shape_simple.l1, if_pos (by omega), wz _ (by omega) (by omega), if_pos (by omega)]
   exact skip k (by omega)
  ·have hBi := at_bd hb hi
   have hBn := at_bd hb (show (i + 1) % l.length < l.length from Nat.mod_lt _ (by omega))
   have hBj := at_bd hb (show j < l.length by omega)
   have hBk := at_bd hb (show j + 1 < l.length by omega)
   have go : (j ≠ 0 ∨ i + 1 ≠ l.length) → ∀ k, K + 2 ≤ k → ((shape_meet.f k (rd_T29 l i).f0 (rd_T29 l i).f1 (at_ l ((i + 1) % l.length)).f0 (at_ l ((i + 1) % l.length)).f1 (rd_T29 l j).f0 (rd_T29 l j).f1 (rd_T29 l (((j + 1 : Nat)) : Int)).f0 (rd_T29 l ((j + 1 : Nat) : Int)).f1).bind fun t => shape_simple.j3 k l (l.length : Int) (i : Int) (l.length : Int) (i : Int) (i : Int) (j : Int) t (at_ l ((i + 1) % l.length)).f0 (at_ l ((i + 1) % l.length)).f1) = some (!decide (Meet (at_ l i) (at_ l ((i + 1) % l.length)) (at_ l j) (at_ l (j + 1))) && b1) := by
    intro hw k hk
    obtain ⟨k, rfl⟩ : ∃ m, k = m + 1 := ⟨k - 1, by omega⟩
    rw [rd_at, rd_at, rd_at, meet_f hBi hBn hBj hBk, Option.bind_some]
    by_cases hm : Meet (at_ l i) (at_ l ((i + 1) % l.length)) (at_ l j) (at_ l (j + 1))
    ·simp only [hm, decide_true, Bool.not_true, Bool.false_and]
     rw [shape_simple.j3, if_pos rfl]
    ·simp only [hm, decide_false, Bool.not_false, Bool.true_and]
     exact skip (k + 1) (by omega)
   by_cases h2 : j = 0
   ·by_cases h3 : i + 1 = l.length
    ·refine ⟨b1, ⟨K + 2, fun k hk => ?_⟩, ⟨fun h => ⟨fun _ h2 => by omega, h⟩, fun h => h.2⟩⟩
     obtain ⟨k, rfl⟩ : ∃ m, k = m + 1 := ⟨k - 1, by omega⟩
     dsimp only; rw [shape_simple.l1, if_pos (by omega), wz ((j : Int) + 1) (by omega) (by omega), if_neg (by omega), if_pos (by omega), wz _ (by omega) (by omega), if_pos (by omega)]
     exact skip k (by omega)
    ·refine ⟨(!decide (Meet (at_ l i) (at_ l ((i + 1) % l.length)) (at_ l j) (at_ l (j + 1))) && b1), ⟨K + 3, fun k hk => ?_⟩, ?_⟩
     ·obtain ⟨k, rfl⟩ : ∃ m, k = m + 1 := ⟨k - 1, by omega⟩
      dsimp only; rw [shape_simple.l1, if_pos (by omega), wz ((j : Int) + 1) (by omega) (by omega), if_neg (by omega), if_pos (by omega), wz _ (by omega) (by omega), if_neg (by omega), if_pos (by omega), if_pos (by omega), if_pos (by omega), if_pos (by omega), if_pos (by omega), if_pos (by omega)]
      exact go (by omega) k (by omega)
     ·simp only [Bool.and_eq_true, Bool.not_eq_true', decide_eq_false_iff_not]
      exact ⟨fun h => ⟨fun _ _ => h.1, h.2⟩, fun h => ⟨h.1 h1 (Or.inr h3), h.2⟩⟩
   ·refine ⟨(!decide (Meet (at_ l i) (at_ l ((i + 1) % l.length)) (at_ l j) (at_ l (j + 1))) && b1), ⟨K + 3, fun k hk => ?_⟩, ?_⟩
    ·obtain ⟨k, rfl⟩ : ∃ m, k = m + 1 := ⟨k - 1, by omega⟩
     dsimp only; rw [shape_simple.l1, if_pos (by omega), wz ((j : Int) + 1) (by omega) (by omega), if_neg (by omega), if_neg (by omega), if_pos (by omega), if_pos (by omega), if_pos (by omega), if_pos (by omega), if_pos (by omega), if_pos (by omega)]
     exact go (by omega) k (by omega)
    ·simp only [Bool.and_eq_true, Bool.not_eq_true', decide_eq_false_iff_not]
     exact ⟨fun h => ⟨fun _ _ => h.1, h.2⟩, fun h => ⟨h.1 h1 (Or.inl h2), h.2⟩⟩
theorem tmod_last (i n : Nat) (hi : i < n) (hN : n ≤ 1000000) : Int.tmod (wrap64 (wrap64 ((i : Int) + (n : Int)) - 1)) (n : Int) = (((i + n - 1) % n : Nat) : Int) := by
 rw [wz ((i : Int) + (n : Int)) (by omega) (by omega), wz _ (by omega) (by omega), show ((i : Int) + (n : Int)) - 1 = ((i + n - 1 : Nat) : Int) by omega, ← Int.ofNat_tmod]
theorem simple_l0 {l : List Pt} (hb : ∀ p ∈ l, Bd p) (hn : 3 ≤ l.length) (hN : l.length ≤ 1000000) :
  ∀ d i, l.length = i + d → ∃ b, Rt (fun k => shape_simple.l0 k l (l.length : Int) (l.length : Int) (i : Int)) b ∧ (b = true ↔ ∀ i', i ≤ i' → i' < l.length →
   at_ l i' ≠ at_ l ((i' + 1) % l.length) ∧
   ¬ (cr (at_ l i') (at_ l ((i' + l.length - 1) % l.length)) (at_ l ((i' + 1) % l.length)) = 0 ∧ 0 < ((at_ l ((i' + l.length - 1) % l.length)).f0 - (at_ l i').f0) * ((at_ l ((i' + 1) % l.length)).f0 - (at_ l i').f0) + ((at_ l ((i' + l.length - 1) % l.length)).f1 - (at_ l i').f1) * ((at_ l ((i' + 1) % l.length)).f1 - (at_ l i').f1)) ∧
   ∀ j, j < i' → j + 1 ≠ i' → (j ≠ 0 ∨ i' + 1 ≠ l.length) → ¬ Meet (at_ l i') (at_ l ((i' + 1) % l.length)) (at_ l j) (at_ l (j + 1))) := by
 intro d
 induction d with
 | zero =>
  intro i hi
  refine ⟨true, ⟨1, fun k hk => ?_⟩, ⟨fun _ i' h1 h2 => by omega, fun _ => rfl⟩⟩
  obtain ⟨k, rfl⟩ : ∃ m, k = m + 1 := ⟨k - 1, by omega⟩
  dsimp only; rw [shape_simple.l0, if_neg (by omega)]
 | succ d ih =>
  intro i hi
  obtain ⟨b1, hR1, hb1⟩ := ih (i + 1) (by omega)
  obtain ⟨b2, ⟨K, hK⟩, hb2⟩ := simple_l1 hb hn hN (show i < l.length by omega) hR1 i 0 (by omega)
  have hlt : i < l.length := by omega
  have hBi := at_bd hb hlt
  have hBn := at_bd hb (show (i + 1) % l.length < l.length from Nat.mod_lt _ (by omega))
  have hBl := at_bd hb (show (i + l.length - 1) % l.length < l.length from Nat.mod_lt _ (by omega))
  have t1 := tmod_in (i + 1) l.length (by omega)
  have t2 := tmod_in (i + l.length - 1) l.length (by omega)
  have hcross : shape_cross.f ((at_ l ((i + l.length - 1) % l.length)).f0 - (at_ l i).f0) ((at_ l ((i + l.length - 1) % l.length)).f1 - (at_ l i).f1) ((at_ l ((i + 1) % l.length)).f0 - (at_ l i).f0) ((at_ l ((i + 1) % l.length)).f1 - (at_ l i).f1) = some (cr (at_ l i) (at_ l ((i + l.length - 1) % l.length)) (at_ l ((i + 1) % l.length))) := by
   have := side_f hBi hBl hBn
   unfold shape_side.f at this
   rw [sub_f hBl hBi, sub_f hBn hBi] at this
   simpa using this
  have split_ : ∀ (P : Nat → Prop), (∀ i', i ≤ i' → i' < l.length → P i') ↔ (P i ∧ ∀ i', i + 1 ≤ i' → i' < l.length → P i') := by
   intro P
   constructor
   ·intro h; exact ⟨h i (Nat.le_refl _) hlt, fun j' h1 h2 => h j' (by omega) h2⟩
   ·rintro ⟨h0, h⟩ j' h1 h2
    rcases Nat.eq_or_lt_of_le h1 with rfl | h3
    ·exact h0
    ·exact h j' h3 h2
  by_cases e1 : at_ l i = at_ l ((i + 1) % l.length)
  ·refine ⟨false, ⟨1, fun k hk => ?_⟩, ⟨fun h => by simp at h, fun h => absurd e1 (h i (Nat.le_refl _) hlt).1⟩⟩
   obtain ⟨k, rfl⟩ : ∃ m, k = m + 1 := ⟨k - 1, by omega⟩
   dsimp only
   rw [shape_simple.l0, if_pos (by omega), if_neg (by omega), tmod_last i l.length hlt hN, tmod_nat i l.length (by omega), if_pos (by omega), if_pos (by omega), if_pos (by omega), if_pos (by omega), if_pos (by omega), if_pos (by omega), rd_at, rd_at, rd_at, pt_beq, if_pos (by simpa using e1)]
  ·by_cases e2 : (cr (at_ l i) (at_ l ((i + l.length - 1) % l.length)) (at_ l ((i + 1) % l.length)) = 0 ∧ 0 < ((at_ l ((i + l.length - 1) % l.length)).f0 - (at_ l i).f0) * ((at_ l ((i + 1) % l.length)).f0 - (at_ l i).f0) + ((at_ l ((i + l.length - 1) % l.length)).f1 - (at_ l i).f1) * ((at_ l ((i + 1) % l.length)).f1 - (at_ l i).f1))
   ·refine ⟨false, ⟨2, fun k hk => ?_⟩, ⟨fun h => by simp at h, fun h => absurd e2 (h i (Nat.le_refl _) hlt).2.1⟩⟩
    obtain ⟨k, rfl⟩ : ∃ m, k = m + 1 + 1 := ⟨k - 2, by omega⟩
    dsimp only
    rw [shape_simple.l0, if_pos (by omega), if_neg (by omega), tmod_last i l.length hlt hN, tmod_nat i l.length (by omega), if_pos (by omega), if_pos (by omega), if_pos (by omega), if_pos (by omega), if_pos (by omega), if_pos (by omega), rd_at, rd_at, rd_at, pt_beq, if_neg (by simpa using e1), sub_f hBl hBi, Option.bind_some, sub_f hBn hBi, Option.bind_some, hcross, Option.bind_some, if_pos e2.1, dot_f hBl hBn hBi, Option.bind_some, shape_simple.j1, if_pos (by simpa using e2.2)]
   ·refine ⟨b2, ⟨K + 2, fun k hk => ?_⟩, ?_⟩
    ·obtain ⟨k, rfl⟩ : ∃ m, k = m + 1 + 1 := ⟨k - 2, by omega⟩
     dsimp only
     rw [shape_simple.l0, if_pos (by omega), if_neg (by omega), tmod_last i l.length hlt hN, tmod_nat i l.length (by omega), if_pos (by omega), if_pos (by omega), if_pos (by omega), if_pos (by omega), if_pos (by omega), if_pos (by omega), rd_at, rd_at, rd_at, pt_beq, if_neg (by simpa using e1), sub_f hBl hBi, Option.bind_some, sub_f hBn hBi, Option.bind_some, hcross, Option.bind_some]
     have := hK k (by omega)
     by_cases h3 : cr (at_ l i) (at_ l ((i + l.length - 1) % l.length)) (at_ l ((i + 1) % l.length)) = 0
     ·rw [if_pos h3, dot_f hBl hBn hBi, Option.bind_some, shape_simple.j1, if_neg (by simpa using fun h4 => e2 ⟨h3, h4⟩)]
      exact this
     ·rw [if_neg h3, shape_simple.j1, if_neg (by simp)]
      exact this
    ·rw [split_, hb2, hb1]
     constructor
     ·rintro ⟨h1, h2⟩
      exact ⟨⟨e1, e2, fun j hj h3 h4 => h1 j (Nat.zero_le _) hj h3 h4⟩, h2⟩
     ·rintro ⟨⟨_, _, h1⟩, h2⟩
      exact ⟨fun j _ hj h3 h4 => h1 j hj h3 h4, h2⟩
theorem simple_run {l : List Pt} (hb : ∀ p ∈ l, Bd p) (hn : 3 ≤ l.length) (hN : l.length ≤ 1000000) : ∃ b, Rt (fun k => shape_simple.f k l) b ∧ (b = true ↔ Simple l) := by
 obtain ⟨b, hR, h⟩ := simple_l0 hb hn hN l.length 0 (by omega)
 refine ⟨b, hR, ?_⟩
 rw [← csimple_iff l hn, h]
 exact ⟨fun h i hi => h i (Nat.zero_le _) hi, fun h i _ hi => h i hi⟩
end Go.Proofs.Ytoffmpkgickfhaa.M
end
section
namespace Go.Proofs.Ytoffmpkgickfhaa.M
open Go.RowKit Go.Proofs.Ytoffmpkgickfhaa.PG Go.Proofs.YtoffmpkgickfhaaW.PrintMore Go.Proofs.YtoffmpkgickfhaaW.PrintWords
theorem or_f (a b : Int) (k : Nat) (hk : 3 ≤ k) : cmp_Or_int.f k [a, b] = some (if a = 0 then b else a) := by
 obtain ⟨k, rfl⟩ : ∃ m, k = m + 3 := ⟨k - 3, by omega⟩
 unfold cmp_Or_int.f
 rw [cmp_Or_int.l0]
 simp only [List.length_cons, List.length_nil]
 rw [if_pos (by omega), if_pos (by omega), if_pos (by omega)]
 by_cases h : a = 0
 ·rw [if_pos (show rd [a, b] 0 = 0 from h), cmp_Or_int.l0]
  rw [show wrap64 (0 + 1) = 1 from by unfold wrap64; omega]
  simp only [List.length_cons, List.length_nil]
  rw [if_pos (by omega), if_pos (by omega), if_pos (by omega), if_pos h]
  by_cases h2 : b = 0
  ·rw [if_pos (show rd [a, b] 1 = 0 from h2), cmp_Or_int.l0]
   rw [show wrap64 (1 + 1) = 2 from by unfold wrap64; omega]
   simp only [List.length_cons, List.length_nil]
   rw [if_neg (by omega), h2]
  ·rw [if_neg (show ¬ rd [a, b] 1 = 0 from h2)]; rfl
 ·rw [if_neg (show ¬ rd [a, b] 0 = 0 from h), if_neg h]; rfl
theorem lower_f (a b : Pt) (k : Nat) (hk : 3 ≤ k) : ∃ c, shape_lower.f k a.f0 a.f1 b.f0 b.f1 = some c ∧ (c < 0 ↔ first a b) := by
 refine ⟨_, by unfold shape_lower.f; rw [compare_f, Option.bind_some, compare_f, Option.bind_some, or_f _ _ _ hk, Option.bind_some], ?_⟩
 unfold sg first
 split <;> (try split) <;> (try split) <;> (try split) <;> (try split) <;> omega
theorem min_l0 {l : List Pt} (hN : l.length ≤ 1000000) : ∀ d i (m : Pt), l.length = i + d → ∃ r : Pt, Rt (fun k => slices_MinFunc_lower.l0 k l (i : Int) m.f0 m.f1) (r.f0, r.f1) ∧ (r = m ∨ ∃ j, i ≤ j ∧ j < l.length ∧ r = at_ l j) ∧ ¬ first m r ∧ ∀ j, i ≤ j → j < l.length → ¬ first (at_ l j) r := by
 intro d
 induction d with
 | zero =>
  intro i m hi
  refine ⟨m, ⟨0 + 1, fun k hk => ?_⟩, Or.inl rfl, first_irrefl m, fun j h1 h2 => by omega⟩
  obtain ⟨k, rfl⟩ := fuel1 hk
  dsimp only; rw [slices_MinFunc_lower.l0, if_neg (by omega)]
 | succ d ih =>
  intro i m hi
  have hlt : i < l.length := by omega
  by_cases h : first (at_ l i) m
  ·obtain ⟨r, ⟨K, hK⟩, h1, h2, h3⟩ := ih (i + 1) (at_ l i) (by omega)
   refine ⟨r, ⟨K + 4, fun k hk => ?_⟩, ?_, ?_, ?_⟩
   ·obtain ⟨k, rfl⟩ : ∃ m, k = m + 1 := ⟨k - 1, by omega⟩
    obtain ⟨c, hc, hc'⟩ := lower_f (at_ l i) m k (by omega)
    dsimp only; rw [slices_MinFunc_lower.l0, if_pos (by omega), if_pos (by omega), rd_at, hc, Option.bind_some, if_pos (hc'.mpr h), wrap_succ i (by omega)]
    exact hK k (by omega)
   ·right
    rcases h1 with h1 | ⟨j, h4, h5, h6⟩
    ·exact ⟨i, Nat.le_refl _, hlt, h1⟩
    ·exact ⟨j, by omega, h5, h6⟩
   ·intro h4
    exact h2 (first_trans h h4)
   ·intro j h4 h5
    rcases Nat.eq_or_lt_of_le h4 with rfl | h6
    ·exact h2
    ·exact h3 j h6 h5
  ·obtain ⟨r, ⟨K, hK⟩, h1, h2, h3⟩ := ih (i + 1) m (by omega)
   refine ⟨r, ⟨K + 4, fun k hk => ?_⟩, ?_, h2, ?_⟩
   ·obtain ⟨k, rfl⟩ : ∃ m, k = m + 1 := ⟨k - 1, by omega⟩
    obtain ⟨c, hc, hc'⟩ := lower_f (at_ l i) m k (by omega)
    dsimp only; rw [slices_MinFunc_lower.l0, if_pos (by omega), if_pos (by omega), rd_at, hc, Option.bind_some, if_neg (fun h4 => h (hc'.mp h4)), wrap_succ i (by omega)]
    exact hK k (by omega)
   ·rcases h1 with h1 | ⟨j, h4, h5, h6⟩
    ·exact Or.inl h1
    ·exact Or.inr ⟨j, by omega, h5, h6⟩
   ·intro j h4 h5
    rcases Nat.eq_or_lt_of_le h4 with rfl | h6
    ·intro h7
     rcases first_tri m r with e | e | e
     ·rw [e] at h; exact h h7
     ·exact h2 e
     ·exact h (first_trans h7 e)
    ·exact h3 j h6 h5
theorem min_run {l : List Pt} (h0 : 0 < l.length) (hN : l.length ≤ 1000000) : ∃ r : Pt, Rt (fun k => slices_MinFunc_lower.f k l) (r.f0, r.f1) ∧ r ∈ l ∧ ∀ p ∈ l, ¬ first p r := by
 obtain ⟨r, ⟨K, hK⟩, h1, h2, h3⟩ := min_l0 hN (l.length - 1) 1 (at_ l 0) (by omega)
 refine ⟨r, ⟨K, fun k hk => ?_⟩, ?_, ?_⟩
 ·unfold slices_MinFunc_lower.f
  dsimp only; rw [if_neg (by omega), if_pos (by omega)]
  exact hK k hk
 ·rcases h1 with rfl | ⟨j, _, h5, rfl⟩
  ·exact at_mem h0
  ·exact at_mem h5
 ·intro p hp
  obtain ⟨j, hj, rfl⟩ := List.mem_iff_getElem.mp hp
  rw [← at_eq hj]
  by_cases h4 : j = 0
  ·subst h4; exact h2
  ·exact h3 j (by omega) hj
theorem tmod_two (i n : Nat) (h : i ≤ 1000000) : Int.tmod (wrap64 ((i : Int) + 2)) (n : Int) = (((i + 1 + 1) % n : Nat) : Int) := by
 rw [wrap_succ2 i h, ← Int.ofNat_tmod]
theorem normal_l0 {l : List Pt} (hb : ∀ p ∈ l, Bd p) (hn : 3 ≤ l.length) (hN : l.length ≤ 1000000) {r : Pt} (hmin : Rt (fun k => slices_MinFunc_lower.f k l) (r.f0, r.f1)) {b' : Bool} (hs : Rt (fun k => shape_simple.f k l) b') :
  ∀ d i, l.length = i + d → ∃ b, Rt (fun k => shape_normal.l0 k l (l.length : Int) (i : Int)) b ∧ (b = true ↔ (∀ i', i ≤ i' → i' < l.length → 0 < cr (at_ l i') (at_ l ((i' + 1) % l.length)) (at_ l ((i' + 1 + 1) % l.length))) ∧ at_ l 0 = r ∧ b' = true) := by
 intro d
 induction d with
 | zero =>
  intro i hi
  obtain ⟨K1, hK1⟩ := hmin
  obtain ⟨K2, hK2⟩ := hs
  refine ⟨decide (at_ l 0 = r) && b', ⟨K1 + K2 + 1, fun k hk => ?_⟩, ?_⟩
  ·obtain ⟨k, rfl⟩ := fuel1 hk
   have e1 := hK1 k (by omega)
   have e2 := hK2 k (by omega)
   dsimp only at e1 e2 ⊢
   rw [shape_normal.l0, if_neg (by omega), if_pos (by omega), e1, Option.bind_some]
   dsimp only
   rw [show rd_T29 l 0 = at_ l 0 from rfl, pt_beq]
   by_cases h : at_ l 0 = r
   ·rw [if_pos (by simpa using h), e2, Option.bind_some]; simp [h]
   ·rw [if_neg (by simpa using h)]; simp [h]
  ·simp only [Bool.and_eq_true, decide_eq_true_eq]
   exact ⟨fun h => ⟨fun i' h1 h2 => by omega, h⟩, fun h => h.2⟩
 | succ d ih =>
  intro i hi
  have hlt : i < l.length := by omega
  obtain ⟨b1, ⟨K, hK⟩, hb1⟩ := ih (i + 1) (by omega)
  have hBi := at_bd hb hlt
  have hBn := at_bd hb (show (i + 1) % l.length < l.length from Nat.mod_lt _ (by omega))
  have hBm := at_bd hb (show (i + 1 + 1) % l.length < l.length from Nat.mod_lt _ (by omega))
  have t1 := tmod_in (i + 1) l.length (by omega)
  have t2 := tmod_in (i + 1 + 1) l.length (by omega)
  rw [from_split hlt]
  by_cases h1 : cr (at_ l i) (at_ l ((i + 1) % l.length)) (at_ l ((i + 1 + 1) % l.length)) ≤ 0
  ·refine ⟨false, ⟨0 + 1, fun k hk => ?_⟩, ⟨fun h => by simp at h, fun h => absurd h.1.1 (by omega)⟩⟩
   obtain ⟨k, rfl⟩ := fuel1 hk
   dsimp only
   rw [shape_normal.l0, if_pos (by omega), if_pos (by omega), if_pos (by omega), if_neg (by omega), tmod_nat i _ (by omega), tmod_two i _ (by omega), if_pos (by omega), if_pos (by omega), if_pos (by omega), if_pos (by omega), rd_at, rd_at, rd_at, side_f hBi hBn hBm, Option.bind_some, if_pos h1]
  ·refine ⟨b1, ⟨K + 1, fun k hk => ?_⟩, ?_⟩
   ·obtain ⟨k, rfl⟩ := fuel1 hk
    dsimp only
    rw [shape_normal.l0, if_pos (by omega), if_pos (by omega), if_pos (by omega), if_neg (by omega), tmod_nat i _ (by omega), tmod_two i _ (by omega), if_pos (by omega), if_pos (by omega), if_pos (by omega), if_pos (by omega), rd_at, rd_at, rd_at, side_f hBi hBn hBm, Option.bind_some, if_neg h1, wrap_succ i (by omega)]
    exact hK k (by omega)
   ·rw [hb1]; exact ⟨fun h => ⟨⟨by omega, h.1⟩, h.2⟩, fun h => ⟨h.1.2, h.2⟩⟩
theorem simple_once {l : List Pt} (hn : 3 ≤ l.length) (h : Simple l) {i : Nat} (hi : i < l.length) (h0 : 0 < i) : at_ l 0 ≠ at_ l i := by
 intro e
 by_cases h1 : i = 1
 ·subst h1
  have := h.1 0 (by omega)
  rw [Nat.mod_eq_of_lt (by omega)] at this; exact this e
 ·by_cases h2 : i + 1 = l.length
  ·have := h.1 i hi
   rw [h2, Nat.mod_self] at this; exact this e.symm
  ·have := (h.2 0 (by omega)).2.2 i (by omega) hi (by rw [Nat.mod_eq_of_lt (by omega)]; omega)
   apply this
   left
   rw [← e]
   exact ⟨cr_self1 _ _, btw_start _ _⟩
theorem normal_run {l : List Pt} (hb : ∀ p ∈ l, Bd p) (hn : 3 ≤ l.length) (hN : l.length ≤ 1000000) : ∃ b, Rt (fun k => shape_normal.f k l) b ∧ (b = true ↔ Convex l) := by
 obtain ⟨r, hR, hr1, hr2⟩ := min_run (show 0 < l.length by omega) hN
 obtain ⟨b1, hS, hb1⟩ := simple_run hb hn hN
 obtain ⟨b, hB, hb2⟩ := normal_l0 hb hn hN hR hS l.length 0 (by omega)
 refine ⟨b, hB, ?_⟩
 rw [hb2, hb1]
 constructor
 ·rintro ⟨h1, h2, h3⟩
  refine ⟨h3, fun i hi => ⟨h1 i (Nat.zero_le _) hi, fun h0 => ?_⟩⟩
  rcases first_tri (at_ l 0) (at_ l i) with e | e | e
  ·exact absurd e (simple_once hn h3 hi h0)
  ·exact e
  ·rw [h2] at e; exact absurd e (hr2 _ (at_mem hi))
 ·rintro ⟨h3, h4⟩
  refine ⟨fun i _ hi => (h4 i hi).1, ?_, h3⟩
  obtain ⟨j, hj, rfl⟩ := List.mem_iff_getElem.mp hr1
  rw [← at_eq hj] at hr2 ⊢
  by_cases h5 : j = 0
  ·rw [h5]
  ·exact absurd ((h4 j hj).2 (by omega)) (hr2 _ (at_mem (by omega)))
end Go.Proofs.Ytoffmpkgickfhaa.M
end
section
namespace Go.Proofs.Ytoffmpkgickfhaa.M
open Go.RowKit Go.Proofs.Ytoffmpkgickfhaa.PG Go.Proofs.YtoffmpkgickfhaaW.PrintMore Go.Proofs.YtoffmpkgickfhaaW.PrintWords
def In (m : Int) (p : Pt) : Prop := -m ≤ p.f0 ∧ p.f0 ≤ m ∧ -m ≤ p.f1 ∧ p.f1 ≤ m
instance (m : Int) (p : Pt) : Decidable (In m p) := by unfold In; infer_instance
def Poly (l : List Pt) : Prop := 3 ≤ l.length ∧ l.length ≤ 32 ∧ ∀ p ∈ l, In 10000 p
instance (l : List Pt) : Decidable (Poly l) := by unfold Poly; infer_instance
theorem beyond_f (m : Int) (h0 : 0 ≤ m) (h1 : m ≤ 1000000) (p : Pt) : beyond m p = !decide (In m p) := by
 unfold beyond
 rw [wz _ (by omega) (by omega), Bool.eq_iff_iff]
 simp only [Bool.or_eq_true, decide_eq_true_eq, Bool.not_eq_true']
 rw [decide_eq_false_iff_not]
 unfold In
 omega
theorem within_f (l : List Pt) (m : Int) (h0 : 0 ≤ m) (h1 : m ≤ 1000000) : shape_within.f l m = some (decide (∀ p ∈ l, In m p)) := by
 unfold shape_within.f
 congr 1
 rw [Bool.eq_iff_iff]
 simp only [Bool.not_eq_true', List.any_eq_false, beyond_f m h0 h1, decide_eq_true_eq, Bool.not_eq_true', decide_eq_false_iff_not, Decidable.not_not]
theorem polygon_f (l : List Pt) : shape_polygon.f l = some (decide (Poly l)) := by
 unfold shape_polygon.f
 by_cases h : (l.length : Int) ≥ 3
 ·rw [if_pos h]
  by_cases h2 : (l.length : Int) ≤ 32
  ·rw [if_pos h2, within_f _ _ (by omega) (by omega), Option.bind_some]
   congr 1; rw [decide_eq_decide]
   exact ⟨fun h3 => ⟨by omega, by omega, h3⟩, fun h3 => h3.2.2⟩
  ·rw [if_neg h2]
   congr 1; symm; rw [decide_eq_false_iff_not]
   intro h3; have := h3.2.1; omega
 ·rw [if_neg h]
  congr 1; symm; rw [decide_eq_false_iff_not]
  intro h3; have := h3.1; omega
theorem in_bd {p : Pt} (h : In 10000 p) : Bd p := by unfold In at h; unfold Bd; omega
def term (l : List Pt) (i : Nat) : Int := (at_ l i).f0 * (at_ l ((i + 1) % l.length)).f1 - (at_ l i).f1 * (at_ l ((i + 1) % l.length)).f0
def areaTo (l : List Pt) : Nat → Int
 | 0 => 0
 | i + 1 => areaTo l i + term l i
def area (l : List Pt) : Int := areaTo l l.length
theorem prod_bd {a b : Pt} (ha : Bd a) (hb : Bd b) : (-4000000000000 ≤ a.f0 * b.f1 ∧ a.f0 * b.f1 ≤ 4000000000000) ∧ (-4000000000000 ≤ a.f1 * b.f0 ∧ a.f1 * b.f0 ≤ 4000000000000) := by
 obtain ⟨a0, a1, a2, a3⟩ := ha; obtain ⟨b0, b1, b2, b3⟩ := hb
 exact ⟨mulb (by omega) (by omega) (by omega) (by omega), mulb (by omega) (by omega) (by omega) (by omega)⟩
theorem areaTo_bd {l : List Pt} (hb : ∀ p ∈ l, Bd p) : ∀ i, i ≤ l.length → -8000000000000 * (i : Int) ≤ areaTo l i ∧ areaTo l i ≤ 8000000000000 * (i : Int) := by
 intro i
 induction i with
 | zero => intro _; unfold areaTo; omega
 | succ i ih =>
  intro hi
  have h := ih (by omega)
  have h2 := prod_bd (at_bd hb (show i < l.length by omega)) (at_bd hb (show (i + 1) % l.length < l.length from Nat.mod_lt _ (by omega)))
  unfold areaTo term; omega
theorem area_l0 {l : List Pt} (hb : ∀ p ∈ l, Bd p) (hN : l.length ≤ 1000000) : ∀ d i, l.length = i + d → Rt (fun k => shape_area2.l0 k l (areaTo l i) (l.length : Int) (i : Int)) (area l) := by
 intro d
 induction d with
 | zero =>
  intro i hi
  refine ⟨0 + 1, fun k hk => ?_⟩
  obtain ⟨k, rfl⟩ := fuel1 hk
  dsimp only; rw [shape_area2.l0, if_neg (by omega)]
  rw [show i = l.length by omega]; rfl
 | succ d ih =>
  intro i hi
  have hlt : i < l.length := by omega
  obtain ⟨K, hK⟩ := ih (i + 1) (by omega)
  refine ⟨K + 1, fun k hk => ?_⟩
  obtain ⟨k, rfl⟩ := fuel1 hk
  have t1 := tmod_in (i + 1) l.length (by omega)
  have h2 := prod_bd (at_bd hb hlt) (at_bd hb (show (i + 1) % l.length < l.length from Nat.mod_lt _ (by omega)))
  have h3 := areaTo_bd hb (i + 1) (by omega)
  have h4 := areaTo_bd hb i (by omega)
  have e : areaTo l (i + 1) = areaTo l i + term l i := rfl
  unfold term at e
  dsimp only
  rw [shape_area2.l0, if_pos (by omega), if_pos (by omega), if_pos (by omega), if_neg (by omega), tmod_nat i _ (by omega), if_pos (by omega), if_pos (by omega), rd_at, rd_at]
  unfold shape_cross.f
  rw [Option.bind_some, wz ((at_ l i).f0 * _) (by omega) (by omega), wz ((at_ l i).f1 * _) (by omega) (by omega), wz (_ - _) (by omega) (by omega), wz (areaTo l i + _) (by omega) (by omega), ← e, wrap_succ i (by omega)]
  exact hK k (by omega)
theorem area_run {l : List Pt} (hb : ∀ p ∈ l, Bd p) (hN : l.length ≤ 1000000) : Rt (fun k => shape_area2.f k l) (area l) := by
 obtain ⟨K, hK⟩ := area_l0 hb hN l.length 0 (by omega)
 exact ⟨K, fun k hk => hK k hk⟩
end Go.Proofs.Ytoffmpkgickfhaa.M
end
section
namespace Go.Proofs.Ytoffmpkgickfhaa.M
open Go.Proofs.Ytoffmpkgickfhaa.PG
theorem common (p q : Int) : ∀ (n : Nat) (e f : Pt), (ph p q e).natAbs + (ph p q f).natAbs ≤ n → cx e f = 0 → 0 < ph p q e * ph p q f →
  ∃ (g : Pt) (x y : Int), 0 < x ∧ 0 < y ∧ e.f0 = x * g.f0 ∧ e.f1 = x * g.f1 ∧ f.f0 = y * g.f0 ∧ f.f1 = y * g.f1 := by
 intro n
 induction n with
 | zero =>
  intro e f hn _ h
  have h1 : ph p q e = 0 := by omega
  rw [h1, Int.zero_mul] at h; omega
 | succ n ih =>
  intro e f hn hc h
  have sg : (0 < ph p q e ∧ 0 < ph p q f) ∨ (ph p q e < 0 ∧ ph p q f < 0) := by
   rcases Int.lt_trichotomy (ph p q e) 0 with a | a | a
   ·right; refine ⟨a, ?_⟩
    rcases Int.lt_or_le (ph p q f) 0 with b | b
    ·exact b
    ·have := Int.mul_nonpos_of_nonpos_of_nonneg (show ph p q e ≤ 0 by omega) b; omega
   ·rw [a, Int.zero_mul] at h; omega
   ·exact Or.inl ⟨a, pos_of_mul a h⟩
  have d1 : ph p q ⟨e.f0 - f.f0, e.f1 - f.f1⟩ = ph p q e - ph p q f := by unfold ph; dsimp only; grind
  have d2 : ph p q ⟨f.f0 - e.f0, f.f1 - e.f1⟩ = ph p q f - ph p q e := by unfold ph; dsimp only; grind
  have c1 : cx ⟨e.f0 - f.f0, e.f1 - f.f1⟩ f = 0 := by unfold cx at *; dsimp only; grind
  have c2 : cx e ⟨f.f0 - e.f0, f.f1 - e.f1⟩ = 0 := by unfold cx at *; dsimp only; grind
  rcases Int.lt_trichotomy (ph p q e) (ph p q f) with hl | hl | hl
  ·rcases sg with ⟨s1, s2⟩ | ⟨s1, s2⟩
   ·obtain ⟨g, x, y, hx, hy, e0, e1, f0, f1⟩ := ih e ⟨f.f0 - e.f0, f.f1 - e.f1⟩ (by rw [d2]; omega) c2 (by rw [d2]; exact Int.mul_pos s1 (by omega))
    dsimp only at f0 f1
    exact ⟨g, x, x + y, hx, by omega, e0, e1, by rw [Int.add_mul]; omega, by rw [Int.add_mul]; omega⟩
   ·obtain ⟨g, x, y, hx, hy, e0, e1, f0, f1⟩ := ih ⟨e.f0 - f.f0, e.f1 - f.f1⟩ f (by rw [d1]; omega) c1 (by rw [d1]; exact Int.mul_pos_of_neg_of_neg (by omega) s2)
    dsimp only at e0 e1
    exact ⟨g, x + y, y, by omega, hy, by rw [Int.add_mul]; omega, by rw [Int.add_mul]; omega, f0, f1⟩
  ·have k0 : ph p q e * f.f0 = ph p q f * e.f0 := by unfold ph cx at *; grind
   have k1 : ph p q e * f.f1 = ph p q f * e.f1 := by unfold ph cx at *; grind
   rw [← hl] at k0 k1
   have e0 := Int.eq_of_mul_eq_mul_left (show ph p q e ≠ 0 by omega) k0
   have e1 := Int.eq_of_mul_eq_mul_left (show ph p q e ≠ 0 by omega) k1
   exact ⟨e, 1, 1, by omega, by omega, by omega, by omega, by omega, by omega⟩
  ·rcases sg with ⟨s1, s2⟩ | ⟨s1, s2⟩
   ·obtain ⟨g, x, y, hx, hy, e0, e1, f0, f1⟩ := ih ⟨e.f0 - f.f0, e.f1 - f.f1⟩ f (by rw [d1]; omega) c1 (by rw [d1]; exact Int.mul_pos (by omega) s2)
    dsimp only at e0 e1
    exact ⟨g, x + y, y, by omega, hy, by rw [Int.add_mul]; omega, by rw [Int.add_mul]; omega, f0, f1⟩
   ·obtain ⟨g, x, y, hx, hy, e0, e1, f0, f1⟩ := ih e ⟨f.f0 - e.f0, f.f1 - e.f1⟩ (by rw [d2]; omega) c2 (by rw [d2]; exact Int.mul_pos_of_neg_of_neg s1 (by omega))
    dsimp only at f0 f1
    exact ⟨g, x, x + y, hx, by omega, e0, e1, by rw [Int.add_mul]; omega, by rw [Int.add_mul]; omega⟩
theorem Bf.right {p q : Int} {u v g : Pt} {y : Int} (hy : 0 < y) (h0 : v.f0 = y * g.f0) (h1 : v.f1 = y * g.f1) (h : Bf p q u v) : Bf p q u g := by
 have e : ph p q v = y * ph p q g := by unfold ph; rw [h0, h1]; grind
 have c : cx u v = y * cx u g := by unfold cx; rw [h0, h1]; grind
 have up : 0 < ph p q v → 0 < ph p q g := fun h => pos_of_mul hy (by rw [← e]; exact h)
 have dn : ph p q v < 0 → ph p q g < 0 := fun h => by
  rcases Int.lt_or_le (ph p q g) 0 with k | k
  ·exact k
  ·have := Int.mul_nonneg (show 0 ≤ y by omega) k; omega
 have cp : 0 < cx u v → 0 < cx u g := fun h => pos_of_mul hy (by rw [← c]; exact h)
 rcases h with ⟨a, b⟩ | ⟨a, b, d⟩ | ⟨a, b, d⟩
 ·exact Or.inl ⟨a, dn b⟩
 ·exact Or.inr (Or.inl ⟨a, up b, cp d⟩)
 ·exact Or.inr (Or.inr ⟨a, dn b, cp d⟩)
theorem Bf.left {p q : Int} {u v g : Pt} {y : Int} (hy : 0 < y) (h0 : u.f0 = y * g.f0) (h1 : u.f1 = y * g.f1) (h : Bf p q u v) : Bf p q g v := by
 have e : ph p q u = y * ph p q g := by unfold ph; rw [h0, h1]; grind
 have c : cx u v = y * cx g v := by unfold cx; rw [h0, h1]; grind
 have up : 0 < ph p q u → 0 < ph p q g := fun h => pos_of_mul hy (by rw [← e]; exact h)
 have dn : ph p q u < 0 → ph p q g < 0 := fun h => by
  rcases Int.lt_or_le (ph p q g) 0 with k | k
  ·exact k
  ·have := Int.mul_nonneg (show 0 ≤ y by omega) k; omega
 have cp : 0 < cx u v → 0 < cx g v := fun h => pos_of_mul hy (by rw [← c]; exact h)
 rcases h with ⟨a, b⟩ | ⟨a, b, d⟩ | ⟨a, b, d⟩
 ·exact Or.inl ⟨up a, b⟩
 ·exact Or.inr (Or.inl ⟨up a, b, cp d⟩)
 ·exact Or.inr (Or.inr ⟨dn a, b, cp d⟩)
theorem Bf.tri {p q : Int} {u v w : Pt} (h1 : Bf p q u v) (h2 : Bf p q v w) : tri u v w := by
 have id := id3 p q u v w
 have id2 := id3 p q w u v
 have sw := cx_swap u w
 have sw2 := cx_swap v w
 unfold M.tri
 rcases h1 with ⟨a, b⟩ | ⟨a, b, c⟩ | ⟨a, b, c⟩ <;> rcases h2 with ⟨d, e⟩ | ⟨d, e, f⟩ | ⟨d, e, f⟩
 ·omega
 ·omega
 ·-- up, down, down
  rcases Int.lt_or_le 0 (cx u v) with k | k
  ·exact Or.inl ⟨k, f⟩
  ·refine Or.inr (Or.inl ⟨f, ?_⟩)
   have m1 : 0 < ph p q u * cx v w := Int.mul_pos a f
   have m2 : 0 ≤ ph p q w * cx u v := Int.mul_nonneg_of_nonpos_of_nonpos (by omega) k
   rcases Int.lt_or_le (cx u w) 0 with k2 | k2
   ·omega
   ·have := Int.mul_nonpos_of_nonpos_of_nonneg (show ph p q v ≤ 0 by omega) k2; omega
 ·-- up, up, down
  rcases Int.lt_or_le 0 (cx v w) with k | k
  ·exact Or.inl ⟨c, k⟩
  ·refine Or.inr (Or.inr ⟨?_, c⟩)
   have m1 : ph p q u * cx v w ≤ 0 := Int.mul_nonpos_of_nonneg_of_nonpos (by omega) k
   have m2 : ph p q w * cx u v < 0 := Int.mul_neg_of_neg_of_pos e c
   rcases Int.lt_or_le (cx u w) 0 with k2 | k2
   ·omega
   ·have := Int.mul_nonneg (show 0 ≤ ph p q v by omega) k2; omega
 ·exact Or.inl ⟨c, f⟩
 ·omega
 ·omega
 ·omega
 ·exact Or.inl ⟨c, f⟩
theorem cyc_of_bf {p q : Int} {L : List El} (h : L.Pairwise (fun e e' => Bf p q e.1 e'.1)) : Cyc L := by
 intro a b c hs
 have h1 : (L.map Prod.fst).Pairwise (Bf p q) := List.pairwise_map.mpr h
 have h2 := h1.sublist hs
 simp only [List.pairwise_cons, List.mem_cons, List.not_mem_nil, or_false, forall_eq_or_imp, forall_eq] at h2
 exact h2.1.1.tri h2.2.1
def arA (l : List Pt) : Nat → Nat → Int
 | 0, _ => 0
 | d + 1, i => cx (P l i) (P l (i + 1)) + arA l d (i + 1)
theorem arA_area (l : List Pt) : ∀ d i, i + d ≤ l.length → areaTo l i + arA l d i = areaTo l (i + d) := by
 intro d
 induction d with
 | zero => intro i _; simp [arA]
 | succ d ih =>
  intro i hi
  have h := ih (i + 1) (by omega)
  have e : areaTo l (i + 1) = areaTo l i + term l i := rfl
  have t : term l i = cx (P l i) (P l (i + 1)) := by
   unfold term cx; rw [P_lt (by omega)]; rfl
  rw [arA, show i + (d + 1) = i + 1 + d by omega, ← h, e, t]; omega
def par : List Pt → Int
 | a :: b :: r => cx a b + par (b :: r)
 | _ => 0
theorem par_area (h0 : Pt) : ∀ (l : List Pt) (h : List Pt) (i : Nat), i < h.length → h.drop i = l → at_ h 0 = h0 → par (l ++ [h0]) = arA h (h.length - i) i := by
 intro l
 induction l with
 | nil => intro h i hi hd _; have := congrArg List.length hd; simp at this; omega
 | cons a r ih =>
  intro h i hi hd h00
  have ea : a = P h i := by
   have : (h.drop i)[0]? = some a := by rw [hd]; rfl
   rw [List.getElem?_drop, Nat.add_zero, List.getElem?_eq_getElem hi] at this
   rw [P_lt hi, at_eq hi]; exact (Option.some.inj this).symm
  have dr : h.drop (i + 1) = r := by rw [← List.drop_drop, hd]; rfl
  by_cases hl : i + 1 < h.length
  ·have hr := ih h (i + 1) hl dr h00
   match r, dr, hr with
   | [], dr, _ => have := congrArg List.length dr; simp at this; omega
   | b :: r', dr, hr =>
    have eb : b = P h (i + 1) := by
     have : (h.drop (i + 1))[0]? = some b := by rw [dr]; rfl
     rw [List.getElem?_drop, Nat.add_zero, List.getElem?_eq_getElem hl] at this
     rw [P_lt hl, at_eq hl]; exact (Option.some.inj this).symm
    rw [show h.length - i = (h.length - (i + 1)) + 1 by omega, arA, ← hr, ← ea, ← eb]; rfl
  ·have hr : r = [] := by rw [← dr]; exact List.drop_of_length_le (by omega)
   subst hr
   have e1 : h.length - i = 1 := by omega
   have e2 : P h (i + 1) = h0 := by rw [show i + 1 = h.length by omega, P_len, P_lt (by omega), h00]
   rw [e1, arA, arA, ← ea, e2]; rfl
section
variable {p q : Int} {a b S : List Pt}
def Z (e : El) : Int := X e + Y e
structure Way (p q : Int) (a b : List Pt) (d i j : Nat) (U : List El) : Prop where
 ord : U.Pairwise (fun e e' => Bf p q e.1 e'.1)
 bef : ∀ e ∈ U, (0 < i → Bf p q (ed a (i - 1)) e.1) ∧ (0 < j → Bf p q (ed b (j - 1)) e.1)
 pos : ∀ e ∈ U, 0 ≤ X e ∧ 0 ≤ Y e
 sx0 : s0 X U = (P a a.length).f0 - (P a i).f0
 sx1 : s1 X U = (P a a.length).f1 - (P a i).f1
 sy0 : s0 Y U = (P b b.length).f0 - (P b j).f0
 sy1 : s1 Y U = (P b b.length).f1 - (P b j).f1
 az : 2 * par (V a b i j :: path a b d i j) = 2 * ((V a b i j).f0 * s1 Z U - (V a b i j).f1 * s0 Z U) + Bq Z Z U
 ax : 2 * arA a (a.length - i) i = 2 * ((P a i).f0 * s1 X U - (P a i).f1 * s0 X U) + Bq X X U
 ay : 2 * arA b (b.length - j) j = 2 * ((P b j).f0 * s1 Y U - (P b j).f1 * s0 Y U) + Bq Y Y U
theorem way (ca : Cvx p q a) (cb : Cvx p q b) (hS : Sums a b S) : ∀ d i j, Inv p q a b i j → (a.length - i) + (b.length - j) ≤ d → ∃ U, Way p q a b d i j U := by
 intro d
 have done : ∀ d, ∃ U, Way p q a b d a.length b.length U := by
  intro d
  have ep : path a b d a.length b.length = [] := by
   cases d with
   | zero => rfl
   | succ d => unfold path; rw [if_neg (by omega), if_neg (by omega), if_neg (by omega)]
  refine ⟨[], List.Pairwise.nil, fun e he => by simp at he, fun e he => by simp at he, ?_, ?_, ?_, ?_, ?_, ?_, ?_⟩ <;> simp [s0, s1, Bq, ep, par, arA]
 induction d with
 | zero =>
  intro i j h hd
  have e1 : i = a.length := by have := h.1; omega
  have e2 : j = b.length := by have := h.2.1; omega
  subst e1; subst e2; exact done 0
 | succ d ih =>
  intro i j h hd
  by_cases h1 : i < a.length ∧ (j < b.length → 0 < cx (ed a i) (ed b j))
  ·have ep : path a b (d + 1) i j = V a b (i + 1) j :: path a b d (i + 1) j := by
    conv => lhs; unfold path
    rw [if_pos h1]
   have ni := (take_a ca cb hS h h1.1 h1.2).2
   obtain ⟨U, w⟩ := ih (i + 1) j ni (by omega)
   refine ⟨(ed a i, 1, 0) :: U, List.Pairwise.cons (fun e he => ?_) w.ord, fun e he => ?_, fun e he => ?_, ?_, ?_, ?_, ?_, ?_, ?_, ?_⟩
   ·have := (w.bef e he).1 (by omega); rwa [Nat.add_sub_cancel] at this
   ·have fa : 0 < i → Bf p q (ed a (i - 1)) (ed a i) := fun h0 => by
     have := ca.sorted (i - 1) (by omega); rwa [show i - 1 + 1 = i by omega] at this
    have fb : 0 < j → Bf p q (ed b (j - 1)) (ed a i) := fun h0 => h.2.2.1 h1.1 h0
    rcases List.mem_cons.mp he with r | he
    ·subst r; exact ⟨fa, fb⟩
    ·have g := (w.bef e he).1 (by omega)
     rw [Nat.add_sub_cancel] at g
     exact ⟨fun h0 => (fa h0).trans g, fun h0 => (fb h0).trans g⟩
   ·rcases List.mem_cons.mp he with r | he
    ·subst r; dsimp only [X, Y]; omega
    ·exact w.pos e he
   all_goals
    have x0 := w.sx0
    have x1 := w.sx1
    have y0 := w.sy0
    have y1 := w.sy1
    have z0 : (V a b (i + 1) j).f0 = (V a b i j).f0 + (ed a i).f0 := by unfold V plus ed vec; dsimp only; omega
    have z1 : (V a b (i + 1) j).f1 = (V a b i j).f1 + (ed a i).f1 := by unfold V plus ed vec; dsimp only; omega
    have p0 : (P a (i + 1)).f0 = (P a i).f0 + (ed a i).f0 := by unfold ed vec; dsimp only; omega
    have p1 : (P a (i + 1)).f1 = (P a i).f1 + (ed a i).f1 := by unfold ed vec; dsimp only; omega
   ·simp only [s0, X]; omega
   ·simp only [s1, X]; omega
   ·simp only [s0, Y]; omega
   ·simp only [s1, Y]; omega
   ·have az := w.az
    rw [ep, par]
    simp only [s0, s1, Bq, Z, X, Y, cx] at az ⊢
    rw [z0, z1] at az ⊢
    grind
   ·have ax := w.ax
    rw [show a.length - i = (a.length - (i + 1)) + 1 by omega, arA]
    simp only [s0, s1, Bq, X, cx] at ax ⊢
    rw [p0, p1] at ax ⊢
    grind
   ·have ay := w.ay
    simp only [s0, s1, Bq, Y] at ay ⊢
    grind
  ·by_cases h2 : j < b.length ∧ (i < a.length → cx (ed a i) (ed b j) < 0)
   ·have ep : path a b (d + 1) i j = V a b i (j + 1) :: path a b d i (j + 1) := by
     conv => lhs; unfold path
     rw [if_neg h1, if_pos h2]
    have ni := (take_b ca cb hS h h2.1 h2.2).2
    obtain ⟨U, w⟩ := ih i (j + 1) ni (by omega)
    refine ⟨(ed b j, 0, 1) :: U, List.Pairwise.cons (fun e he => ?_) w.ord, fun e he => ?_, fun e he => ?_, ?_, ?_, ?_, ?_, ?_, ?_, ?_⟩
    ·have := (w.bef e he).2 (by omega); rwa [Nat.add_sub_cancel] at this
    ·have fb : 0 < j → Bf p q (ed b (j - 1)) (ed b j) := fun h0 => by
      have := cb.sorted (j - 1) (by omega); rwa [show j - 1 + 1 = j by omega] at this
     have fa : 0 < i → Bf p q (ed a (i - 1)) (ed b j) := fun h0 => h.2.2.2 h2.1 h0
     rcases List.mem_cons.mp he with r | he
     ·subst r; exact ⟨fa, fb⟩
     ·have g := (w.bef e he).2 (by omega)
      rw [Nat.add_sub_cancel] at g
      exact ⟨fun h0 => (fa h0).trans g, fun h0 => (fb h0).trans g⟩
    ·rcases List.mem_cons.mp he with r | he
     ·subst r; dsimp only [X, Y]; omega
     ·exact w.pos e he
    all_goals
     have x0 := w.sx0
     have x1 := w.sx1
     have y0 := w.sy0
     have y1 := w.sy1
     have z0 : (V a b i (j + 1)).f0 = (V a b i j).f0 + (ed b j).f0 := by unfold V plus ed vec; dsimp only; omega
     have z1 : (V a b i (j + 1)).f1 = (V a b i j).f1 + (ed b j).f1 := by unfold V plus ed vec; dsimp only; omega
     have p0 : (P b (j + 1)).f0 = (P b j).f0 + (ed b j).f0 := by unfold ed vec; dsimp only; omega
     have p1 : (P b (j + 1)).f1 = (P b j).f1 + (ed b j).f1 := by unfold ed vec; dsimp only; omega
    ·simp only [s0, X]; omega
    ·simp only [s1, X]; omega
    ·simp only [s0, Y]; omega
    ·simp only [s1, Y]; omega
    ·have az := w.az
     rw [ep, par]
     simp only [s0, s1, Bq, Z, X, Y, cx] at az ⊢
     rw [z0, z1] at az ⊢
     grind
    ·have ax := w.ax
     simp only [s0, s1, Bq, X] at ax ⊢
     grind
    ·have ay := w.ay
     rw [show b.length - j = (b.length - (j + 1)) + 1 by omega, arA]
     simp only [s0, s1, Bq, Y, cx] at ay ⊢
     rw [p0, p1] at ay ⊢
     grind
   ·by_cases h3 : i < a.length ∧ j < b.length
    ·have hc : cx (ed a i) (ed b j) = 0 := by
      rcases Int.lt_trichotomy (cx (ed a i) (ed b j)) 0 with x | x | x
      ·exact absurd ⟨h3.2, fun _ => x⟩ h2
      ·exact x
      ·exact absurd ⟨h3.1, fun _ => x⟩ h1
     have ep : path a b (d + 1) i j = V a b (i + 1) (j + 1) :: path a b d (i + 1) (j + 1) := by
      conv => lhs; unfold path
      rw [if_neg h1, if_neg h2, if_pos h3]
     have ni := (take_ab ca cb hS h h3.1 h3.2 hc).2
     obtain ⟨g, x, y, hx, hy, e0, e1, f0, f1⟩ := common p q _ (ed a i) (ed b j) (Nat.le_refl _) hc ((cmp3 ca cb h h3.1 h3.2).2.2 hc)
     obtain ⟨U, w⟩ := ih (i + 1) (j + 1) ni (by omega)
     refine ⟨(g, x, y) :: U, List.Pairwise.cons (fun e he => ?_) w.ord, fun e he => ?_, fun e he => ?_, ?_, ?_, ?_, ?_, ?_, ?_, ?_⟩
     ·have := (w.bef e he).2 (by omega)
      rw [Nat.add_sub_cancel] at this
      exact this.left hy f0 f1
     ·have fa : 0 < i → Bf p q (ed a (i - 1)) g := fun h0 => by
       have := ca.sorted (i - 1) (by omega)
       rw [show i - 1 + 1 = i by omega] at this
       exact this.right hx e0 e1
      have fb : 0 < j → Bf p q (ed b (j - 1)) g := fun h0 => by
       have := cb.sorted (j - 1) (by omega)
       rw [show j - 1 + 1 = j by omega] at this
       exact this.right hy f0 f1
      rcases List.mem_cons.mp he with r | he
      ·subst r; exact ⟨fa, fb⟩
      ·have k := (w.bef e he).2 (by omega)
       rw [Nat.add_sub_cancel] at k
       have k2 := k.left hy f0 f1
       exact ⟨fun h0 => (fa h0).trans k2, fun h0 => (fb h0).trans k2⟩
     ·rcases List.mem_cons.mp he with r | he
      ·subst r; dsimp only [X, Y]; omega
      ·exact w.pos e he
     all_goals
      have x0 := w.sx0
      have x1 := w.sx1
      have y0 := w.sy0
      have y1 := w.sy1
      have p0 : (P a (i + 1)).f0 = (P a i).f0 + x * g.f0 := by rw [← e0]; unfold ed vec; dsimp only; omega
      have p1 : (P a (i + 1)).f1 = (P a i).f1 + x * g.f1 := by rw [← e1]; unfold ed vec; dsimp only; omega
      have q0 : (P b (j + 1)).f0 = (P b j).f0 + y * g.f0 := by rw [← f0]; unfold ed vec; dsimp only; omega
      have q1 : (P b (j + 1)).f1 = (P b j).f1 + y * g.f1 := by rw [← f1]; unfold ed vec; dsimp only; omega
      have z0 : (V a b (i + 1) (j + 1)).f0 = (V a b i j).f0 + (x * g.f0 + y * g.f0) := by unfold V plus; dsimp only; omega
      have z1 : (V a b (i + 1) (j + 1)).f1 = (V a b i j).f1 + (x * g.f1 + y * g.f1) := by unfold V plus; dsimp only; omega
     ·simp only [s0, X] at x0 ⊢; omega
     ·simp only [s1, X] at x1 ⊢; omega
     ·simp only [s0, Y] at y0 ⊢; omega
     ·simp only [s1, Y] at y1 ⊢; omega
     ·have az := w.az
      rw [ep, par]
      simp only [s0, s1, Bq, Z, X, Y, cx] at az ⊢
      rw [z0, z1] at az ⊢
      grind
     ·have ax := w.ax
      rw [show a.length - i = (a.length - (i + 1)) + 1 by omega, arA]
      simp only [s0, s1, Bq, X, cx] at ax ⊢
      rw [p0, p1] at ax ⊢
      grind
     ·have ay := w.ay
      rw [show b.length - j = (b.length - (j + 1)) + 1 by omega, arA]
      simp only [s0, s1, Bq, Y, cx] at ay ⊢
      rw [q0, q1] at ay ⊢
      grind
    ·have e1 : i = a.length := by
      have := h.1
      rcases Nat.lt_or_ge i a.length with x | x
      ·exact absurd ⟨x, fun hj => absurd ⟨x, hj⟩ h3⟩ h1
      ·omega
     have e2 : j = b.length := by
      have := h.2.1
      rcases Nat.lt_or_ge j b.length with x | x
      ·exact absurd ⟨x, fun hi => absurd ⟨hi, x⟩ h3⟩ h2
      ·omega
     subst e1; subst e2; exact done (d + 1)
theorem brunn (ca : Cvx p q a) (cb : Cvx p q b) (hS : Sums a b S) : ∃ t, Ring S (V a b 0 0 :: t) ∧ 0 ≤ area (V a b 0 0 :: t) - area a - area b ∧ 4 * area a * area b ≤ (area (V a b 0 0 :: t) - area a - area b) * (area (V a b 0 0 :: t) - area a - area b) := by
 obtain ⟨t, e, ring, hl⟩ := sum_ring ca cb hS
 refine ⟨t, ring, ?_⟩
 have h : Inv p q a b 0 0 := ⟨Nat.zero_le _, Nat.zero_le _, fun _ h => absurd h (by omega), fun _ h => absurd h (by omega)⟩
 obtain ⟨U, w⟩ := way ca cb hS (a.length + b.length) 0 0 h (by omega)
 have cX : Clo X U := ⟨by rw [w.sx0, P_len]; omega, by rw [w.sx1, P_len]; omega⟩
 have cY : Clo Y U := ⟨by rw [w.sy0, P_len]; omega, by rw [w.sy1, P_len]; omega⟩
 have cyc := cyc_of_bf w.ord
 have I := ineq_all U.length U rfl ⟨w.pos, cX, cY, cyc⟩
 have N := Bq_nonneg (f := X) (g := Y) (fun e he => (w.pos e he).1) (fun e he => (w.pos e he).2) cX cY cyc
 have sz0 : s0 Z U = 0 := by
  have := s0_lin X Y 1 1 U
  have e : s0 Z U = s0 (fun e => 1 * X e + 1 * Y e) U := by congr 1; funext e; unfold Z; omega
  rw [e, this, cX.1, cY.1]; omega
 have sz1 : s1 Z U = 0 := by
  have := s1_lin X Y 1 1 U
  have e : s1 Z U = s1 (fun e => 1 * X e + 1 * Y e) U := by congr 1; funext e; unfold Z; omega
  rw [e, this, cX.2, cY.2]; omega
 have bz : Bq Z Z U = Bq X X U + 2 * Bq X Y U + Bq Y Y U := by
  have e : Z = fun e => 1 * X e + 1 * Y e := by funext e; unfold Z; omega
  have k1 : Bq Z Z U = 1 * Bq X Z U + 1 * Bq Y Z U := by
   conv => lhs; arg 1; rw [e]
   exact Bq_lin X Y Z 1 1 U
  have k2 : Bq X Z U = 1 * Bq X X U + 1 * Bq Y X U := by
   rw [Bq_comm]
   conv => lhs; arg 1; rw [e]
   exact Bq_lin X Y X 1 1 U
  have k3 : Bq Y Z U = 1 * Bq X Y U + 1 * Bq Y Y U := by
   rw [Bq_comm]
   conv => lhs; arg 1; rw [e]
   exact Bq_lin X Y Y 1 1 U
  rw [k1, k2, k3, Bq_comm Y X]; omega
 have az := w.az
 have ax := w.ax
 have ay := w.ay
 rw [sz0, sz1, bz] at az
 rw [cX.1, cX.2] at ax
 rw [cY.1, cY.2] at ay
 have a1 : arA a a.length 0 = area a := by have := arA_area a a.length 0 (by omega); rw [Nat.zero_add] at this; unfold area; rw [← this]; simp [areaTo]
 have b1 : arA b b.length 0 = area b := by have := arA_area b b.length 0 (by omega); rw [Nat.zero_add] at this; unfold area; rw [← this]; simp [areaTo]
 have z1 : par (V a b 0 0 :: path a b (a.length + b.length) 0 0) = area (V a b 0 0 :: t) := by
  rw [e]
  have k := par_area (V a b 0 0) (V a b 0 0 :: t) (V a b 0 0 :: t) 0 (by simp) rfl rfl
  have k2 := arA_area (V a b 0 0 :: t) (V a b 0 0 :: t).length 0 (by omega)
  rw [Nat.zero_add] at k2
  rw [List.cons_append] at k
  rw [k]; unfold area; rw [← k2]; simp [areaTo]
 rw [z1] at az
 rw [Nat.sub_zero, a1] at ax
 rw [Nat.sub_zero, b1] at ay
 unfold Ineq at I
 have m : area (V a b 0 0 :: t) - area a - area b = Bq X Y U := by omega
 have x : Bq X X U = 2 * area a := by omega
 have y : Bq Y Y U = 2 * area b := by omega
 rw [m]
 refine ⟨N, ?_⟩
 rw [x, y] at I
 have k : 2 * area a * (2 * area b) = 4 * area a * area b := by grind
 omega
end
end Go.Proofs.Ytoffmpkgickfhaa.M
end
section
namespace Go.Proofs.Ytoffmpkgickfhaa.M
open Go.RowKit Go.Proofs.Ytoffmpkgickfhaa.PG Go.Proofs.YtoffmpkgickfhaaW.PrintMore Go.Proofs.YtoffmpkgickfhaaW.PrintWords
theorem href_l1 {l : List Pt} (hb : ∀ p ∈ l, Bd p) (hN : l.length ≤ 1000000) {i : Nat} (hi : i < l.length) (m : Pt) :
  ∀ d j b, l.length = j + d → ∃ c, (c = true ↔ b = true ∧ ∀ j', j ≤ j' → j' < l.length → cr (at_ l 0) (at_ l i) (at_ l j') = 0) ∧ ∀ v, Rt (fun k => cracknelref04_Hull.l0 k l c ((i + 1 : Nat) : Int) m.f0 m.f1) v → Rt (fun k => cracknelref04_Hull.l1 k l b (i : Int) (j : Int) m.f0 m.f1) v := by
 intro d
 induction d with
 | zero =>
  intro j b hj
  refine ⟨b, ⟨fun h => ⟨h, fun j' h1 h2 => by omega⟩, fun h => h.1⟩, fun v hv => rt_step (fun k => ?_) hv⟩
  rw [cracknelref04_Hull.l1, if_neg (by omega), wrap_succ i (by omega)]
 | succ d ih =>
  intro j b hj
  have hlt : j < l.length := by omega
  cases b with
  | false =>
   refine ⟨false, by simp, fun v hv => rt_step (fun k => ?_) hv⟩
   rw [cracknelref04_Hull.l1, if_pos (by omega), if_neg (by simp), wrap_succ i (by omega)]
  | true =>
   obtain ⟨c, hc, hr⟩ := ih (j + 1) (decide (cr (at_ l 0) (at_ l i) (at_ l j) = 0)) (by omega)
   refine ⟨c, ?_, fun v hv => rt_step (fun k => ?_) (hr v hv)⟩
   ·rw [hc, from_split hlt, decide_eq_true_eq]; exact ⟨fun h => ⟨rfl, h⟩, fun h => h.2⟩
   ·rw [cracknelref04_Hull.l1, if_pos (by omega), if_pos rfl, if_pos (by omega), if_pos (by omega), if_pos (by omega), if_pos (by omega), show rd_T29 l 0 = at_ l 0 from rfl, rd_at, rd_at, Cross_f (at_bd hb (by omega)) (at_bd hb hi) (at_bd hb hlt), Option.bind_some, wrap_succ j (by omega)]
    rfl
theorem href_l0 {l : List Pt} (hb : ∀ p ∈ l, Bd p) (hN : l.length ≤ 1000000) :
  ∀ d i (m : Pt) b, l.length = i + d → ∃ r c, (c = true ↔ b = true ∧ ∀ i', i ≤ i' → i' < l.length → ∀ j, j < l.length → cr (at_ l 0) (at_ l i') (at_ l j) = 0) ∧ (r = m ∨ ∃ j, i ≤ j ∧ j < l.length ∧ r = at_ l j) ∧ ¬ first m r ∧ (∀ j, i ≤ j → j < l.length → ¬ first (at_ l j) r) ∧
   ∀ v, Rt (fun k => cracknelref04_Hull.l0 k l c (l.length : Int) r.f0 r.f1) v → Rt (fun k => cracknelref04_Hull.l0 k l b (i : Int) m.f0 m.f1) v := by
 intro d
 induction d with
 | zero =>
  intro i m b hi
  refine ⟨m, b, ⟨fun h => ⟨h, fun i' h1 h2 => by omega⟩, fun h => h.1⟩, Or.inl rfl, first_irrefl m, fun j h1 h2 => by omega, fun v hv => ?_⟩
  rw [show i = l.length by omega]; exact hv
 | succ d ih =>
  intro i m b hi
  have hlt : i < l.length := by omega
  by_cases h : first (at_ l i) m
  ·obtain ⟨c1, hc1, hr1⟩ := href_l1 hb hN hlt (at_ l i) l.length 0 b (by omega)
   obtain ⟨r, c, hc, h1, h2, h3, hr⟩ := ih (i + 1) (at_ l i) c1 (by omega)
   refine ⟨r, c, ?_, ?_, ?_, ?_, fun v hv => rt_step (h := fun k => cracknelref04_Hull.j1 k l b (i : Int) (at_ l i).f0 (at_ l i).f1) (fun k => ?_) (rt_step (fun k => ?_) (hr1 v (hr v hv)))⟩
   rotate_left 4
   ·rw [cracknelref04_Hull.l0, if_pos (by omega), if_pos (by omega), rd_at, first_f, Option.bind_some, if_pos (by simpa using h)]
   ·rw [cracknelref04_Hull.j1]; rfl
   ·rw [hc, hc1, from_split hlt, and_assoc]
    exact ⟨fun h => ⟨h.1, fun j hj => h.2.1 j (Nat.zero_le _) hj, h.2.2⟩, fun h => ⟨h.1, fun j _ hj => h.2.1 j hj, h.2.2⟩⟩
   ·right
    rcases h1 with h1 | ⟨j, h4, h5, h6⟩
    ·exact ⟨i, Nat.le_refl _, hlt, h1⟩
    ·exact ⟨j, by omega, h5, h6⟩
   ·exact fun h4 => h2 (first_trans h h4)
   ·intro j h4 h5
    rcases Nat.eq_or_lt_of_le h4 with rfl | h6
    ·exact h2
    ·exact h3 j h6 h5
  ·obtain ⟨c1, hc1, hr1⟩ := href_l1 hb hN hlt m l.length 0 b (by omega)
   obtain ⟨r, c, hc, h1, h2, h3, hr⟩ := ih (i + 1) m c1 (by omega)
   refine ⟨r, c, ?_, ?_, h2, ?_, fun v hv => rt_step (h := fun k => cracknelref04_Hull.j1 k l b (i : Int) m.f0 m.f1) (fun k => ?_) (rt_step (fun k => ?_) (hr1 v (hr v hv)))⟩
   rotate_left 3
   ·rw [cracknelref04_Hull.l0, if_pos (by omega), if_pos (by omega), rd_at, first_f, Option.bind_some, if_neg (by simpa using h)]
   ·rw [cracknelref04_Hull.j1]; rfl
   ·rw [hc, hc1, from_split hlt, and_assoc]
    exact ⟨fun h => ⟨h.1, fun j hj => h.2.1 j (Nat.zero_le _) hj, h.2.2⟩, fun h => ⟨h.1, fun j _ hj => h.2.1 j hj, h.2.2⟩⟩
   ·rcases h1 with h1 | ⟨j, h4, h5, h6⟩
    ·exact Or.inl h1
    ·exact Or.inr ⟨j, by omega, h5, h6⟩
   ·intro j h4 h5
    rcases Nat.eq_or_lt_of_le h4 with rfl | h6
    ·intro h7
     rcases first_tri m r with e | e | e
     ·rw [e] at h; exact h h7
     ·exact h2 e
     ·exact h (first_trans h7 e)
    ·exact h3 j h6 h5
theorem drop_at {l : List Pt} {i : Nat} (h : i < l.length) : l.drop i = at_ l i :: l.drop (i + 1) := by
 rw [at_eq h]; exact List.drop_eq_getElem_cons h
theorem wrapStep_bd {o t p : Pt} (ht : Bd t) (hp : Bd p) : Bd (wrapStep o t p) := by
 unfold wrapStep; split
 ·exact ht
 ·split
  ·exact hp
  ·exact ht
theorem href_l3 {l : List Pt} (hb : ∀ p ∈ l, Bd p) (hN : l.length ≤ 1000000) (x : List Pt) (low o : Pt) (ho : Bd o) :
  ∀ d i t, l.length = i + d → Bd t → ∀ v, Rt (fun k => cracknelref04_Hull.l3 k l x (l.length : Int) low.f0 low.f1 o.f0 o.f1 ((l.drop i).foldl (wrapStep o) t).f0 ((l.drop i).foldl (wrapStep o) t).f1) v →
   Rt (fun k => cracknelref04_Hull.l3 k l x (i : Int) low.f0 low.f1 o.f0 o.f1 t.f0 t.f1) v := by
 intro d
 induction d with
 | zero =>
  intro i t hi _ v hv
  rw [List.drop_of_length_le (by omega), List.foldl_nil] at hv
  rw [show i = l.length by omega]; exact hv
 | succ d ih =>
  intro i t hi ht v hv
  have hlt : i < l.length := by omega
  have hp := at_bd hb hlt
  rw [drop_at hlt, List.foldl_cons] at hv
  have h := ih (i + 1) (wrapStep o t (at_ l i)) (by omega) (wrapStep_bd ht hp) v hv
  have e : wrapStep o t (at_ l i) = if at_ l i = o then t else if t = o ∨ cr o t (at_ l i) < 0 ∨ (cr o t (at_ l i) = 0 ∧ cr o (at_ l i) t = 0 ∧ btw o (at_ l i) t) then at_ l i else t := rfl
  by_cases h1 : at_ l i = o
  ·rw [if_pos h1] at e; rw [e] at h
   refine rt_step (fun k => ?_) h
   rw [cracknelref04_Hull.l3, if_pos (by omega), if_pos (by omega), rd_at, pt_beq, if_pos (by simpa using h1), wrap_succ i (by omega)]
  ·rw [if_neg h1] at e
   have s0 : ∀ k, cracknelref04_Hull.l3 (k + 1) l x (i : Int) low.f0 low.f1 o.f0 o.f1 t.f0 t.f1 = cracknelref04_Hull.j5 k l x (i : Int) (decide (t = o ∨ cr o t (at_ l i) < 0 ∨ (cr o t (at_ l i) = 0 ∧ cr o (at_ l i) t = 0 ∧ btw o (at_ l i) t))) low.f0 low.f1 o.f0 o.f1 t.f0 t.f1 (at_ l i).f0 (at_ l i).f1 := by
    intro k
    rw [cracknelref04_Hull.l3, if_pos (by omega), if_pos (by omega), rd_at, pt_beq, if_neg (by simpa using h1), Cross_f ho ht hp, Option.bind_some, pt_beq]
    by_cases h2 : t = o
    ·rw [if_pos (by simpa using h2)]; simp only [h2, true_or, decide_true]
    ·rw [if_neg (by simpa using h2)]
     by_cases h3 : cr o t (at_ l i) < 0
     ·rw [if_pos h3]; simp only [h3, true_or, or_true, decide_true]
     ·rw [if_neg h3]
      by_cases h4 : cr o t (at_ l i) = 0
      ·rw [if_pos h4, On_f ho hp ht, Option.bind_some]
       rw [show decide (On o (at_ l i) t) = decide (t = o ∨ cr o t (at_ l i) < 0 ∨ (cr o t (at_ l i) = 0 ∧ cr o (at_ l i) t = 0 ∧ btw o (at_ l i) t)) from by
        rw [decide_eq_decide]; unfold On
        exact ⟨fun h => Or.inr (Or.inr ⟨h4, h⟩), fun h => by
         rcases h with h | h | h
         ·exact absurd h h2
         ·exact absurd h h3
         ·exact h.2⟩]
      ·rw [if_neg h4]
       rw [show decide (t = o ∨ cr o t (at_ l i) < 0 ∨ (cr o t (at_ l i) = 0 ∧ cr o (at_ l i) t = 0 ∧ btw o (at_ l i) t)) = false from by
        rw [decide_eq_false_iff_not]
        rintro (h | h | h)
        ·exact h2 h
        ·exact h3 h
        ·exact h4 h.1]
   by_cases h5 : (t = o ∨ cr o t (at_ l i) < 0 ∨ (cr o t (at_ l i) = 0 ∧ cr o (at_ l i) t = 0 ∧ btw o (at_ l i) t))
   ·rw [if_pos h5] at e; rw [e] at h
    refine rt_step s0 (rt_step (fun k => ?_) h)
    rw [cracknelref04_Hull.j5, if_pos (by simpa using h5), wrap_succ i (by omega)]
   ·rw [if_neg h5] at e; rw [e] at h
    refine rt_step s0 (rt_step (fun k => ?_) h)
    rw [cracknelref04_Hull.j5, if_neg (by simpa using h5), wrap_succ i (by omega)]
theorem around_last (S : List Pt) : ∀ n o x, (around S n o).getLast? = some x → around S (n + 1) o = around S n o ++ [wrap S x] := by
 intro n
 induction n with
 | zero => intro o x h; simp [around] at h ⊢; rw [h]
 | succ n ih =>
  intro o x h
  have e : around S (n + 1) o = o :: around S n (wrap S o) := rfl
  have ne : around S n (wrap S o) ≠ [] := by cases n <;> simp [around]
  rw [e, List.getLast?_cons_of_ne_nil ne] at h
  have := ih (wrap S o) x h
  show o :: around S (n + 1) (wrap S o) = _
  rw [this]; rfl
theorem around_len (S : List Pt) : ∀ n o, (around S n o).length = n + 1 := by
 intro n
 induction n with
 | zero => intro o; rfl
 | succ n ih => intro o; show (around S n (wrap S o)).length + 1 = _; rw [ih]
theorem foldl_bd {S : List Pt} {o : Pt} : ∀ (l : List Pt) (t : Pt), (∀ p ∈ l, p ∈ S) → t ∈ S → l.foldl (wrapStep o) t ∈ S := by
 intro l
 induction l with
 | nil => intro t _ h; exact h
 | cons a l ih =>
  intro t h ht
  rw [List.foldl_cons]
  refine ih _ (fun p hp => h p (List.mem_cons_of_mem _ hp)) ?_
  unfold wrapStep; split
  ·exact ht
  ·split
   ·exact h a (List.mem_cons_self)
   ·exact ht
theorem wrap_mem {S : List Pt} {o : Pt} (h : o ∈ S) : wrap S o ∈ S := foldl_bd S o (fun _ h => h) h
theorem around_mem {S : List Pt} : ∀ n o, o ∈ S → ∀ p ∈ around S n o, p ∈ S := by
 intro n
 induction n with
 | zero => intro o h p hp; simp [around] at hp; rw [hp]; exact h
 | succ n ih =>
  intro o h p hp
  have hp : p = o ∨ p ∈ around S n (wrap S o) := by simpa [around] using hp
  rcases hp with rfl | hp
  ·exact h
  ·exact ih _ (wrap_mem h) p hp
theorem last_at {x : List Pt} {y : Pt} (h : x.getLast? = some y) : 0 < x.length ∧ at_ x (x.length - 1) = y := by
 cases x with
 | nil => simp at h
 | cons a t =>
  refine ⟨by simp, ?_⟩
  rw [List.getLast?_eq_getElem?] at h
  rw [at_eq (by simp)]
  have := List.getElem?_eq_some_iff.mp h
  exact this.2
theorem href_l2 {l : List Pt} (hb : ∀ p ∈ l, Bd p) (hN : l.length ≤ 1000000) {low : Pt} (hlow : low ∈ l) {n : Nat} (hn : n < l.length) (hend : ∃ x, (around l n low).getLast? = some x ∧ wrap l x = low) (hmid : ∀ m, m < n → ∃ x, (around l m low).getLast? = some x ∧ wrap l x ≠ low) :
  ∀ d m, n = m + d → Rt (fun k => cracknelref04_Hull.l2 k l (around l m low) low.f0 low.f1) (around l n low, true) := by
 intro d
 have step : ∀ m, m ≤ n → ∀ x, (around l m low).getLast? = some x → ∀ v, Rt (fun k => cracknelref04_Hull.l3 k l (around l m low) (l.length : Int) low.f0 low.f1 x.f0 x.f1 (wrap l x).f0 (wrap l x).f1) v → Rt (fun k => cracknelref04_Hull.l2 k l (around l m low) low.f0 low.f1) v := by
  intro m hm x hx v hv
  obtain ⟨h0, h1⟩ := last_at hx
  have hlen := around_len l m low
  have hxl : x ∈ l := around_mem m low hlow x (List.mem_of_getLast? hx)
  have := href_l3 hb hN (around l m low) low x (hb x hxl) l.length 0 x (by omega) (hb x hxl) v hv
  refine rt_step (fun k => ?_) this
  rw [cracknelref04_Hull.l2, wz _ (by omega) (by omega), show (((around l m low).length : Int) - 1) = (((around l m low).length - 1 : Nat) : Int) by omega, if_pos (by omega), if_pos (by omega), rd_at, h1]
  rfl
 induction d with
 | zero =>
  intro m hm
  obtain ⟨x, hx, hw⟩ := hend
  obtain rfl : n = m := by omega
  refine step n (Nat.le_refl _) x hx _ (rt_ret fun k => ?_)
  rw [cracknelref04_Hull.l3, if_neg (by omega), hw, pt_beq, if_pos (by simp)]
 | succ d ih =>
  intro m hm
  obtain ⟨x, hx, hw⟩ := hmid m (by omega)
  have hlen := around_len l m low
  refine step m (by omega) x hx _ (rt_step (fun k => ?_) (ih (m + 1) (by omega)))
  rw [cracknelref04_Hull.l3, if_neg (by omega), pt_beq, if_neg (by simpa using hw), if_pos (by omega), around_last l m low x hx]
theorem refHull_run {l : List Pt} (hb : ∀ p ∈ l, Bd p) (hN : l.length ≤ 1000000) (h0 : 0 < l.length) :
  (Flat l → Rt (fun k => cracknelref04_Hull.f k l) ([], false)) ∧ (¬ Flat l → ∃ h, Rt (fun k => cracknelref04_Hull.f k l) (h, true) ∧ Ring l h ∧ ∀ p ∈ l, p = at_ h 0 ∨ first (at_ h 0) p) := by
 obtain ⟨r, c, hc, h1, h2, h3, hr⟩ := href_l0 hb hN l.length 0 (at_ l 0) true (by omega)
 have hfl : c = true ↔ Flat l := by
  rw [hc]
  constructor
  ·rintro ⟨_, h⟩
   refine flat_of_first (o := at_ l 0) fun a ha b hb' => ?_
   obtain ⟨i, hi, rfl⟩ := List.mem_iff_getElem.mp ha
   obtain ⟨j, hj, rfl⟩ := List.mem_iff_getElem.mp hb'
   rw [← at_eq hi, ← at_eq hj]
   exact h i (Nat.zero_le _) hi j hj
  ·intro h
   exact ⟨rfl, fun i _ hi j hj => h _ (at_mem h0) _ (at_mem hi) _ (at_mem hj)⟩
 have hrm : r ∈ l := by
  rcases h1 with rfl | ⟨j, _, hj, rfl⟩
  ·exact at_mem h0
  ·exact at_mem hj
 have hmin : ∀ p ∈ l, p = r ∨ first r p := by
  intro p hp
  obtain ⟨j, hj, rfl⟩ := List.mem_iff_getElem.mp hp
  have := h3 j (Nat.zero_le _) hj
  rw [at_eq hj] at this
  rcases first_tri l[j] r with e | e | e
  ·exact Or.inl e
  ·exact absurd e this
  ·exact Or.inr e
 have start : ∀ v, Rt (fun k => cracknelref04_Hull.l0 k l true 0 (at_ l 0).f0 (at_ l 0).f1) v → Rt (fun k => cracknelref04_Hull.f k l) v := by
  rintro v ⟨K, hK⟩
  refine ⟨K, fun k hk => ?_⟩
  have := hK k hk
  unfold cracknelref04_Hull.f
  dsimp only at this ⊢
  rw [if_pos (by omega)]; exact this
 refine ⟨fun hf => start _ (hr _ (rt_ret fun k => ?_)), fun hf => ?_⟩
 ·rw [cracknelref04_Hull.l0, if_neg (by omega), if_pos (hfl.mpr hf)]
 ·obtain ⟨n, hn, ring, hend, hmid⟩ := ring_around hrm hmin (two_of_not_flat hf)
  refine ⟨around l n r, start _ (hr _ (rt_step (fun k => ?_) (href_l2 hb hN hrm hn hend hmid n 0 (by omega)))), ring, ?_⟩
  ·rw [cracknelref04_Hull.l0, if_neg (by omega), if_neg (fun h => hf (hfl.mp h))]; rfl
  ·have : at_ (around l n r) 0 = r := by cases n <;> rfl
   rw [this]; exact hmin
theorem ring_sub {S h : List Pt} (r : Ring S h) : ∀ p ∈ h, p ∈ S := by
 intro p hp
 obtain ⟨j, hj, rfl⟩ := List.mem_iff_getElem.mp hp
 rw [← at_eq hj]; exact (ring_corner r j hj).2
theorem ring_nodup {S h : List Pt} (r : Ring S h) : h.Nodup := by
 unfold List.Nodup
 rw [List.pairwise_iff_getElem]
 intro i j hi hj hij e
 rw [← at_eq hi, ← at_eq hj] at e
 have := ring_inj r i j hi hj e
 omega
end Go.Proofs.Ytoffmpkgickfhaa.M
end
section
namespace Go.Proofs.Ytoffmpkgickfhaa.M
open Go.RowKit Go.Proofs.Ytoffmpkgickfhaa.PG Go.Proofs.YtoffmpkgickfhaaW.PrintMore Go.Proofs.YtoffmpkgickfhaaW.PrintWords
theorem pairs_sub {S h : List Pt} (hS : ∀ p ∈ h, p ∈ S) : ∀ l : List Pt, (∀ p ∈ l, p ∈ h) → Pairs (HE S) l → Pairs (HE h) l
 | [], _, _ => trivial
 | [_], _, _ => trivial
 | a :: b :: l, hm, hp => by
  refine ⟨?_, pairs_sub hS (b :: l) (fun p h => hm p (List.mem_cons_of_mem _ h)) hp.2⟩
  obtain ⟨n, _, _, L⟩ := hp.1
  exact ⟨n, hm a (by simp), hm b (by simp), fun p h => L p (hS p h)⟩
theorem ring_self {S h : List Pt} (r : Ring S h) : Ring h h := by
 have hs := ring_sub r
 obtain ⟨a, t, e, n, p⟩ := r
 refine ⟨a, t, e, n, pairs_sub hs _ (fun x hx => ?_) p⟩
 rw [e]
 have : x = a ∨ x ∈ t ∨ x = a := by simpa using hx
 rcases this with h1 | h1 | h1
 ·rw [h1]; simp
 ·exact List.mem_cons_of_mem _ h1
 ·rw [h1]; simp
theorem first_at {S h : List Pt} (r : Ring S h) (h0 : 0 < h.length) (hf : ∀ p ∈ S, p = at_ h 0 ∨ first (at_ h 0) p) : ∀ k, k < h.length → k = 0 ∨ first (at_ h 0) (at_ h k) := by
 intro k hk
 rcases hf _ (ring_sub r _ (at_mem hk)) with e | e
 ·exact Or.inl (ring_inj r k 0 hk h0 e)
 ·exact Or.inr e
theorem ring_len {S h : List Pt} (r : Ring S h) : h.length ≤ S.length := length_le_of_nodup (ring_nodup r) (ring_sub r)
theorem ring_not_flat {S h : List Pt} (r : Ring S h) (hf : ¬ Flat S) : ¬ Flat h := by
 intro h1
 have := flat_ring (ring_self r) h1
 have := ring_three r hf
 omega
theorem ring_convex {S h : List Pt} (r : Ring S h) (hf : ¬ Flat S) (hm : ∀ p ∈ S, p = at_ h 0 ∨ first (at_ h 0) p) : Convex h := by
 have h3 := ring_three r hf
 exact strong_convex h3 (ring_strong r) (fun i hi h0 => (first_at r (by omega) hm i hi).resolve_left (by omega))
theorem refused_normal {r : List Pt} (hl : r.length ≤ 1000000) (hp : Poly r) (hs : Convex r) : Rt (fun k => shape_refused_normal.f k r) 0 := by
 obtain ⟨b, ⟨K, h⟩, i⟩ := normal_run (fun p h => in_bd (hp.2.2 p h)) hp.1 hl
 refine ⟨K, fun k hk => ?_⟩
 have a := h k hk
 dsimp only at a ⊢
 unfold shape_refused_normal.f
 rw [polygon_f, Option.bind_some, if_pos (by simpa using hp), a, Option.bind_some, if_pos (i.mpr hs)]
theorem not_flat3 (r : List Pt) : ¬ Flat (r ++ [(⟨0, 0⟩ : S29), (⟨1, 0⟩ : S29), (⟨0, 1⟩ : S29)]) := by
 intro h
 have := h ⟨0, 0⟩ (by simp) ⟨1, 0⟩ (by simp) ⟨0, 1⟩ (by simp)
 rw [cr_eq] at this
 simp at this
end Go.Proofs.Ytoffmpkgickfhaa.M
end
section
namespace Go.Proofs.Ytoffmpkgickfhaa.M
open Go.RowKit Go.Proofs.Ytoffmpkgickfhaa.PG Go.Proofs.YtoffmpkgickfhaaW.PrintMore Go.Proofs.YtoffmpkgickfhaaW.PrintWords
theorem P_bd {l : List Pt} (hb : ∀ p ∈ l, Bd p) (h0 : 0 < l.length) (i : Nat) : Bd (P l i) := hb _ (at_mem (Nat.mod_lt _ h0))
theorem edge_f {l : List Pt} (hb : ∀ p ∈ l, Bd p) (hN : l.length ≤ 1000000) {i : Nat} (hi : i < l.length) : shape_Sum_1.f l (i : Int) = some ((ed l i).f0, (ed l i).f1) := by
 have t1 := tmod_in (i + 1) l.length (by omega)
 have h1 := P_bd hb (by omega) i
 have h2 := P_bd hb (by omega) (i + 1)
 unfold shape_Sum_1.f
 rw [if_neg (by omega), tmod_nat i _ (by omega), if_pos (by omega), if_pos (by omega), if_pos (by omega), if_pos (by omega), rd_at, rd_at]
 rw [show at_ l ((i + 1) % l.length) = P l (i + 1) from rfl, ← P_lt hi, sub_f h2 h1, Option.bind_some]; rfl
theorem ed_bd {l : List Pt} (hb : ∀ p ∈ l, Bd p) (h0 : 0 < l.length) (i : Nat) : -2000000 ≤ (ed l i).f0 ∧ (ed l i).f0 ≤ 2000000 ∧ -2000000 ≤ (ed l i).f1 ∧ (ed l i).f1 ≤ 2000000 := by
 obtain ⟨a0, a1, a2, a3⟩ := P_bd hb h0 i
 obtain ⟨b0, b1, b2, b3⟩ := P_bd hb h0 (i + 1)
 unfold ed vec; dsimp only; omega
theorem cross_f {u v : Pt} (hu : -2000000 ≤ u.f0 ∧ u.f0 ≤ 2000000 ∧ -2000000 ≤ u.f1 ∧ u.f1 ≤ 2000000) (hv : -2000000 ≤ v.f0 ∧ v.f0 ≤ 2000000 ∧ -2000000 ≤ v.f1 ∧ v.f1 ≤ 2000000) : shape_cross.f u.f0 u.f1 v.f0 v.f1 = some (cx u v) := by
 have h1 := @mulb u.f0 v.f1 (by omega) (by omega) (by omega) (by omega)
 have h2 := @mulb u.f1 v.f0 (by omega) (by omega) (by omega) (by omega)
 unfold shape_cross.f
 rw [wz (u.f0 * v.f1) (by omega) (by omega), wz (u.f1 * v.f0) (by omega) (by omega), wz _ (by omega) (by omega)]; rfl
theorem snoc_last (x : List Pt) (v : Pt) : at_ (x ++ [v]) x.length = v := by
 rw [at_eq (by simp)]; simp
section
variable {a b : List Pt}
theorem sum_l1 (ha : ∀ p ∈ a, Bd p) (hb : ∀ p ∈ b, Bd p) (hn : 0 < a.length) (hm : 0 < b.length) (hN : a.length ≤ 100000) (hM : b.length ≤ 100000) :
  ∀ d i j (x : List Pt), i ≤ a.length → j ≤ b.length → (a.length - i) + (b.length - j) ≤ d → x.length ≤ i + j → Rt (fun k => shape_Sum.l1 k a b (x ++ [V a b i j]) (i : Int) (j : Int)) ((x ++ V a b i j :: path a b d i j).dropLast, 0) := by
 intro d
 have done : ∀ d (x : List Pt), x.length ≤ a.length + b.length → Rt (fun k => shape_Sum.l1 k a b (x ++ [V a b a.length b.length]) (a.length : Int) (b.length : Int)) ((x ++ V a b a.length b.length :: path a b d a.length b.length).dropLast, 0) := by
  intro d x hx
  have ep : path a b d a.length b.length = [] := by
   cases d with
   | zero => rfl
   | succ d => unfold path; rw [if_neg (by omega), if_neg (by omega), if_neg (by omega)]
  refine rt_step (h := fun k => shape_Sum.j2 k a b (x ++ [V a b a.length b.length]) (a.length : Int) (b.length : Int) false) (fun k => ?_) (rt_ret fun k => ?_)
  ·rw [shape_Sum.l1, if_neg (by omega), decide_eq_false (by omega)]
  ·have l1 : (((x ++ [V a b a.length b.length]).length : Nat) : Int) = (x.length : Int) + 1 := by simp
   rw [shape_Sum.j2, if_neg (by simp), l1, wz _ (by omega) (by omega), if_pos (by omega), if_pos (by omega), ep, List.dropLast_concat, show (x.length : Int) + 1 - 1 = (x.length : Int) by omega, Int.toNat_natCast]
   simp
 induction d with
 | zero =>
  intro i j x hi hj hd hx
  have e1 : i = a.length := by omega
  have e2 : j = b.length := by omega
  subst e1; subst e2
  exact done 0 x hx
 | succ d ih =>
  intro i j x hi hj hd hx
  by_cases hend : i = a.length ∧ j = b.length
  ·obtain ⟨e1, e2⟩ := hend
   subst e1; subst e2
   exact done (d + 1) x hx
  ·have hx1 : (((x ++ [V a b i j]).length : Nat) : Int) = (x.length : Int) + 1 := by simp
   obtain ⟨pa0, pa1, pa2, pa3⟩ := P_bd ha hn i
   obtain ⟨pa4, pa5, pa6, pa7⟩ := P_bd ha hn (i + 1)
   obtain ⟨pb0, pb1, pb2, pb3⟩ := P_bd hb hm j
   obtain ⟨pb4, pb5, pb6, pb7⟩ := P_bd hb hm (j + 1)
   have lastf : rd_T29 (x ++ [V a b i j]) (((x.length : Nat)) : Int) = V a b i j := by rw [rd_at, snoc_last]
   have addf : ∀ (u w : Pt), plus (V a b i j) u = w → -4000000 ≤ u.f0 → u.f0 ≤ 4000000 → -4000000 ≤ u.f1 → u.f1 ≤ 4000000 → shape_add.f (V a b i j).f0 (V a b i j).f1 u.f0 u.f1 = some (w.f0, w.f1) := by
    intro u w e h0 h1 h2 h3
    unfold shape_add.f
    have v0 : (V a b i j).f0 = (P a i).f0 + (P b j).f0 := rfl
    have v1 : (V a b i j).f1 = (P a i).f1 + (P b j).f1 := rfl
    rw [wz _ (by omega) (by omega), wz _ (by omega) (by omega), ← e]; rfl
   have eda0 : (ed a i).f0 = (P a (i + 1)).f0 - (P a i).f0 := rfl
   have eda1 : (ed a i).f1 = (P a (i + 1)).f1 - (P a i).f1 := rfl
   have edb0 : (ed b j).f0 = (P b (j + 1)).f0 - (P b j).f0 := rfl
   have edb1 : (ed b j).f1 = (P b (j + 1)).f1 - (P b j).f1 := rfl
   have fin : ∀ (c : Int), (0 ≤ c → i < a.length) → (c ≤ 0 → j < b.length) →
     (c > 0 → path a b (d + 1) i j = V a b (i + 1) j :: path a b d (i + 1) j) → (c < 0 → path a b (d + 1) i j = V a b i (j + 1) :: path a b d i (j + 1)) → (c = 0 → path a b (d + 1) i j = V a b (i + 1) (j + 1) :: path a b d (i + 1) (j + 1)) →
     Rt (fun k => shape_Sum.j3 k a b (x ++ [V a b i j]) (i : Int) (j : Int) c) ((x ++ V a b i j :: path a b (d + 1) i j).dropLast, 0) := by
    intro c hca hcb hp hm' hz
    have glue : ∀ (w : Pt) (t : List Pt), x ++ V a b i j :: w :: t = (x ++ [V a b i j]) ++ w :: t := by intro w t; simp
    rcases Int.lt_trichotomy c 0 with h0 | h0 | h0
    ·-- an edge of b
     have hj' := hcb (by omega)
     rw [hm' h0, glue]
     refine rt_step (h := fun k => shape_Sum.j4 k a b (x ++ [V a b i j]) (i : Int) (j : Int) c 0 0) (fun k => ?_) (rt_step (fun k => ?_) (ih i (j + 1) (x ++ [V a b i j]) hi (by omega) (by omega) (by simp only [List.length_append, List.length_singleton]; omega)))
     ·rw [shape_Sum.j3, if_neg (by omega)]
     ·rw [shape_Sum.j4, if_pos (by omega), edge_f hb (by omega) hj', Option.bind_some]
      rw [show shape_add.f 0 0 (ed b j).f0 (ed b j).f1 = some ((ed b j).f0, (ed b j).f1) by unfold shape_add.f; rw [wz _ (by omega) (by omega), wz _ (by omega) (by omega), Int.zero_add, Int.zero_add], Option.bind_some, hx1, wz _ (by omega) (by omega), if_pos (by omega), if_pos (by omega), show (x.length : Int) + 1 - 1 = ((x.length : Nat) : Int) by omega, lastf, addf (ed b j) (V a b i (j + 1)) (by unfold plus V; apply pt_ext <;> dsimp only [plus] <;> omega) (by omega) (by omega) (by omega) (by omega), Option.bind_some, if_pos (by simp only [List.length_append, List.length_singleton]; omega), wrap_succ j (by omega)]
    ·-- an edge of each
     have hi' := hca (by omega)
     have hj' := hcb (by omega)
     rw [hz h0, glue]
     refine rt_step (h := fun k => shape_Sum.j4 k a b (x ++ [V a b i j]) ((i + 1 : Nat) : Int) (j : Int) c (ed a i).f0 (ed a i).f1) (fun k => ?_) (rt_step (fun k => ?_) (ih (i + 1) (j + 1) (x ++ [V a b i j]) (by omega) (by omega) (by omega) (by simp only [List.length_append, List.length_singleton]; omega)))
     ·rw [shape_Sum.j3, if_pos (by omega), edge_f ha (by omega) hi', Option.bind_some, wrap_succ i (by omega)]
     ·rw [shape_Sum.j4, if_pos (by omega), edge_f hb (by omega) hj', Option.bind_some]
      rw [show shape_add.f (ed a i).f0 (ed a i).f1 (ed b j).f0 (ed b j).f1 = some ((plus (ed a i) (ed b j)).f0, (plus (ed a i) (ed b j)).f1) by unfold shape_add.f plus; rw [wz _ (by omega) (by omega), wz _ (by omega) (by omega)], Option.bind_some, hx1, wz _ (by omega) (by omega), if_pos (by omega), if_pos (by omega), show (x.length : Int) + 1 - 1 = ((x.length : Nat) : Int) by omega, lastf, addf (plus (ed a i) (ed b j)) (V a b (i + 1) (j + 1)) (by unfold plus V; apply pt_ext <;> dsimp only [plus] <;> omega) (by unfold plus; dsimp only; omega) (by unfold plus; dsimp only; omega) (by unfold plus; dsimp only; omega) (by unfold plus; dsimp only; omega), Option.bind_some, if_pos (by simp only [List.length_append, List.length_singleton]; omega), wrap_succ j (by omega)]
    ·-- an edge of a
     have hi' := hca (by omega)
     rw [hp h0, glue]
     refine rt_step (h := fun k => shape_Sum.j4 k a b (x ++ [V a b i j]) ((i + 1 : Nat) : Int) (j : Int) c (ed a i).f0 (ed a i).f1) (fun k => ?_) (rt_step (fun k => ?_) (ih (i + 1) j (x ++ [V a b i j]) (by omega) hj (by omega) (by simp only [List.length_append, List.length_singleton]; omega)))
     ·rw [shape_Sum.j3, if_pos (by omega), edge_f ha (by omega) hi', Option.bind_some, wrap_succ i (by omega)]
     ·rw [shape_Sum.j4, if_neg (by omega), hx1, wz _ (by omega) (by omega), if_pos (by omega), if_pos (by omega), show (x.length : Int) + 1 - 1 = ((x.length : Nat) : Int) by omega, lastf, addf (ed a i) (V a b (i + 1) j) (by unfold plus V; apply pt_ext <;> dsimp only [plus] <;> omega) (by omega) (by omega) (by omega) (by omega), Option.bind_some, if_pos (by simp only [List.length_append, List.length_singleton]; omega)]
   have s1 : ∀ k, shape_Sum.l1 (k + 1) a b (x ++ [V a b i j]) (i : Int) (j : Int) = shape_Sum.j2 k a b (x ++ [V a b i j]) (i : Int) (j : Int) true := by
    intro k
    rw [shape_Sum.l1]
    by_cases h : (i : Int) < (a.length : Int)
    ·rw [if_pos h]
    ·rw [if_neg h, decide_eq_true (by omega)]
   by_cases hjm : j = b.length
   ·refine rt_step s1 (rt_step (fun k => ?_) (fin 1 (fun _ => by omega) (fun h => by omega) (fun _ => ?_) (fun h => by omega) (fun h => by omega)))
    ·rw [shape_Sum.j2, if_pos rfl, if_pos (by omega)]
    ·show (if _ then _ else _) = _
     rw [if_pos ⟨by omega, fun h => absurd h (by omega)⟩]
   ·by_cases hin : i = a.length
    ·refine rt_step s1 (rt_step (fun k => ?_) (fin (-1) (fun h => by omega) (fun _ => by omega) (fun h => by omega) (fun _ => ?_) (fun h => by omega)))
     ·rw [shape_Sum.j2, if_pos rfl, if_neg (by omega), if_pos (by omega)]
     ·show (if _ then _ else _) = _
      rw [if_neg (by omega), if_pos ⟨by omega, fun h => absurd h (by omega)⟩]
    ·have hi' : i < a.length := by omega
     have hj' : j < b.length := by omega
     refine rt_step s1 (rt_step (fun k => ?_) (fin (cx (ed a i) (ed b j)) (fun _ => hi') (fun _ => hj') (fun h => ?_) (fun h => ?_) (fun h => ?_)))
     ·rw [shape_Sum.j2, if_pos rfl, if_neg (by omega), if_neg (by omega), edge_f ha (by omega) hi', Option.bind_some, edge_f hb (by omega) hj', Option.bind_some]
      dsimp only
      rw [cross_f (ed_bd ha hn i) (ed_bd hb hm j), Option.bind_some]
     ·show (if _ then _ else _) = _
      rw [if_pos ⟨hi', fun _ => h⟩]
     ·show (if _ then _ else _) = _
      rw [if_neg (fun h2 => by have := h2.2 hj'; omega), if_pos ⟨hj', fun _ => h⟩]
     ·show (if _ then _ else _) = _
      rw [if_neg (fun h2 => by have := h2.2 hj'; omega), if_neg (fun h2 => by have := h2.2 hi'; omega), if_pos ⟨hi', hj'⟩]
theorem Sum_run {p q : Int} {S : List Pt} (ca : Cvx p q a) (cb : Cvx p q b) (hS : Sums a b S) (ha : ∀ p ∈ a, Bd p) (hb : ∀ p ∈ b, Bd p) (hN : a.length ≤ 100000) (hM : b.length ≤ 100000)
  (h1 : Rt (fun k => shape_refused_normal.f k a) 0) (h2 : Rt (fun k => shape_refused_normal.f k b) 0) : ∃ h, Rt (fun k => shape_Sum.f k a b) (h, 0) ∧ Ring S h ∧ (∀ s ∈ S, s = at_ h 0 ∨ 0 < fn p q (at_ h 0) s) ∧ h.length ≤ a.length + b.length := by
 have la := ca.three
 have lb := cb.three
 obtain ⟨t, e, ring, hl⟩ := sum_ring ca cb hS
 obtain ⟨K1, g1⟩ := h1
 obtain ⟨K2, g2⟩ := h2
 obtain ⟨K3, g3⟩ := sum_l1 ha hb (by omega) (by omega) hN hM (a.length + b.length) 0 0 [] (by omega) (by omega) (by omega) (by simp)
 refine ⟨V a b 0 0 :: t, ⟨K1 + K2 + K3 + 3, fun k hk => ?_⟩, ring, sum_low ca cb hS, by simp only [List.length_cons]; omega⟩
 obtain ⟨k, rfl⟩ : ∃ m, k = m + 1 + 1 + 1 := ⟨k - 3, by omega⟩
 have a1 := g1 (k + 1 + 1) (by omega)
 have a2 := g2 (k + 1) (by omega)
 have a3 := g3 k (by omega)
 dsimp only at a1 a2 a3 ⊢
 have r0 : rd_L2 [a, b] 0 = a := rfl
 have r1 : rd_L2 [a, b] 1 = b := rfl
 have w1 : wrap64 (0 + 1) = 1 := by unfold wrap64; omega
 have w2 : wrap64 (1 + 1) = 2 := by unfold wrap64; omega
 have ln : (([a, b] : List (List S29)).length : Int) = 2 := rfl
 obtain ⟨pa0, pa1, pa2, pa3⟩ := P_bd ha (by omega) 0
 obtain ⟨pb0, pb1, pb2, pb3⟩ := P_bd hb (by omega) 0
 have z0 : rd_T29 a 0 = P a 0 := by rw [P_lt (by omega)]; rfl
 have z1 : rd_T29 b 0 = P b 0 := by rw [P_lt (by omega)]; rfl
 unfold shape_Sum.f
 rw [Option.bind_some, ln, shape_Sum.l0, ln, if_pos (by omega), if_pos (by omega), if_pos (by omega), r0, a1, Option.bind_some, if_pos rfl, w1, shape_Sum.l0, ln, if_pos (by omega), if_pos (by omega), if_pos (by omega), r1, a2, Option.bind_some, if_pos rfl, w2, shape_Sum.l0, if_neg (by omega), if_pos (by omega), if_pos (by omega), z0, z1]
 unfold shape_add.f
 rw [Option.bind_some, wz ((P a 0).f0 + _) (by omega) (by omega), wz ((P a 0).f1 + _) (by omega) (by omega)]
 have : ([] ++ V a b 0 0 :: path a b (a.length + b.length) 0 0).dropLast = V a b 0 0 :: t := by
  rw [e, List.nil_append, show V a b 0 0 :: (t ++ [V a b 0 0]) = (V a b 0 0 :: t) ++ [V a b 0 0] from rfl, List.dropLast_concat]
 rw [this] at a3
 exact a3
end
end Go.Proofs.Ytoffmpkgickfhaa.M
end
section
namespace Go.Proofs.Ytoffmpkgickfhaa.PG
open Go.RowKit Go.Proofs.YtoffmpkgickfhaaW.PrintWords Go.Proofs.YtoffmpkgickfhaaW.PrintLast Go.Proofs.YtoffmpkgickfhaaW.PrintMore
attribute [local go_sem] max2_int min2_int max_two min_two max_three min_three max_four min_four
set_option linter.unusedVariables false
set_option linter.unusedSimpArgs false
/-! ### cracknellaw04_fold: function 39 -/
def cracknellaw04_fold.f (a0 : Int) (a1 : Int) : Option (Int) := if a1 = 0 then (none) else (some (Int.tmod (wrap64 ((Int.tmod a0 a1) + a1)) a1))
set_option maxHeartbeats 8000000 in
set_option maxRecDepth 100000 in
theorem cracknellaw04_fold.calls (a0 : Int) (a1 : Int) (r : Int) (w : World) (h : cracknellaw04_fold.f a0 a1 = some r) :
  Calls Try.prog 39 #[.int .i64 a0, .int .i64 a1] w fun e w' => e = .returned (.int .i64 r) ∧ Drawn0 w w' := by
 have H : (if a1 = 0 then (none) else (some (Int.tmod (wrap64 ((Int.tmod a0 a1) + a1)) a1))) = some r := h
 clear h
 by_cases c3 : a1 = 0
 ·rw [if_pos c3] at H
  exact absurd H (by simp)
 ·rw [if_neg c3] at H
  have c3b0 : (a1 == 0) = false := beq_eq_false_iff_ne.mpr c3
  have c3b1 : (a1 != 0) = true := bne_iff_ne.mpr c3
  obtain rfl := Option.some.inj H
  go_enter Try.func39, Try.ntmps39
  go_wp2
  go_ret
  exact ⟨by first | rfl | (simp; done) | (simp [*]; done), by repeat (first | exact Drawn0.refl _ | apply Drawn0.step)⟩
end Go.Proofs.Ytoffmpkgickfhaa.PG
end
section
namespace Go.Proofs.Ytoffmpkgickfhaa.M
open Go.RowKit Go.Proofs.Ytoffmpkgickfhaa.PG Go.Proofs.YtoffmpkgickfhaaW.PrintMore Go.Proofs.YtoffmpkgickfhaaW.PrintWords
theorem tmod_bd (a b : Int) (hb : 0 < b) : -b < Int.tmod a b ∧ Int.tmod a b < b := by
 have h : (Int.tmod a b).natAbs = a.natAbs % b.natAbs := Int.natAbs_tmod a b
 have h2 : a.natAbs % b.natAbs < b.natAbs := Nat.mod_lt _ (by omega)
 omega
theorem points_run (l : List Pt) (m : Int) (q : Nat) (h0 : 0 ≤ m) (h1 : m ≤ 1000000) (hq : q ≤ 1000000) : ∃ r, Rt (fun k => cracknellaw04_points.f k l m (q : Int)) r ∧ r.length ≤ q ∧ ∀ p ∈ r, In m p := by
 have H : ∀ d i (x : List Pt), i + d = min l.length q → x.length = i → (∀ p ∈ x, In m p) → ∃ r, Rt (fun k => cracknellaw04_points.l0 k l m (q : Int) x (i : Int)) r ∧ r.length ≤ q ∧ ∀ p ∈ r, In m p := by
  intro d
  induction d with
  | zero =>
   intro i x hi hx hin
   refine ⟨x, rt_ret fun k => ?_, by omega, hin⟩
   rw [cracknellaw04_points.l0]
   by_cases h : (i : Int) < (l.length : Int)
   ·rw [if_pos h, if_neg (by omega)]
   ·rw [if_neg h]
  | succ d ih =>
   intro i x hi hx hin
   have b0 := tmod_bd (at_ l i).f0 (m + 1) (by omega)
   have b1 := tmod_bd (at_ l i).f1 (m + 1) (by omega)
   obtain ⟨r, hr, hr1, hr2⟩ := ih (i + 1) (x ++ [⟨Int.tmod (at_ l i).f0 (m + 1), Int.tmod (at_ l i).f1 (m + 1)⟩]) (by omega) (by simp [hx]) (fun p hp => by
    rcases List.mem_append.mp hp with h | h
    ·exact hin p h
    ·rw [List.mem_singleton] at h; subst h; unfold In; dsimp only; omega)
   refine ⟨r, rt_step (fun k => ?_) hr, hr1, hr2⟩
   rw [cracknellaw04_points.l0, if_pos (by omega), if_pos (by omega), if_pos (by omega), wz (m + 1) (by omega) (by omega), if_neg (by omega), if_pos (by omega), rd_at, wrap_succ i (by omega)]
 obtain ⟨r, ⟨K, hK⟩, h⟩ := H (min l.length q) 0 [] (by omega) rfl (by simp)
 exact ⟨r, ⟨K, fun k hk => hK k hk⟩, h⟩
end Go.Proofs.Ytoffmpkgickfhaa.M
end
section
namespace Go.Proofs.Ytoffmpkgickfhaa.M
open Go.RowKit Go.Proofs.Ytoffmpkgickfhaa.PG Go.Proofs.YtoffmpkgickfhaaW.PrintMore Go.Proofs.YtoffmpkgickfhaaW.PrintWords
structure Nf (m : Int) (h : List Pt) : Prop where
 ring : Ring h h
 flat : ¬ Flat h
 fst : ∀ p ∈ h, p = at_ h 0 ∨ first (at_ h 0) p
 inb : ∀ p ∈ h, In m p
theorem Nf.of_ring {m : Int} {S h : List Pt} (r : Ring S h) (hf : ¬ Flat S) (hm : ∀ p ∈ S, p = at_ h 0 ∨ first (at_ h 0) p) (hin : ∀ p ∈ S, In m p) : Nf m h :=
 ⟨ring_self r, ring_not_flat r hf, fun p hp => hm p (ring_sub r p hp), fun p hp => hin p (ring_sub r p hp)⟩
section
variable {m : Int} {h : List Pt}
theorem Nf.three (n : Nf m h) : 3 ≤ h.length := ring_three n.ring n.flat
theorem Nf.convex (n : Nf m h) : Convex h := ring_convex n.ring n.flat n.fst
theorem Nf.bd (n : Nf m h) (hm : m ≤ 10000) : ∀ p ∈ h, Bd p := fun p hp => by have := n.inb p hp; unfold In at this; unfold Bd; omega
theorem Nf.poly (n : Nf m h) (hm : m ≤ 10000) (hl : h.length ≤ 32) : Poly h := ⟨n.three, hl, fun p hp => by have := n.inb p hp; unfold In at *; omega⟩
theorem Nf.normal (n : Nf m h) (hm : m ≤ 10000) (hl : h.length ≤ 32) : Rt (fun k => shape_refused_normal.f k h) 0 := refused_normal (by omega) (n.poly hm hl) n.convex
theorem Nf.first_k (n : Nf m h) : ∀ k, k < h.length → k = 0 ∨ first (at_ h 0) (at_ h k) := first_at n.ring (by have := n.three; omega) n.fst
theorem fn_first {a b : Pt} (ha : Bd a) (hb : Bd b) : first a b ↔ 0 < fn 1 10000000 a b := by
 unfold Bd at ha hb; unfold first fn; omega
theorem Nf.cvx (n : Nf m h) (hm : m ≤ 10000) : Cvx 1 10000000 h := by
 have h3 := n.three
 have hb := n.bd hm
 refine ⟨h3, ring_strong n.ring, fun k hk => ?_, fun i => ?_⟩
 ·rcases n.first_k k hk with e | e
  ·exact Or.inl e
  ·exact Or.inr ((fn_first (at_bd hb (by omega)) (at_bd hb hk)).mp e)
 ·have hi : i % h.length < h.length := Nat.mod_lt _ (by omega)
  have hj : (i + 1) % h.length < h.length := Nat.mod_lt _ (by omega)
  obtain ⟨b0, b1, b2, b3⟩ := at_bd hb hi
  obtain ⟨c0, c1, c2, c3⟩ := at_bd hb hj
  have ne := (ring_strong n.ring).1 _ hi
  rw [Nat.mod_add_mod] at ne
  intro e
  apply ne
  unfold ed vec ph P at e
  dsimp only at e
  apply pt_ext <;> omega
end
def sums (a b : List Pt) : List Pt := a.flatMap fun x => b.map (plus x)
theorem sums_ok (a b : List Pt) : Sums a b (sums a b) := by
 intro s
 unfold sums
 rw [List.mem_flatMap]
 constructor
 ·rintro ⟨x, hx, hs⟩
  obtain ⟨y, hy, rfl⟩ := List.mem_map.mp hs
  obtain ⟨k, hk, rfl⟩ := List.mem_iff_getElem.mp hx
  obtain ⟨l, hl, rfl⟩ := List.mem_iff_getElem.mp hy
  exact ⟨k, l, hk, hl, by rw [at_eq hk, at_eq hl]⟩
 ·rintro ⟨k, l, hk, hl, rfl⟩
  exact ⟨at_ a k, at_mem hk, List.mem_map.mpr ⟨at_ b l, at_mem hl, rfl⟩⟩
theorem sums_mem {a b : List Pt} {s : Pt} : s ∈ sums a b ↔ ∃ x ∈ a, ∃ y ∈ b, s = plus x y := by
 unfold sums
 rw [List.mem_flatMap]
 constructor
 ·rintro ⟨x, hx, hs⟩
  obtain ⟨y, hy, rfl⟩ := List.mem_map.mp hs
  exact ⟨x, hx, y, hy, rfl⟩
 ·rintro ⟨x, hx, y, hy, rfl⟩
  exact ⟨x, hx, List.mem_map.mpr ⟨y, hy, rfl⟩⟩
theorem sums_flat {a b : List Pt} (hb : 0 < b.length) (h : Flat (sums a b)) : Flat a := by
 intro x hx y hy z hz
 have m := at_mem hb
 have := h _ (sums_mem.mpr ⟨x, hx, _, m, rfl⟩) _ (sums_mem.mpr ⟨y, hy, _, m, rfl⟩) _ (sums_mem.mpr ⟨z, hz, _, m, rfl⟩)
 rw [cr_eq] at this ⊢
 unfold plus at this
 dsimp only at this
 rw [← this]; grind
theorem sum_nf {m1 m2 : Int} {a b : List Pt} (na : Nf m1 a) (nb : Nf m2 b) (h1 : 0 ≤ m1) (h2 : 0 ≤ m2) (hm : m1 + m2 ≤ 10000) (la : a.length ≤ 32) (lb : b.length ≤ 32) :
  ∃ h, Rt (fun k => shape_Sum.f k a b) (h, 0) ∧ Ring (sums a b) h ∧ Nf (m1 + m2) h ∧ h.length ≤ a.length + b.length := by
 obtain ⟨h, r, ring, lo, hl⟩ := Sum_run (na.cvx (by omega)) (nb.cvx (by omega)) (sums_ok a b) (na.bd (by omega)) (nb.bd (by omega)) (by omega) (by omega) (na.normal (by omega) la) (nb.normal (by omega) lb)
 have inS : ∀ s ∈ sums a b, In (m1 + m2) s := by
  intro s hs
  obtain ⟨x, hx, y, hy, rfl⟩ := sums_mem.mp hs
  have i1 := na.inb x hx
  have i2 := nb.inb y hy
  unfold In plus at *; dsimp only; omega
 have bS : ∀ s ∈ sums a b, Bd s := fun s hs => by have := inS s hs; unfold In at this; unfold Bd; omega
 have hf : ¬ Flat (sums a b) := fun h => na.flat (sums_flat (by have := nb.three; omega) h)
 have h3 := ring_three ring hf
 have m0 := ring_sub ring _ (at_mem (show 0 < h.length by omega))
 exact ⟨h, r, ring, Nf.of_ring ring hf (fun p hp => (lo p hp).imp id (fun e => (fn_first (bS _ m0) (bS p hp)).mpr e)) inS, hl⟩
theorem law_hull_run (l : List Pt) (m : Int) (h0 : 1 ≤ m) (h1 : m ≤ 10000) : ∃ h, Rt (fun k => cracknellaw04_hull.f k l m) h ∧ Nf m h ∧ h.length ≤ 12 := by
 obtain ⟨r, ⟨K1, h2⟩, hl, hin⟩ := points_run l m 9 (by omega) (by omega) (by omega)
 have hinb : ∀ p ∈ r ++ [(⟨0, 0⟩ : S29), (⟨1, 0⟩ : S29), (⟨0, 1⟩ : S29)], In m p := by
  intro p hp
  rcases List.mem_append.mp hp with h | h
  ·exact hin p h
  ·have : p = ⟨0, 0⟩ ∨ p = ⟨1, 0⟩ ∨ p = ⟨0, 1⟩ := by simpa using h
   rcases this with rfl | rfl | rfl <;> (unfold In; dsimp only; omega)
 have hlen : (r ++ [(⟨0, 0⟩ : S29), (⟨1, 0⟩ : S29), (⟨0, 1⟩ : S29)]).length = r.length + 3 := by simp
 obtain ⟨h, ⟨K2, c⟩, ring, hm⟩ := (refHull_run (l := r ++ [(⟨0, 0⟩ : S29), (⟨1, 0⟩ : S29), (⟨0, 1⟩ : S29)]) (fun p hp => by have := hinb p hp; unfold In at this; unfold Bd; omega) (by omega) (by omega)).2 (not_flat3 r)
 refine ⟨h, ⟨K1 + K2, fun k hk => ?_⟩, Nf.of_ring ring (not_flat3 r) hm hinb, by have := ring_len ring; omega⟩
 have a1 := h2 k (by omega)
 have a2 := c k (by omega)
 dsimp only at a1 a2 ⊢
 unfold cracknellaw04_hull.f
 rw [show (9 : Int) = ((9 : Nat) : Int) from rfl, a1, Option.bind_some, Option.bind_some, if_pos (by simp only [List.length_cons, List.length_nil]; omega), a2, Option.bind_some]
end Go.Proofs.Ytoffmpkgickfhaa.M
end
section
namespace Go.Proofs.Ytoffmpkgickfhaa.M
open Go.RowKit Go.Proofs.Ytoffmpkgickfhaa.PG Go.Proofs.YtoffmpkgickfhaaW.PrintMore Go.Proofs.YtoffmpkgickfhaaW.PrintWords
theorem sort5 : slices_SortFunc_xy.f [(⟨0, 0⟩ : S29), (⟨1, 0⟩ : S29), (⟨2, 0⟩ : S29), (⟨0, 2⟩ : S29), (⟨1, 1⟩ : S29)] = some [(⟨0, 0⟩ : S29), (⟨0, 2⟩ : S29), (⟨1, 0⟩ : S29), (⟨1, 1⟩ : S29), (⟨2, 0⟩ : S29)] := by
 simp [slices_SortFunc_xy.f, List.mergeSort, List.MergeSort.Internal.splitInTwo, xyLt]
theorem area_ok (k : Nat) : shape_Area2.f (k + 60) [(⟨0, 0⟩ : S29), (⟨2, 0⟩ : S29), (⟨2, 2⟩ : S29), (⟨0, 2⟩ : S29)] = some (8, 0) := by kernel_rfl
theorem simple_ok (k : Nat) : shape_simple.f (k + 60) [(⟨0, 0⟩ : S29), (⟨2, 0⟩ : S29), (⟨2, 2⟩ : S29), (⟨0, 2⟩ : S29)] = some true := by kernel_rfl
theorem lattice_l0 (k : Nat) : shape_Lattice.l0 (k + 60) [(⟨0, 0⟩ : S29), (⟨2, 0⟩ : S29), (⟨2, 2⟩ : S29), (⟨0, 2⟩ : S29)] 0 4 0 = some (1, 8, 0) := by kernel_rfl
theorem lattice_ok (k : Nat) : shape_Lattice.f (k + 60) [(⟨0, 0⟩ : S29), (⟨2, 0⟩ : S29), (⟨2, 2⟩ : S29), (⟨0, 2⟩ : S29)] = some (1, 8, 0) := by
 unfold shape_Lattice.f shape_refused_simple.f
 rw [simple_ok, show shape_polygon.f [(⟨0, 0⟩ : S29), (⟨2, 0⟩ : S29), (⟨2, 2⟩ : S29), (⟨0, 2⟩ : S29)] = some true by decide +kernel, Option.bind_some, if_pos rfl, Option.bind_some, if_pos rfl, Option.bind_some, if_pos rfl]
 exact lattice_l0 k
theorem same_ok (k : Nat) : cracknelref04_Same.f (k + 60) [(⟨0, 0⟩ : S29), (⟨2, 0⟩ : S29), (⟨0, 2⟩ : S29)] [(⟨0, 0⟩ : S29), (⟨2, 0⟩ : S29), (⟨0, 2⟩ : S29)] = some true := by kernel_rfl
theorem hull_rest (k : Nat) : shape_Hull.j0 (k + 60) [(⟨0, 0⟩ : S29), (⟨1, 0⟩ : S29), (⟨2, 0⟩ : S29), (⟨0, 2⟩ : S29), (⟨1, 1⟩ : S29)] false = some ([(⟨0, 0⟩ : S29), (⟨2, 0⟩ : S29), (⟨0, 2⟩ : S29)], 0) := by
 rw [show k + 60 = (k + 59) + 1 from rfl, shape_Hull.j0, if_neg (by simp), show slices_Clone.f [(⟨0, 0⟩ : S29), (⟨1, 0⟩ : S29), (⟨2, 0⟩ : S29), (⟨0, 2⟩ : S29), (⟨1, 1⟩ : S29)] = some [(⟨0, 0⟩ : S29), (⟨1, 0⟩ : S29), (⟨2, 0⟩ : S29), (⟨0, 2⟩ : S29), (⟨1, 1⟩ : S29)] by decide +kernel, Option.bind_some, sort5, Option.bind_some]
 kernel_rfl
theorem hull_pre (k : Nat) : shape_Hull.f k [(⟨0, 0⟩ : S29), (⟨1, 0⟩ : S29), (⟨2, 0⟩ : S29), (⟨0, 2⟩ : S29), (⟨1, 1⟩ : S29)] = shape_Hull.j0 k [(⟨0, 0⟩ : S29), (⟨1, 0⟩ : S29), (⟨2, 0⟩ : S29), (⟨0, 2⟩ : S29), (⟨1, 1⟩ : S29)] false := by
 unfold shape_Hull.f
 rw [show shape_within.f [(⟨0, 0⟩ : S29), (⟨1, 0⟩ : S29), (⟨2, 0⟩ : S29), (⟨0, 2⟩ : S29), (⟨1, 1⟩ : S29)] 10000 = some true by decide +kernel, Option.bind_some]
 simp only [List.length_cons, List.length_nil]
 rw [if_neg (by omega), if_neg (by omega)]
 rfl
theorem lives_ok (k : Nat) (hk : 60 ≤ k) : cracknellaw04_lives.f k = some true := by
 obtain ⟨d, rfl⟩ : ∃ d, k = d + 60 := ⟨k - 60, by omega⟩
 unfold cracknellaw04_lives.f
 rw [hull_pre, hull_rest, Option.bind_some, area_ok, lattice_ok]
 simp only [Option.bind_some, if_true, same_ok]
end Go.Proofs.Ytoffmpkgickfhaa.M
end
section
namespace Go.Proofs.Ytoffmpkgickfhaa.M
open Go.RowKit Go.Proofs.Ytoffmpkgickfhaa.PG Go.Proofs.YtoffmpkgickfhaaW.PrintMore Go.Proofs.YtoffmpkgickfhaaW.PrintWords
theorem area2_poly {l : List Pt} (hp : Poly l) : Rt (fun k => shape_Area2.f k l) (area l, 0) := by
 obtain ⟨K, h⟩ := area_run (fun p h => in_bd (hp.2.2 p h)) (show l.length ≤ 1000000 by have := hp.2.1; omega)
 refine ⟨K, fun k hk => ?_⟩
 have a := h k hk
 dsimp only at a ⊢
 unfold shape_Area2.f
 rw [polygon_f, Option.bind_some, if_pos (by simpa using hp), a, Option.bind_some]
theorem mul2000 {a b : Int} (h0 : -2000 ≤ a) (h1 : a ≤ 2000) (h2 : -2000 ≤ b) (h3 : b ≤ 2000) : -4000000 ≤ a * b ∧ a * b ≤ 4000000 := by
 have h : (a * b).natAbs = a.natAbs * b.natAbs := Int.natAbs_mul a b
 have h' : a.natAbs * b.natAbs ≤ 2000 * 2000 := Nat.mul_le_mul (by omega) (by omega)
 omega
theorem areaTo_2000 {l : List Pt} (hb : ∀ p ∈ l, In 2000 p) : ∀ i, i ≤ l.length → -8000000 * (i : Int) ≤ areaTo l i ∧ areaTo l i ≤ 8000000 * (i : Int) := by
 intro i
 induction i with
 | zero => intro _; unfold areaTo; omega
 | succ i ih =>
  intro hi
  have h := ih (by omega)
  obtain ⟨a0, a1, a2, a3⟩ := hb _ (at_mem (show i < l.length by omega))
  obtain ⟨b0, b1, b2, b3⟩ := hb _ (at_mem (show (i + 1) % l.length < l.length from Nat.mod_lt _ (by omega)))
  have m1 := mul2000 a0 a1 b2 b3
  have m2 := mul2000 a2 a3 b0 b1
  unfold areaTo term; omega
theorem mul_bd {a b : Int} (h0 : -1000000000 ≤ a) (h1 : a ≤ 1000000000) (h2 : -1000000000 ≤ b) (h3 : b ≤ 1000000000) : -1000000000000000000 ≤ a * b ∧ a * b ≤ 1000000000000000000 := by
 have h : (a * b).natAbs = a.natAbs * b.natAbs := Int.natAbs_mul a b
 have h' : a.natAbs * b.natAbs ≤ 1000000000 * 1000000000 := Nat.mul_le_mul (by omega) (by omega)
 omega
theorem brunn_plain (x y : List S29) : ∃ k, cracknellaw04_ShapeBrunn.f k x y = some true := by
 obtain ⟨a, ⟨K1, h1⟩, na, la⟩ := law_hull_run x 1000 (by omega) (by omega)
 obtain ⟨b, ⟨K2, h2⟩, nb, lb⟩ := law_hull_run y 1000 (by omega) (by omega)
 obtain ⟨s, ⟨K3, h3⟩, rs, ns, ls⟩ := sum_nf na nb (by omega) (by omega) (by omega) (by omega) (by omega)
 obtain ⟨K4, h4⟩ := area2_poly (na.poly (by omega) (by omega))
 obtain ⟨K5, h5⟩ := area2_poly (nb.poly (by omega) (by omega))
 obtain ⟨K6, h6⟩ := area2_poly (ns.poly (by omega) (by omega))
 obtain ⟨t, rt, b1, b2⟩ := brunn (na.cvx (by omega)) (nb.cvx (by omega)) (sums_ok a b)
 have hf : ¬ Flat (sums a b) := fun h => na.flat (sums_flat (by have := nb.three; omega) h)
 have inS : ∀ s ∈ sums a b, In 2000 s := by
  intro s hs
  obtain ⟨x, hx, y, hy, rfl⟩ := sums_mem.mp hs
  have i1 := na.inb x hx
  have i2 := nb.inb y hy
  unfold In plus at *; dsimp only; omega
 have e : V a b 0 0 :: t = s := by
  have lo := sum_low (na.cvx (by omega)) (nb.cvx (by omega)) (sums_ok a b)
  have bS : ∀ s ∈ sums a b, Bd s := fun s hs => by have := inS s hs; unfold In at this; unfold Bd; omega
  have m0 := ring_sub rt _ (at_mem (show 0 < (V a b 0 0 :: t).length by simp))
  have m1 : ∀ p ∈ sums a b, p = at_ (V a b 0 0 :: t) 0 ∨ first (at_ (V a b 0 0 :: t) 0) p := fun p hp => (lo p hp).imp id (fun e => (fn_first (bS _ m0) (bS p hp)).mpr e)
  exact (rings_one hf rs rt ns.first_k m1).symm
 rw [e] at b1 b2
 have ba := areaTo_2000 (fun p hp => by have := na.inb p hp; unfold In at *; omega) a.length (Nat.le_refl _)
 have bb := areaTo_2000 (fun p hp => by have := nb.inb p hp; unfold In at *; omega) b.length (Nat.le_refl _)
 have bs := areaTo_2000 (fun p hp => by have := ns.inb p hp; unfold In at *; omega) s.length (Nat.le_refl _)
 have ea : area a = areaTo a a.length := rfl
 have eb : area b = areaTo b b.length := rfl
 have es : area s = areaTo s s.length := rfl
 rw [← ea] at ba
 rw [← eb] at bb
 rw [← es] at bs
 refine ⟨K1 + K2 + K3 + K4 + K5 + K6 + 60, ?_⟩
 generalize hk : K1 + K2 + K3 + K4 + K5 + K6 + 60 = k
 have a1 := h1 k (by omega)
 have a2 := h2 k (by omega)
 have a3 := h3 k (by omega)
 have a4 := h4 k (by omega)
 have a5 := h5 k (by omega)
 have a6 := h6 k (by omega)
 have a7 := lives_ok k (by omega)
 dsimp only at a1 a2 a3 a4 a5 a6
 have m1 := mul_bd (a := 4 * area a) (b := area b) (by omega) (by omega) (by omega) (by omega)
 have m2 := mul_bd (a := area s - area a - area b) (b := area s - area a - area b) (by omega) (by omega) (by omega) (by omega)
 unfold cracknellaw04_ShapeBrunn.f
 rw [a1, Option.bind_some, a2, Option.bind_some, a3, Option.bind_some, a4, Option.bind_some, a5, Option.bind_some, a6, Option.bind_some]
 dsimp only
 rw [if_pos rfl, if_pos rfl, if_pos rfl, if_pos rfl, wz (area a + area b) (by omega) (by omega), if_pos (by omega), wz (area s - area a) (by omega) (by omega), wz (area s - area a - area b) (by omega) (by omega), wz (4 * area a) (by omega) (by omega), wz _ (by omega) (by omega), wz _ (by omega) (by omega), if_pos (by omega), a7, Option.bind_some]
end Go.Proofs.Ytoffmpkgickfhaa.M
end
