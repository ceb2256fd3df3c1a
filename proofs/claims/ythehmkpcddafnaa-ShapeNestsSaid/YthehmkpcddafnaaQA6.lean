/- Parts of the proof of YthehmkpcddafnaaLawShapeNests: printed walks, their words, and plain laws. -/
import Derived.Test.YthehmkpcddafnaaQA5
import Derived.Test.YthehmkpcddafnaaQA4
import Derived.Test.YthehmkpcddafnaaQA2
section
namespace Go.Proofs.Ythehmkpcddafnaa.M
open Go.RowKit Go.Proofs.Ythehmkpcddafnaa.PG Go.Proofs.YthehmkpcddafnaaW.PrintMore Go.Proofs.YthehmkpcddafnaaW.PrintWords
theorem rt_bind {α β : Type} {f : Nat → Option α} {g : α → Nat → Option β} {h : Nat → Option β} {v : α} {r : β} (rf : Rt f v) (rg : Rt (g v) r) (e : ∀ k, h (k + 1) = (f k).bind fun x => g x k) : Rt h r := by
 obtain ⟨K1, h1⟩ := rf
 obtain ⟨K2, h2⟩ := rg
 refine ⟨K1 + K2 + 1, fun k hk => ?_⟩
 obtain ⟨k, rfl⟩ : ∃ m, k = m + 1 := ⟨k - 1, by omega⟩
 rw [e, h1 k (by omega), Option.bind_some, h2 k (by omega)]
theorem rt_bind0 {α β : Type} {f : Nat → Option α} {g : α → Nat → Option β} {h : Nat → Option β} {v : α} {r : β} (rf : Rt f v) (rg : Rt (g v) r) (e : ∀ k, h k = (f k).bind fun x => g x k) : Rt h r := by
 obtain ⟨K1, h1⟩ := rf
 obtain ⟨K2, h2⟩ := rg
 refine ⟨K1 + K2, fun k hk => ?_⟩
 rw [e, h1 k (by omega), Option.bind_some, h2 k (by omega)]
def bstep (s : Int × Int × Int × Int) (p : Pt) : Int × Int × Int × Int := (min s.1 p.f0, min s.2.1 p.f1, max s.2.2.1 p.f0, max s.2.2.2 p.f1)
def box (l : List Pt) : Int × Int × Int × Int := l.foldl bstep ((at_ l 0).f0, (at_ l 0).f1, (at_ l 0).f0, (at_ l 0).f1)
theorem drop_cons_at {l : List Pt} {i : Nat} (h : i < l.length) : l.drop i = at_ l i :: l.drop (i + 1) := by
 rw [at_eq h]; exact List.drop_eq_getElem_cons h
theorem corners_run {l : List Pt} (h0 : 0 < l.length) (hN : l.length ≤ 1000000) : Rt (fun k => shape_corners.f k l) (box l) := by
 have H : ∀ d i s, l.length = i + d → Rt (fun k => shape_corners.l0 k l (l.length : Int) (i : Int) s.1 s.2.1 s.2.2.1 s.2.2.2) ((l.drop i).foldl bstep s) := by
  intro d
  induction d with
  | zero =>
   intro i s hi
   refine rt_ret fun k => ?_
   rw [shape_corners.l0, if_neg (by omega), List.drop_of_length_le (by omega)]; rfl
  | succ d ih =>
   intro i s hi
   refine rt_step (fun k => ?_) (by rw [drop_cons_at (show i < l.length by omega)]; exact ih (i + 1) (bstep s (at_ l i)) (by omega))
   rw [shape_corners.l0, if_pos (by omega), if_pos (by omega), if_pos (by omega), wrap_succ i (by omega), rd_at, mn_eq, mn_eq, mx_eq, mx_eq]; rfl
 obtain ⟨K, hK⟩ := H l.length 0 ((at_ l 0).f0, (at_ l 0).f1, (at_ l 0).f0, (at_ l 0).f1) (by omega)
 refine ⟨K, fun k hk => ?_⟩
 have a := hK k hk
 dsimp only at a ⊢
 unfold shape_corners.f
 rw [if_pos (by omega), show (0 : Int) = ((0 : Nat) : Int) from rfl, rd_at]; exact a
theorem box_run {l : List Pt} (h0 : 0 < l.length) (hN : l.length ≤ 1000000) : Rt (fun k => cracknelref04_box.f k l) (box l) := by
 have H : ∀ d i s, l.length = i + d → Rt (fun k => cracknelref04_box.l0 k l (i : Int) s.1 s.2.1 s.2.2.1 s.2.2.2) ((l.drop i).foldl bstep s) := by
  intro d
  induction d with
  | zero =>
   intro i s hi
   refine rt_ret fun k => ?_
   rw [cracknelref04_box.l0, if_neg (by omega), List.drop_of_length_le (by omega)]; rfl
  | succ d ih =>
   intro i s hi
   refine rt_step (fun k => ?_) (by rw [drop_cons_at (show i < l.length by omega)]; exact ih (i + 1) (bstep s (at_ l i)) (by omega))
   rw [cracknelref04_box.l0, if_pos (by omega), if_pos (by omega), wrap_succ i (by omega), rd_at, mn_eq, mn_eq, mx_eq, mx_eq]; rfl
 obtain ⟨K, hK⟩ := H l.length 0 ((at_ l 0).f0, (at_ l 0).f1, (at_ l 0).f0, (at_ l 0).f1) (by omega)
 refine ⟨K, fun k hk => ?_⟩
 have a := hK k hk
 dsimp only at a ⊢
 unfold cracknelref04_box.f
 rw [if_pos (by omega), show (0 : Int) = ((0 : Nat) : Int) from rfl, rd_at]; exact a
theorem fold_box : ∀ (l : List Pt) (s : Int × Int × Int × Int), ((l.foldl bstep s).1 ≤ s.1 ∧ (l.foldl bstep s).2.1 ≤ s.2.1 ∧ s.2.2.1 ≤ (l.foldl bstep s).2.2.1 ∧ s.2.2.2 ≤ (l.foldl bstep s).2.2.2) ∧
  (∀ p ∈ l, (l.foldl bstep s).1 ≤ p.f0 ∧ (l.foldl bstep s).2.1 ≤ p.f1 ∧ p.f0 ≤ (l.foldl bstep s).2.2.1 ∧ p.f1 ≤ (l.foldl bstep s).2.2.2) ∧
  ((l.foldl bstep s).1 = s.1 ∨ ∃ p ∈ l, p.f0 = (l.foldl bstep s).1) ∧ ((l.foldl bstep s).2.1 = s.2.1 ∨ ∃ p ∈ l, p.f1 = (l.foldl bstep s).2.1) ∧
  ((l.foldl bstep s).2.2.1 = s.2.2.1 ∨ ∃ p ∈ l, p.f0 = (l.foldl bstep s).2.2.1) ∧ ((l.foldl bstep s).2.2.2 = s.2.2.2 ∨ ∃ p ∈ l, p.f1 = (l.foldl bstep s).2.2.2) := by
 intro l
 induction l with
 | nil => intro s; exact ⟨⟨Int.le_refl _, Int.le_refl _, Int.le_refl _, Int.le_refl _⟩, fun p hp => absurd hp (by simp), Or.inl rfl, Or.inl rfl, Or.inl rfl, Or.inl rfl⟩
 | cons a l ih =>
  intro s
  obtain ⟨⟨a1, a2, a3, a4⟩, hm, e1, e2, e3, e4⟩ := ih (bstep s a)
  rw [List.foldl_cons]
  generalize hr : l.foldl bstep (bstep s a) = r at *
  have d1 : (bstep s a).1 = min s.1 a.f0 := rfl
  have d2 : (bstep s a).2.1 = min s.2.1 a.f1 := rfl
  have d3 : (bstep s a).2.2.1 = max s.2.2.1 a.f0 := rfl
  have d4 : (bstep s a).2.2.2 = max s.2.2.2 a.f1 := rfl
  refine ⟨⟨by omega, by omega, by omega, by omega⟩, fun p hp => ?_, ?_, ?_, ?_, ?_⟩
  ·rcases List.mem_cons.mp hp with e | e
   ·subst e; exact ⟨by omega, by omega, by omega, by omega⟩
   ·exact hm p e
  ·rcases e1 with e | ⟨p, hp, e⟩
   ·by_cases h : s.1 ≤ a.f0
    ·left; omega
    ·right; exact ⟨a, by simp, by omega⟩
   ·right; exact ⟨p, by simp [hp], e⟩
  ·rcases e2 with e | ⟨p, hp, e⟩
   ·by_cases h : s.2.1 ≤ a.f1
    ·left; omega
    ·right; exact ⟨a, by simp, by omega⟩
   ·right; exact ⟨p, by simp [hp], e⟩
  ·rcases e3 with e | ⟨p, hp, e⟩
   ·by_cases h : a.f0 ≤ s.2.2.1
    ·left; omega
    ·right; exact ⟨a, by simp, by omega⟩
   ·right; exact ⟨p, by simp [hp], e⟩
  ·rcases e4 with e | ⟨p, hp, e⟩
   ·by_cases h : a.f1 ≤ s.2.2.2
    ·left; omega
    ·right; exact ⟨a, by simp, by omega⟩
   ·right; exact ⟨p, by simp [hp], e⟩
theorem box_in {l : List Pt} : ∀ p ∈ l, (box l).1 ≤ p.f0 ∧ (box l).2.1 ≤ p.f1 ∧ p.f0 ≤ (box l).2.2.1 ∧ p.f1 ≤ (box l).2.2.2 := (fold_box l _).2.1
theorem box_at {l : List Pt} (h0 : 0 < l.length) : (∃ p ∈ l, p.f0 = (box l).1) ∧ (∃ p ∈ l, p.f1 = (box l).2.1) ∧ (∃ p ∈ l, p.f0 = (box l).2.2.1) ∧ (∃ p ∈ l, p.f1 = (box l).2.2.2) := by
 obtain ⟨_, _, e1, e2, e3, e4⟩ := fold_box l ((at_ l 0).f0, (at_ l 0).f1, (at_ l 0).f0, (at_ l 0).f1)
 have hm := at_mem h0
 exact ⟨e1.elim (fun e => ⟨_, hm, e.symm⟩) id, e2.elim (fun e => ⟨_, hm, e.symm⟩) id, e3.elim (fun e => ⟨_, hm, e.symm⟩) id, e4.elim (fun e => ⟨_, hm, e.symm⟩) id⟩
theorem shifted_zero (b : List Pt) : shifted ⟨0, 0⟩ b = b := by
 unfold shifted
 rw [show shift ⟨0, 0⟩ = id from funext fun p => by unfold shift; apply pt_ext <;> simp]; exact List.map_id _
theorem first_min : ∀ S : List Pt, S ≠ [] → ∃ o ∈ S, ∀ t ∈ S, t = o ∨ first o t := by
 intro S
 induction S with
 | nil => intro h; exact absurd rfl h
 | cons a S ih =>
  intro _
  by_cases hS : S = []
  ·subst hS; exact ⟨a, by simp, fun t ht => Or.inl (by simpa using ht)⟩
  ·obtain ⟨o, ho, hm⟩ := ih hS
   rcases first_tri a o with e | e | e
   ·subst e; exact ⟨a, by simp, fun t ht => by rcases List.mem_cons.mp ht with h | h; exact Or.inl h; exact hm t h⟩
   ·refine ⟨a, by simp, fun t ht => ?_⟩
    rcases List.mem_cons.mp ht with h | h
    ·exact Or.inl h
    ·rcases hm t h with h2 | h2
     ·right; rw [h2]; exact e
     ·right; exact first_trans e h2
   ·refine ⟨o, by simp [ho], fun t ht => ?_⟩
    rcases List.mem_cons.mp ht with h | h
    ·right; rw [h]; exact e
    ·exact hm t h
theorem hull_exists {S : List Pt} (hf : ¬ Flat S) : ∃ s, Ring S s ∧ ∀ p ∈ S, p = at_ s 0 ∨ first (at_ s 0) p := by
 have hne : S ≠ [] := by rintro rfl; exact hf (fun a ha => absurd ha (by simp))
 obtain ⟨o, ho, hm⟩ := first_min S hne
 obtain ⟨n, _, r, _, _⟩ := ring_around ho hm (two_of_not_flat hf)
 refine ⟨_, r, ?_⟩
 have e : at_ (around S n o) 0 = o := by cases n <;> rfl
 rw [e]; exact hm
theorem line_sep {m m' : Int} {a b : List Pt} (na : Nf m a) (nb : Nf m' b) {e : Pt} (he : ¬ (e.f0 = 0 ∧ e.f1 = 0)) (h : ∀ x ∈ a, ∀ y ∈ b, 0 ≤ cx e (vec y x)) : Sep a b ∨ Sep b a := by
 have ha3 := na.three
 have hb3 := nb.three
 have hn : ∀ p, p ∈ negs b ↔ neg p ∈ b := fun p => negs_mem
 have hbn : ∀ y ∈ b, neg y ∈ negs b := fun y hy => by rw [negs_mem, neg_neg]; exact hy
 obtain ⟨M, hM⟩ : ∃ M : Int, (∀ p ∈ a, In M p) ∧ (∀ p ∈ b, In M p) := ⟨max m m', fun p hp => by have := na.inb p hp; unfold In at *; omega, fun p hp => by have := nb.inb p hp; unfold In at *; omega⟩
 have hnf : ¬ Flat (sums a (negs b)) := fun hf => na.flat (sums_flat (by unfold negs; rw [List.length_map]; omega) hf)
 obtain ⟨s, rs, fs⟩ : ∃ s, Ring (sums a (negs b)) s ∧ ∀ p ∈ sums a (negs b), p = at_ s 0 ∨ first (at_ s 0) p := hull_exists hnf
 have ns : Nf (2 * M) s := Nf.of_ring rs hnf fs (fun p hp => by
  obtain ⟨x, hx, y, hy, rfl⟩ := sums_mem.mp hp
  have h1 := hM.1 x hx
  have h2 := hM.2 (neg y) ((hn y).mp hy)
  unfold In neg at h2; unfold In plus at *; dsimp only at *; omega)
 have key := nofit_sep (v := ⟨0, 0⟩) (m := max m m') ⟨na.ring, na.flat, na.fst, fun p hp => by have := na.inb p hp; unfold In at *; omega⟩ ⟨nb.ring, nb.flat, nb.fst, fun p hp => by have := nb.inb p hp; unfold In at *; omega⟩ hn ns rs
 rw [shifted_zero] at key
 refine key.mp (fun hI => ?_)
 obtain ⟨i, hi, hp⟩ := inside_far ns.three (ring_strong ns.ring) hI he
 have hmem := ring_sub rs _ (at_mem hi)
 obtain ⟨x, hx, y, hy, e1⟩ := sums_mem.mp hmem
 rw [e1] at hp
 have h2 := h x hx (neg y) ((hn y).mp hy)
 have e2 : cx e (vec (plus x y) ⟨0, 0⟩) = - cx e (vec (neg y) x) := by unfold cx vec plus neg; dsimp only; grind
 omega
end Go.Proofs.Ythehmkpcddafnaa.M
end
section
namespace Go.Proofs.Ythehmkpcddafnaa.M
open Go.Proofs.Ythehmkpcddafnaa.PG
abbrev El := Pt × Int × Int
abbrev X (e : El) : Int := e.2.1
abbrev Y (e : El) : Int := e.2.2
def s0 (f : El → Int) : List El → Int
 | [] => 0
 | e :: L => f e * e.1.f0 + s0 f L
def s1 (f : El → Int) : List El → Int
 | [] => 0
 | e :: L => f e * e.1.f1 + s1 f L
def Bq (f g : El → Int) : List El → Int
 | [] => 0
 | e :: L => f e * (e.1.f0 * s1 g L - e.1.f1 * s0 g L) + g e * (e.1.f0 * s1 f L - e.1.f1 * s0 f L) + Bq f g L
theorem s0_app (f : El → Int) (L M : List El) : s0 f (L ++ M) = s0 f L + s0 f M := by
 induction L with
 | nil => simp [s0]
 | cons e L ih => simp only [List.cons_append, s0, ih]; omega
theorem s1_app (f : El → Int) (L M : List El) : s1 f (L ++ M) = s1 f L + s1 f M := by
 induction L with
 | nil => simp [s1]
 | cons e L ih => simp only [List.cons_append, s1, ih]; omega
def Clo (f : El → Int) (L : List El) : Prop := s0 f L = 0 ∧ s1 f L = 0
theorem Clo.rot {f : El → Int} {L M : List El} (h : Clo f (L ++ M)) : Clo f (M ++ L) := by
 unfold Clo at *; rw [s0_app, s1_app] at *; omega
def tri (a b c : Pt) : Prop := (0 < cx a b ∧ 0 < cx b c) ∨ (0 < cx b c ∧ 0 < cx c a) ∨ (0 < cx c a ∧ 0 < cx a b)
theorem tri.rot {a b c : Pt} (h : tri a b c) : tri b c a := by unfold tri at *; omega
def Cyc (L : List El) : Prop := ∀ a b c, List.Sublist [a, b, c] (L.map Prod.fst) → tri a b c
theorem Cyc.rot {L M : List El} (h : Cyc (L ++ M)) : Cyc (M ++ L) := by
 intro a b c t
 rw [List.map_append] at t
 obtain ⟨t1, t2, e, h1, h2⟩ := List.sublist_append_iff.mp t
 have key : List.Sublist (t2 ++ t1) ((L ++ M).map Prod.fst) := by rw [List.map_append]; exact h2.append h1
 match t1, t2, e with
 | [], t2, e => rw [List.nil_append] at e; subst e; exact h _ _ _ (by simpa using key)
 | [x], t2, e => simp only [List.cons_append, List.nil_append, List.cons.injEq] at e; obtain ⟨rfl, rfl⟩ := e; exact (h _ _ _ (by simpa using key)).rot.rot
 | [x, y], t2, e => simp only [List.cons_append, List.nil_append, List.cons.injEq] at e; obtain ⟨rfl, rfl, rfl⟩ := e; exact (h _ _ _ (by simpa using key)).rot
 | [x, y, z], t2, e => simp only [List.cons_append, List.nil_append, List.cons.injEq] at e; obtain ⟨rfl, rfl, rfl, e4⟩ := e; subst e4; exact h _ _ _ (by simpa using key)
 | x :: y :: z :: w :: r, t2, e => simp at e
theorem cross_sum (f : El → Int) (v : Pt) : ∀ L : List El, (∀ e ∈ L, 0 ≤ f e * cx e.1 v) → 0 ≤ s0 f L * v.f1 - s1 f L * v.f0 := by
 intro L
 induction L with
 | nil => intro _; simp [s0, s1]
 | cons e L ih =>
  intro h
  have h1 := h e (by simp)
  have h2 := ih (fun x hx => h x (by simp [hx]))
  have : (f e * e.1.f0 + s0 f L) * v.f1 - (f e * e.1.f1 + s1 f L) * v.f0 = f e * cx e.1 v + (s0 f L * v.f1 - s1 f L * v.f0) := by unfold cx; grind
  simp only [s0, s1]; omega
theorem cross_sum' (f : El → Int) (v : Pt) : ∀ L : List El, (∀ e ∈ L, f e * cx e.1 v ≤ 0) → s0 f L * v.f1 - s1 f L * v.f0 ≤ 0 := by
 intro L
 induction L with
 | nil => intro _; simp [s0, s1]
 | cons e L ih =>
  intro h
  have h1 := h e (by simp)
  have h2 := ih (fun x hx => h x (by simp [hx]))
  have : (f e * e.1.f0 + s0 f L) * v.f1 - (f e * e.1.f1 + s1 f L) * v.f0 = f e * cx e.1 v + (s0 f L * v.f1 - s1 f L * v.f0) := by unfold cx; grind
  simp only [s0, s1]; omega
end Go.Proofs.Ythehmkpcddafnaa.M
end
section
namespace Go.Proofs.Ythehmkpcddafnaa.M
open Go.Proofs.Ythehmkpcddafnaa.PG
def cnI (a b k : Int) : Int := if a < 0 ∧ 0 < b ∧ 0 < k then 1 else if 0 < a ∧ b < 0 ∧ k < 0 then -1 else 0
def cn (p q : Int) (u v : Pt) : Int := cnI (ph p q u) (ph p q v) (cx u v)
theorem mulsg {a b : Int} (ha : 0 < a) : (0 ≤ b → 0 ≤ a * b) ∧ (0 < b → 0 < a * b) ∧ (b ≤ 0 → a * b ≤ 0) ∧ (b < 0 → a * b < 0) :=
 ⟨fun h => Int.mul_nonneg (by omega) h, fun h => Int.mul_pos ha h, fun h => Int.mul_nonpos_of_nonneg_of_nonpos (by omega) h, fun h => Int.mul_neg_of_pos_of_neg ha h⟩
theorem comb {u v w s t m : Int} (hu : 0 < u) (hv : 0 < v) (hw : 0 < w) (h : w * m = u * s + v * t) :
  (0 ≤ s → 0 ≤ t → (0 < s ∨ 0 < t) → 0 < m) ∧ (s ≤ 0 → t ≤ 0 → (s < 0 ∨ t < 0) → m < 0) := by
 have k1 := mulsg (b := s) hu
 have k2 := mulsg (b := t) hv
 have k3 := mulsg (b := m) hw
 refine ⟨fun h1 h2 h3 => ?_, fun h1 h2 h3 => ?_⟩
 ·rcases Int.lt_or_le 0 m with x | x
  ·exact x
  ·have := k3.2.2.1 x
   have a1 := k1.1 h1
   have a2 := k2.1 h2
   rcases h3 with h3 | h3
   ·have := k1.2.1 h3; omega
   ·have := k2.2.1 h3; omega
 ·rcases Int.lt_or_le m 0 with x | x
  ·exact x
  ·have := k3.1 x
   have a1 := k1.2.2.1 h1
   have a2 := k2.2.2.1 h2
   rcases h3 with h3 | h3
   ·have := k1.2.2.2 h3; omega
   ·have := k2.2.2.2 h3; omega
theorem cnI_up {a b k : Int} (h1 : a < 0) (h2 : 0 < b) : cnI a b k = if 0 < k then 1 else 0 := by
 unfold cnI; by_cases h : 0 < k
 ·rw [if_pos ⟨h1, h2, h⟩, if_pos h]
 ·rw [if_neg (by omega), if_neg (by omega), if_neg h]
theorem cnI_dn {a b k : Int} (h1 : 0 < a) (h2 : b < 0) : cnI a b k = if k < 0 then -1 else 0 := by
 unfold cnI; by_cases h : k < 0
 ·rw [if_neg (by omega), if_pos ⟨h1, h2, h⟩, if_pos h]
 ·rw [if_neg (by omega), if_neg (by omega), if_neg h]
theorem cnI_pp {a b k : Int} (h1 : 0 < a) (h2 : 0 < b) : cnI a b k = 0 := by unfold cnI; rw [if_neg (by omega), if_neg (by omega)]
theorem cnI_nn {a b k : Int} (h1 : a < 0) (h2 : b < 0) : cnI a b k = 0 := by unfold cnI; rw [if_neg (by omega), if_neg (by omega)]
set_option maxHeartbeats 4000000 in
theorem quadI {a b c d al be ga de : Int} (ha : a ≠ 0) (hb : b ≠ 0) (hc : c ≠ 0) (hd : d ≠ 0) (hs : a + c = b + d) (hk : al + ga = be + de)
  (t1 : a * be = b * (al + ga) - c * al) (t2 : a * (be - al) = b * ga - d * al) (t3 : -(a * de) = c * ga - d * (al + ga)) (t4 : -(b * de) = c * (be - al) - d * be)
  (zA : (a < 0 ∧ 0 < b ∨ 0 < a ∧ b < 0) → al ≠ 0) (zB : (b < 0 ∧ 0 < c ∨ 0 < b ∧ c < 0) → be ≠ 0) (zG : (a < 0 ∧ 0 < d ∨ 0 < a ∧ d < 0) → ga ≠ 0) (zD : (d < 0 ∧ 0 < c ∨ 0 < d ∧ c < 0) → de ≠ 0)
  (nM : ¬ (((0 < ga ∧ be < 0) ∨ (ga < 0 ∧ 0 < be)) ∧ ((0 < al ∧ de < 0) ∨ (al < 0 ∧ 0 < de)))) :
  cnI a b al + cnI b c be = cnI a d ga + cnI d c de := by
 rcases Int.lt_or_gt_of_ne ha with sa | sa <;> rcases Int.lt_or_gt_of_ne hb with sb | sb <;> rcases Int.lt_or_gt_of_ne hc with sc | sc <;> rcases Int.lt_or_gt_of_ne hd with sd | sd
 ·rw [cnI_nn (by omega) (by omega), cnI_nn (by omega) (by omega), cnI_nn (by omega) (by omega), cnI_nn (by omega) (by omega)]
 ·have k := comb (u := -c) (v := -a) (w := d) (s := -ga) (t := -de) (m := al + ga) (by omega) (by omega) (by omega) (by clear zA zB zG zD nM ha hb hc hd sa sb sc sd; grind)
  rw [cnI_nn (by omega) (by omega), cnI_nn (by omega) (by omega), cnI_up (by omega) (by omega), cnI_dn (by omega) (by omega)]
  repeat' split
  all_goals omega
 ·have k := comb (u := -d) (v := -b) (w := c) (s := -be) (t := de) (m := be - al) (by omega) (by omega) (by omega) (by clear zA zB zG zD nM ha hb hc hd sa sb sc sd; grind)
  rw [cnI_nn (by omega) (by omega), cnI_up (by omega) (by omega), cnI_nn (by omega) (by omega), cnI_up (by omega) (by omega)]
  repeat' split
  all_goals omega
 ·have k := comb (u := -a) (v := -b) (w := c - b) (s := be) (t := -ga) (m := al) (by omega) (by omega) (by omega) (by clear zA zB zG zD nM ha hb hc hd sa sb sc sd; grind)
  have k' := comb (u := c) (v := d) (w := d - a) (s := ga) (t := -be) (m := de) (by omega) (by omega) (by omega) (by clear zA zB zG zD nM ha hb hc hd sa sb sc sd; grind)
  rw [cnI_nn (by omega) (by omega), cnI_up (by omega) (by omega), cnI_up (by omega) (by omega), cnI_pp (by omega) (by omega)]
  repeat' split
  all_goals omega
 ·have k := comb (u := -a) (v := -c) (w := b) (s := -be) (t := -al) (m := al + ga) (by omega) (by omega) (by omega) (by clear zA zB zG zD nM ha hb hc hd sa sb sc sd; grind)
  rw [cnI_up (by omega) (by omega), cnI_dn (by omega) (by omega), cnI_nn (by omega) (by omega), cnI_nn (by omega) (by omega)]
  repeat' split
  all_goals omega
 ·omega
 ·have k := comb (u := b) (v := c) (w := b - a) (s := -de) (t := al) (m := be) (by omega) (by omega) (by omega) (by clear zA zB zG zD nM ha hb hc hd sa sb sc sd; grind)
  have k' := comb (u := -a) (v := -d) (w := c - d) (s := de) (t := -al) (m := ga) (by omega) (by omega) (by omega) (by clear zA zB zG zD nM ha hb hc hd sa sb sc sd; grind)
  rw [cnI_up (by omega) (by omega), cnI_pp (by omega) (by omega), cnI_nn (by omega) (by omega), cnI_up (by omega) (by omega)]
  repeat' split
  all_goals omega
 ·have k := comb (u := b) (v := d) (w := -a) (s := ga) (t := -al) (m := al - be) (by omega) (by omega) (by omega) (by clear zA zB zG zD nM ha hb hc hd sa sb sc sd; grind)
  rw [cnI_up (by omega) (by omega), cnI_pp (by omega) (by omega), cnI_up (by omega) (by omega), cnI_pp (by omega) (by omega)]
  repeat' split
  all_goals omega
 ·have k := comb (u := -b) (v := -d) (w := a) (s := -ga) (t := al) (m := be - al) (by omega) (by omega) (by omega) (by clear zA zB zG zD nM ha hb hc hd sa sb sc sd; grind)
  rw [cnI_dn (by omega) (by omega), cnI_nn (by omega) (by omega), cnI_dn (by omega) (by omega), cnI_nn (by omega) (by omega)]
  repeat' split
  all_goals omega
 ·have k := comb (u := -b) (v := -c) (w := a - b) (s := -de) (t := al) (m := be) (by omega) (by omega) (by omega) (by clear zA zB zG zD nM ha hb hc hd sa sb sc sd; grind)
  have k' := comb (u := a) (v := d) (w := d - c) (s := de) (t := -al) (m := ga) (by omega) (by omega) (by omega) (by clear zA zB zG zD nM ha hb hc hd sa sb sc sd; grind)
  rw [cnI_dn (by omega) (by omega), cnI_nn (by omega) (by omega), cnI_pp (by omega) (by omega), cnI_dn (by omega) (by omega)]
  repeat' split
  all_goals omega
 ·omega
 ·have k := comb (u := a) (v := c) (w := -b) (s := be) (t := al) (m := -(al + ga)) (by omega) (by omega) (by omega) (by clear zA zB zG zD nM ha hb hc hd sa sb sc sd; grind)
  rw [cnI_dn (by omega) (by omega), cnI_up (by omega) (by omega), cnI_pp (by omega) (by omega), cnI_pp (by omega) (by omega)]
  repeat' split
  all_goals omega
 ·have k := comb (u := a) (v := b) (w := b - c) (s := be) (t := -ga) (m := al) (by omega) (by omega) (by omega) (by clear zA zB zG zD nM ha hb hc hd sa sb sc sd; grind)
  have k' := comb (u := -c) (v := -d) (w := a - d) (s := ga) (t := -be) (m := de) (by omega) (by omega) (by omega) (by clear zA zB zG zD nM ha hb hc hd sa sb sc sd; grind)
  rw [cnI_pp (by omega) (by omega), cnI_dn (by omega) (by omega), cnI_dn (by omega) (by omega), cnI_nn (by omega) (by omega)]
  repeat' split
  all_goals omega
 ·have k := comb (u := d) (v := b) (w := -c) (s := be) (t := -de) (m := al - be) (by omega) (by omega) (by omega) (by clear zA zB zG zD nM ha hb hc hd sa sb sc sd; grind)
  rw [cnI_pp (by omega) (by omega), cnI_dn (by omega) (by omega), cnI_pp (by omega) (by omega), cnI_dn (by omega) (by omega)]
  repeat' split
  all_goals omega
 ·have k := comb (u := c) (v := a) (w := -d) (s := ga) (t := de) (m := -(al + ga)) (by omega) (by omega) (by omega) (by clear zA zB zG zD nM ha hb hc hd sa sb sc sd; grind)
  rw [cnI_pp (by omega) (by omega), cnI_pp (by omega) (by omega), cnI_dn (by omega) (by omega), cnI_up (by omega) (by omega)]
  repeat' split
  all_goals omega
 ·rw [cnI_pp (by omega) (by omega), cnI_pp (by omega) (by omega), cnI_pp (by omega) (by omega), cnI_pp (by omega) (by omega)]
theorem on_height {p q : Int} {a b c : Pt} (h : cr a b c = 0) (hs : (ph p q (vec a c) < 0 ∧ 0 < ph p q (vec b c)) ∨ (0 < ph p q (vec a c) ∧ ph p q (vec b c) < 0)) : On a b c := by
 refine ⟨h, ?_⟩
 have e1 : ∀ u v, fn p q u v = ph p q (vec u v) := fun u v => rfl
 have e2 := fn_add p q a b c
 have e3 := fn_neg p q b c
 rw [e1, e1, e1] at e2
 rcases hs with ⟨h1, h2⟩ | ⟨h1, h2⟩
 ·have n : ∀ u v, fn (-p) (-q) u v = - ph p q (vec u v) := by intro u v; unfold fn ph vec; dsimp only; grind
  exact btw_of_fn (p := -p) (q := -q) (by rw [n]; omega) (by rw [n]; omega) (by rw [n, n]; omega) h
 ·exact btw_of_fn (p := p) (q := q) (by rw [e1]; omega) (by rw [e1]; omega) (by rw [e1, e1]; omega) h
theorem quad {p q : Int} {a b c d : Pt} (hA : ph p q (vec a c) ≠ 0) (hB : ph p q (vec a d) ≠ 0) (hC : ph p q (vec b d) ≠ 0) (hD : ph p q (vec b c) ≠ 0) (hM : ¬ Meet a b c d) :
  cn p q (vec a c) (vec a d) + cn p q (vec a d) (vec b d) = cn p q (vec a c) (vec b c) + cn p q (vec b c) (vec b d) := by
 have x1 : cx (vec a c) (vec a d) = cr c d a := by unfold cx vec cr; dsimp only; grind
 have x2 : cx (vec a d) (vec b d) = cr a b d := by unfold cx vec cr; dsimp only; grind
 have x3 : cx (vec a c) (vec b c) = cr a b c := by unfold cx vec cr; dsimp only; grind
 have x4 : cx (vec b c) (vec b d) = cr c d b := by unfold cx vec cr; dsimp only; grind
 unfold cn
 rw [x1, x2, x3, x4]
 unfold Meet at hM
 refine quadI hA hB hC hD ?_ ?_ ?_ ?_ ?_ ?_ (fun h e => ?_) (fun h e => ?_) (fun h e => ?_) (fun h e => ?_) (fun h => hM (Or.inr (Or.inr (Or.inr (Or.inr h)))))
 ·unfold ph vec; dsimp only; grind
 ·unfold cr; grind
 ·unfold cr ph vec; dsimp only; grind
 ·unfold cr ph vec; dsimp only; grind
 ·unfold cr ph vec; dsimp only; grind
 ·unfold cr ph vec; dsimp only; grind
 ·refine hM (Or.inr (Or.inr (Or.inl (on_height (p := -p) (q := -q) e ?_))))
  have n : ∀ u v, ph (-p) (-q) (vec u v) = ph p q (vec v u) := by intro u v; unfold ph vec; dsimp only; grind
  rw [n, n]; omega
 ·exact hM (Or.inr (Or.inl (on_height (p := p) (q := q) e (by omega))))
 ·exact hM (Or.inl (on_height (p := p) (q := q) e (by omega)))
 ·refine hM (Or.inr (Or.inr (Or.inr (Or.inl (on_height (p := -p) (q := -q) e ?_)))))
  have n : ∀ u v, ph (-p) (-q) (vec u v) = ph p q (vec v u) := by intro u v; unfold ph vec; dsimp only; grind
  rw [n, n]; omega
theorem cn_sum {p q : Int} {u v w : Pt} (h0 : w.f0 = u.f0 + v.f0) (h1 : w.f1 = u.f1 + v.f1) (_hu : ph p q u ≠ 0) (_hv : ph p q v ≠ 0) (hw : ph p q w ≠ 0) : cn p q u w + cn p q w v = cn p q u v := by
 have e : ph p q w = ph p q u + ph p q v := by unfold ph; rw [h0, h1]; grind
 have c1 : cx u w = cx u v := by unfold cx; rw [h0, h1]; grind
 have c2 : cx w v = cx u v := by unfold cx; rw [h0, h1]; grind
 unfold cn
 rw [c1, c2]
 unfold cnI; repeat' split
 all_goals omega
end Go.Proofs.Ythehmkpcddafnaa.M
end
section
namespace Go.Proofs.Ythehmkpcddafnaa.M
open Go.Proofs.Ythehmkpcddafnaa.PG
end Go.Proofs.Ythehmkpcddafnaa.M
end
section
namespace Go.Proofs.Ythehmkpcddafnaa.M
open Go.Proofs.Ythehmkpcddafnaa.PG
end Go.Proofs.Ythehmkpcddafnaa.M
end
section
namespace Go.Proofs.Ythehmkpcddafnaa.M
open Go.Proofs.Ythehmkpcddafnaa.PG
theorem Bf.tri {p q : Int} {u v w : Pt} (h1 : Bf p q u v) (h2 : Bf p q v w) : tri u v w := by
 have id := id3 p q u v w
 have id2 := id3 p q w u v
 have sw := cx_swap u w
 have sw2 := cx_swap v w
 unfold M.tri
 rcases h1 with ⟨a, b⟩ | ⟨a, b, c⟩ | ⟨a, b, c⟩ <;> rcases h2 with ⟨d, e⟩ | ⟨d, e, f⟩ | ⟨d, e, f⟩
 ·omega
 ·omega
 ·-- up, down, down
  rcases Int.lt_or_le 0 (cx u v) with k | k
  ·exact Or.inl ⟨k, f⟩
  ·refine Or.inr (Or.inl ⟨f, ?_⟩)
   have m1 : 0 < ph p q u * cx v w := Int.mul_pos a f
   have m2 : 0 ≤ ph p q w * cx u v := Int.mul_nonneg_of_nonpos_of_nonpos (by omega) k
   rcases Int.lt_or_le (cx u w) 0 with k2 | k2
   ·omega
   ·have := Int.mul_nonpos_of_nonpos_of_nonneg (show ph p q v ≤ 0 by omega) k2; omega
 ·-- up, up, down
  rcases Int.lt_or_le 0 (cx v w) with k | k
  ·exact Or.inl ⟨c, k⟩
  ·refine Or.inr (Or.inr ⟨?_, c⟩)
   have m1 : ph p q u * cx v w ≤ 0 := Int.mul_nonpos_of_nonneg_of_nonpos (by omega) k
   have m2 : ph p q w * cx u v < 0 := Int.mul_neg_of_neg_of_pos e c
   rcases Int.lt_or_le (cx u w) 0 with k2 | k2
   ·omega
   ·have := Int.mul_nonneg (show 0 ≤ ph p q v by omega) k2; omega
 ·exact Or.inl ⟨c, f⟩
 ·omega
 ·omega
 ·omega
 ·exact Or.inl ⟨c, f⟩
theorem cyc_of_bf {p q : Int} {L : List El} (h : L.Pairwise (fun e e' => Bf p q e.1 e'.1)) : Cyc L := by
 intro a b c hs
 have h1 : (L.map Prod.fst).Pairwise (Bf p q) := List.pairwise_map.mpr h
 have h2 := h1.sublist hs
 simp only [List.pairwise_cons, List.mem_cons, List.not_mem_nil, or_false, forall_eq_or_imp, forall_eq] at h2
 exact h2.1.1.tri h2.2.1
def arA (l : List Pt) : Nat → Nat → Int
 | 0, _ => 0
 | d + 1, i => cx (P l i) (P l (i + 1)) + arA l d (i + 1)
def par : List Pt → Int
 | a :: b :: r => cx a b + par (b :: r)
 | _ => 0
section
variable {p q : Int} {a b S : List Pt}
def Z (e : El) : Int := X e + Y e
structure Way (p q : Int) (a b : List Pt) (d i j : Nat) (U : List El) : Prop where
 ord : U.Pairwise (fun e e' => Bf p q e.1 e'.1)
 bef : ∀ e ∈ U, (0 < i → Bf p q (ed a (i - 1)) e.1) ∧ (0 < j → Bf p q (ed b (j - 1)) e.1)
 pos : ∀ e ∈ U, 0 ≤ X e ∧ 0 ≤ Y e
 sx0 : s0 X U = (P a a.length).f0 - (P a i).f0
 sx1 : s1 X U = (P a a.length).f1 - (P a i).f1
 sy0 : s0 Y U = (P b b.length).f0 - (P b j).f0
 sy1 : s1 Y U = (P b b.length).f1 - (P b j).f1
 az : 2 * par (V a b i j :: path a b d i j) = 2 * ((V a b i j).f0 * s1 Z U - (V a b i j).f1 * s0 Z U) + Bq Z Z U
 ax : 2 * arA a (a.length - i) i = 2 * ((P a i).f0 * s1 X U - (P a i).f1 * s0 X U) + Bq X X U
 ay : 2 * arA b (b.length - j) j = 2 * ((P b j).f0 * s1 Y U - (P b j).f1 * s0 Y U) + Bq Y Y U
end
end Go.Proofs.Ythehmkpcddafnaa.M
end
section
namespace Go.Proofs.Ythehmkpcddafnaa.M
open Go.Proofs.Ythehmkpcddafnaa.PG
section
variable (p q : Int) (l : List Pt)
def F (i j : Nat) : Pt := vec (P l i) (P l j)
def Hs (i j : Nat) : Int := cn p q (F l i j) (F l i (j + 1))
def Ws (i j : Nat) : Int := cn p q (F l i j) (F l (i + 1) j)
def sH (i : Nat) : Nat → Nat → Int
 | _, 0 => 0
 | j, m + 1 => Hs p q l i j + sH i (j + 1) m
def sW (n : Nat) : Nat → Nat → Int
 | _, 0 => 0
 | i, m + 1 => Ws p q l i n + sW n (i + 1) m
def sS : Nat → Nat → Int
 | _, 0 => 0
 | i, m + 1 => cn p q (ed l i) (ed l (i + 1)) + sS (i + 1) m
end
section
variable {p q : Int} {l : List Pt}
theorem sH_end (i : Nat) : ∀ m j, sH p q l i j (m + 1) = sH p q l i j m + Hs p q l i (j + m) := by
 intro m
 induction m with
 | zero => intro j; simp [sH]
 | succ m ih => intro j; rw [sH, ih (j + 1), sH, show j + 1 + m = j + (m + 1) by omega]; omega
structure Free (p q : Int) (l : List Pt) : Prop where
 three : 3 ≤ l.length
 lev : ∀ i j, i < j → j ≤ l.length → ¬ (i = 0 ∧ j = l.length) → ph p q (F l i j) ≠ 0
 apart : ∀ i j, i + 2 ≤ j → j < l.length → ¬ (i = 0 ∧ j + 1 = l.length) → ¬ Meet (P l i) (P l (i + 1)) (P l j) (P l (j + 1))
theorem square (h : Free p q l) (i j : Nat) (h1 : i + 2 ≤ j) (h2 : j < l.length) (h3 : ¬ (i = 0 ∧ j + 1 = l.length)) : Hs p q l i j + Ws p q l i (j + 1) = Ws p q l i j + Hs p q l (i + 1) j :=
 quad (h.lev i j (by omega) (by omega) (by omega)) (h.lev i (j + 1) (by omega) (by omega) h3) (h.lev (i + 1) (j + 1) (by omega) (by omega) (by omega)) (h.lev (i + 1) j (by omega) (by omega) (by omega)) (h.apart i j h1 h2 h3)
theorem tele (h : Free p q l) (i : Nat) : ∀ m j, i + 2 ≤ j → j + m ≤ l.length → (i = 0 → j + m < l.length) → Ws p q l i j + sH p q l (i + 1) j m = sH p q l i j m + Ws p q l i (j + m) := by
 intro m
 induction m with
 | zero => intro j _ _ _; simp [sH]
 | succ m ih =>
  intro j h1 h2 h3
  have s := square h i j h1 (by omega) (by omega)
  have k := ih (j + 1) (by omega) (by omega) (by omega)
  rw [sH, sH, show j + (m + 1) = j + 1 + m by omega]; omega
theorem two_steps (h : Free p q l) (i : Nat) (hi : i + 2 ≤ l.length) (_h3 : 4 ≤ l.length ∨ ¬ (i = 0 ∧ i + 2 = l.length)) : cn p q (ed l i) (ed l (i + 1)) = Hs p q l i (i + 1) + Ws p q l i (i + 2) := by
 have := h.three
 refine (cn_sum (u := ed l i) (v := ed l (i + 1)) (w := F l i (i + 2)) ?_ ?_ (h.lev i (i + 1) (by omega) (by omega) (by omega)) (h.lev (i + 1) (i + 2) (by omega) (by omega) (by omega)) (h.lev i (i + 2) (by omega) (by omega) (by omega))).symm
 ·rw [show i + 2 = i + 1 + 1 from rfl]; unfold F ed vec; dsimp only; omega
 ·rw [show i + 2 = i + 1 + 1 from rfl]; unfold F ed vec; dsimp only; omega
theorem stair (h : Free p q l) : ∀ m i, 1 ≤ i → i + m + 1 = l.length → sS p q l i m = sH p q l i (i + 1) m + sW p q l l.length i m := by
 intro m
 induction m with
 | zero => intro i _ _; simp [sS, sH, sW]
 | succ m ih =>
  intro i h1 h2
  have k := ih (i + 1) (by omega) (by omega)
  have t := tele h i m (i + 2) (by omega) (by omega) (by omega)
  have w := two_steps h i (by omega) (by omega)
  rw [show i + 2 + m = l.length by omega] at t
  rw [sS, sH, sW, k, w, show i + 1 + 1 = i + 2 by omega]; omega
theorem sH_zero (i : Nat) : ∀ m j, (∀ t, j ≤ t → t < j + m → Hs p q l i t = 0) → sH p q l i j m = 0 := by
 intro m
 induction m with
 | zero => intro j _; rfl
 | succ m ih => intro j h; rw [sH, h j (by omega) (by omega), ih (j + 1) (fun t h1 h2 => h t (by omega) (by omega))]; rfl
theorem sW_zero (n : Nat) : ∀ m i, (∀ t, i ≤ t → t < i + m → Ws p q l t n = 0) → sW p q l n i m = 0 := by
 intro m
 induction m with
 | zero => intro j _; rfl
 | succ m ih => intro j h; rw [sW, h j (by omega) (by omega), ih (j + 1) (fun t h1 h2 => h t (by omega) (by omega))]; rfl
theorem sS_zero : ∀ m i, (∀ t, i ≤ t → t < i + m → 0 ≤ cn p q (ed l t) (ed l (t + 1))) → sS p q l i m = 0 → ∀ t, i ≤ t → t < i + m → cn p q (ed l t) (ed l (t + 1)) = 0 := by
 have nn : ∀ m i, (∀ t, i ≤ t → t < i + m → 0 ≤ cn p q (ed l t) (ed l (t + 1))) → 0 ≤ sS p q l i m := by
  intro m
  induction m with
  | zero => intro i _; exact Int.le_refl 0
  | succ m ih =>
   intro i h
   have a := h i (by omega) (by omega)
   have b := ih (i + 1) (fun t h1 h2 => h t (by omega) (by omega))
   rw [sS]; omega
 intro m
 induction m with
 | zero => intro i _ _ t h1 h2; omega
 | succ m ih =>
  intro i h hz t h1 h2
  have a := h i (by omega) (by omega)
  have b := nn m (i + 1) (fun t h1 h2 => h t (by omega) (by omega))
  rw [sS] at hz
  by_cases e : t = i
  ·subst e; omega
  ·exact ih (i + 1) (fun t h1 h2 => h t (by omega) (by omega)) (by omega) t (by omega) (by omega)
theorem turn_sorted (h : Free p q l) (low : ∀ j, 0 < j → j < l.length → 0 < ph p q (F l 0 j)) (left : ∀ i, 0 < cx (ed l i) (ed l (i + 1))) (i : Nat) (hi : i + 1 < l.length) : Bf p q (ed l i) (ed l (i + 1)) := by
 have h3 := h.three
 obtain ⟨n, hn⟩ : ∃ n, l.length = n + 3 := ⟨l.length - 3, by omega⟩
 have pn : ∀ j, F l j l.length = vec (P l j) (P l 0) := fun j => by unfold F; rw [P_len]
 have z1 : sS p q l 0 (n + 2) = 0 := by
  have s1 := stair h (n + 1) 1 (by omega) (by omega)
  have w := two_steps h 0 (by omega) (by omega)
  have t := tele h 0 n 2 (by omega) (by omega) (by omega)
  have e := sH_end (p := p) (q := q) (l := l) 1 n 2
  have a1 : sH p q l 0 2 n = 0 := sH_zero 0 n 2 (fun t h1 h2 => by
   have x := low t (by omega) (by omega)
   have y := low (t + 1) (by omega) (by omega)
   unfold Hs cn; exact cnI_pp x y)
  have a2 : Hs p q l 0 1 = 0 := by
   have x := low 1 (by omega) (by omega)
   have y := low 2 (by omega) (by omega)
   unfold Hs cn; exact cnI_pp x y
  have a3 : sW p q l l.length 1 (n + 1) = 0 := sW_zero _ (n + 1) 1 (fun t h1 h2 => by
   have x := low t (by omega) (by omega)
   have y := low (t + 1) (by omega) (by omega)
   unfold Ws cn
   refine cnI_nn ?_ ?_
   ·rw [pn]; unfold F ph vec at *; dsimp only at *; grind
   ·rw [pn]; unfold F ph vec at *; dsimp only at *; grind)
  have a4 : Ws p q l 0 (2 + n) + Hs p q l 1 (2 + n) = 0 := by
   have x := low (2 + n) (by omega) (by omega)
   have y := low 1 (by omega) (by omega)
   have c := left (n + 2)
   have e2 : 2 + n + 1 = l.length := by omega
   have g : cn p q (F l 0 (2 + n)) (F l 1 (2 + n)) + cn p q (F l 1 (2 + n)) (F l 1 (2 + n + 1)) = cn p q (F l 0 (2 + n)) (F l 1 (2 + n + 1)) := by
    refine cn_sum ?_ ?_ (by omega) (h.lev 1 _ (by omega) (by omega) (by omega)) (h.lev 1 _ (by omega) (by omega) (by omega))
    ·rw [e2, pn]; unfold F vec; dsimp only; omega
    ·rw [e2, pn]; unfold F vec; dsimp only; omega
   unfold Ws Hs
   rw [g, e2, pn]
   unfold cn
   rw [cnI_dn x (by unfold F at y; unfold ph vec at y ⊢; dsimp only at y ⊢; grind)]
   have c1 : cx (ed l (n + 2)) (ed l (n + 2 + 1)) = cx (F l 0 (2 + n)) (vec (P l 1) (P l 0)) := by
    have e3 : n + 2 + 1 = 0 + l.length := by omega
    have e4 : P l (n + 2 + 1) = P l 0 := by rw [e3, P_add]
    have e5 : ed l (n + 2 + 1) = ed l 0 := by rw [e3, ed_add]
    rw [e5]; unfold ed; rw [e4, show n + 2 = 2 + n by omega]; unfold F cx vec; dsimp only; grind
   rw [c1] at c
   rw [if_neg (by omega)]
  rw [sS, s1, w, e, a3]
  show Hs p q l 0 1 + Ws p q l 0 2 + (sH p q l 1 2 n + Hs p q l 1 (2 + n) + 0) = 0
  rw [show (0 + 1 : Nat) = 1 from rfl] at t
  omega
 have z2 := sS_zero (n + 2) 0 (fun t _ _ => by
  have c := left t
  unfold cn cnI
  rw [if_neg (c := 0 < ph p q (ed l t) ∧ _) (by omega)]
  split <;> omega) z1 i (by omega) (by omega)
 have c := left i
 have n1 := h.lev i (i + 1) (by omega) (by omega) (by omega)
 have n2 := h.lev (i + 1) (i + 1 + 1) (by omega) (by omega) (by omega)
 unfold cn cnI at z2
 unfold Bf
 have e1 : F l i (i + 1) = ed l i := rfl
 have e2 : F l (i + 1) (i + 1 + 1) = ed l (i + 1) := rfl
 rw [e1] at n1
 rw [e2] at n2
 by_cases u : ph p q (ed l i) < 0 ∧ 0 < ph p q (ed l (i + 1))
 ·rw [if_pos ⟨u.1, u.2, c⟩] at z2; omega
 ·omega
def seg (l : List Pt) (s m : Nat) : List El := (List.range' s m).map fun t => (ed l t, 1, 1)
theorem seg_app (l : List Pt) (s m n : Nat) : seg l s m ++ seg l (s + m) n = seg l s (m + n) := by unfold seg; rw [← List.map_append, List.range'_append_1]
theorem seg_per (l : List Pt) (k : Nat) : seg l l.length k = seg l 0 k := by
 unfold seg
 refine List.ext_getElem (by simp) (fun i h1 h2 => ?_)
 simp only [List.getElem_map, List.getElem_range', Nat.one_mul, Nat.zero_add]
 rw [Nat.add_comm, ed_add]
theorem seg_s (l : List Pt) : ∀ m s, s0 X (seg l s m) = (P l (s + m)).f0 - (P l s).f0 ∧ s1 X (seg l s m) = (P l (s + m)).f1 - (P l s).f1 := by
 intro m
 induction m with
 | zero => intro s; simp [seg, s0, s1]
 | succ m ih =>
  intro s
  obtain ⟨a, b⟩ := ih (s + 1)
  have e : seg l s (m + 1) = (ed l s, 1, 1) :: seg l (s + 1) m := by unfold seg; rw [List.range'_succ]; rfl
  rw [e, show s + (m + 1) = s + 1 + m by omega]
  simp only [s0, s1, a, b, X, Int.one_mul]
  unfold ed vec; dsimp only; omega
theorem support_strict {P R : List El} {e : El} (hg : ∀ x ∈ P ++ e :: R, 0 < X x) (hc : Clo X (P ++ e :: R)) (hC : Cyc (P ++ e :: R)) (hP : P ≠ []) (hR : R ≠ []) : 0 < s0 X P * e.1.f1 - s1 X P * e.1.f0 := by
 have hC2 : Cyc (e :: R ++ P) := hC.rot
 have strictsum : ∀ L : List El, L ≠ [] → (∀ x ∈ L, 0 < X x) → (∀ x ∈ L, 0 < cx x.1 e.1) → 0 < s0 X L * e.1.f1 - s1 X L * e.1.f0 := by
  intro L
  cases L with
  | nil => intro h; exact absurd rfl h
  | cons a L =>
   intro _ h1 h2
   have k := cross_sum X e.1 L (fun x hx => Int.mul_nonneg (by have := h1 x (by simp [hx]); omega) (by have := h2 x (by simp [hx]); omega))
   have k2 := Int.mul_pos (h1 a (by simp)) (h2 a (by simp))
   have e1 : s0 X (a :: L) * e.1.f1 - s1 X (a :: L) * e.1.f0 = X a * cx a.1 e.1 + (s0 X L * e.1.f1 - s1 X L * e.1.f0) := by unfold cx; simp only [s0, s1]; grind
   omega
 have tr : ∀ x ∈ R, ∀ y ∈ P, tri e.1 x.1 y.1 := fun x hx y hy => hC2 _ _ _ (by
  rw [List.cons_append, List.map_cons, List.map_append]
  exact List.Sublist.cons_cons _ (List.Sublist.append (l₁ := [x.1]) (r₁ := [y.1]) (List.singleton_sublist.mpr (List.mem_map_of_mem hx)) (List.singleton_sublist.mpr (List.mem_map_of_mem hy))))
 by_cases hp : ∃ x ∈ R, 0 ≤ cx x.1 e.1
 ·obtain ⟨x, hx, h0⟩ := hp
  refine strictsum P hP (fun y hy => hg y (by simp [hy])) (fun y hy => ?_)
  have t := tr x hx y hy
  have sw := cx_swap e.1 x.1
  unfold tri at t; omega
 ·have hn : ∀ x ∈ R, cx x.1 e.1 < 0 := fun x hx => by
   rcases Int.lt_or_le (cx x.1 e.1) 0 with h | h
   ·exact h
   ·exact absurd ⟨x, hx, h⟩ hp
  have k : s0 X R * e.1.f1 - s1 X R * e.1.f0 < 0 := by
   match R, hR, hn, hg with
   | a :: R', _, hn, hg =>
    have k := cross_sum' X e.1 R' (fun x hx => Int.mul_nonpos_of_nonneg_of_nonpos (by have := hg x (by simp [hx]); omega) (by have := hn x (by simp [hx]); omega))
    have k2 := Int.mul_neg_of_pos_of_neg (hg a (by simp)) (hn a (by simp))
    have e1 : s0 X (a :: R') * e.1.f1 - s1 X (a :: R') * e.1.f0 = X a * cx a.1 e.1 + (s0 X R' * e.1.f1 - s1 X R' * e.1.f0) := by unfold cx; simp only [s0, s1]; grind
    omega
  unfold Clo at hc
  rw [s0_app, s1_app] at hc
  simp only [s0, s1] at hc
  have e0 : s0 X P = - (X e * e.1.f0 + s0 X R) := by omega
  have e1 : s1 X P = - (X e * e.1.f1 + s1 X R) := by omega
  have : s0 X P * e.1.f1 - s1 X P * e.1.f0 = - (s0 X R * e.1.f1 - s1 X R * e.1.f0) := by rw [e0, e1]; grind
  omega
theorem sorted_strong (h3 : 3 ≤ l.length) (hs : ∀ i, i + 1 < l.length → Bf p q (ed l i) (ed l (i + 1))) : Strong l := by
 have far : ∀ d i, i + d + 1 < l.length → Bf p q (ed l i) (ed l (i + d + 1)) := by
  intro d
  induction d with
  | zero => intro i hi; exact hs i hi
  | succ d ih => intro i hi; exact (ih i (by omega)).trans (by have := hs (i + d + 1) (by omega); rwa [show i + d + 1 + 1 = i + (d + 1) + 1 by omega] at this)
 have cyc0 : Cyc (seg l 0 l.length) := by
  refine cyc_of_bf (p := p) (q := q) ?_
  unfold seg
  rw [List.pairwise_map, ← List.range_eq_range']
  refine List.Pairwise.imp_of_mem (fun {a b} ha hb hab => ?_) List.pairwise_lt_range
  rw [List.mem_range] at ha hb
  have := far (b - a - 1) a (by omega)
  rwa [show a + (b - a - 1) + 1 = b by omega] at this
 have cycK : ∀ k, k ≤ l.length → Cyc (seg l k l.length) := by
  intro k hk
  have e1 : seg l 0 k ++ seg l k (l.length - k) = seg l 0 l.length := by
   have := seg_app l 0 k (l.length - k); rw [Nat.zero_add] at this; rw [this, show k + (l.length - k) = l.length by omega]
  have e2 : seg l k (l.length - k) ++ seg l 0 k = seg l k l.length := by
   rw [← seg_per]
   have := seg_app l k (l.length - k) k
   rw [show k + (l.length - k) = l.length by omega, show l.length - k + k = l.length by omega] at this; exact this
  rw [← e1] at cyc0
  rw [← e2]; exact cyc0.rot
 have main : ∀ k m, k < l.length → 0 < m → m + 1 < l.length → 0 < cx (ed l (k + m)) (vec (P l (k + m)) (P l k)) := by
  intro k m hk h0 hm
  have e : seg l k m ++ (ed l (k + m), 1, 1) :: seg l (k + m + 1) (l.length - m - 1) = seg l k l.length := by
   have e1 : (ed l (k + m), (1 : Int), (1 : Int)) :: seg l (k + m + 1) (l.length - m - 1) = seg l (k + m) (l.length - m - 1 + 1) := by unfold seg; rw [List.range'_succ]; rfl
   rw [e1, seg_app, show m + (l.length - m - 1 + 1) = l.length by omega]
  have cy := cycK k (by omega)
  have cl : Clo X (seg l k l.length) := by
   obtain ⟨a, b⟩ := seg_s l l.length k
   rw [P_add] at a b
   exact ⟨by omega, by omega⟩
  rw [← e] at cy cl
  have s := support_strict (fun x hx => by
   rw [e] at hx; unfold seg at hx
   obtain ⟨t, _, rfl⟩ := List.mem_map.mp hx
   exact Int.one_pos) cl cy (by
    intro hh; have := congrArg List.length hh; unfold seg at this; simp at this; omega) (by
    intro hh; have := congrArg List.length hh; unfold seg at this; simp at this; omega)
  obtain ⟨a, b⟩ := seg_s l m k
  rw [a, b] at s
  have : cx (ed l (k + m)) (vec (P l (k + m)) (P l k)) = ((P l (k + m)).f0 - (P l k).f0) * (ed l (k + m)).f1 - ((P l (k + m)).f1 - (P l k).f1) * (ed l (k + m)).f0 := by unfold cx vec; dsimp only; grind
  rw [this]; exact s
 have strict : ∀ i k, i < l.length → k < l.length → k ≠ i → k ≠ (i + 1) % l.length → 0 < cr (at_ l i) (at_ l ((i + 1) % l.length)) (at_ l k) := by
  intro i k hi hk h1 h2
  have eP : at_ l ((i + 1) % l.length) = P l (i + 1) := rfl
  rw [eP, ← P_lt hi, ← P_lt hk, cr_cx]
  show 0 < cx (ed l i) _
  by_cases hlt : k < i
  ·have g := main k (i - k) hk (by omega) (by
    by_cases e : i + 1 < l.length
    ·omega
    ·have e2 : (i + 1) % l.length = 0 := by rw [show i + 1 = l.length by omega, Nat.mod_self]
     omega)
   rw [show k + (i - k) = i by omega] at g; exact g
  ·have e1 : i + 1 < l.length := by omega
   rw [Nat.mod_eq_of_lt e1] at h2
   have g := main k (i + l.length - k) hk (by omega) (by omega)
   rw [show k + (i + l.length - k) = i + l.length by omega, ed_add, P_add] at g; exact g
 have ne1 : ∀ i, i < l.length → at_ l i ≠ at_ l ((i + 1) % l.length) := by
  intro i hi e
  have hz : ed l i = ⟨0, 0⟩ := by
   have eP : P l (i + 1) = at_ l ((i + 1) % l.length) := rfl
   unfold ed vec; rw [P_lt hi, eP, ← e]; simp
  have g : cx (ed l i) (vec (P l i) (P l ((i + 2) % l.length))) = 0 := by rw [hz]; unfold cx; simp
  have hm := mod_two h3 hi
  have s := strict i ((i + 2) % l.length) hi (Nat.mod_lt _ (by omega)) hm.1 hm.2.1
  have eP : at_ l ((i + 1) % l.length) = P l (i + 1) := rfl
  rw [eP, ← P_lt hi, ← P_lt (Nat.mod_lt (i + 2) (show 0 < l.length by omega)), cr_cx] at s
  have : cx (vec (P l i) (P l (i + 1))) (vec (P l i) (P l ((i + 2) % l.length))) = 0 := g
  omega
 refine ⟨ne1, fun i j hi hj e => ?_, fun i k hi hk => ?_⟩
 ·apply Classical.byContradiction
  intro hne
  by_cases h2 : j = (i + 1) % l.length
  ·exact ne1 i hi (by rw [← h2]; exact e)
  ·have := strict i j hi hj (fun h => hne h.symm) h2
   rw [← e, cr_self1] at this; omega
 ·by_cases h1 : k = i
  ·subst h1; rw [cr_self1]; exact ⟨Int.le_refl 0, fun _ => Or.inl rfl⟩
  ·by_cases h2 : k = (i + 1) % l.length
   ·rw [← h2, cr_self2]; exact ⟨Int.le_refl 0, fun _ => Or.inr rfl⟩
   ·have := strict i k hi hk h1 h2
    exact ⟨by omega, fun e => by omega⟩
end
end Go.Proofs.Ythehmkpcddafnaa.M
end
section
namespace Go.Proofs.Ythehmkpcddafnaa.M
open Go.RowKit Go.Proofs.Ythehmkpcddafnaa.PG Go.Proofs.YthehmkpcddafnaaW.PrintMore Go.Proofs.YthehmkpcddafnaaW.PrintWords
theorem pairs_of {R : Pt → Pt → Prop} : ∀ (l : List Pt), (∀ i, i + 1 < l.length → R (at_ l i) (at_ l (i + 1))) → Pairs R l := by
 intro l
 induction l with
 | nil => intro _; trivial
 | cons a r ih =>
  intro h
  cases r with
  | nil => trivial
  | cons b r =>
   refine ⟨h 0 (by simp), ih (fun i hi => ?_)⟩
   exact h (i + 1) (by simp only [List.length_cons] at *; omega)
theorem strong_ring {l : List Pt} (h3 : 3 ≤ l.length) (h : Strong l) : Ring l l := by
 match l, h3, h with
 | a :: t, h3, h =>
  have hn : ∀ i, i < (a :: t).length → HE (a :: t) (at_ (a :: t) i) (at_ (a :: t) ((i + 1) % (a :: t).length)) := by
   intro i hi
   refine ⟨h.1 i hi, at_mem hi, at_mem (Nat.mod_lt _ (by omega)), fun p hp => ?_⟩
   obtain ⟨k, hk, e⟩ := List.mem_iff_getElem.mp hp
   rw [← at_eq hk] at e
   subst e
   obtain ⟨s1, s2⟩ := h.2.2 i k hi hk
   refine ⟨s1, fun h0 => ?_⟩
   rcases s2 h0 with e | e
   ·rw [e]; exact btw_start _ _
   ·rw [e]; exact btw_end _ _
  refine ⟨a, t, rfl, fun hm => ?_, pairs_of _ (fun i hi => ?_)⟩
  ·obtain ⟨k, hk, e⟩ := List.mem_iff_getElem.mp hm
   have := h.2.1 0 (k + 1) (by omega) (by simp only [List.length_cons]; omega) (by
    have e1 : at_ (a :: t) 0 = a := rfl
    have e2 : at_ (a :: t) (k + 1) = at_ t k := rfl
    rw [e1, e2, at_eq hk, e])
   omega
  ·have hl : (a :: (t ++ [a])).length = (a :: t).length + 1 := by simp
   have hi' : i < (a :: t).length := by omega
   have e1 : at_ (a :: (t ++ [a])) i = at_ (a :: t) i := by
    show at_ ((a :: t) ++ [a]) i = _
    unfold at_; rw [List.getD_eq_getElem?_getD, List.getElem?_append_left hi', ← List.getD_eq_getElem?_getD]
   have e2 : at_ (a :: (t ++ [a])) (i + 1) = at_ (a :: t) ((i + 1) % (a :: t).length) := by
    show at_ ((a :: t) ++ [a]) (i + 1) = _
    by_cases hl2 : i + 1 < (a :: t).length
    ·rw [Nat.mod_eq_of_lt hl2]; unfold at_; rw [List.getD_eq_getElem?_getD, List.getElem?_append_left hl2, ← List.getD_eq_getElem?_getD]
    ·have : i + 1 = (a :: t).length := by omega
     rw [this, Nat.mod_self]; exact snoc_last (a :: t) a
   rw [e1, e2]; exact hn i hi'
theorem convex_nf {l : List Pt} (hp : Poly l) (hc : Convex l) : Nf 10000 l := by
 obtain ⟨h3, h32, hin⟩ := hp
 obtain ⟨hs, ht⟩ := hc
 have hin' : ∀ i, i < l.length → In 10000 (at_ l i) := fun i hi => hin _ (at_mem hi)
 have eP : ∀ i, P l (i + 1) = at_ l ((i + 1) % l.length) := fun i => rfl
 have dist : ∀ i j, i < j → j < l.length → at_ l i ≠ at_ l j := by
  intro i j hij hj e
  by_cases h1 : j = i + 1
  ·have := hs.1 i (by omega)
   rw [Nat.mod_eq_of_lt (by omega)] at this
   subst h1; exact this e
  ·by_cases h2 : i = 0 ∧ j + 1 = l.length
   ·have := hs.1 j hj
    rw [h2.2, Nat.mod_self] at this
    rw [h2.1] at e; exact this e.symm
   ·have := (hs.2 i (by omega)).2.2 j (by omega) hj (by
     by_cases h3 : j + 1 = l.length
     ·rw [h3, Nat.mod_self]; omega
     ·rw [Nat.mod_eq_of_lt (by omega)]; omega)
    apply this
    left
    rw [← e]
    exact ⟨cr_self1 _ _, btw_start _ _⟩
 have lev : ∀ u v : Pt, In 10000 u → In 10000 v → u ≠ v → ph 1 10000000 (vec u v) ≠ 0 := by
  intro u v hu hv hne e
  apply hne
  unfold In at hu hv
  unfold ph vec at e
  dsimp only at e
  apply pt_ext <;> omega
 have free : Free 1 10000000 l := by
  refine ⟨h3, fun i j hij hj hn => ?_, fun i j h1 h2 h4 => ?_⟩
  ·unfold F
   by_cases e : j = l.length
   ·rw [e, P_len, P_lt (by omega), P_lt (by omega)]
    exact lev _ _ (hin' _ (by omega)) (hin' _ (by omega)) (fun h => dist 0 i (by omega) (by omega) h.symm)
   ·rw [P_lt (by omega), P_lt (by omega)]
    exact lev _ _ (hin' _ (by omega)) (hin' _ (by omega)) (dist i j hij (by omega))
  ·have := (hs.2 i (by omega)).2.2 j h1 h2 (by
    by_cases h3 : j + 1 = l.length
    ·rw [h3, Nat.mod_self]; omega
    ·rw [Nat.mod_eq_of_lt (by omega)]; omega)
   rw [eP, eP, P_lt (by omega), P_lt h2]; exact this
 have low : ∀ j, 0 < j → j < l.length → 0 < ph 1 10000000 (F l 0 j) := by
  intro j h0 hj
  have := (fn_first (in_bd (hin' 0 (by omega))) (in_bd (hin' j hj))).mp ((ht j hj).2 h0)
  unfold F; rw [P_lt (by omega), P_lt hj]; exact this
 have left : ∀ i, 0 < cx (ed l i) (ed l (i + 1)) := by
  intro i
  have n0 : 0 < l.length := by omega
  have t := (ht (i % l.length) (Nat.mod_lt _ n0)).1
  have e1 : at_ l ((i % l.length + 1) % l.length) = P l (i + 1) := by unfold P; rw [Nat.mod_add_mod]
  have e2 : at_ l ((i % l.length + 1 + 1) % l.length) = P l (i + 1 + 1) := by unfold P; rw [show i % l.length + 1 + 1 = i % l.length + 2 by omega, Nat.mod_add_mod]
  have e0 : at_ l (i % l.length) = P l i := rfl
  rw [e0, e1, e2] at t
  unfold cr at t; unfold ed cx vec; dsimp only; grind
 have st := sorted_strong h3 (fun i hi => turn_sorted free low left i hi)
 refine ⟨strong_ring h3 st, fun hf => ?_, fun p hp => ?_, hin⟩
 ·have := strong_turn h3 st 0 (by omega)
  rw [hf _ (at_mem (by omega)) _ (at_mem (Nat.mod_lt _ (by omega))) _ (at_mem (Nat.mod_lt _ (by omega)))] at this; omega
 ·obtain ⟨k, hk, e⟩ := List.mem_iff_getElem.mp hp
  rw [← at_eq hk] at e
  subst e
  by_cases h0 : k = 0
  ·subst h0; exact Or.inl rfl
  ·exact Or.inr ((ht k hk).2 (by omega))
end Go.Proofs.Ythehmkpcddafnaa.M
end
section
namespace Go.Proofs.Ythehmkpcddafnaa.M
open Go.RowKit Go.Proofs.Ythehmkpcddafnaa.PG Go.Proofs.YthehmkpcddafnaaW.PrintMore Go.Proofs.YthehmkpcddafnaaW.PrintWords
noncomputable def tv (P : Prop) : Bool := @decide P (Classical.propDecidable P)
theorem tv_iff {P : Prop} : tv P = true ↔ P := @decide_eq_true_iff P (Classical.propDecidable P)
theorem tv_eq {P Q : Prop} (h : P ↔ Q) : tv P = tv Q := by rw [propext h]
theorem tv_t {P : Prop} (h : P) : tv P = true := tv_iff.mpr h
theorem tv_f {P : Prop} (h : ¬ P) : tv P = false := by
 cases e : tv P
 ·rfl
 ·exact absurd (tv_iff.mp e) h
def Ap (a b : List Pt) : Prop := Sep a b ∨ Sep b a
theorem Ap_comm (a b : List Pt) : Ap a b ↔ Ap b a := or_comm
noncomputable def frees (pl : List (List Pt)) (m : List Pt) : Bool := tv (∀ q ∈ pl, Ap q m)
def rowF (F : Int → Int → Bool) (y : Int) : Int → Nat → Option Int
 | _, 0 => none
 | x, d + 1 => if F x y = true then some x else rowF F y (x + 1) d
def colF (F : Int → Int → Bool) (W : Nat) : Int → Nat → Option (Int × Int)
 | _, 0 => none
 | y, d + 1 => match rowF F y 0 W with
  | some x => some (x, y)
  | none => colF F W (y + 1) d
def base (s : List Pt) : List Pt := shifted ⟨-(box s).1, -(box s).2.1⟩ s
def wide (s : List Pt) : Int := (box s).2.2.1 - (box s).1
def high (s : List Pt) : Int := (box s).2.2.2 - (box s).2.1
noncomputable def spot (w h : Int) (pl : List (List Pt)) (s : List Pt) : Option (Int × Int) :=
 colF (fun x y => frees pl (shifted ⟨x, y⟩ (base s))) (w - wide s + 1).toNat 0 (h - high s + 1).toNat
noncomputable def nestF (w h : Int) : List (List Pt) → Int → List (List Pt) → List S48
 | [], _, _ => []
 | s :: rest, i, pl => match spot w h pl s with
  | some (x, y) => ⟨i, ⟨x, y⟩⟩ :: nestF w h rest (i + 1) (pl ++ [shifted ⟨x, y⟩ (base s)])
  | none => nestF w h rest (i + 1) pl
theorem cr_shift (v a b c : Pt) : cr (shift v a) (shift v b) (shift v c) = cr a b c := by unfold cr shift; dsimp only; grind
theorem btw_shift (v a b c : Pt) : btw (shift v a) (shift v b) (shift v c) ↔ btw a b c := by unfold btw shift; dsimp only; omega
theorem shift_inj {v a b : Pt} (h : shift v a = shift v b) : a = b := by
 unfold shift at h
 have h0 : a.f0 + v.f0 = b.f0 + v.f0 := congrArg S41.f0 h
 have h1 : a.f1 + v.f1 = b.f1 + v.f1 := congrArg S41.f1 h
 exact pt_ext (by omega) (by omega)
theorem pairs_map {R R' : Pt → Pt → Prop} (f : Pt → Pt) (h : ∀ a b, R a b → R' (f a) (f b)) : ∀ l, Pairs R l → Pairs R' (l.map f)
 | [], _ => trivial
 | [_], _ => trivial
 | a :: b :: l, hp => ⟨h a b hp.1, pairs_map f h (b :: l) hp.2⟩
theorem he_shift {v : Pt} {S : List Pt} {a b : Pt} (h : HE S a b) : HE (shifted v S) (shift v a) (shift v b) := by
 obtain ⟨ne, ha, hb, hL⟩ := h
 refine ⟨fun e => ne (shift_inj e), shifted_mem.mpr ⟨a, ha, rfl⟩, shifted_mem.mpr ⟨b, hb, rfl⟩, fun p hp => ?_⟩
 obtain ⟨q, hq, rfl⟩ := shifted_mem.mp hp
 rw [cr_shift, btw_shift]; exact hL q hq
theorem ring_shift {v : Pt} {S h : List Pt} (r : Ring S h) : Ring (shifted v S) (shifted v h) := by
 obtain ⟨a, t, rfl, ha, hp⟩ := r
 refine ⟨shift v a, t.map (shift v), rfl, fun hm => ?_, ?_⟩
 ·obtain ⟨b, hb, e⟩ := List.mem_map.mp hm
  rw [shift_inj e] at hb; exact ha hb
 ·have := pairs_map (R' := HE (shifted v S)) (shift v) (fun x y h => he_shift h) _ hp
  simpa [List.map_append] using this
theorem nf_shift {m m' : Int} {v : Pt} {h : List Pt} (n : Nf m h) (hm : ∀ p ∈ h, In m' (shift v p)) : Nf m' (shifted v h) := by
 refine ⟨ring_shift n.ring, fun hf => n.flat (fun a ha b hb c hc => ?_), fun p hp => ?_, fun p hp => ?_⟩
 ·have := hf _ (shifted_mem.mpr ⟨a, ha, rfl⟩) _ (shifted_mem.mpr ⟨b, hb, rfl⟩) _ (shifted_mem.mpr ⟨c, hc, rfl⟩)
  rwa [cr_shift] at this
 ·obtain ⟨q, hq, rfl⟩ := shifted_mem.mp hp
  have h3 := n.three
  rw [shifted_at (by omega)]
  rcases n.fst q hq with e | e
  ·left; rw [← e]
  ·right; unfold first shift at *; dsimp only; omega
 ·obtain ⟨q, hq, rfl⟩ := shifted_mem.mp hp; exact hm q hq
structure Shp (s : List Pt) : Prop where
 nf : Nf 10000 s
 len : s.length ≤ 32
theorem Shp.pos {s : List Pt} (h : Shp s) : 0 < s.length := by have := h.nf.three; omega
theorem Shp.bx {s : List Pt} (h : Shp s) : -10000 ≤ (box s).1 ∧ (box s).1 ≤ 10000 ∧ -10000 ≤ (box s).2.1 ∧ (box s).2.1 ≤ 10000 ∧ (box s).1 ≤ (box s).2.2.1 ∧ (box s).2.2.1 ≤ 10000 ∧ (box s).2.1 ≤ (box s).2.2.2 ∧ (box s).2.2.2 ≤ 10000 := by
 obtain ⟨⟨p, hp, e1⟩, ⟨q, hq, e2⟩, ⟨r, hr, e3⟩, ⟨t, ht, e4⟩⟩ := box_at h.pos
 have a1 := h.nf.inb p hp
 have a2 := h.nf.inb q hq
 have a3 := h.nf.inb r hr
 have a4 := h.nf.inb t ht
 have b1 := box_in p hp
 have b2 := box_in q hq
 unfold In at a1 a2 a3 a4
 omega
theorem base_in {s : List Pt} : ∀ p ∈ base s, 0 ≤ p.f0 ∧ p.f0 ≤ wide s ∧ 0 ≤ p.f1 ∧ p.f1 ≤ high s := by
 intro p hp
 obtain ⟨q, hq, rfl⟩ := shifted_mem.mp hp
 have b := box_in q hq
 unfold wide high shift; dsimp only; omega
theorem size_bd {s : List Pt} (h : Shp s) : 0 ≤ wide s ∧ wide s ≤ 20000 ∧ 0 ≤ high s ∧ high s ≤ 20000 := by have := h.bx; unfold wide high; omega
structure Lie (q : List Pt) : Prop where
 nf : Nf 40000 q
 len : q.length ≤ 32
theorem Lie.bd {q : List Pt} (h : Lie q) : ∀ p ∈ q, Bd p := fun p hp => by have := h.nf.inb p hp; unfold In at this; unfold Bd; omega
theorem Lie.pos {q : List Pt} (h : Lie q) : 0 < q.length := by have := h.nf.three; omega
theorem base_nf {s : List Pt} (h : Shp s) : Nf 40000 (base s) := nf_shift h.nf (fun p hp => by
 have b := box_in p hp
 have c := h.bx
 unfold In shift; dsimp only; omega)
theorem base_len (s : List Pt) : (base s).length = s.length := by unfold base; exact shifted_len _ _
theorem base_lie {s : List Pt} (h : Shp s) : Lie (base s) := ⟨base_nf h, by rw [base_len]; exact h.len⟩
theorem at_lie {s : List Pt} (h : Shp s) {x y : Int} (h0 : 0 ≤ x) (h1 : x ≤ 200) (h2 : 0 ≤ y) (h3 : y ≤ 200) : Lie (shifted ⟨x, y⟩ (base s)) :=
 ⟨nf_shift (base_nf h) (fun p hp => by
  have b := base_in p hp
  have c := size_bd h
  unfold In shift; dsimp only; omega), by rw [shifted_len, base_len]; exact h.len⟩
def lap (a b : Int × Int × Int × Int) : Prop := a.1 < b.2.2.1 ∧ b.1 < a.2.2.1 ∧ a.2.1 < b.2.2.2 ∧ b.2.1 < a.2.2.2
theorem no_lap {p q : List Pt} (hp : Lie p) (hq : Lie q) (h : ¬ lap (box p) (box q)) : Ap p q := by
 unfold lap at h
 have bp := fun x hx => box_in (l := p) x hx
 have bq := fun x hx => box_in (l := q) x hx
 by_cases h1 : (box p).1 < (box q).2.2.1
 ·by_cases h2 : (box q).1 < (box p).2.2.1
  ·by_cases h3 : (box p).2.1 < (box q).2.2.2
   ·have h4 : (box p).2.2.2 ≤ (box q).2.1 := by omega
    refine line_sep hp.nf hq.nf (e := ⟨-1, 0⟩) (by simp) (fun x hx y hy => ?_)
    have b1 := bp x hx
    have b2 := bq y hy
    unfold cx vec; dsimp only; omega
   ·refine line_sep hp.nf hq.nf (e := ⟨1, 0⟩) (by simp) (fun x hx y hy => ?_)
    have b1 := bp x hx
    have b2 := bq y hy
    unfold cx vec; dsimp only; omega
  ·refine line_sep hp.nf hq.nf (e := ⟨0, 1⟩) (by simp) (fun x hx y hy => ?_)
   have b1 := bp x hx
   have b2 := bq y hy
   unfold cx vec; dsimp only; omega
 ·refine line_sep hp.nf hq.nf (e := ⟨0, -1⟩) (by simp) (fun x hx y hy => ?_)
  have b1 := bp x hx
  have b2 := bq y hy
  unfold cx vec; dsimp only; omega
theorem rd_l2 {pl : List (List Pt)} {i : Nat} (h : i < pl.length) : rd_L2 pl (i : Int) = pl[i] := by
 unfold rd_L2
 rw [Int.toNat_natCast, List.getD_eq_getElem?_getD, List.getElem?_eq_getElem h]; rfl
theorem free_run {pl : List (List Pt)} {p : List Pt} (hpl : ∀ q ∈ pl, Lie q) (hp : Lie p) (hN : pl.length ≤ 1000000) : Rt (fun k => shape_sheet_free.f k pl p) (frees pl p) := by
 have H : ∀ d i, pl.length = i + d → Rt (fun k => shape_sheet_free.l0 k p pl (pl.length : Int) (i : Int) (box p).1 (box p).2.1 (box p).2.2.1 (box p).2.2.2) (tv (∀ q ∈ pl.drop i, Ap q p)) := by
  intro d
  induction d with
  | zero =>
   intro i hi
   refine rt_ret fun k => ?_
   rw [shape_sheet_free.l0, if_neg (by omega), List.drop_of_length_le (by omega), tv_t (fun q hq => absurd hq (by simp))]
  | succ d ih =>
   intro i hi
   have hlt : i < pl.length := by omega
   have hq : Lie pl[i] := hpl _ (List.getElem_mem hlt)
   have hd : pl.drop i = pl[i] :: pl.drop (i + 1) := List.drop_eq_getElem_cons hlt
   have J : ∀ b : Bool, (b = true ↔ ¬ Ap pl[i] p) → Rt (fun k => shape_sheet_free.j1 k p pl (pl.length : Int) (i : Int) b (box p).1 (box p).2.1 (box p).2.2.1 (box p).2.2.2) (tv (∀ q ∈ pl.drop i, Ap q p)) := by
    intro b hb
    cases b with
    | true =>
     refine rt_ret fun k => ?_
     rw [shape_sheet_free.j1, if_pos rfl, hd]
     have := hb.mp rfl
     rw [tv_f (fun h => this (h _ List.mem_cons_self))]
    | false =>
     have ha : Ap pl[i] p := by
      apply Classical.byContradiction; intro h; have := hb.mpr h; simp at this
     refine rt_step (fun k => ?_) (by
      have e : tv (∀ q ∈ pl.drop i, Ap q p) = tv (∀ q ∈ pl.drop (i + 1), Ap q p) := by
       rw [hd]; exact tv_eq ⟨fun h q hq => h q (List.mem_cons_of_mem _ hq), fun h q hq => (List.mem_cons.mp hq).elim (fun e => by rw [e]; exact ha) (h q)⟩
      rw [e]; exact ih (i + 1) (by omega))
     rw [shape_sheet_free.j1, if_neg (by simp), wrap_succ i (by omega)]
   have cr := corners_run hq.pos (show pl[i].length ≤ 1000000 by have := hq.len; omega)
   by_cases hl : lap (box p) (box pl[i])
   ·obtain ⟨c, r1, _, ic⟩ := apart_run (a := p) (b := pl[i]) hp.bd hq.bd (by have := hp.len; omega) (by have := hq.len; omega)
    refine rt_bind cr (g := fun bt k => (shape_apart.f k p pl[i]).bind fun t => shape_sheet_free.j1 k p pl (pl.length : Int) (i : Int) (!t) (box p).1 (box p).2.1 (box p).2.2.1 (box p).2.2.2) (rt_bind0 r1 (J (!c) (by
     rw [Bool.not_eq_true', ← Bool.not_eq_true, ic, Ap_comm]; exact Iff.rfl)) (fun k => rfl)) (fun k => ?_)
    rw [shape_sheet_free.l0, if_pos (by omega), if_pos (by omega), if_pos (by omega), rd_l2 hlt]
    obtain ⟨K, hK⟩ := cr
    cases hcf : shape_corners.f k pl[i] with
    | none => rfl
    | some v =>
     have ev : v = box pl[i] := by
      have h1 := at_rounds (g := fun k => shape_corners.f k pl[i]) (fun k => shape_corners.mono _ k) (show k ≤ k + K by omega) hcf
      have h2 := hK (k + K) (by omega)
      dsimp only at h1 h2
      rw [h1] at h2; exact Option.some.inj h2
     subst ev
     rw [Option.bind_some, Option.bind_some, if_pos hl.1, if_pos hl.2.1, if_pos hl.2.2.1, if_pos hl.2.2.2]
   ·have ha : Ap pl[i] p := (Ap_comm _ _).mp (no_lap hp hq hl)
    refine rt_bind cr (g := fun bt k => shape_sheet_free.j1 k p pl (pl.length : Int) (i : Int) false (box p).1 (box p).2.1 (box p).2.2.1 (box p).2.2.2) (J false (by simp [ha])) (fun k => ?_)
    rw [shape_sheet_free.l0, if_pos (by omega), if_pos (by omega), if_pos (by omega), rd_l2 hlt]
    obtain ⟨K, hK⟩ := cr
    cases hcf : shape_corners.f k pl[i] with
    | none => rfl
    | some v =>
     have ev : v = box pl[i] := by
      have h1 := at_rounds (g := fun k => shape_corners.f k pl[i]) (fun k => shape_corners.mono _ k) (show k ≤ k + K by omega) hcf
      have h2 := hK (k + K) (by omega)
      dsimp only at h1 h2
      rw [h1] at h2; exact Option.some.inj h2
     subst ev
     rw [Option.bind_some, Option.bind_some]
     unfold lap at hl
     by_cases h1 : (box p).1 < (box pl[i]).2.2.1
     ·rw [if_pos h1]
      by_cases h2 : (box pl[i]).1 < (box p).2.2.1
      ·rw [if_pos h2]
       by_cases h3 : (box p).2.1 < (box pl[i]).2.2.2
       ·rw [if_pos h3, if_neg (fun h4 => hl ⟨h1, h2, h3, h4⟩)]
       ·rw [if_neg h3]
      ·rw [if_neg h2]
     ·rw [if_neg h1]
 refine rt_bind0 (corners_run hp.pos (by have := hp.len; omega)) (g := fun bt k => shape_sheet_free.l0 k p pl (pl.length : Int) 0 bt.1 bt.2.1 bt.2.2.1 bt.2.2.2) ?_ (fun k => rfl)
 have := H pl.length 0 (by omega)
 rw [List.drop_zero] at this; exact this
end Go.Proofs.Ythehmkpcddafnaa.M
end
section
namespace Go.Proofs.Ythehmkpcddafnaa.M
open Go.RowKit Go.Proofs.Ythehmkpcddafnaa.PG Go.Proofs.YthehmkpcddafnaaW.PrintMore Go.Proofs.YthehmkpcddafnaaW.PrintWords
def res (s : List Pt) : Option (Int × Int) → Int × Int × Bool × List S41
 | some (x, y) => (x, y, true, shifted ⟨x, y⟩ (base s))
 | none => (0, 0, false, [])
section
variable {w h : Int} {pl : List (List Pt)} {s : List Pt}
theorem place_l1 (hpl : ∀ q ∈ pl, Lie q) (hN : pl.length ≤ 1000000) (hs : Shp s) {ny y : Int} (hy0 : 0 ≤ y) (hy1 : y ≤ 200) {rest : Option (Int × Int)} (hnext : Rt (fun k => shape_sheet_place.l0 k w pl (base s) ny (y + 1) (wide s) (high s)) (res s rest)) (nx : Int) (hnx : nx ≤ 200) :
  ∀ (d : Nat) (x : Int), 0 ≤ x → x + d = nx → Rt (fun k => shape_sheet_place.l1 k w pl (base s) y ny y nx x (wide s) (high s)) (res s (match rowF (fun x y => frees pl (shifted ⟨x, y⟩ (base s))) y x d with | some x => some (x, y) | none => rest)) := by
 intro d
 induction d with
 | zero =>
  intro x h0 hx
  refine rt_step (fun k => ?_) hnext
  rw [shape_sheet_place.l1, if_neg (by omega), wz (y + 1) (by omega) (by omega)]
 | succ d ih =>
  intro x h0 hx
  have bl := base_lie hs
  have m1 := moved_run (v := ⟨x, y⟩) bl.bd (by unfold Bd; dsimp only; omega) (by have := bl.len; omega)
  have fr := free_run hpl (at_lie hs h0 (show x ≤ 200 by omega) hy0 hy1) hN
  refine rt_bind m1 (g := fun t k => (shape_sheet_free.f k pl t).bind fun b => if b = true then some (x, y, true, t) else shape_sheet_place.l1 k w pl (base s) y ny y nx (wrap64 (x + 1)) (wide s) (high s)) ?_ (fun k => by rw [shape_sheet_place.l1, if_pos (by omega)])
  unfold rowF
  cases hf : frees pl (shifted ⟨x, y⟩ (base s)) with
  | true =>
   rw [hf] at fr
   refine rt_bind0 fr (g := fun b k => if b = true then some (x, y, true, shifted ⟨x, y⟩ (base s)) else shape_sheet_place.l1 k w pl (base s) y ny y nx (wrap64 (x + 1)) (wide s) (high s)) ?_ (fun k => rfl)
   rw [if_pos rfl]
   exact ⟨0, fun k _ => rfl⟩
  | false =>
   rw [hf] at fr
   refine rt_bind0 fr (g := fun b k => if b = true then some (x, y, true, shifted ⟨x, y⟩ (base s)) else shape_sheet_place.l1 k w pl (base s) y ny y nx (wrap64 (x + 1)) (wide s) (high s)) ?_ (fun k => rfl)
   rw [if_neg (by simp)]
   obtain ⟨K, hK⟩ := ih (x + 1) (by omega) (by omega)
   refine ⟨K, fun k hk => ?_⟩
   have a := hK k hk
   dsimp only at a ⊢
   rw [if_neg (by simp), wz (x + 1) (by omega) (by omega)]; exact a
theorem place_l0 (hpl : ∀ q ∈ pl, Lie q) (hN : pl.length ≤ 1000000) (hs : Shp s) (hw : w ≤ 100) (hw0 : -20000 ≤ w) (ny : Int) (hny : ny ≤ 200) :
  ∀ (d : Nat) (y : Int), 0 ≤ y → y + d = ny → Rt (fun k => shape_sheet_place.l0 k w pl (base s) ny y (wide s) (high s)) (res s (colF (fun x y => frees pl (shifted ⟨x, y⟩ (base s))) (w - wide s + 1).toNat y d)) := by
 have sb := size_bd hs
 intro d
 induction d with
 | zero =>
  intro y h0 hy
  refine rt_ret fun k => ?_
  rw [shape_sheet_place.l0, if_neg (by omega)]; rfl
 | succ d ih =>
  intro y h0 hy
  have hr := place_l1 hpl hN hs h0 (show y ≤ 200 by omega) (ih (y + 1) (by omega) (by omega)) (max 0 (w - wide s + 1)) (by omega) (w - wide s + 1).toNat 0 (Int.le_refl 0) (by omega)
  refine rt_step (fun k => ?_) (by unfold colF; exact hr)
  rw [shape_sheet_place.l0, if_pos (by omega), mx_eq, wz (w - wide s) (by omega) (by omega), wz (w - wide s + 1) (by omega) (by omega)]
theorem place_run (hpl : ∀ q ∈ pl, Lie q) (hN : pl.length ≤ 1000000) (hs : Shp s) (hw : w ≤ 100) (hw0 : 0 ≤ w) (hh : h ≤ 100) (hh0 : 0 ≤ h) : Rt (fun k => shape_sheet_place.f k w h pl s) (res s (spot w h pl s)) := by
 have sb := size_bd hs
 have bx := hs.bx
 have hbd : ∀ p ∈ s, Bd p := hs.nf.bd (Int.le_refl _)
 have c := corners_run hs.pos (show s.length ≤ 1000000 by have := hs.len; omega)
 refine rt_bind0 c (g := fun bt k => (shape_sub.f 0 0 bt.1 bt.2.1).bind fun b1 => (shape_moved.f k s b1.1 b1.2).bind fun t => (shape_sub.f bt.2.2.1 bt.2.2.2 bt.1 bt.2.1).bind fun b2 => shape_sheet_place.l0 k w pl t (mx 0 (wrap64 ((wrap64 (h - b2.2)) + 1))) 0 b2.1 b2.2) ?_ (fun k => rfl)
 have s1 : shape_sub.f 0 0 (box s).1 (box s).2.1 = some (-(box s).1, -(box s).2.1) := by
  unfold shape_sub.f; rw [wz _ (by omega) (by omega), wz _ (by omega) (by omega)]; congr 2 <;> omega
 have s2 : shape_sub.f (box s).2.2.1 (box s).2.2.2 (box s).1 (box s).2.1 = some (wide s, high s) := by
  unfold shape_sub.f wide high; rw [wz _ (by omega) (by omega), wz _ (by omega) (by omega)]
 have m1 := moved_run (v := ⟨-(box s).1, -(box s).2.1⟩) hbd (by unfold Bd; dsimp only; omega) (show s.length ≤ 1000000 by have := hs.len; omega)
 have L := place_l0 hpl hN hs hw (by omega) (max 0 (h - high s + 1)) (by omega) (h - high s + 1).toNat 0 (Int.le_refl 0) (by omega)
 refine rt_bind0 m1 (g := fun t k => shape_sheet_place.l0 k w pl t (max 0 (h - high s + 1)) 0 (wide s) (high s)) L (fun k => ?_)
 rw [s1, Option.bind_some, s2]
 simp only [Option.bind_some]
 rw [mx_eq, wz (h - high s) (by omega) (by omega), wz (h - high s + 1) (by omega) (by omega)]
end
section
variable {w h : Int} {xs : List (List Pt)}
theorem rowF_bd {F : Int → Int → Bool} {y x' : Int} : ∀ (d : Nat) (x : Int), rowF F y x d = some x' → x ≤ x' ∧ x' < x + d ∧ F x' y = true ∧ ∀ x'', x ≤ x'' → x'' < x' → F x'' y = false := by
 intro d
 induction d with
 | zero => intro x e; simp [rowF] at e
 | succ d ih =>
  intro x e
  unfold rowF at e
  by_cases hf : F x y = true
  ·rw [if_pos hf] at e
   obtain rfl := Option.some.inj e
   exact ⟨Int.le_refl _, by omega, hf, fun x'' h1 h2 => by omega⟩
  ·rw [if_neg hf] at e
   obtain ⟨a, b, c, g⟩ := ih (x + 1) e
   refine ⟨by omega, by omega, c, fun x'' h1 h2 => ?_⟩
   by_cases e2 : x'' = x
   ·subst e2; simpa using hf
   ·exact g x'' (by omega) h2
theorem rowF_none {F : Int → Int → Bool} {y : Int} : ∀ (d : Nat) (x : Int), rowF F y x d = none → ∀ x'', x ≤ x'' → x'' < x + d → F x'' y = false := by
 intro d
 induction d with
 | zero => intro x _ x'' h1 h2; omega
 | succ d ih =>
  intro x e x'' h1 h2
  unfold rowF at e
  by_cases hf : F x y = true
  ·rw [if_pos hf] at e; simp at e
  ·rw [if_neg hf] at e
   by_cases e2 : x'' = x
   ·subst e2; simpa using hf
   ·exact ih (x + 1) e x'' (by omega) (by omega)
theorem colF_bd {F : Int → Int → Bool} {W : Nat} {x' y' : Int} : ∀ (d : Nat) (y : Int), colF F W y d = some (x', y') → y ≤ y' ∧ y' < y + d ∧ 0 ≤ x' ∧ x' < W ∧ F x' y' = true ∧ (∀ x'', 0 ≤ x'' → x'' < x' → F x'' y' = false) ∧ (∀ y'' x'' : Int, y ≤ y'' → y'' < y' → 0 ≤ x'' → x'' < (W : Int) → F x'' y'' = false) := by
 intro d
 induction d with
 | zero => intro y e; simp [colF] at e
 | succ d ih =>
  intro y e
  unfold colF at e
  cases hr : rowF F y 0 W with
  | some x =>
   rw [hr] at e
   simp at e
   obtain ⟨rfl, rfl⟩ := e
   obtain ⟨a, b, c, g⟩ := rowF_bd W 0 hr
   exact ⟨Int.le_refl _, by omega, a, by omega, c, g, fun y'' x'' h1 h2 => by omega⟩
  | none =>
   rw [hr] at e
   obtain ⟨a, b, c, d1, e1, f1, g1⟩ := ih (y + 1) e
   refine ⟨by omega, by omega, c, d1, e1, f1, fun y'' x'' h1 h2 h3 h4 => ?_⟩
   by_cases e2 : y'' = y
   ·subst e2; exact rowF_none W 0 hr x'' h3 (by omega)
   ·exact g1 y'' x'' (by omega) h2 h3 h4
theorem spot_bd {pl : List (List Pt)} {s : List Pt} (hs : Shp s) {x y : Int} (e : spot w h pl s = some (x, y)) : 0 ≤ x ∧ x ≤ w - wide s ∧ 0 ≤ y ∧ y ≤ h - high s ∧ frees pl (shifted ⟨x, y⟩ (base s)) = true ∧
  (∀ x'', 0 ≤ x'' → x'' < x → frees pl (shifted ⟨x'', y⟩ (base s)) = false) ∧ (∀ y'' x'', 0 ≤ y'' → y'' < y → 0 ≤ x'' → x'' ≤ w - wide s → frees pl (shifted ⟨x'', y''⟩ (base s)) = false) := by
 have sb := size_bd hs
 obtain ⟨a, b, c, d, f, g, i⟩ := colF_bd _ _ e
 exact ⟨c, by omega, a, by omega, f, g, fun y'' x'' h1 h2 h3 h4 => i y'' x'' h1 h2 h3 (by omega)⟩
theorem spot_lie {pl : List (List Pt)} {s : List Pt} (hs : Shp s) (hw : w ≤ 100) (hh : h ≤ 100) {x y : Int} (e : spot w h pl s = some (x, y)) : Lie (shifted ⟨x, y⟩ (base s)) := by
 have sb := size_bd hs
 obtain ⟨a, b, c, d, _⟩ := spot_bd hs e
 exact at_lie hs a (by omega) c (by omega)
theorem nest_l1 (hx : ∀ s ∈ xs, Shp s) (hl : xs.length ≤ 1000) (hw : w ≤ 100) (hw0 : 0 ≤ w) (hh : h ≤ 100) (hh0 : 0 ≤ h) :
  ∀ d i out pl, xs.length = i + d → (∀ q ∈ pl, Lie q) → pl.length ≤ i → out.length ≤ i → Rt (fun k => shape_Nest.l1 k (w, h, pl) out xs (xs.length : Int) (i : Int)) (out ++ nestF w h (xs.drop i) (i : Int) pl, 0) := by
 intro d
 induction d with
 | zero =>
  intro i out pl hi _ _ _
  refine rt_ret fun k => ?_
  rw [shape_Nest.l1, if_neg (by omega), List.drop_of_length_le (by omega)]
  unfold nestF; rw [List.append_nil]
 | succ d ih =>
  intro i out pl hi hpl h1 h2
  have hlt : i < xs.length := by omega
  have hs := hx _ (List.getElem_mem hlt)
  have hd : xs.drop i = xs[i] :: xs.drop (i + 1) := List.drop_eq_getElem_cons hlt
  have p := place_run (h := h) hpl (by omega) hs hw hw0 hh hh0
  refine rt_bind p (g := fun bt k => if bt.2.2.1 = true then (if out.length < 5864062014805 then shape_Nest.l1 k (w, h, pl ++ [bt.2.2.2]) (out ++ [⟨(i : Int), ⟨bt.1, bt.2.1⟩⟩]) xs (xs.length : Int) (wrap64 ((i : Int) + 1)) else none) else shape_Nest.l1 k (w, h, pl) out xs (xs.length : Int) (wrap64 ((i : Int) + 1))) ?_ (fun k => by
   rw [shape_Nest.l1, if_pos (by omega), if_pos (by omega), if_pos (by omega), if_pos (show (w, h, pl).2.2.length < 1000000 by show pl.length < 1000000; omega), rd_l2 hlt])
  rw [hd]
  unfold nestF
  cases e : spot w h pl xs[i] with
  | none =>
   obtain ⟨K, hK⟩ := ih (i + 1) out pl (by omega) hpl (by omega) (by omega)
   refine ⟨K, fun k hk => ?_⟩
   have a := hK k hk
   dsimp only [res] at a ⊢
   refine (if_neg (show ¬ (false = true) by decide)).trans ?_
   rw [wrap_succ i (by omega)]; exact a
  | some xy =>
   obtain ⟨x, y⟩ := xy
   have hlie := spot_lie hs hw hh e
   obtain ⟨K, hK⟩ := ih (i + 1) (out ++ [⟨(i : Int), ⟨x, y⟩⟩]) (pl ++ [shifted ⟨x, y⟩ (base xs[i])]) (by omega) (fun q hq => by
    rcases List.mem_append.mp hq with hq | hq
    ·exact hpl q hq
    ·rw [List.mem_singleton.mp hq]; exact hlie) (by simp; omega) (by simp; omega)
   refine ⟨K, fun k hk => ?_⟩
   have a := hK k hk
   dsimp only [res] at a ⊢
   refine (if_pos (show true = true from rfl)).trans ?_
   rw [if_pos (by omega), wrap_succ i (by omega), a, List.append_assoc]; rfl
end
end Go.Proofs.Ythehmkpcddafnaa.M
end
section
namespace Go.Proofs.Ythehmkpcddafnaa.M
open Go.RowKit Go.Proofs.Ythehmkpcddafnaa.PG Go.Proofs.YthehmkpcddafnaaW.PrintMore Go.Proofs.YthehmkpcddafnaaW.PrintWords
section
variable {w h : Int} {xs : List (List Pt)} {out : List S48} {pl : List (List Pt)} {i : Nat} {s : List Pt} {x1 x2 x3 x4 : Int} {r : List S48}
theorem rn_done (hi : i < 1000000) {y : Int} (hn : Rt (fun k => cracknelref04_Nest.l0 k w h xs out pl ((i + 1 : Nat) : Int)) r) :
  Rt (fun k => cracknelref04_Nest.l1 k w h xs out pl (i : Int) s true y x1 x2 x3 x4) r := by
 have J : Rt (fun k => cracknelref04_Nest.j2 k w h xs out pl (i : Int) s true y false x1 x2 x3 x4) r := by
  refine rt_step (fun k => ?_) hn
  rw [cracknelref04_Nest.j2, if_neg (by simp), wrap_succ i (by omega)]
 refine rt_step (fun k => ?_) J
 rw [cracknelref04_Nest.l1]
 split
 ·rfl
 ·rfl
theorem rn_done2 (hi : i < 1000000) {x y : Int} (hy0 : 0 ≤ y) (hy1 : y ≤ 199) (hn : Rt (fun k => cracknelref04_Nest.l0 k w h xs out pl ((i + 1 : Nat) : Int)) r) :
  Rt (fun k => cracknelref04_Nest.l2 k w h xs out pl (i : Int) s true y x x1 x2 x3 x4) r := by
 have J : Rt (fun k => cracknelref04_Nest.j4 k w h xs out pl (i : Int) s true y x false x1 x2 x3 x4) r := by
  refine rt_step (fun k => ?_) (rn_done (s := s) (y := y + 1) (x1 := x1) (x2 := x2) (x3 := x3) (x4 := x4) hi hn)
  rw [cracknelref04_Nest.j4, if_neg (by simp), wz (y + 1) (by omega) (by omega)]
 refine rt_step (fun k => ?_) J
 rw [cracknelref04_Nest.l2]
 split
 ·rfl
 ·rfl
theorem rn_l3 {m : List Pt} (hm : Lie m) (hpl : ∀ q ∈ pl, Lie q) (hN : pl.length ≤ 1000000) {x y : Int} {b : Bool} {vt vf : List S48}
  (ht : Rt (fun k => cracknelref04_Nest.j6 k w h xs out pl (i : Int) s b y x m true x1 x2 x3 x4) vt) (hf : Rt (fun k => cracknelref04_Nest.j6 k w h xs out pl (i : Int) s b y x m false x1 x2 x3 x4) vf) :
  ∀ d j (f : Bool), pl.length = j + d → Rt (fun k => cracknelref04_Nest.l3 k w h xs out pl (i : Int) s b y x m f (j : Int) x1 x2 x3 x4) (if (f && tv (∀ q ∈ pl.drop j, Ap q m)) = true then vt else vf) := by
 have hff : ∀ j : Int, Rt (fun k => cracknelref04_Nest.l3 k w h xs out pl (i : Int) s b y x m false j x1 x2 x3 x4) vf := by
  intro j
  refine rt_step (fun k => ?_) hf
  rw [cracknelref04_Nest.l3]
  split
  ·rw [if_neg (by simp)]
  ·rfl
 intro d
 induction d with
 | zero =>
  intro j f hj
  cases f with
  | true =>
   rw [List.drop_of_length_le (by omega), tv_t (fun q hq => absurd hq (by simp)), if_pos (show (true && true) = true from rfl)]
   refine rt_step (fun k => ?_) ht
   rw [cracknelref04_Nest.l3, if_neg (by omega)]
  | false => rw [if_neg (by simp)]; exact hff _
 | succ d ih =>
  intro j f hj
  cases f with
  | false => rw [if_neg (by simp)]; exact hff _
  | true =>
   have hlt : j < pl.length := by omega
   have hq := hpl _ (List.getElem_mem hlt)
   have hd : pl.drop j = pl[j] :: pl.drop (j + 1) := List.drop_eq_getElem_cons hlt
   obtain ⟨c, _, r2, ic⟩ := apart_run (a := pl[j]) (b := m) hq.bd hm.bd (by have := hq.len; omega) (by have := hm.len; omega)
   refine rt_bind r2 (g := fun t k => cracknelref04_Nest.l3 k w h xs out pl (i : Int) s b y x m t (wrap64 ((j : Int) + 1)) x1 x2 x3 x4) ?_ (fun k => by
    rw [cracknelref04_Nest.l3, if_pos (by omega), if_pos rfl, if_pos (by omega), rd_l2 hlt])
   rw [wrap_succ j (by omega)]
   have e : (true && tv (∀ q ∈ pl.drop j, Ap q m)) = (c && tv (∀ q ∈ pl.drop (j + 1), Ap q m)) := by
    rw [hd]
    cases hc : c with
    | true =>
     have ha : Ap pl[j] m := ic.mp hc
     rw [Bool.true_and, Bool.true_and]
     exact tv_eq ⟨fun h q hq => h q (List.mem_cons_of_mem _ hq), fun h q hq => (List.mem_cons.mp hq).elim (fun e => by rw [e]; exact ha) (h q)⟩
    | false =>
     have ha : ¬ Ap pl[j] m := fun h => by have := ic.mpr h; rw [hc] at this; simp at this
     rw [Bool.true_and, Bool.false_and]
     exact tv_f (fun h => ha (h _ List.mem_cons_self))
   rw [e]; exact ih (j + 1) c (by omega)
theorem rn_l2 (hs : Shp s) (hpl : ∀ q ∈ pl, Lie q) (hN : pl.length ≤ 1000) (hO : out.length ≤ 1000) (hi : i < 1000000) (hw0 : 0 ≤ w) (hw : w ≤ 100) {y : Int} (hy0 : 0 ≤ y) (hy1 : y ≤ 100) (G : Option (Int × Int) → List S48) {rest : Option (Int × Int)}
  (hrow : Rt (fun k => cracknelref04_Nest.l1 k w h xs out pl (i : Int) (base s) false (y + 1) (box s).1 (box s).2.1 (box s).2.2.1 (box s).2.2.2) (G rest))
  (hfound : ∀ x, 0 ≤ x → x ≤ 100 → Rt (fun k => cracknelref04_Nest.l0 k w h xs (out ++ [⟨(i : Int), ⟨x, y⟩⟩]) (pl ++ [shifted ⟨x, y⟩ (base s)]) ((i + 1 : Nat) : Int)) (G (some (x, y)))) :
  ∀ (d : Nat) (x : Int), 0 ≤ x → x + d = max 0 (w - wide s + 1) → Rt (fun k => cracknelref04_Nest.l2 k w h xs out pl (i : Int) (base s) false y x (box s).1 (box s).2.1 (box s).2.2.1 (box s).2.2.2) (G (match rowF (fun x y => frees pl (shifted ⟨x, y⟩ (base s))) y x d with | some x => some (x, y) | none => rest)) := by
 have sb := size_bd hs
 have bx := hs.bx
 have ew : wrap64 (w - wrap64 ((box s).2.2.1 - (box s).1)) = w - wide s := by
  rw [wz ((box s).2.2.1 - (box s).1) (by omega) (by omega)]; unfold wide at *; exact wz _ (by omega) (by omega)
 intro d
 induction d with
 | zero =>
  intro x h0 hx
  have J : Rt (fun k => cracknelref04_Nest.j4 k w h xs out pl (i : Int) (base s) false y x false (box s).1 (box s).2.1 (box s).2.2.1 (box s).2.2.2) (G rest) := by
   refine rt_step (fun k => ?_) hrow
   rw [cracknelref04_Nest.j4, if_neg (by simp), wz (y + 1) (by omega) (by omega)]
  refine rt_step (fun k => ?_) J
  rw [cracknelref04_Nest.l2, ew, if_neg (by omega)]
 | succ d ih =>
  intro x h0 hx
  have hx1 : x ≤ w - wide s := by omega
  have bl := base_lie hs
  have hlie := at_lie hs h0 (show x ≤ 200 by omega) hy0 (show y ≤ 200 by omega)
  have mv := refMoved_run (v := ⟨x, y⟩) bl.bd (by unfold Bd; dsimp only; omega) (by have := bl.len; omega)
  have jt : Rt (fun k => cracknelref04_Nest.j6 k w h xs out pl (i : Int) (base s) false y x (shifted ⟨x, y⟩ (base s)) true (box s).1 (box s).2.1 (box s).2.2.1 (box s).2.2.2) (G (some (x, y))) := by
   refine rt_step (fun k => ?_) (rn_done2 (s := base s) (x := x + 1) (y := y) (x1 := (box s).1) (x2 := (box s).2.1) (x3 := (box s).2.2.1) (x4 := (box s).2.2.2) hi hy0 (by omega) (hfound x h0 (by omega)))
   rw [cracknelref04_Nest.j6, if_pos rfl, if_pos (by omega), if_pos (by omega), wz (x + 1) (by omega) (by omega)]
  have jf : Rt (fun k => cracknelref04_Nest.j6 k w h xs out pl (i : Int) (base s) false y x (shifted ⟨x, y⟩ (base s)) false (box s).1 (box s).2.1 (box s).2.2.1 (box s).2.2.2) (G (match rowF (fun x y => frees pl (shifted ⟨x, y⟩ (base s))) y (x + 1) d with | some x => some (x, y) | none => rest)) := by
   refine rt_step (fun k => ?_) (ih (x + 1) (by omega) (by omega))
   rw [cracknelref04_Nest.j6, if_neg (by simp), wz (x + 1) (by omega) (by omega)]
  have L := rn_l3 hlie hpl (by omega) jt jf pl.length 0 true (by omega)
  have J : Rt (fun k => cracknelref04_Nest.j4 k w h xs out pl (i : Int) (base s) false y x true (box s).1 (box s).2.1 (box s).2.2.1 (box s).2.2.2) (G (match rowF (fun x y => frees pl (shifted ⟨x, y⟩ (base s))) y x (d + 1) with | some x => some (x, y) | none => rest)) := by
   refine rt_bind mv (g := fun t k => cracknelref04_Nest.l3 k w h xs out pl (i : Int) (base s) false y x t true 0 (box s).1 (box s).2.1 (box s).2.2.1 (box s).2.2.2) ?_ (fun k => by rw [cracknelref04_Nest.j4, if_pos rfl])
   unfold rowF
   rw [List.drop_zero, Bool.true_and] at L
   cases hf : frees pl (shifted ⟨x, y⟩ (base s)) with
   | true =>
    have hf2 : tv (∀ q ∈ pl, Ap q (shifted ⟨x, y⟩ (base s))) = true := hf
    rw [if_pos hf2] at L
    rw [if_pos rfl]; exact L
   | false =>
    have hf2 : tv (∀ q ∈ pl, Ap q (shifted ⟨x, y⟩ (base s))) = false := hf
    rw [hf2, if_neg (by simp)] at L
    rw [if_neg (by simp)]; exact L
  refine rt_step (fun k => ?_) J
  rw [cracknelref04_Nest.l2, ew, if_pos (by omega)]; rfl
theorem rn_l1 (hs : Shp s) (hpl : ∀ q ∈ pl, Lie q) (hN : pl.length ≤ 1000) (hO : out.length ≤ 1000) (hi : i < 1000000) (hw0 : 0 ≤ w) (hw : w ≤ 100) (hh0 : 0 ≤ h) (hh : h ≤ 100) (G : Option (Int × Int) → List S48)
  (hnone : Rt (fun k => cracknelref04_Nest.l0 k w h xs out pl ((i + 1 : Nat) : Int)) (G none))
  (hfound : ∀ x y, 0 ≤ x → x ≤ 100 → 0 ≤ y → y ≤ 100 → Rt (fun k => cracknelref04_Nest.l0 k w h xs (out ++ [⟨(i : Int), ⟨x, y⟩⟩]) (pl ++ [shifted ⟨x, y⟩ (base s)]) ((i + 1 : Nat) : Int)) (G (some (x, y)))) :
  ∀ (d : Nat) (y : Int), 0 ≤ y → y + d = max 0 (h - high s + 1) → Rt (fun k => cracknelref04_Nest.l1 k w h xs out pl (i : Int) (base s) false y (box s).1 (box s).2.1 (box s).2.2.1 (box s).2.2.2) (G (colF (fun x y => frees pl (shifted ⟨x, y⟩ (base s))) (w - wide s + 1).toNat y d)) := by
 have sb := size_bd hs
 have bx := hs.bx
 have eh : wrap64 (h - wrap64 ((box s).2.2.2 - (box s).2.1)) = h - high s := by
  rw [wz ((box s).2.2.2 - (box s).2.1) (by omega) (by omega)]; unfold high at *; exact wz _ (by omega) (by omega)
 intro d
 induction d with
 | zero =>
  intro y h0 hy
  have J : Rt (fun k => cracknelref04_Nest.j2 k w h xs out pl (i : Int) (base s) false y false (box s).1 (box s).2.1 (box s).2.2.1 (box s).2.2.2) (G none) := by
   refine rt_step (fun k => ?_) hnone
   rw [cracknelref04_Nest.j2, if_neg (by simp), wrap_succ i (by omega)]
  refine rt_step (fun k => ?_) J
  rw [cracknelref04_Nest.l1, eh, if_neg (by omega)]
 | succ d ih =>
  intro y h0 hy
  have hy1 : y ≤ h - high s := by omega
  have R := rn_l2 (h := h) (xs := xs) hs hpl hN hO hi hw0 hw h0 (show y ≤ 100 by omega) G (ih (y + 1) (by omega) (by omega)) (fun x a b => hfound x y a b h0 (by omega)) (w - wide s + 1).toNat 0 (Int.le_refl 0) (by omega)
  have J : Rt (fun k => cracknelref04_Nest.j2 k w h xs out pl (i : Int) (base s) false y true (box s).1 (box s).2.1 (box s).2.2.1 (box s).2.2.2) (G (colF (fun x y => frees pl (shifted ⟨x, y⟩ (base s))) (w - wide s + 1).toNat y (d + 1))) := by
   refine rt_step (fun k => ?_) (by unfold colF; exact R)
   rw [cracknelref04_Nest.j2, if_pos rfl]
  refine rt_step (fun k => ?_) J
  rw [cracknelref04_Nest.l1, eh, if_pos (by omega)]; rfl
end
theorem ref_nest {w h : Int} {xs : List (List Pt)} (hx : ∀ s ∈ xs, Shp s) (hl : xs.length ≤ 1000) (hw0 : 0 ≤ w) (hw : w ≤ 100) (hh0 : 0 ≤ h) (hh : h ≤ 100) : Rt (fun k => cracknelref04_Nest.f k w h xs) (nestF w h xs 0 []) := by
 have H : ∀ d i out pl, xs.length = i + d → (∀ q ∈ pl, Lie q) → pl.length ≤ i → out.length ≤ i → Rt (fun k => cracknelref04_Nest.l0 k w h xs out pl (i : Int)) (out ++ nestF w h (xs.drop i) (i : Int) pl) := by
  intro d
  induction d with
  | zero =>
   intro i out pl hi _ _ _
   refine rt_ret fun k => ?_
   rw [cracknelref04_Nest.l0, if_neg (by omega), List.drop_of_length_le (by omega)]
   unfold nestF; rw [List.append_nil]
  | succ d ih =>
   intro i out pl hi hpl h1 h2
   have hlt : i < xs.length := by omega
   have hs := hx _ (List.getElem_mem hlt)
   have sb := size_bd hs
   have bx := hs.bx
   have hd : xs.drop i = xs[i] :: xs.drop (i + 1) := List.drop_eq_getElem_cons hlt
   have hbd : ∀ p ∈ xs[i], Bd p := hs.nf.bd (Int.le_refl _)
   have b := box_run hs.pos (show xs[i].length ≤ 1000000 by have := hs.len; omega)
   have mv := refMoved_run (v := ⟨-(box xs[i]).1, -(box xs[i]).2.1⟩) hbd (by unfold Bd; dsimp only; omega) (show xs[i].length ≤ 1000000 by have := hs.len; omega)
   have hlieF : ∀ x y, 0 ≤ x → x ≤ 100 → 0 ≤ y → y ≤ 100 → ∀ q ∈ pl ++ [shifted ⟨x, y⟩ (base xs[i])], Lie q := fun x y a b c e q hq => by
    rcases List.mem_append.mp hq with hq | hq
    ·exact hpl q hq
    ·rw [List.mem_singleton.mp hq]; exact at_lie hs a (by omega) c (by omega)
   have R := rn_l1 (w := w) (h := h) (xs := xs) (out := out) (i := i) hs hpl (by omega) (by omega) (by omega) hw0 hw hh0 hh
    (fun o => match o with
     | some (x, y) => out ++ ⟨(i : Int), ⟨x, y⟩⟩ :: nestF w h (xs.drop (i + 1)) ((i : Int) + 1) (pl ++ [shifted ⟨x, y⟩ (base xs[i])])
     | none => out ++ nestF w h (xs.drop (i + 1)) ((i : Int) + 1) pl)
    (ih (i + 1) out pl (by omega) hpl (by omega) (by omega))
    (fun x y a b c e => by
     have := ih (i + 1) (out ++ [⟨(i : Int), ⟨x, y⟩⟩]) (pl ++ [shifted ⟨x, y⟩ (base xs[i])]) (by omega) (hlieF x y a b c e) (by simp; omega) (by simp; omega)
     rw [List.append_assoc] at this; exact this)
    (h - high xs[i] + 1).toNat 0 (Int.le_refl 0) (by omega)
   have e : (out ++ nestF w h (xs.drop i) (i : Int) pl) = (match spot w h pl xs[i] with
     | some (x, y) => out ++ ⟨(i : Int), ⟨x, y⟩⟩ :: nestF w h (xs.drop (i + 1)) ((i : Int) + 1) (pl ++ [shifted ⟨x, y⟩ (base xs[i])])
     | none => out ++ nestF w h (xs.drop (i + 1)) ((i : Int) + 1) pl) := by
    rw [hd]; conv => lhs; unfold nestF
    cases spot w h pl xs[i] with
    | none => rfl
    | some v => rfl
   rw [e]
   refine rt_bind b (g := fun bt k => (cracknelref04_Moved.f k xs[i] (wrap64 (-bt.1)) (wrap64 (-bt.2.1))).bind fun t => cracknelref04_Nest.l1 k w h xs out pl (i : Int) t false 0 bt.1 bt.2.1 bt.2.2.1 bt.2.2.2) ?_ (fun k => by
    rw [cracknelref04_Nest.l0, if_pos (by omega), if_pos (by omega), rd_l2 hlt])
   refine rt_bind0 mv (g := fun t k => cracknelref04_Nest.l1 k w h xs out pl (i : Int) t false 0 (box xs[i]).1 (box xs[i]).2.1 (box xs[i]).2.2.1 (box xs[i]).2.2.2) R (fun k => ?_)
   rw [wz (-(box xs[i]).1) (by omega) (by omega), wz (-(box xs[i]).2.1) (by omega) (by omega)]
 have := H xs.length 0 [] [] (by omega) (fun q hq => absurd hq (by simp)) (by simp) (by simp)
 exact this
end Go.Proofs.Ythehmkpcddafnaa.M
end
section
namespace Go.Proofs.Ythehmkpcddafnaa.M
open Go.RowKit Go.Proofs.Ythehmkpcddafnaa.PG Go.Proofs.YthehmkpcddafnaaW.PrintMore Go.Proofs.YthehmkpcddafnaaW.PrintWords
theorem code_ex : ∃ cv : List Pt → Int, ∀ r, r.length ≤ 1000000 → Rt (fun k => shape_refused_normal.f k r) (cv r) ∧ Rt (fun k => cracknellaw04_convex.f k r) (cv r) ∧ (cv r = 0 ↔ Poly r ∧ Convex r) := by
 refine Classical.axiomOfChoice (r := fun (r : List Pt) (c : Int) => r.length ≤ 1000000 → Rt (fun k => shape_refused_normal.f k r) c ∧ Rt (fun k => cracknellaw04_convex.f k r) c ∧ (c = 0 ↔ Poly r ∧ Convex r)) (fun r => ?_)
 by_cases h : r.length ≤ 1000000
 ·obtain ⟨c, hc⟩ := bad_convex r h; exact ⟨c, fun _ => hc⟩
 ·exact ⟨0, fun h2 => absurd h2 h⟩
def errF (cv : List Pt → Int) : List (List Pt) → Int
 | [] => 0
 | s :: t => if cv s = 0 then errF cv t else cv s
theorem errF_cons (cv : List Pt → Int) (s : List Pt) (t : List (List Pt)) : errF cv (s :: t) = if cv s = 0 then errF cv t else cv s := rfl
theorem errF_zero {cv : List Pt → Int} : ∀ {xs : List (List Pt)}, errF cv xs = 0 → ∀ s ∈ xs, cv s = 0
 | [], _, s, hs => absurd hs (by simp)
 | a :: t, h, s, hs => by
  unfold errF at h
  by_cases c : cv a = 0
  ·rw [if_pos c] at h
   rcases List.mem_cons.mp hs with e | e
   ·rw [e]; exact c
   ·exact errF_zero h s e
  ·rw [if_neg c] at h; exact absurd h c
section
variable {cv : List Pt → Int} (hcv : ∀ r, r.length ≤ 1000000 → Rt (fun k => shape_refused_normal.f k r) (cv r) ∧ Rt (fun k => cracknellaw04_convex.f k r) (cv r) ∧ (cv r = 0 ↔ Poly r ∧ Convex r)) {w h : Int} {xs : List (List Pt)}
theorem nest_bad_size (hb : w < 1 ∨ w > 100 ∨ h < 1 ∨ h > 100 ∨ xs.length > 16) : Rt (fun k => shape_Nest.f k w h xs) ([], 1) := by
 have J : Rt (fun k => shape_Nest.j0 k (w, h, []) xs true) ([], 1) := by
  refine rt_ret fun k => ?_
  rw [shape_Nest.j0, if_pos rfl]
 obtain ⟨K, hK⟩ := J
 refine ⟨K, fun k hk => ?_⟩
 have a := hK k hk
 dsimp only at a ⊢
 unfold shape_Nest.f
 by_cases h1 : w < 1
 ·rw [if_pos h1]; exact a
 ·rw [if_neg h1]
  by_cases h2 : w > 100
  ·rw [if_pos h2]; exact a
  ·rw [if_neg h2]
   by_cases h3 : h < 1
   ·rw [if_pos h3]; exact a
   ·rw [if_neg h3]
    by_cases h4 : h > 100
    ·rw [if_pos h4]; exact a
    ·rw [if_neg h4, decide_eq_true (show ((xs.length : Int) > 16) by omega)]; exact a
include hcv in
theorem nest_run (hl : ∀ s ∈ xs, s.length ≤ 1000000) (hw0 : 1 ≤ w) (hw : w ≤ 100) (hh0 : 1 ≤ h) (hh : h ≤ 100) (hx : xs.length ≤ 16) : Rt (fun k => shape_Nest.f k w h xs) (if errF cv xs = 0 then nestF w h xs 0 [] else [], errF cv xs) := by
 have H : ∀ d i, xs.length = i + d → (errF cv (xs.drop i) = 0 → errF cv xs = 0) → Rt (fun k => shape_Nest.l0 k (w, h, []) xs xs (xs.length : Int) (i : Int)) (if errF cv (xs.drop i) = 0 then nestF w h xs 0 [] else [], errF cv (xs.drop i)) := by
  intro d
  induction d with
  | zero =>
   intro i hi hz
   have e0 : errF cv (xs.drop i) = 0 := by rw [List.drop_of_length_le (by omega)]; rfl
   rw [e0, if_pos rfl]
   have good : ∀ s ∈ xs, Shp s := fun s hs => by
    have c := errF_zero (hz e0) s hs
    obtain ⟨hp, hc⟩ := (hcv s (hl s hs)).2.2.mp c
    exact ⟨convex_nf hp hc, hp.2.1⟩
   have L := nest_l1 (xs := xs) good (by omega) hw (by omega) hh (by omega) xs.length 0 [] [] (by omega) (fun q hq => absurd hq (by simp)) (by simp) (by simp)
   rw [List.drop_zero, List.nil_append] at L
   refine rt_step (fun k => ?_) L
   rw [shape_Nest.l0, if_neg (by omega)]; rfl
  | succ d ih =>
   intro i hi hz
   have hlt : i < xs.length := by omega
   have hd : xs.drop i = xs[i] :: xs.drop (i + 1) := List.drop_eq_getElem_cons hlt
   have c := (hcv xs[i] (hl _ (List.getElem_mem hlt))).1
   refine rt_bind c (g := fun t k => if t = 0 then shape_Nest.l0 k (w, h, []) xs xs (xs.length : Int) (wrap64 ((i : Int) + 1)) else some ([], t)) ?_ (fun k => by
    rw [shape_Nest.l0, if_pos (by omega), if_pos (by omega), if_pos (by omega), rd_l2 hlt])
   rw [hd]
   rw [hd, errF_cons] at hz
   rw [errF_cons]
   by_cases e : cv xs[i] = 0
   ·rw [if_pos e] at hz
    simp only [if_pos e]
    rw [wrap_succ i (by omega)]
    exact ih (i + 1) (by omega) hz
   ·simp only [if_neg e]
    exact ⟨0, fun k _ => rfl⟩
 have h0 := H xs.length 0 (by omega) (by rw [List.drop_zero]; exact id)
 rw [List.drop_zero] at h0
 have J : Rt (fun k => shape_Nest.j0 k (w, h, []) xs false) (if errF cv xs = 0 then nestF w h xs 0 [] else [], errF cv xs) := by
  refine rt_step (fun k => ?_) h0
  rw [shape_Nest.j0, if_neg (by simp)]; rfl
 obtain ⟨K, hK⟩ := J
 refine ⟨K, fun k hk => ?_⟩
 have a := hK k hk
 dsimp only at a ⊢
 unfold shape_Nest.f
 rw [if_neg (by omega), if_neg (by omega), if_neg (by omega), if_neg (by omega), decide_eq_false (show ¬ ((xs.length : Int) > 16) by omega)]; exact a
theorem placed_same {l : List S48} (hN : l.length ≤ 1000000) : Rt (fun k => cracknellaw04_placed.f k l l) true := by
 have H : ∀ d i, l.length = i + d → Rt (fun k => cracknellaw04_placed.l0 k l l (i : Int)) true := by
  intro d
  induction d with
  | zero => intro i hi; refine rt_ret fun k => ?_; rw [cracknellaw04_placed.l0, if_neg (by omega)]
  | succ d ih =>
   intro i hi
   refine rt_step (fun k => ?_) (ih (i + 1) (by omega))
   rw [cracknellaw04_placed.l0, if_pos (by omega), if_pos (by omega), if_pos (by omega), if_neg (by simp), wrap_succ i (by omega)]
 obtain ⟨K, hK⟩ := H l.length 0 (by omega)
 refine ⟨K, fun k hk => ?_⟩
 dsimp only
 unfold cracknellaw04_placed.f
 rw [if_pos rfl]; exact hK k hk
theorem lives_rt : Rt (fun k => cracknellaw04_lives.f k) true := ⟨60, fun k hk => lives_ok k hk⟩
theorem nestF_len (w h : Int) : ∀ (xs : List (List Pt)) (i : Int) (pl : List (List Pt)), (nestF w h xs i pl).length ≤ xs.length := by
 intro xs
 induction xs with
 | nil => intro i pl; exact Nat.le_refl _
 | cons s t ih =>
  intro i pl
  unfold nestF
  split
  ·rw [List.length_cons, List.length_cons]; exact Nat.succ_le_succ (ih _ _)
  ·rw [List.length_cons]; exact Nat.le_succ_of_le (ih _ _)
include hcv in
theorem nests_l1 (hl : ∀ s ∈ xs, s.length ≤ 1000000) (hx : xs.length ≤ 100) {l : List S48} {e : Int} : ∀ d i (b : Int), xs.length = i + d → Rt (fun k => cracknellaw04_ShapeNests.j10 k xs w h l e (if b = 0 then errF cv (xs.drop i) else b)) true → Rt (fun k => cracknellaw04_ShapeNests.l1 k xs w h l e b (i : Int)) true := by
 intro d
 induction d with
 | zero =>
  intro i b hi hj
  have e0 : errF cv (xs.drop i) = 0 := by rw [List.drop_of_length_le (by omega)]; rfl
  rw [e0] at hj
  refine rt_step (fun k => ?_) hj
  rw [cracknellaw04_ShapeNests.l1, if_neg (by omega)]
  by_cases hb : b = 0
  ·rw [if_pos hb, hb]
  ·rw [if_neg hb]
 | succ d ih =>
  intro i b hi hj
  have hlt : i < xs.length := by omega
  have hd : xs.drop i = xs[i] :: xs.drop (i + 1) := List.drop_eq_getElem_cons hlt
  by_cases hb : b = 0
  ·subst hb
   have c := (hcv xs[i] (hl _ (List.getElem_mem hlt))).2.1
   refine rt_bind c (g := fun t k => cracknellaw04_ShapeNests.l1 k xs w h l e t (wrap64 ((i : Int) + 1))) ?_ (fun k => by
    rw [cracknellaw04_ShapeNests.l1, if_pos (by omega), if_pos rfl, if_pos (by omega), rd_l2 hlt])
   rw [wrap_succ i (by omega)]
   refine ih (i + 1) _ (by omega) ?_
   rw [if_pos rfl, hd, errF_cons] at hj
   exact hj
  ·rw [if_neg hb] at hj
   refine rt_step (fun k => ?_) hj
   rw [cracknellaw04_ShapeNests.l1, if_pos (by omega), if_neg hb]
include hcv in
theorem nests_j6 (hl : ∀ s ∈ xs, s.length ≤ 1000000) (hx : xs.length ≤ 100) : Rt (fun k => cracknellaw04_ShapeNests.j6 k xs w h) true := by
 by_cases hG : 1 ≤ w ∧ w ≤ 100 ∧ 1 ≤ h ∧ h ≤ 100 ∧ xs.length ≤ 16
 ·obtain ⟨g1, g2, g3, g4, g5⟩ := hG
  have N := nest_run hcv hl g1 g2 g3 g4 g5
  refine rt_bind N (g := fun bt k => cracknellaw04_ShapeNests.j7 k xs w h bt.1 bt.2 0 false) ?_ (fun k => by
   rw [cracknellaw04_ShapeNests.j6, decide_eq_false (show ¬ ((xs.length : Int) > 16) by omega)]
   cases shape_Nest.f k w h xs with
   | none => rfl
   | some v => rw [Option.bind_some, Option.bind_some, if_neg (by omega), if_neg (by omega), if_neg (by omega), if_neg (by omega)])
  dsimp only
  have J10 : Rt (fun k => cracknellaw04_ShapeNests.j10 k xs w h (if errF cv xs = 0 then nestF w h xs 0 [] else []) (errF cv xs) (errF cv xs)) true := by
   by_cases hz : errF cv xs = 0
   ·rw [hz, if_pos rfl]
    have good : ∀ s ∈ xs, Shp s := fun s hs => by
     have c := errF_zero hz s hs
     obtain ⟨hp, hc⟩ := (hcv s (hl s hs)).2.2.mp c
     exact ⟨convex_nf hp hc, hp.2.1⟩
    have R := ref_nest good (by omega) (by omega) g2 (by omega) g4
    have P := placed_same (l := nestF w h xs 0 []) (by have := nestF_len w h xs 0 []; omega)
    refine rt_bind R (g := fun t k => (cracknellaw04_placed.f k (nestF w h xs 0 []) t).bind fun b => if b = true then (if (0 : Int) = 0 then (cracknellaw04_lives.f k).bind fun c => some c else some false) else some false) ?_ (fun k => by
     rw [cracknellaw04_ShapeNests.j10, if_pos rfl])
    refine rt_bind0 P (g := fun b k => if b = true then (if (0 : Int) = 0 then (cracknellaw04_lives.f k).bind fun c => some c else some false) else some false) ?_ (fun k => rfl)
    obtain ⟨K, hK⟩ := lives_rt
    refine ⟨K, fun k hk => ?_⟩
    have a := hK k hk
    dsimp only at a ⊢
    refine (if_pos rfl).trans ?_
    rw [if_pos rfl, a]; rfl
   ·rw [if_neg hz]
    refine rt_bind lives_rt (g := fun c _ => some c) ⟨0, fun k _ => rfl⟩ (fun k => ?_)
    rw [cracknellaw04_ShapeNests.j10, if_neg hz, if_pos (by simp), if_pos rfl]
  have L1 := nests_l1 (h := h) (w := w) hcv hl hx (l := if errF cv xs = 0 then nestF w h xs 0 [] else []) (e := errF cv xs) xs.length 0 0 (by omega) (by rw [if_pos rfl, List.drop_zero]; exact J10)
  have J8 : Rt (fun k => cracknellaw04_ShapeNests.j8 k xs w h (if errF cv xs = 0 then nestF w h xs 0 [] else []) (errF cv xs) 0) true := rt_step (fun k => by rw [cracknellaw04_ShapeNests.j8]; rfl) L1
  refine rt_step (fun k => ?_) J8
  rw [cracknellaw04_ShapeNests.j7, if_neg (by simp)]
 ·have N := nest_bad_size (w := w) (h := h) (xs := xs) (by omega)
  have J10 : Rt (fun k => cracknellaw04_ShapeNests.j10 k xs w h [] 1 1) true := by
   refine rt_bind lives_rt (g := fun c _ => some c) ⟨0, fun k _ => rfl⟩ (fun k => ?_)
   rw [cracknellaw04_ShapeNests.j10, if_neg (by omega), if_pos (by simp), if_pos rfl]
  have L1 := nests_l1 (h := h) (w := w) hcv hl hx (l := []) (e := 1) xs.length 0 1 (by omega) (by rw [if_neg (by omega)]; exact J10)
  have J8 : Rt (fun k => cracknellaw04_ShapeNests.j8 k xs w h [] 1 1) true := rt_step (fun k => by rw [cracknellaw04_ShapeNests.j8]; rfl) L1
  have J7 : Rt (fun k => cracknellaw04_ShapeNests.j7 k xs w h [] 1 0 true) true := rt_step (fun k => by rw [cracknellaw04_ShapeNests.j7, if_pos rfl]) J8
  refine rt_bind N (g := fun bt k => (if w < 1 then (cracknellaw04_ShapeNests.j7 k xs w h bt.1 bt.2 0 true) else (if w > 100 then (cracknellaw04_ShapeNests.j7 k xs w h bt.1 bt.2 0 true) else (if h < 1 then (cracknellaw04_ShapeNests.j7 k xs w h bt.1 bt.2 0 true) else (if h > 100 then (cracknellaw04_ShapeNests.j7 k xs w h bt.1 bt.2 0 true) else (cracknellaw04_ShapeNests.j7 k xs w h bt.1 bt.2 0 (decide ((xs.length : Int) > 16)))))))) ?_ (fun k => by rw [cracknellaw04_ShapeNests.j6])
  obtain ⟨K, hK⟩ := J7
  refine ⟨K, fun k hk => ?_⟩
  have a := hK k hk
  dsimp only at a ⊢
  by_cases h1 : w < 1
  ·rw [if_pos h1]; exact a
  ·rw [if_neg h1]
   by_cases h2 : w > 100
   ·rw [if_pos h2]; exact a
   ·rw [if_neg h2]
    by_cases h3 : h < 1
    ·rw [if_pos h3]; exact a
    ·rw [if_neg h3]
     by_cases h4 : h > 100
     ·rw [if_pos h4]; exact a
     ·rw [if_neg h4, decide_eq_true (show ((xs.length : Int) > 16) by omega)]; exact a
include hcv in
theorem nests_j2 (hl : ∀ s ∈ xs, s.length ≤ 1000000) (hx : xs.length ≤ 100) : Rt (fun k => cracknellaw04_ShapeNests.j2 k xs w h) true := by
 have J5 : ∀ (w h : Int) (b : Bool), Rt (fun k => cracknellaw04_ShapeNests.j5 k xs w h b) true := by
  intro w h b
  cases b with
  | true => exact rt_step (fun k => by rw [cracknellaw04_ShapeNests.j5, if_pos rfl]) (nests_j6 (w := w) (h := wrap64 ((Int.tmod h 24) + 1)) hcv hl hx)
  | false => exact rt_step (fun k => by rw [cracknellaw04_ShapeNests.j5, if_neg (by simp)]) (nests_j6 (w := w) (h := h) hcv hl hx)
 have J4 : ∀ (w h : Int), Rt (fun k => cracknellaw04_ShapeNests.j4 k xs w h) true := by
  intro w h
  by_cases h1 : h > 24
  ·exact rt_step (fun k => by rw [cracknellaw04_ShapeNests.j4, if_pos h1]) (J5 w h (decide (h ≤ 100)))
  ·exact rt_step (fun k => by rw [cracknellaw04_ShapeNests.j4, if_neg h1]) (J5 w h false)
 have J3 : ∀ (w h : Int) (b : Bool), Rt (fun k => cracknellaw04_ShapeNests.j3 k xs w h b) true := by
  intro w h b
  cases b with
  | true => exact rt_step (fun k => by rw [cracknellaw04_ShapeNests.j3, if_pos rfl]) (J4 (wrap64 ((Int.tmod w 24) + 1)) h)
  | false => exact rt_step (fun k => by rw [cracknellaw04_ShapeNests.j3, if_neg (by simp)]) (J4 w h)
 by_cases h1 : w > 24
 ·exact rt_step (fun k => by rw [cracknellaw04_ShapeNests.j2, if_pos h1]) (J3 w h (decide (w ≤ 100)))
 ·exact rt_step (fun k => by rw [cracknellaw04_ShapeNests.j2, if_neg h1]) (J3 w h false)
include hcv in
theorem nests_l0 (x : List (List Pt)) (a b : Int) : ∀ d (acc : List (List Pt)), acc.length + d = 17 → (∀ s ∈ acc, s.length ≤ 33) → Rt (fun k => cracknellaw04_ShapeNests.l0 k x acc (acc.length : Int) a b) true := by
 intro d
 induction d with
 | zero =>
  intro acc hd hl
  have J1 : Rt (fun k => cracknellaw04_ShapeNests.j1 k x acc (acc.length : Int) false a b) true := rt_step (fun k => by rw [cracknellaw04_ShapeNests.j1, if_neg (by simp)]) (nests_j2 (w := a) (h := b) hcv (fun s hs => by have := hl s hs; omega) (by omega))
  refine rt_step (fun k => ?_) J1
  rw [cracknellaw04_ShapeNests.l0]
  split
  ·rw [decide_eq_false (by omega)]
  ·rfl
 | succ d ih =>
  intro acc hd hl
  have J2 := nests_j2 (w := a) (h := b) hcv (xs := acc) (fun s hs => by have := hl s hs; omega) (by omega)
  by_cases hlt : acc.length < x.length
  ·obtain ⟨r, hr, hrl⟩ := cut_f x[acc.length] 8 (by omega)
   have nxt := ih (acc ++ [r]) (by simp; omega) (fun s hs => by
    rcases List.mem_append.mp hs with h1 | h1
    ·exact hl s h1
    ·rw [List.mem_singleton.mp h1]; exact hrl)
   have J1 : Rt (fun k => cracknellaw04_ShapeNests.j1 k x acc (acc.length : Int) true a b) true := by
    by_cases h6 : (acc.length : Int) ≥ 6 ∧ (x.length : Int) ≤ 16
    ·refine rt_step (fun k => ?_) J2
     rw [cracknellaw04_ShapeNests.j1, if_pos rfl, if_pos h6.1, if_pos h6.2]
    ·refine rt_step (fun k => ?_) nxt
     rw [cracknellaw04_ShapeNests.j1, if_pos rfl]
     have e8 : ((8 : Nat) : Int) = 8 := rfl
     rw [e8] at hr
     have el : ((acc ++ [r]).length : Int) = (acc.length : Int) + 1 := by simp
     by_cases h7 : (acc.length : Int) ≥ 6
     ·rw [if_pos h7, if_neg (fun h8 => h6 ⟨h7, h8⟩), if_pos (by omega), if_pos (by omega), rd_l2 hlt, hr, Option.bind_some, if_pos (by omega), wrap_succ acc.length (by omega), el]; rfl
     ·rw [if_neg h7, if_pos (by omega), if_pos (by omega), rd_l2 hlt, hr, Option.bind_some, if_pos (by omega), wrap_succ acc.length (by omega), el]; rfl
   refine rt_step (fun k => ?_) J1
   rw [cracknellaw04_ShapeNests.l0, if_pos (by omega), decide_eq_true (by omega)]
  ·have J1 : Rt (fun k => cracknellaw04_ShapeNests.j1 k x acc (acc.length : Int) false a b) true := rt_step (fun k => by rw [cracknellaw04_ShapeNests.j1, if_neg (by simp)]) J2
   refine rt_step (fun k => ?_) J1
   rw [cracknellaw04_ShapeNests.l0, if_neg (by omega)]
end
theorem nests_plain (a b : Int) (x : List (List S41)) : ∃ k, cracknellaw04_ShapeNests.f k a b x = some true := by
 obtain ⟨cv, hcv⟩ := code_ex
 obtain ⟨K, hK⟩ := nests_l0 hcv x a b 17 [] rfl (fun s hs => absurd hs (by simp))
 exact ⟨K, hK K (Nat.le_refl _)⟩
end Go.Proofs.Ythehmkpcddafnaa.M
end
