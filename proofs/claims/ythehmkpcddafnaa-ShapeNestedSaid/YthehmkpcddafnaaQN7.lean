/- Parts of the proof of YthehmkpcddafnaaLawShapeNested: printed walks, their words, and plain laws. -/
import Derived.Test.YthehmkpcddafnaaQN6
import Derived.Test.YthehmkpcddafnaaQN4
import Derived.Test.YthehmkpcddafnaaQN5
section
namespace Go.Proofs.Ythehmkpcddafnaa.M
open Go.Proofs.Ythehmkpcddafnaa.PG
abbrev El := Pt × Int × Int
abbrev X (e : El) : Int := e.2.1
abbrev Y (e : El) : Int := e.2.2
def s0 (f : El → Int) : List El → Int
 | [] => 0
 | e :: L => f e * e.1.f0 + s0 f L
def s1 (f : El → Int) : List El → Int
 | [] => 0
 | e :: L => f e * e.1.f1 + s1 f L
def Bq (f g : El → Int) : List El → Int
 | [] => 0
 | e :: L => f e * (e.1.f0 * s1 g L - e.1.f1 * s0 g L) + g e * (e.1.f0 * s1 f L - e.1.f1 * s0 f L) + Bq f g L
theorem s0_app (f : El → Int) (L M : List El) : s0 f (L ++ M) = s0 f L + s0 f M := by
 induction L with
 | nil => simp [s0]
 | cons e L ih => simp only [List.cons_append, s0, ih]; omega
theorem s1_app (f : El → Int) (L M : List El) : s1 f (L ++ M) = s1 f L + s1 f M := by
 induction L with
 | nil => simp [s1]
 | cons e L ih => simp only [List.cons_append, s1, ih]; omega
def Clo (f : El → Int) (L : List El) : Prop := s0 f L = 0 ∧ s1 f L = 0
def tri (a b c : Pt) : Prop := (0 < cx a b ∧ 0 < cx b c) ∨ (0 < cx b c ∧ 0 < cx c a) ∨ (0 < cx c a ∧ 0 < cx a b)
theorem tri.rot {a b c : Pt} (h : tri a b c) : tri b c a := by unfold tri at *; omega
def Cyc (L : List El) : Prop := ∀ a b c, List.Sublist [a, b, c] (L.map Prod.fst) → tri a b c
theorem Cyc.rot {L M : List El} (h : Cyc (L ++ M)) : Cyc (M ++ L) := by
 intro a b c t
 rw [List.map_append] at t
 obtain ⟨t1, t2, e, h1, h2⟩ := List.sublist_append_iff.mp t
 have key : List.Sublist (t2 ++ t1) ((L ++ M).map Prod.fst) := by rw [List.map_append]; exact h2.append h1
 match t1, t2, e with
 | [], t2, e => rw [List.nil_append] at e; subst e; exact h _ _ _ (by simpa using key)
 | [x], t2, e => simp only [List.cons_append, List.nil_append, List.cons.injEq] at e; obtain ⟨rfl, rfl⟩ := e; exact (h _ _ _ (by simpa using key)).rot.rot
 | [x, y], t2, e => simp only [List.cons_append, List.nil_append, List.cons.injEq] at e; obtain ⟨rfl, rfl, rfl⟩ := e; exact (h _ _ _ (by simpa using key)).rot
 | [x, y, z], t2, e => simp only [List.cons_append, List.nil_append, List.cons.injEq] at e; obtain ⟨rfl, rfl, rfl, e4⟩ := e; subst e4; exact h _ _ _ (by simpa using key)
 | x :: y :: z :: w :: r, t2, e => simp at e
theorem cross_sum (f : El → Int) (v : Pt) : ∀ L : List El, (∀ e ∈ L, 0 ≤ f e * cx e.1 v) → 0 ≤ s0 f L * v.f1 - s1 f L * v.f0 := by
 intro L
 induction L with
 | nil => intro _; simp [s0, s1]
 | cons e L ih =>
  intro h
  have h1 := h e (by simp)
  have h2 := ih (fun x hx => h x (by simp [hx]))
  have : (f e * e.1.f0 + s0 f L) * v.f1 - (f e * e.1.f1 + s1 f L) * v.f0 = f e * cx e.1 v + (s0 f L * v.f1 - s1 f L * v.f0) := by unfold cx; grind
  simp only [s0, s1]; omega
theorem cross_sum' (f : El → Int) (v : Pt) : ∀ L : List El, (∀ e ∈ L, f e * cx e.1 v ≤ 0) → s0 f L * v.f1 - s1 f L * v.f0 ≤ 0 := by
 intro L
 induction L with
 | nil => intro _; simp [s0, s1]
 | cons e L ih =>
  intro h
  have h1 := h e (by simp)
  have h2 := ih (fun x hx => h x (by simp [hx]))
  have : (f e * e.1.f0 + s0 f L) * v.f1 - (f e * e.1.f1 + s1 f L) * v.f0 = f e * cx e.1 v + (s0 f L * v.f1 - s1 f L * v.f0) := by unfold cx; grind
  simp only [s0, s1]; omega
end Go.Proofs.Ythehmkpcddafnaa.M
end
section
namespace Go.Proofs.Ythehmkpcddafnaa.M
open Go.Proofs.Ythehmkpcddafnaa.PG
def cnI (a b k : Int) : Int := if a < 0 ∧ 0 < b ∧ 0 < k then 1 else if 0 < a ∧ b < 0 ∧ k < 0 then -1 else 0
def cn (p q : Int) (u v : Pt) : Int := cnI (ph p q u) (ph p q v) (cx u v)
theorem mulsg {a b : Int} (ha : 0 < a) : (0 ≤ b → 0 ≤ a * b) ∧ (0 < b → 0 < a * b) ∧ (b ≤ 0 → a * b ≤ 0) ∧ (b < 0 → a * b < 0) :=
 ⟨fun h => Int.mul_nonneg (by omega) h, fun h => Int.mul_pos ha h, fun h => Int.mul_nonpos_of_nonneg_of_nonpos (by omega) h, fun h => Int.mul_neg_of_pos_of_neg ha h⟩
theorem comb {u v w s t m : Int} (hu : 0 < u) (hv : 0 < v) (hw : 0 < w) (h : w * m = u * s + v * t) :
  (0 ≤ s → 0 ≤ t → (0 < s ∨ 0 < t) → 0 < m) ∧ (s ≤ 0 → t ≤ 0 → (s < 0 ∨ t < 0) → m < 0) := by
 have k1 := mulsg (b := s) hu
 have k2 := mulsg (b := t) hv
 have k3 := mulsg (b := m) hw
 refine ⟨fun h1 h2 h3 => ?_, fun h1 h2 h3 => ?_⟩
 ·rcases Int.lt_or_le 0 m with x | x
  ·exact x
  ·have := k3.2.2.1 x
   have a1 := k1.1 h1
   have a2 := k2.1 h2
   rcases h3 with h3 | h3
   ·have := k1.2.1 h3; omega
   ·have := k2.2.1 h3; omega
 ·rcases Int.lt_or_le m 0 with x | x
  ·exact x
  ·have := k3.1 x
   have a1 := k1.2.2.1 h1
   have a2 := k2.2.2.1 h2
   rcases h3 with h3 | h3
   ·have := k1.2.2.2 h3; omega
   ·have := k2.2.2.2 h3; omega
theorem cnI_up {a b k : Int} (h1 : a < 0) (h2 : 0 < b) : cnI a b k = if 0 < k then 1 else 0 := by
 unfold cnI; by_cases h : 0 < k
 ·rw [if_pos ⟨h1, h2, h⟩, if_pos h]
 ·rw [if_neg (by omega), if_neg (by omega), if_neg h]
theorem cnI_dn {a b k : Int} (h1 : 0 < a) (h2 : b < 0) : cnI a b k = if k < 0 then -1 else 0 := by
 unfold cnI; by_cases h : k < 0
 ·rw [if_neg (by omega), if_pos ⟨h1, h2, h⟩, if_pos h]
 ·rw [if_neg (by omega), if_neg (by omega), if_neg h]
theorem cnI_pp {a b k : Int} (h1 : 0 < a) (h2 : 0 < b) : cnI a b k = 0 := by unfold cnI; rw [if_neg (by omega), if_neg (by omega)]
theorem cnI_nn {a b k : Int} (h1 : a < 0) (h2 : b < 0) : cnI a b k = 0 := by unfold cnI; rw [if_neg (by omega), if_neg (by omega)]
set_option maxHeartbeats 4000000 in
theorem quadI {a b c d al be ga de : Int} (ha : a ≠ 0) (hb : b ≠ 0) (hc : c ≠ 0) (hd : d ≠ 0) (hs : a + c = b + d) (hk : al + ga = be + de)
  (t1 : a * be = b * (al + ga) - c * al) (t2 : a * (be - al) = b * ga - d * al) (t3 : -(a * de) = c * ga - d * (al + ga)) (t4 : -(b * de) = c * (be - al) - d * be)
  (zA : (a < 0 ∧ 0 < b ∨ 0 < a ∧ b < 0) → al ≠ 0) (zB : (b < 0 ∧ 0 < c ∨ 0 < b ∧ c < 0) → be ≠ 0) (zG : (a < 0 ∧ 0 < d ∨ 0 < a ∧ d < 0) → ga ≠ 0) (zD : (d < 0 ∧ 0 < c ∨ 0 < d ∧ c < 0) → de ≠ 0)
  (nM : ¬ (((0 < ga ∧ be < 0) ∨ (ga < 0 ∧ 0 < be)) ∧ ((0 < al ∧ de < 0) ∨ (al < 0 ∧ 0 < de)))) :
  cnI a b al + cnI b c be = cnI a d ga + cnI d c de := by
 rcases Int.lt_or_gt_of_ne ha with sa | sa <;> rcases Int.lt_or_gt_of_ne hb with sb | sb <;> rcases Int.lt_or_gt_of_ne hc with sc | sc <;> rcases Int.lt_or_gt_of_ne hd with sd | sd
 ·rw [cnI_nn (by omega) (by omega), cnI_nn (by omega) (by omega), cnI_nn (by omega) (by omega), cnI_nn (by omega) (by omega)]
 ·have k := comb (u := -c) (v := -a) (w := d) (s := -ga) (t := -de) (m := al + ga) (by omega) (by omega) (by omega) (by clear zA zB zG zD nM ha hb hc hd sa sb sc sd; grind)
  rw [cnI_nn (by omega) (by omega), cnI_nn (by omega) (by omega), cnI_up (by omega) (by omega), cnI_dn (by omega) (by omega)]
  repeat' split
  all_goals omega
 ·have k := comb (u := -d) (v := -b) (w := c) (s := -be) (t := de) (m := be - al) (by omega) (by omega) (by omega) (by clear zA zB zG zD nM ha hb hc hd sa sb sc sd; grind)
  rw [cnI_nn (by omega) (by omega), cnI_up (by omega) (by omega), cnI_nn (by omega) (by omega), cnI_up (by omega) (by omega)]
  repeat' split
  all_goals omega
 ·have k := comb (u := -a) (v := -b) (w := c - b) (s := be) (t := -ga) (m := al) (by omega) (by omega) (by omega) (by clear zA zB zG zD nM ha hb hc hd sa sb sc sd; grind)
  have k' := comb (u := c) (v := d) (w := d - a) (s := ga) (t := -be) (m := de) (by omega) (by omega) (by omega) (by clear zA zB zG zD nM ha hb hc hd sa sb sc sd; grind)
  rw [cnI_nn (by omega) (by omega), cnI_up (by omega) (by omega), cnI_up (by omega) (by omega), cnI_pp (by omega) (by omega)]
  repeat' split
  all_goals omega
 ·have k := comb (u := -a) (v := -c) (w := b) (s := -be) (t := -al) (m := al + ga) (by omega) (by omega) (by omega) (by clear zA zB zG zD nM ha hb hc hd sa sb sc sd; grind)
  rw [cnI_up (by omega) (by omega), cnI_dn (by omega) (by omega), cnI_nn (by omega) (by omega), cnI_nn (by omega) (by omega)]
  repeat' split
  all_goals omega
 ·omega
 ·have k := comb (u := b) (v := c) (w := b - a) (s := -de) (t := al) (m := be) (by omega) (by omega) (by omega) (by clear zA zB zG zD nM ha hb hc hd sa sb sc sd; grind)
  have k' := comb (u := -a) (v := -d) (w := c - d) (s := de) (t := -al) (m := ga) (by omega) (by omega) (by omega) (by clear zA zB zG zD nM ha hb hc hd sa sb sc sd; grind)
  rw [cnI_up (by omega) (by omega), cnI_pp (by omega) (by omega), cnI_nn (by omega) (by omega), cnI_up (by omega) (by omega)]
  repeat' split
  all_goals omega
 ·have k := comb (u := b) (v := d) (w := -a) (s := ga) (t := -al) (m := al - be) (by omega) (by omega) (by omega) (by clear zA zB zG zD nM ha hb hc hd sa sb sc sd; grind)
  rw [cnI_up (by omega) (by omega), cnI_pp (by omega) (by omega), cnI_up (by omega) (by omega), cnI_pp (by omega) (by omega)]
  repeat' split
  all_goals omega
 ·have k := comb (u := -b) (v := -d) (w := a) (s := -ga) (t := al) (m := be - al) (by omega) (by omega) (by omega) (by clear zA zB zG zD nM ha hb hc hd sa sb sc sd; grind)
  rw [cnI_dn (by omega) (by omega), cnI_nn (by omega) (by omega), cnI_dn (by omega) (by omega), cnI_nn (by omega) (by omega)]
  repeat' split
  all_goals omega
 ·have k := comb (u := -b) (v := -c) (w := a - b) (s := -de) (t := al) (m := be) (by omega) (by omega) (by omega) (by clear zA zB zG zD nM ha hb hc hd sa sb sc sd; grind)
  have k' := comb (u := a) (v := d) (w := d - c) (s := de) (t := -al) (m := ga) (by omega) (by omega) (by omega) (by clear zA zB zG zD nM ha hb hc hd sa sb sc sd; grind)
  rw [cnI_dn (by omega) (by omega), cnI_nn (by omega) (by omega), cnI_pp (by omega) (by omega), cnI_dn (by omega) (by omega)]
  repeat' split
  all_goals omega
 ·omega
 ·have k := comb (u := a) (v := c) (w := -b) (s := be) (t := al) (m := -(al + ga)) (by omega) (by omega) (by omega) (by clear zA zB zG zD nM ha hb hc hd sa sb sc sd; grind)
  rw [cnI_dn (by omega) (by omega), cnI_up (by omega) (by omega), cnI_pp (by omega) (by omega), cnI_pp (by omega) (by omega)]
  repeat' split
  all_goals omega
 ·have k := comb (u := a) (v := b) (w := b - c) (s := be) (t := -ga) (m := al) (by omega) (by omega) (by omega) (by clear zA zB zG zD nM ha hb hc hd sa sb sc sd; grind)
  have k' := comb (u := -c) (v := -d) (w := a - d) (s := ga) (t := -be) (m := de) (by omega) (by omega) (by omega) (by clear zA zB zG zD nM ha hb hc hd sa sb sc sd; grind)
  rw [cnI_pp (by omega) (by omega), cnI_dn (by omega) (by omega), cnI_dn (by omega) (by omega), cnI_nn (by omega) (by omega)]
  repeat' split
  all_goals omega
 ·have k := comb (u := d) (v := b) (w := -c) (s := be) (t := -de) (m := al - be) (by omega) (by omega) (by omega) (by clear zA zB zG zD nM ha hb hc hd sa sb sc sd; grind)
  rw [cnI_pp (by omega) (by omega), cnI_dn (by omega) (by omega), cnI_pp (by omega) (by omega), cnI_dn (by omega) (by omega)]
  repeat' split
  all_goals omega
 ·have k := comb (u := c) (v := a) (w := -d) (s := ga) (t := de) (m := -(al + ga)) (by omega) (by omega) (by omega) (by clear zA zB zG zD nM ha hb hc hd sa sb sc sd; grind)
  rw [cnI_pp (by omega) (by omega), cnI_pp (by omega) (by omega), cnI_dn (by omega) (by omega), cnI_up (by omega) (by omega)]
  repeat' split
  all_goals omega
 ·rw [cnI_pp (by omega) (by omega), cnI_pp (by omega) (by omega), cnI_pp (by omega) (by omega), cnI_pp (by omega) (by omega)]
theorem on_height {p q : Int} {a b c : Pt} (h : cr a b c = 0) (hs : (ph p q (vec a c) < 0 ∧ 0 < ph p q (vec b c)) ∨ (0 < ph p q (vec a c) ∧ ph p q (vec b c) < 0)) : On a b c := by
 refine ⟨h, ?_⟩
 have e1 : ∀ u v, fn p q u v = ph p q (vec u v) := fun u v => rfl
 have e2 := fn_add p q a b c
 have e3 := fn_neg p q b c
 rw [e1, e1, e1] at e2
 rcases hs with ⟨h1, h2⟩ | ⟨h1, h2⟩
 ·have n : ∀ u v, fn (-p) (-q) u v = - ph p q (vec u v) := by intro u v; unfold fn ph vec; dsimp only; grind
  exact btw_of_fn (p := -p) (q := -q) (by rw [n]; omega) (by rw [n]; omega) (by rw [n, n]; omega) h
 ·exact btw_of_fn (p := p) (q := q) (by rw [e1]; omega) (by rw [e1]; omega) (by rw [e1, e1]; omega) h
theorem quad {p q : Int} {a b c d : Pt} (hA : ph p q (vec a c) ≠ 0) (hB : ph p q (vec a d) ≠ 0) (hC : ph p q (vec b d) ≠ 0) (hD : ph p q (vec b c) ≠ 0) (hM : ¬ Meet a b c d) :
  cn p q (vec a c) (vec a d) + cn p q (vec a d) (vec b d) = cn p q (vec a c) (vec b c) + cn p q (vec b c) (vec b d) := by
 have x1 : cx (vec a c) (vec a d) = cr c d a := by unfold cx vec cr; dsimp only; grind
 have x2 : cx (vec a d) (vec b d) = cr a b d := by unfold cx vec cr; dsimp only; grind
 have x3 : cx (vec a c) (vec b c) = cr a b c := by unfold cx vec cr; dsimp only; grind
 have x4 : cx (vec b c) (vec b d) = cr c d b := by unfold cx vec cr; dsimp only; grind
 unfold cn
 rw [x1, x2, x3, x4]
 unfold Meet at hM
 refine quadI hA hB hC hD ?_ ?_ ?_ ?_ ?_ ?_ (fun h e => ?_) (fun h e => ?_) (fun h e => ?_) (fun h e => ?_) (fun h => hM (Or.inr (Or.inr (Or.inr (Or.inr h)))))
 ·unfold ph vec; dsimp only; grind
 ·unfold cr; grind
 ·unfold cr ph vec; dsimp only; grind
 ·unfold cr ph vec; dsimp only; grind
 ·unfold cr ph vec; dsimp only; grind
 ·unfold cr ph vec; dsimp only; grind
 ·refine hM (Or.inr (Or.inr (Or.inl (on_height (p := -p) (q := -q) e ?_))))
  have n : ∀ u v, ph (-p) (-q) (vec u v) = ph p q (vec v u) := by intro u v; unfold ph vec; dsimp only; grind
  rw [n, n]; omega
 ·exact hM (Or.inr (Or.inl (on_height (p := p) (q := q) e (by omega))))
 ·exact hM (Or.inl (on_height (p := p) (q := q) e (by omega)))
 ·refine hM (Or.inr (Or.inr (Or.inr (Or.inl (on_height (p := -p) (q := -q) e ?_)))))
  have n : ∀ u v, ph (-p) (-q) (vec u v) = ph p q (vec v u) := by intro u v; unfold ph vec; dsimp only; grind
  rw [n, n]; omega
theorem cn_sum {p q : Int} {u v w : Pt} (h0 : w.f0 = u.f0 + v.f0) (h1 : w.f1 = u.f1 + v.f1) (_hu : ph p q u ≠ 0) (_hv : ph p q v ≠ 0) (hw : ph p q w ≠ 0) : cn p q u w + cn p q w v = cn p q u v := by
 have e : ph p q w = ph p q u + ph p q v := by unfold ph; rw [h0, h1]; grind
 have c1 : cx u w = cx u v := by unfold cx; rw [h0, h1]; grind
 have c2 : cx w v = cx u v := by unfold cx; rw [h0, h1]; grind
 unfold cn
 rw [c1, c2]
 unfold cnI; repeat' split
 all_goals omega
end Go.Proofs.Ythehmkpcddafnaa.M
end
section
namespace Go.Proofs.Ythehmkpcddafnaa.M
open Go.Proofs.Ythehmkpcddafnaa.PG
end Go.Proofs.Ythehmkpcddafnaa.M
end
section
namespace Go.Proofs.Ythehmkpcddafnaa.M
open Go.Proofs.Ythehmkpcddafnaa.PG
end Go.Proofs.Ythehmkpcddafnaa.M
end
section
namespace Go.Proofs.Ythehmkpcddafnaa.M
open Go.Proofs.Ythehmkpcddafnaa.PG
theorem Bf.tri {p q : Int} {u v w : Pt} (h1 : Bf p q u v) (h2 : Bf p q v w) : tri u v w := by
 have id := id3 p q u v w
 have id2 := id3 p q w u v
 have sw := cx_swap u w
 have sw2 := cx_swap v w
 unfold M.tri
 rcases h1 with ⟨a, b⟩ | ⟨a, b, c⟩ | ⟨a, b, c⟩ <;> rcases h2 with ⟨d, e⟩ | ⟨d, e, f⟩ | ⟨d, e, f⟩
 ·omega
 ·omega
 ·-- up, down, down
  rcases Int.lt_or_le 0 (cx u v) with k | k
  ·exact Or.inl ⟨k, f⟩
  ·refine Or.inr (Or.inl ⟨f, ?_⟩)
   have m1 : 0 < ph p q u * cx v w := Int.mul_pos a f
   have m2 : 0 ≤ ph p q w * cx u v := Int.mul_nonneg_of_nonpos_of_nonpos (by omega) k
   rcases Int.lt_or_le (cx u w) 0 with k2 | k2
   ·omega
   ·have := Int.mul_nonpos_of_nonpos_of_nonneg (show ph p q v ≤ 0 by omega) k2; omega
 ·-- up, up, down
  rcases Int.lt_or_le 0 (cx v w) with k | k
  ·exact Or.inl ⟨c, k⟩
  ·refine Or.inr (Or.inr ⟨?_, c⟩)
   have m1 : ph p q u * cx v w ≤ 0 := Int.mul_nonpos_of_nonneg_of_nonpos (by omega) k
   have m2 : ph p q w * cx u v < 0 := Int.mul_neg_of_neg_of_pos e c
   rcases Int.lt_or_le (cx u w) 0 with k2 | k2
   ·omega
   ·have := Int.mul_nonneg (show 0 ≤ ph p q v by omega) k2; omega
 ·exact Or.inl ⟨c, f⟩
 ·omega
 ·omega
 ·omega
 ·exact Or.inl ⟨c, f⟩
theorem cyc_of_bf {p q : Int} {L : List El} (h : L.Pairwise (fun e e' => Bf p q e.1 e'.1)) : Cyc L := by
 intro a b c hs
 have h1 : (L.map Prod.fst).Pairwise (Bf p q) := List.pairwise_map.mpr h
 have h2 := h1.sublist hs
 simp only [List.pairwise_cons, List.mem_cons, List.not_mem_nil, or_false, forall_eq_or_imp, forall_eq] at h2
 exact h2.1.1.tri h2.2.1
def arA (l : List Pt) : Nat → Nat → Int
 | 0, _ => 0
 | d + 1, i => cx (P l i) (P l (i + 1)) + arA l d (i + 1)
def par : List Pt → Int
 | a :: b :: r => cx a b + par (b :: r)
 | _ => 0
section
variable {p q : Int} {a b S : List Pt}
def Z (e : El) : Int := X e + Y e
structure Way (p q : Int) (a b : List Pt) (d i j : Nat) (U : List El) : Prop where
 ord : U.Pairwise (fun e e' => Bf p q e.1 e'.1)
 bef : ∀ e ∈ U, (0 < i → Bf p q (ed a (i - 1)) e.1) ∧ (0 < j → Bf p q (ed b (j - 1)) e.1)
 pos : ∀ e ∈ U, 0 ≤ X e ∧ 0 ≤ Y e
 sx0 : s0 X U = (P a a.length).f0 - (P a i).f0
 sx1 : s1 X U = (P a a.length).f1 - (P a i).f1
 sy0 : s0 Y U = (P b b.length).f0 - (P b j).f0
 sy1 : s1 Y U = (P b b.length).f1 - (P b j).f1
 az : 2 * par (V a b i j :: path a b d i j) = 2 * ((V a b i j).f0 * s1 Z U - (V a b i j).f1 * s0 Z U) + Bq Z Z U
 ax : 2 * arA a (a.length - i) i = 2 * ((P a i).f0 * s1 X U - (P a i).f1 * s0 X U) + Bq X X U
 ay : 2 * arA b (b.length - j) j = 2 * ((P b j).f0 * s1 Y U - (P b j).f1 * s0 Y U) + Bq Y Y U
end
end Go.Proofs.Ythehmkpcddafnaa.M
end
section
namespace Go.Proofs.Ythehmkpcddafnaa.M
open Go.Proofs.Ythehmkpcddafnaa.PG
section
variable (p q : Int) (l : List Pt)
def F (i j : Nat) : Pt := vec (P l i) (P l j)
def Hs (i j : Nat) : Int := cn p q (F l i j) (F l i (j + 1))
def Ws (i j : Nat) : Int := cn p q (F l i j) (F l (i + 1) j)
def sH (i : Nat) : Nat → Nat → Int
 | _, 0 => 0
 | j, m + 1 => Hs p q l i j + sH i (j + 1) m
def sW (n : Nat) : Nat → Nat → Int
 | _, 0 => 0
 | i, m + 1 => Ws p q l i n + sW n (i + 1) m
def sS : Nat → Nat → Int
 | _, 0 => 0
 | i, m + 1 => cn p q (ed l i) (ed l (i + 1)) + sS (i + 1) m
end
section
variable {p q : Int} {l : List Pt}
theorem sH_end (i : Nat) : ∀ m j, sH p q l i j (m + 1) = sH p q l i j m + Hs p q l i (j + m) := by
 intro m
 induction m with
 | zero => intro j; simp [sH]
 | succ m ih => intro j; rw [sH, ih (j + 1), sH, show j + 1 + m = j + (m + 1) by omega]; omega
structure Free (p q : Int) (l : List Pt) : Prop where
 three : 3 ≤ l.length
 lev : ∀ i j, i < j → j ≤ l.length → ¬ (i = 0 ∧ j = l.length) → ph p q (F l i j) ≠ 0
 apart : ∀ i j, i + 2 ≤ j → j < l.length → ¬ (i = 0 ∧ j + 1 = l.length) → ¬ Meet (P l i) (P l (i + 1)) (P l j) (P l (j + 1))
theorem square (h : Free p q l) (i j : Nat) (h1 : i + 2 ≤ j) (h2 : j < l.length) (h3 : ¬ (i = 0 ∧ j + 1 = l.length)) : Hs p q l i j + Ws p q l i (j + 1) = Ws p q l i j + Hs p q l (i + 1) j :=
 quad (h.lev i j (by omega) (by omega) (by omega)) (h.lev i (j + 1) (by omega) (by omega) h3) (h.lev (i + 1) (j + 1) (by omega) (by omega) (by omega)) (h.lev (i + 1) j (by omega) (by omega) (by omega)) (h.apart i j h1 h2 h3)
theorem tele (h : Free p q l) (i : Nat) : ∀ m j, i + 2 ≤ j → j + m ≤ l.length → (i = 0 → j + m < l.length) → Ws p q l i j + sH p q l (i + 1) j m = sH p q l i j m + Ws p q l i (j + m) := by
 intro m
 induction m with
 | zero => intro j _ _ _; simp [sH]
 | succ m ih =>
  intro j h1 h2 h3
  have s := square h i j h1 (by omega) (by omega)
  have k := ih (j + 1) (by omega) (by omega) (by omega)
  rw [sH, sH, show j + (m + 1) = j + 1 + m by omega]; omega
theorem two_steps (h : Free p q l) (i : Nat) (hi : i + 2 ≤ l.length) (_h3 : 4 ≤ l.length ∨ ¬ (i = 0 ∧ i + 2 = l.length)) : cn p q (ed l i) (ed l (i + 1)) = Hs p q l i (i + 1) + Ws p q l i (i + 2) := by
 have := h.three
 refine (cn_sum (u := ed l i) (v := ed l (i + 1)) (w := F l i (i + 2)) ?_ ?_ (h.lev i (i + 1) (by omega) (by omega) (by omega)) (h.lev (i + 1) (i + 2) (by omega) (by omega) (by omega)) (h.lev i (i + 2) (by omega) (by omega) (by omega))).symm
 ·rw [show i + 2 = i + 1 + 1 from rfl]; unfold F ed vec; dsimp only; omega
 ·rw [show i + 2 = i + 1 + 1 from rfl]; unfold F ed vec; dsimp only; omega
theorem stair (h : Free p q l) : ∀ m i, 1 ≤ i → i + m + 1 = l.length → sS p q l i m = sH p q l i (i + 1) m + sW p q l l.length i m := by
 intro m
 induction m with
 | zero => intro i _ _; simp [sS, sH, sW]
 | succ m ih =>
  intro i h1 h2
  have k := ih (i + 1) (by omega) (by omega)
  have t := tele h i m (i + 2) (by omega) (by omega) (by omega)
  have w := two_steps h i (by omega) (by omega)
  rw [show i + 2 + m = l.length by omega] at t
  rw [sS, sH, sW, k, w, show i + 1 + 1 = i + 2 by omega]; omega
theorem sH_zero (i : Nat) : ∀ m j, (∀ t, j ≤ t → t < j + m → Hs p q l i t = 0) → sH p q l i j m = 0 := by
 intro m
 induction m with
 | zero => intro j _; rfl
 | succ m ih => intro j h; rw [sH, h j (by omega) (by omega), ih (j + 1) (fun t h1 h2 => h t (by omega) (by omega))]; rfl
theorem sW_zero (n : Nat) : ∀ m i, (∀ t, i ≤ t → t < i + m → Ws p q l t n = 0) → sW p q l n i m = 0 := by
 intro m
 induction m with
 | zero => intro j _; rfl
 | succ m ih => intro j h; rw [sW, h j (by omega) (by omega), ih (j + 1) (fun t h1 h2 => h t (by omega) (by omega))]; rfl
theorem sS_zero : ∀ m i, (∀ t, i ≤ t → t < i + m → 0 ≤ cn p q (ed l t) (ed l (t + 1))) → sS p q l i m = 0 → ∀ t, i ≤ t → t < i + m → cn p q (ed l t) (ed l (t + 1)) = 0 := by
 have nn : ∀ m i, (∀ t, i ≤ t → t < i + m → 0 ≤ cn p q (ed l t) (ed l (t + 1))) → 0 ≤ sS p q l i m := by
  intro m
  induction m with
  | zero => intro i _; exact Int.le_refl 0
  | succ m ih =>
   intro i h
   have a := h i (by omega) (by omega)
   have b := ih (i + 1) (fun t h1 h2 => h t (by omega) (by omega))
   rw [sS]; omega
 intro m
 induction m with
 | zero => intro i _ _ t h1 h2; omega
 | succ m ih =>
  intro i h hz t h1 h2
  have a := h i (by omega) (by omega)
  have b := nn m (i + 1) (fun t h1 h2 => h t (by omega) (by omega))
  rw [sS] at hz
  by_cases e : t = i
  ·subst e; omega
  ·exact ih (i + 1) (fun t h1 h2 => h t (by omega) (by omega)) (by omega) t (by omega) (by omega)
theorem turn_sorted (h : Free p q l) (low : ∀ j, 0 < j → j < l.length → 0 < ph p q (F l 0 j)) (left : ∀ i, 0 < cx (ed l i) (ed l (i + 1))) (i : Nat) (hi : i + 1 < l.length) : Bf p q (ed l i) (ed l (i + 1)) := by
 have h3 := h.three
 obtain ⟨n, hn⟩ : ∃ n, l.length = n + 3 := ⟨l.length - 3, by omega⟩
 have pn : ∀ j, F l j l.length = vec (P l j) (P l 0) := fun j => by unfold F; rw [P_len]
 have z1 : sS p q l 0 (n + 2) = 0 := by
  have s1 := stair h (n + 1) 1 (by omega) (by omega)
  have w := two_steps h 0 (by omega) (by omega)
  have t := tele h 0 n 2 (by omega) (by omega) (by omega)
  have e := sH_end (p := p) (q := q) (l := l) 1 n 2
  have a1 : sH p q l 0 2 n = 0 := sH_zero 0 n 2 (fun t h1 h2 => by
   have x := low t (by omega) (by omega)
   have y := low (t + 1) (by omega) (by omega)
   unfold Hs cn; exact cnI_pp x y)
  have a2 : Hs p q l 0 1 = 0 := by
   have x := low 1 (by omega) (by omega)
   have y := low 2 (by omega) (by omega)
   unfold Hs cn; exact cnI_pp x y
  have a3 : sW p q l l.length 1 (n + 1) = 0 := sW_zero _ (n + 1) 1 (fun t h1 h2 => by
   have x := low t (by omega) (by omega)
   have y := low (t + 1) (by omega) (by omega)
   unfold Ws cn
   refine cnI_nn ?_ ?_
   ·rw [pn]; unfold F ph vec at *; dsimp only at *; grind
   ·rw [pn]; unfold F ph vec at *; dsimp only at *; grind)
  have a4 : Ws p q l 0 (2 + n) + Hs p q l 1 (2 + n) = 0 := by
   have x := low (2 + n) (by omega) (by omega)
   have y := low 1 (by omega) (by omega)
   have c := left (n + 2)
   have e2 : 2 + n + 1 = l.length := by omega
   have g : cn p q (F l 0 (2 + n)) (F l 1 (2 + n)) + cn p q (F l 1 (2 + n)) (F l 1 (2 + n + 1)) = cn p q (F l 0 (2 + n)) (F l 1 (2 + n + 1)) := by
    refine cn_sum ?_ ?_ (by omega) (h.lev 1 _ (by omega) (by omega) (by omega)) (h.lev 1 _ (by omega) (by omega) (by omega))
    ·rw [e2, pn]; unfold F vec; dsimp only; omega
    ·rw [e2, pn]; unfold F vec; dsimp only; omega
   unfold Ws Hs
   rw [g, e2, pn]
   unfold cn
   rw [cnI_dn x (by unfold F at y; unfold ph vec at y ⊢; dsimp only at y ⊢; grind)]
   have c1 : cx (ed l (n + 2)) (ed l (n + 2 + 1)) = cx (F l 0 (2 + n)) (vec (P l 1) (P l 0)) := by
    have e3 : n + 2 + 1 = 0 + l.length := by omega
    have e4 : P l (n + 2 + 1) = P l 0 := by rw [e3, P_add]
    have e5 : ed l (n + 2 + 1) = ed l 0 := by rw [e3, ed_add]
    rw [e5]; unfold ed; rw [e4, show n + 2 = 2 + n by omega]; unfold F cx vec; dsimp only; grind
   rw [c1] at c
   rw [if_neg (by omega)]
  rw [sS, s1, w, e, a3]
  show Hs p q l 0 1 + Ws p q l 0 2 + (sH p q l 1 2 n + Hs p q l 1 (2 + n) + 0) = 0
  rw [show (0 + 1 : Nat) = 1 from rfl] at t
  omega
 have z2 := sS_zero (n + 2) 0 (fun t _ _ => by
  have c := left t
  unfold cn cnI
  rw [if_neg (c := 0 < ph p q (ed l t) ∧ _) (by omega)]
  split <;> omega) z1 i (by omega) (by omega)
 have c := left i
 have n1 := h.lev i (i + 1) (by omega) (by omega) (by omega)
 have n2 := h.lev (i + 1) (i + 1 + 1) (by omega) (by omega) (by omega)
 unfold cn cnI at z2
 unfold Bf
 have e1 : F l i (i + 1) = ed l i := rfl
 have e2 : F l (i + 1) (i + 1 + 1) = ed l (i + 1) := rfl
 rw [e1] at n1
 rw [e2] at n2
 by_cases u : ph p q (ed l i) < 0 ∧ 0 < ph p q (ed l (i + 1))
 ·rw [if_pos ⟨u.1, u.2, c⟩] at z2; omega
 ·omega
def seg (l : List Pt) (s m : Nat) : List El := (List.range' s m).map fun t => (ed l t, 1, 1)
theorem seg_app (l : List Pt) (s m n : Nat) : seg l s m ++ seg l (s + m) n = seg l s (m + n) := by unfold seg; rw [← List.map_append, List.range'_append_1]
theorem seg_per (l : List Pt) (k : Nat) : seg l l.length k = seg l 0 k := by
 unfold seg
 refine List.ext_getElem (by simp) (fun i h1 h2 => ?_)
 simp only [List.getElem_map, List.getElem_range', Nat.one_mul, Nat.zero_add]
 rw [Nat.add_comm, ed_add]
theorem seg_s (l : List Pt) : ∀ m s, s0 X (seg l s m) = (P l (s + m)).f0 - (P l s).f0 ∧ s1 X (seg l s m) = (P l (s + m)).f1 - (P l s).f1 := by
 intro m
 induction m with
 | zero => intro s; simp [seg, s0, s1]
 | succ m ih =>
  intro s
  obtain ⟨a, b⟩ := ih (s + 1)
  have e : seg l s (m + 1) = (ed l s, 1, 1) :: seg l (s + 1) m := by unfold seg; rw [List.range'_succ]; rfl
  rw [e, show s + (m + 1) = s + 1 + m by omega]
  simp only [s0, s1, a, b, X, Int.one_mul]
  unfold ed vec; dsimp only; omega
theorem support_strict {P R : List El} {e : El} (hg : ∀ x ∈ P ++ e :: R, 0 < X x) (hc : Clo X (P ++ e :: R)) (hC : Cyc (P ++ e :: R)) (hP : P ≠ []) (hR : R ≠ []) : 0 < s0 X P * e.1.f1 - s1 X P * e.1.f0 := by
 have hC2 : Cyc (e :: R ++ P) := hC.rot
 have strictsum : ∀ L : List El, L ≠ [] → (∀ x ∈ L, 0 < X x) → (∀ x ∈ L, 0 < cx x.1 e.1) → 0 < s0 X L * e.1.f1 - s1 X L * e.1.f0 := by
  intro L
  cases L with
  | nil => intro h; exact absurd rfl h
  | cons a L =>
   intro _ h1 h2
   have k := cross_sum X e.1 L (fun x hx => Int.mul_nonneg (by have := h1 x (by simp [hx]); omega) (by have := h2 x (by simp [hx]); omega))
   have k2 := Int.mul_pos (h1 a (by simp)) (h2 a (by simp))
   have e1 : s0 X (a :: L) * e.1.f1 - s1 X (a :: L) * e.1.f0 = X a * cx a.1 e.1 + (s0 X L * e.1.f1 - s1 X L * e.1.f0) := by unfold cx; simp only [s0, s1]; grind
   omega
 have tr : ∀ x ∈ R, ∀ y ∈ P, tri e.1 x.1 y.1 := fun x hx y hy => hC2 _ _ _ (by
  rw [List.cons_append, List.map_cons, List.map_append]
  exact List.Sublist.cons_cons _ (List.Sublist.append (l₁ := [x.1]) (r₁ := [y.1]) (List.singleton_sublist.mpr (List.mem_map_of_mem hx)) (List.singleton_sublist.mpr (List.mem_map_of_mem hy))))
 by_cases hp : ∃ x ∈ R, 0 ≤ cx x.1 e.1
 ·obtain ⟨x, hx, h0⟩ := hp
  refine strictsum P hP (fun y hy => hg y (by simp [hy])) (fun y hy => ?_)
  have t := tr x hx y hy
  have sw := cx_swap e.1 x.1
  unfold tri at t; omega
 ·have hn : ∀ x ∈ R, cx x.1 e.1 < 0 := fun x hx => by
   rcases Int.lt_or_le (cx x.1 e.1) 0 with h | h
   ·exact h
   ·exact absurd ⟨x, hx, h⟩ hp
  have k : s0 X R * e.1.f1 - s1 X R * e.1.f0 < 0 := by
   match R, hR, hn, hg with
   | a :: R', _, hn, hg =>
    have k := cross_sum' X e.1 R' (fun x hx => Int.mul_nonpos_of_nonneg_of_nonpos (by have := hg x (by simp [hx]); omega) (by have := hn x (by simp [hx]); omega))
    have k2 := Int.mul_neg_of_pos_of_neg (hg a (by simp)) (hn a (by simp))
    have e1 : s0 X (a :: R') * e.1.f1 - s1 X (a :: R') * e.1.f0 = X a * cx a.1 e.1 + (s0 X R' * e.1.f1 - s1 X R' * e.1.f0) := by unfold cx; simp only [s0, s1]; grind
    omega
  unfold Clo at hc
  rw [s0_app, s1_app] at hc
  simp only [s0, s1] at hc
  have e0 : s0 X P = - (X e * e.1.f0 + s0 X R) := by omega
  have e1 : s1 X P = - (X e * e.1.f1 + s1 X R) := by omega
  have : s0 X P * e.1.f1 - s1 X P * e.1.f0 = - (s0 X R * e.1.f1 - s1 X R * e.1.f0) := by rw [e0, e1]; grind
  omega
theorem sorted_strong (h3 : 3 ≤ l.length) (hs : ∀ i, i + 1 < l.length → Bf p q (ed l i) (ed l (i + 1))) : Strong l := by
 have far : ∀ d i, i + d + 1 < l.length → Bf p q (ed l i) (ed l (i + d + 1)) := by
  intro d
  induction d with
  | zero => intro i hi; exact hs i hi
  | succ d ih => intro i hi; exact (ih i (by omega)).trans (by have := hs (i + d + 1) (by omega); rwa [show i + d + 1 + 1 = i + (d + 1) + 1 by omega] at this)
 have cyc0 : Cyc (seg l 0 l.length) := by
  refine cyc_of_bf (p := p) (q := q) ?_
  unfold seg
  rw [List.pairwise_map, ← List.range_eq_range']
  refine List.Pairwise.imp_of_mem (fun {a b} ha hb hab => ?_) List.pairwise_lt_range
  rw [List.mem_range] at ha hb
  have := far (b - a - 1) a (by omega)
  rwa [show a + (b - a - 1) + 1 = b by omega] at this
 have cycK : ∀ k, k ≤ l.length → Cyc (seg l k l.length) := by
  intro k hk
  have e1 : seg l 0 k ++ seg l k (l.length - k) = seg l 0 l.length := by
   have := seg_app l 0 k (l.length - k); rw [Nat.zero_add] at this; rw [this, show k + (l.length - k) = l.length by omega]
  have e2 : seg l k (l.length - k) ++ seg l 0 k = seg l k l.length := by
   rw [← seg_per]
   have := seg_app l k (l.length - k) k
   rw [show k + (l.length - k) = l.length by omega, show l.length - k + k = l.length by omega] at this; exact this
  rw [← e1] at cyc0
  rw [← e2]; exact cyc0.rot
 have main : ∀ k m, k < l.length → 0 < m → m + 1 < l.length → 0 < cx (ed l (k + m)) (vec (P l (k + m)) (P l k)) := by
  intro k m hk h0 hm
  have e : seg l k m ++ (ed l (k + m), 1, 1) :: seg l (k + m + 1) (l.length - m - 1) = seg l k l.length := by
   have e1 : (ed l (k + m), (1 : Int), (1 : Int)) :: seg l (k + m + 1) (l.length - m - 1) = seg l (k + m) (l.length - m - 1 + 1) := by unfold seg; rw [List.range'_succ]; rfl
   rw [e1, seg_app, show m + (l.length - m - 1 + 1) = l.length by omega]
  have cy := cycK k (by omega)
  have cl : Clo X (seg l k l.length) := by
   obtain ⟨a, b⟩ := seg_s l l.length k
   rw [P_add] at a b
   exact ⟨by omega, by omega⟩
  rw [← e] at cy cl
  have s := support_strict (fun x hx => by
   rw [e] at hx; unfold seg at hx
   obtain ⟨t, _, rfl⟩ := List.mem_map.mp hx
   exact Int.one_pos) cl cy (by
    intro hh; have := congrArg List.length hh; unfold seg at this; simp at this; omega) (by
    intro hh; have := congrArg List.length hh; unfold seg at this; simp at this; omega)
  obtain ⟨a, b⟩ := seg_s l m k
  rw [a, b] at s
  have : cx (ed l (k + m)) (vec (P l (k + m)) (P l k)) = ((P l (k + m)).f0 - (P l k).f0) * (ed l (k + m)).f1 - ((P l (k + m)).f1 - (P l k).f1) * (ed l (k + m)).f0 := by unfold cx vec; dsimp only; grind
  rw [this]; exact s
 have strict : ∀ i k, i < l.length → k < l.length → k ≠ i → k ≠ (i + 1) % l.length → 0 < cr (at_ l i) (at_ l ((i + 1) % l.length)) (at_ l k) := by
  intro i k hi hk h1 h2
  have eP : at_ l ((i + 1) % l.length) = P l (i + 1) := rfl
  rw [eP, ← P_lt hi, ← P_lt hk, cr_cx]
  show 0 < cx (ed l i) _
  by_cases hlt : k < i
  ·have g := main k (i - k) hk (by omega) (by
    by_cases e : i + 1 < l.length
    ·omega
    ·have e2 : (i + 1) % l.length = 0 := by rw [show i + 1 = l.length by omega, Nat.mod_self]
     omega)
   rw [show k + (i - k) = i by omega] at g; exact g
  ·have e1 : i + 1 < l.length := by omega
   rw [Nat.mod_eq_of_lt e1] at h2
   have g := main k (i + l.length - k) hk (by omega) (by omega)
   rw [show k + (i + l.length - k) = i + l.length by omega, ed_add, P_add] at g; exact g
 have ne1 : ∀ i, i < l.length → at_ l i ≠ at_ l ((i + 1) % l.length) := by
  intro i hi e
  have hz : ed l i = ⟨0, 0⟩ := by
   have eP : P l (i + 1) = at_ l ((i + 1) % l.length) := rfl
   unfold ed vec; rw [P_lt hi, eP, ← e]; simp
  have g : cx (ed l i) (vec (P l i) (P l ((i + 2) % l.length))) = 0 := by rw [hz]; unfold cx; simp
  have hm := mod_two h3 hi
  have s := strict i ((i + 2) % l.length) hi (Nat.mod_lt _ (by omega)) hm.1 hm.2.1
  have eP : at_ l ((i + 1) % l.length) = P l (i + 1) := rfl
  rw [eP, ← P_lt hi, ← P_lt (Nat.mod_lt (i + 2) (show 0 < l.length by omega)), cr_cx] at s
  have : cx (vec (P l i) (P l (i + 1))) (vec (P l i) (P l ((i + 2) % l.length))) = 0 := g
  omega
 refine ⟨ne1, fun i j hi hj e => ?_, fun i k hi hk => ?_⟩
 ·apply Classical.byContradiction
  intro hne
  by_cases h2 : j = (i + 1) % l.length
  ·exact ne1 i hi (by rw [← h2]; exact e)
  ·have := strict i j hi hj (fun h => hne h.symm) h2
   rw [← e, cr_self1] at this; omega
 ·by_cases h1 : k = i
  ·subst h1; rw [cr_self1]; exact ⟨Int.le_refl 0, fun _ => Or.inl rfl⟩
  ·by_cases h2 : k = (i + 1) % l.length
   ·rw [← h2, cr_self2]; exact ⟨Int.le_refl 0, fun _ => Or.inr rfl⟩
   ·have := strict i k hi hk h1 h2
    exact ⟨by omega, fun e => by omega⟩
end
end Go.Proofs.Ythehmkpcddafnaa.M
end
section
namespace Go.Proofs.Ythehmkpcddafnaa.M
open Go.RowKit Go.Proofs.Ythehmkpcddafnaa.PG Go.Proofs.YthehmkpcddafnaaW.PrintMore Go.Proofs.YthehmkpcddafnaaW.PrintWords
theorem pairs_of {R : Pt → Pt → Prop} : ∀ (l : List Pt), (∀ i, i + 1 < l.length → R (at_ l i) (at_ l (i + 1))) → Pairs R l := by
 intro l
 induction l with
 | nil => intro _; trivial
 | cons a r ih =>
  intro h
  cases r with
  | nil => trivial
  | cons b r =>
   refine ⟨h 0 (by simp), ih (fun i hi => ?_)⟩
   exact h (i + 1) (by simp only [List.length_cons] at *; omega)
theorem strong_ring {l : List Pt} (h3 : 3 ≤ l.length) (h : Strong l) : Ring l l := by
 match l, h3, h with
 | a :: t, h3, h =>
  have hn : ∀ i, i < (a :: t).length → HE (a :: t) (at_ (a :: t) i) (at_ (a :: t) ((i + 1) % (a :: t).length)) := by
   intro i hi
   refine ⟨h.1 i hi, at_mem hi, at_mem (Nat.mod_lt _ (by omega)), fun p hp => ?_⟩
   obtain ⟨k, hk, e⟩ := List.mem_iff_getElem.mp hp
   rw [← at_eq hk] at e
   subst e
   obtain ⟨s1, s2⟩ := h.2.2 i k hi hk
   refine ⟨s1, fun h0 => ?_⟩
   rcases s2 h0 with e | e
   ·rw [e]; exact btw_start _ _
   ·rw [e]; exact btw_end _ _
  refine ⟨a, t, rfl, fun hm => ?_, pairs_of _ (fun i hi => ?_)⟩
  ·obtain ⟨k, hk, e⟩ := List.mem_iff_getElem.mp hm
   have := h.2.1 0 (k + 1) (by omega) (by simp only [List.length_cons]; omega) (by
    have e1 : at_ (a :: t) 0 = a := rfl
    have e2 : at_ (a :: t) (k + 1) = at_ t k := rfl
    rw [e1, e2, at_eq hk, e])
   omega
  ·have hl : (a :: (t ++ [a])).length = (a :: t).length + 1 := by simp
   have hi' : i < (a :: t).length := by omega
   have e1 : at_ (a :: (t ++ [a])) i = at_ (a :: t) i := by
    show at_ ((a :: t) ++ [a]) i = _
    unfold at_; rw [List.getD_eq_getElem?_getD, List.getElem?_append_left hi', ← List.getD_eq_getElem?_getD]
   have e2 : at_ (a :: (t ++ [a])) (i + 1) = at_ (a :: t) ((i + 1) % (a :: t).length) := by
    show at_ ((a :: t) ++ [a]) (i + 1) = _
    by_cases hl2 : i + 1 < (a :: t).length
    ·rw [Nat.mod_eq_of_lt hl2]; unfold at_; rw [List.getD_eq_getElem?_getD, List.getElem?_append_left hl2, ← List.getD_eq_getElem?_getD]
    ·have : i + 1 = (a :: t).length := by omega
     rw [this, Nat.mod_self]; exact snoc_last (a :: t) a
   rw [e1, e2]; exact hn i hi'
theorem convex_nf {l : List Pt} (hp : Poly l) (hc : Convex l) : Nf 10000 l := by
 obtain ⟨h3, h32, hin⟩ := hp
 obtain ⟨hs, ht⟩ := hc
 have hin' : ∀ i, i < l.length → In 10000 (at_ l i) := fun i hi => hin _ (at_mem hi)
 have eP : ∀ i, P l (i + 1) = at_ l ((i + 1) % l.length) := fun i => rfl
 have dist : ∀ i j, i < j → j < l.length → at_ l i ≠ at_ l j := by
  intro i j hij hj e
  by_cases h1 : j = i + 1
  ·have := hs.1 i (by omega)
   rw [Nat.mod_eq_of_lt (by omega)] at this
   subst h1; exact this e
  ·by_cases h2 : i = 0 ∧ j + 1 = l.length
   ·have := hs.1 j hj
    rw [h2.2, Nat.mod_self] at this
    rw [h2.1] at e; exact this e.symm
   ·have := (hs.2 i (by omega)).2.2 j (by omega) hj (by
     by_cases h3 : j + 1 = l.length
     ·rw [h3, Nat.mod_self]; omega
     ·rw [Nat.mod_eq_of_lt (by omega)]; omega)
    apply this
    left
    rw [← e]
    exact ⟨cr_self1 _ _, btw_start _ _⟩
 have lev : ∀ u v : Pt, In 10000 u → In 10000 v → u ≠ v → ph 1 10000000 (vec u v) ≠ 0 := by
  intro u v hu hv hne e
  apply hne
  unfold In at hu hv
  unfold ph vec at e
  dsimp only at e
  apply pt_ext <;> omega
 have free : Free 1 10000000 l := by
  refine ⟨h3, fun i j hij hj hn => ?_, fun i j h1 h2 h4 => ?_⟩
  ·unfold F
   by_cases e : j = l.length
   ·rw [e, P_len, P_lt (by omega), P_lt (by omega)]
    exact lev _ _ (hin' _ (by omega)) (hin' _ (by omega)) (fun h => dist 0 i (by omega) (by omega) h.symm)
   ·rw [P_lt (by omega), P_lt (by omega)]
    exact lev _ _ (hin' _ (by omega)) (hin' _ (by omega)) (dist i j hij (by omega))
  ·have := (hs.2 i (by omega)).2.2 j h1 h2 (by
    by_cases h3 : j + 1 = l.length
    ·rw [h3, Nat.mod_self]; omega
    ·rw [Nat.mod_eq_of_lt (by omega)]; omega)
   rw [eP, eP, P_lt (by omega), P_lt h2]; exact this
 have low : ∀ j, 0 < j → j < l.length → 0 < ph 1 10000000 (F l 0 j) := by
  intro j h0 hj
  have := (fn_first (in_bd (hin' 0 (by omega))) (in_bd (hin' j hj))).mp ((ht j hj).2 h0)
  unfold F; rw [P_lt (by omega), P_lt hj]; exact this
 have left : ∀ i, 0 < cx (ed l i) (ed l (i + 1)) := by
  intro i
  have n0 : 0 < l.length := by omega
  have t := (ht (i % l.length) (Nat.mod_lt _ n0)).1
  have e1 : at_ l ((i % l.length + 1) % l.length) = P l (i + 1) := by unfold P; rw [Nat.mod_add_mod]
  have e2 : at_ l ((i % l.length + 1 + 1) % l.length) = P l (i + 1 + 1) := by unfold P; rw [show i % l.length + 1 + 1 = i % l.length + 2 by omega, Nat.mod_add_mod]
  have e0 : at_ l (i % l.length) = P l i := rfl
  rw [e0, e1, e2] at t
  unfold cr at t; unfold ed cx vec; dsimp only; grind
 have st := sorted_strong h3 (fun i hi => turn_sorted free low left i hi)
 refine ⟨strong_ring h3 st, fun hf => ?_, fun p hp => ?_, hin⟩
 ·have := strong_turn h3 st 0 (by omega)
  rw [hf _ (at_mem (by omega)) _ (at_mem (Nat.mod_lt _ (by omega))) _ (at_mem (Nat.mod_lt _ (by omega)))] at this; omega
 ·obtain ⟨k, hk, e⟩ := List.mem_iff_getElem.mp hp
  rw [← at_eq hk] at e
  subst e
  by_cases h0 : k = 0
  ·subst h0; exact Or.inl rfl
  ·exact Or.inr ((ht k hk).2 (by omega))
end Go.Proofs.Ythehmkpcddafnaa.M
end
section
namespace Go.Proofs.Ythehmkpcddafnaa.M
open Go.RowKit Go.Proofs.Ythehmkpcddafnaa.PG Go.Proofs.YthehmkpcddafnaaW.PrintMore Go.Proofs.YthehmkpcddafnaaW.PrintWords
noncomputable def tv (P : Prop) : Bool := @decide P (Classical.propDecidable P)
theorem tv_iff {P : Prop} : tv P = true ↔ P := @decide_eq_true_iff P (Classical.propDecidable P)
theorem tv_eq {P Q : Prop} (h : P ↔ Q) : tv P = tv Q := by rw [propext h]
theorem tv_t {P : Prop} (h : P) : tv P = true := tv_iff.mpr h
theorem tv_f {P : Prop} (h : ¬ P) : tv P = false := by
 cases e : tv P
 ·rfl
 ·exact absurd (tv_iff.mp e) h
def Ap (a b : List Pt) : Prop := Sep a b ∨ Sep b a
theorem Ap_comm (a b : List Pt) : Ap a b ↔ Ap b a := or_comm
noncomputable def frees (pl : List (List Pt)) (m : List Pt) : Bool := tv (∀ q ∈ pl, Ap q m)
def rowF (F : Int → Int → Bool) (y : Int) : Int → Nat → Option Int
 | _, 0 => none
 | x, d + 1 => if F x y = true then some x else rowF F y (x + 1) d
def colF (F : Int → Int → Bool) (W : Nat) : Int → Nat → Option (Int × Int)
 | _, 0 => none
 | y, d + 1 => match rowF F y 0 W with
  | some x => some (x, y)
  | none => colF F W (y + 1) d
def base (s : List Pt) : List Pt := shifted ⟨-(box s).1, -(box s).2.1⟩ s
def wide (s : List Pt) : Int := (box s).2.2.1 - (box s).1
def high (s : List Pt) : Int := (box s).2.2.2 - (box s).2.1
noncomputable def spot (w h : Int) (pl : List (List Pt)) (s : List Pt) : Option (Int × Int) :=
 colF (fun x y => frees pl (shifted ⟨x, y⟩ (base s))) (w - wide s + 1).toNat 0 (h - high s + 1).toNat
noncomputable def nestF (w h : Int) : List (List Pt) → Int → List (List Pt) → List S48
 | [], _, _ => []
 | s :: rest, i, pl => match spot w h pl s with
  | some (x, y) => ⟨i, ⟨x, y⟩⟩ :: nestF w h rest (i + 1) (pl ++ [shifted ⟨x, y⟩ (base s)])
  | none => nestF w h rest (i + 1) pl
theorem cr_shift (v a b c : Pt) : cr (shift v a) (shift v b) (shift v c) = cr a b c := by unfold cr shift; dsimp only; grind
theorem btw_shift (v a b c : Pt) : btw (shift v a) (shift v b) (shift v c) ↔ btw a b c := by unfold btw shift; dsimp only; omega
theorem shift_inj {v a b : Pt} (h : shift v a = shift v b) : a = b := by
 unfold shift at h
 have h0 : a.f0 + v.f0 = b.f0 + v.f0 := congrArg S41.f0 h
 have h1 : a.f1 + v.f1 = b.f1 + v.f1 := congrArg S41.f1 h
 exact pt_ext (by omega) (by omega)
theorem pairs_map {R R' : Pt → Pt → Prop} (f : Pt → Pt) (h : ∀ a b, R a b → R' (f a) (f b)) : ∀ l, Pairs R l → Pairs R' (l.map f)
 | [], _ => trivial
 | [_], _ => trivial
 | a :: b :: l, hp => ⟨h a b hp.1, pairs_map f h (b :: l) hp.2⟩
theorem he_shift {v : Pt} {S : List Pt} {a b : Pt} (h : HE S a b) : HE (shifted v S) (shift v a) (shift v b) := by
 obtain ⟨ne, ha, hb, hL⟩ := h
 refine ⟨fun e => ne (shift_inj e), shifted_mem.mpr ⟨a, ha, rfl⟩, shifted_mem.mpr ⟨b, hb, rfl⟩, fun p hp => ?_⟩
 obtain ⟨q, hq, rfl⟩ := shifted_mem.mp hp
 rw [cr_shift, btw_shift]; exact hL q hq
theorem ring_shift {v : Pt} {S h : List Pt} (r : Ring S h) : Ring (shifted v S) (shifted v h) := by
 obtain ⟨a, t, rfl, ha, hp⟩ := r
 refine ⟨shift v a, t.map (shift v), rfl, fun hm => ?_, ?_⟩
 ·obtain ⟨b, hb, e⟩ := List.mem_map.mp hm
  rw [shift_inj e] at hb; exact ha hb
 ·have := pairs_map (R' := HE (shifted v S)) (shift v) (fun x y h => he_shift h) _ hp
  simpa [List.map_append] using this
theorem nf_shift {m m' : Int} {v : Pt} {h : List Pt} (n : Nf m h) (hm : ∀ p ∈ h, In m' (shift v p)) : Nf m' (shifted v h) := by
 refine ⟨ring_shift n.ring, fun hf => n.flat (fun a ha b hb c hc => ?_), fun p hp => ?_, fun p hp => ?_⟩
 ·have := hf _ (shifted_mem.mpr ⟨a, ha, rfl⟩) _ (shifted_mem.mpr ⟨b, hb, rfl⟩) _ (shifted_mem.mpr ⟨c, hc, rfl⟩)
  rwa [cr_shift] at this
 ·obtain ⟨q, hq, rfl⟩ := shifted_mem.mp hp
  have h3 := n.three
  rw [shifted_at (by omega)]
  rcases n.fst q hq with e | e
  ·left; rw [← e]
  ·right; unfold first shift at *; dsimp only; omega
 ·obtain ⟨q, hq, rfl⟩ := shifted_mem.mp hp; exact hm q hq
structure Shp (s : List Pt) : Prop where
 nf : Nf 10000 s
 len : s.length ≤ 32
theorem Shp.pos {s : List Pt} (h : Shp s) : 0 < s.length := by have := h.nf.three; omega
theorem Shp.bx {s : List Pt} (h : Shp s) : -10000 ≤ (box s).1 ∧ (box s).1 ≤ 10000 ∧ -10000 ≤ (box s).2.1 ∧ (box s).2.1 ≤ 10000 ∧ (box s).1 ≤ (box s).2.2.1 ∧ (box s).2.2.1 ≤ 10000 ∧ (box s).2.1 ≤ (box s).2.2.2 ∧ (box s).2.2.2 ≤ 10000 := by
 obtain ⟨⟨p, hp, e1⟩, ⟨q, hq, e2⟩, ⟨r, hr, e3⟩, ⟨t, ht, e4⟩⟩ := box_at h.pos
 have a1 := h.nf.inb p hp
 have a2 := h.nf.inb q hq
 have a3 := h.nf.inb r hr
 have a4 := h.nf.inb t ht
 have b1 := box_in p hp
 have b2 := box_in q hq
 unfold In at a1 a2 a3 a4
 omega
theorem base_in {s : List Pt} : ∀ p ∈ base s, 0 ≤ p.f0 ∧ p.f0 ≤ wide s ∧ 0 ≤ p.f1 ∧ p.f1 ≤ high s := by
 intro p hp
 obtain ⟨q, hq, rfl⟩ := shifted_mem.mp hp
 have b := box_in q hq
 unfold wide high shift; dsimp only; omega
theorem size_bd {s : List Pt} (h : Shp s) : 0 ≤ wide s ∧ wide s ≤ 20000 ∧ 0 ≤ high s ∧ high s ≤ 20000 := by have := h.bx; unfold wide high; omega
structure Lie (q : List Pt) : Prop where
 nf : Nf 40000 q
 len : q.length ≤ 32
theorem Lie.bd {q : List Pt} (h : Lie q) : ∀ p ∈ q, Bd p := fun p hp => by have := h.nf.inb p hp; unfold In at this; unfold Bd; omega
theorem Lie.pos {q : List Pt} (h : Lie q) : 0 < q.length := by have := h.nf.three; omega
theorem base_nf {s : List Pt} (h : Shp s) : Nf 40000 (base s) := nf_shift h.nf (fun p hp => by
 have b := box_in p hp
 have c := h.bx
 unfold In shift; dsimp only; omega)
theorem base_len (s : List Pt) : (base s).length = s.length := by unfold base; exact shifted_len _ _
theorem base_lie {s : List Pt} (h : Shp s) : Lie (base s) := ⟨base_nf h, by rw [base_len]; exact h.len⟩
theorem at_lie {s : List Pt} (h : Shp s) {x y : Int} (h0 : 0 ≤ x) (h1 : x ≤ 200) (h2 : 0 ≤ y) (h3 : y ≤ 200) : Lie (shifted ⟨x, y⟩ (base s)) :=
 ⟨nf_shift (base_nf h) (fun p hp => by
  have b := base_in p hp
  have c := size_bd h
  unfold In shift; dsimp only; omega), by rw [shifted_len, base_len]; exact h.len⟩
def lap (a b : Int × Int × Int × Int) : Prop := a.1 < b.2.2.1 ∧ b.1 < a.2.2.1 ∧ a.2.1 < b.2.2.2 ∧ b.2.1 < a.2.2.2
theorem no_lap {p q : List Pt} (hp : Lie p) (hq : Lie q) (h : ¬ lap (box p) (box q)) : Ap p q := by
 unfold lap at h
 have bp := fun x hx => box_in (l := p) x hx
 have bq := fun x hx => box_in (l := q) x hx
 by_cases h1 : (box p).1 < (box q).2.2.1
 ·by_cases h2 : (box q).1 < (box p).2.2.1
  ·by_cases h3 : (box p).2.1 < (box q).2.2.2
   ·have h4 : (box p).2.2.2 ≤ (box q).2.1 := by omega
    refine line_sep hp.nf hq.nf (e := ⟨-1, 0⟩) (by simp) (fun x hx y hy => ?_)
    have b1 := bp x hx
    have b2 := bq y hy
    unfold cx vec; dsimp only; omega
   ·refine line_sep hp.nf hq.nf (e := ⟨1, 0⟩) (by simp) (fun x hx y hy => ?_)
    have b1 := bp x hx
    have b2 := bq y hy
    unfold cx vec; dsimp only; omega
  ·refine line_sep hp.nf hq.nf (e := ⟨0, 1⟩) (by simp) (fun x hx y hy => ?_)
   have b1 := bp x hx
   have b2 := bq y hy
   unfold cx vec; dsimp only; omega
 ·refine line_sep hp.nf hq.nf (e := ⟨0, -1⟩) (by simp) (fun x hx y hy => ?_)
  have b1 := bp x hx
  have b2 := bq y hy
  unfold cx vec; dsimp only; omega
theorem rd_l2 {pl : List (List Pt)} {i : Nat} (h : i < pl.length) : rd_L2 pl (i : Int) = pl[i] := by
 unfold rd_L2
 rw [Int.toNat_natCast, List.getD_eq_getElem?_getD, List.getElem?_eq_getElem h]; rfl
theorem free_run {pl : List (List Pt)} {p : List Pt} (hpl : ∀ q ∈ pl, Lie q) (hp : Lie p) (hN : pl.length ≤ 1000000) : Rt (fun k => shape_sheet_free.f k pl p) (frees pl p) := by
 have H : ∀ d i, pl.length = i + d → Rt (fun k => shape_sheet_free.l0 k p pl (pl.length : Int) (i : Int) (box p).1 (box p).2.1 (box p).2.2.1 (box p).2.2.2) (tv (∀ q ∈ pl.drop i, Ap q p)) := by
  intro d
  induction d with
  | zero =>
   intro i hi
   refine rt_ret fun k => ?_
   rw [shape_sheet_free.l0, if_neg (by omega), List.drop_of_length_le (by omega), tv_t (fun q hq => absurd hq (by simp))]
  | succ d ih =>
   intro i hi
   have hlt : i < pl.length := by omega
   have hq : Lie pl[i] := hpl _ (List.getElem_mem hlt)
   have hd : pl.drop i = pl[i] :: pl.drop (i + 1) := List.drop_eq_getElem_cons hlt
   have J : ∀ b : Bool, (b = true ↔ ¬ Ap pl[i] p) → Rt (fun k => shape_sheet_free.j1 k p pl (pl.length : Int) (i : Int) b (box p).1 (box p).2.1 (box p).2.2.1 (box p).2.2.2) (tv (∀ q ∈ pl.drop i, Ap q p)) := by
    intro b hb
    cases b with
    | true =>
     refine rt_ret fun k => ?_
     rw [shape_sheet_free.j1, if_pos rfl, hd]
     have := hb.mp rfl
     rw [tv_f (fun h => this (h _ List.mem_cons_self))]
    | false =>
     have ha : Ap pl[i] p := by
      apply Classical.byContradiction; intro h; have := hb.mpr h; simp at this
     refine rt_step (fun k => ?_) (by
      have e : tv (∀ q ∈ pl.drop i, Ap q p) = tv (∀ q ∈ pl.drop (i + 1), Ap q p) := by
       rw [hd]; exact tv_eq ⟨fun h q hq => h q (List.mem_cons_of_mem _ hq), fun h q hq => (List.mem_cons.mp hq).elim (fun e => by rw [e]; exact ha) (h q)⟩
      rw [e]; exact ih (i + 1) (by omega))
     rw [shape_sheet_free.j1, if_neg (by simp), wrap_succ i (by omega)]
   have cr := corners_run hq.pos (show pl[i].length ≤ 1000000 by have := hq.len; omega)
   by_cases hl : lap (box p) (box pl[i])
   ·obtain ⟨c, r1, _, ic⟩ := apart_run (a := p) (b := pl[i]) hp.bd hq.bd (by have := hp.len; omega) (by have := hq.len; omega)
    refine rt_bind cr (g := fun bt k => (shape_apart.f k p pl[i]).bind fun t => shape_sheet_free.j1 k p pl (pl.length : Int) (i : Int) (!t) (box p).1 (box p).2.1 (box p).2.2.1 (box p).2.2.2) (rt_bind0 r1 (J (!c) (by
     rw [Bool.not_eq_true', ← Bool.not_eq_true, ic, Ap_comm]; exact Iff.rfl)) (fun k => rfl)) (fun k => ?_)
    rw [shape_sheet_free.l0, if_pos (by omega), if_pos (by omega), if_pos (by omega), rd_l2 hlt]
    obtain ⟨K, hK⟩ := cr
    cases hcf : shape_corners.f k pl[i] with
    | none => rfl
    | some v =>
     have ev : v = box pl[i] := by
      have h1 := at_rounds (g := fun k => shape_corners.f k pl[i]) (fun k => shape_corners.mono _ k) (show k ≤ k + K by omega) hcf
      have h2 := hK (k + K) (by omega)
      dsimp only at h1 h2
      rw [h1] at h2; exact Option.some.inj h2
     subst ev
     rw [Option.bind_some, Option.bind_some, if_pos hl.1, if_pos hl.2.1, if_pos hl.2.2.1, if_pos hl.2.2.2]
   ·have ha : Ap pl[i] p := (Ap_comm _ _).mp (no_lap hp hq hl)
    refine rt_bind cr (g := fun bt k => shape_sheet_free.j1 k p pl (pl.length : Int) (i : Int) false (box p).1 (box p).2.1 (box p).2.2.1 (box p).2.2.2) (J false (by simp [ha])) (fun k => ?_)
    rw [shape_sheet_free.l0, if_pos (by omega), if_pos (by omega), if_pos (by omega), rd_l2 hlt]
    obtain ⟨K, hK⟩ := cr
    cases hcf : shape_corners.f k pl[i] with
    | none => rfl
    | some v =>
     have ev : v = box pl[i] := by
      have h1 := at_rounds (g := fun k => shape_corners.f k pl[i]) (fun k => shape_corners.mono _ k) (show k ≤ k + K by omega) hcf
      have h2 := hK (k + K) (by omega)
      dsimp only at h1 h2
      rw [h1] at h2; exact Option.some.inj h2
     subst ev
     rw [Option.bind_some, Option.bind_some]
     unfold lap at hl
     by_cases h1 : (box p).1 < (box pl[i]).2.2.1
     ·rw [if_pos h1]
      by_cases h2 : (box pl[i]).1 < (box p).2.2.1
      ·rw [if_pos h2]
       by_cases h3 : (box p).2.1 < (box pl[i]).2.2.2
       ·rw [if_pos h3, if_neg (fun h4 => hl ⟨h1, h2, h3, h4⟩)]
       ·rw [if_neg h3]
      ·rw [if_neg h2]
     ·rw [if_neg h1]
 refine rt_bind0 (corners_run hp.pos (by have := hp.len; omega)) (g := fun bt k => shape_sheet_free.l0 k p pl (pl.length : Int) 0 bt.1 bt.2.1 bt.2.2.1 bt.2.2.2) ?_ (fun k => rfl)
 have := H pl.length 0 (by omega)
 rw [List.drop_zero] at this; exact this
end Go.Proofs.Ythehmkpcddafnaa.M
end
section
namespace Go.Proofs.Ythehmkpcddafnaa.M
open Go.RowKit Go.Proofs.Ythehmkpcddafnaa.PG Go.Proofs.YthehmkpcddafnaaW.PrintMore Go.Proofs.YthehmkpcddafnaaW.PrintWords
def res (s : List Pt) : Option (Int × Int) → Int × Int × Bool × List S41
 | some (x, y) => (x, y, true, shifted ⟨x, y⟩ (base s))
 | none => (0, 0, false, [])
section
variable {w h : Int} {pl : List (List Pt)} {s : List Pt}
theorem place_l1 (hpl : ∀ q ∈ pl, Lie q) (hN : pl.length ≤ 1000000) (hs : Shp s) {ny y : Int} (hy0 : 0 ≤ y) (hy1 : y ≤ 200) {rest : Option (Int × Int)} (hnext : Rt (fun k => shape_sheet_place.l0 k w pl (base s) ny (y + 1) (wide s) (high s)) (res s rest)) (nx : Int) (hnx : nx ≤ 200) :
  ∀ (d : Nat) (x : Int), 0 ≤ x → x + d = nx → Rt (fun k => shape_sheet_place.l1 k w pl (base s) y ny y nx x (wide s) (high s)) (res s (match rowF (fun x y => frees pl (shifted ⟨x, y⟩ (base s))) y x d with | some x => some (x, y) | none => rest)) := by
 intro d
 induction d with
 | zero =>
  intro x h0 hx
  refine rt_step (fun k => ?_) hnext
  rw [shape_sheet_place.l1, if_neg (by omega), wz (y + 1) (by omega) (by omega)]
 | succ d ih =>
  intro x h0 hx
  have bl := base_lie hs
  have m1 := moved_run (v := ⟨x, y⟩) bl.bd (by unfold Bd; dsimp only; omega) (by have := bl.len; omega)
  have fr := free_run hpl (at_lie hs h0 (show x ≤ 200 by omega) hy0 hy1) hN
  refine rt_bind m1 (g := fun t k => (shape_sheet_free.f k pl t).bind fun b => if b = true then some (x, y, true, t) else shape_sheet_place.l1 k w pl (base s) y ny y nx (wrap64 (x + 1)) (wide s) (high s)) ?_ (fun k => by rw [shape_sheet_place.l1, if_pos (by omega)])
  unfold rowF
  cases hf : frees pl (shifted ⟨x, y⟩ (base s)) with
  | true =>
   rw [hf] at fr
   refine rt_bind0 fr (g := fun b k => if b = true then some (x, y, true, shifted ⟨x, y⟩ (base s)) else shape_sheet_place.l1 k w pl (base s) y ny y nx (wrap64 (x + 1)) (wide s) (high s)) ?_ (fun k => rfl)
   rw [if_pos rfl]
   exact ⟨0, fun k _ => rfl⟩
  | false =>
   rw [hf] at fr
   refine rt_bind0 fr (g := fun b k => if b = true then some (x, y, true, shifted ⟨x, y⟩ (base s)) else shape_sheet_place.l1 k w pl (base s) y ny y nx (wrap64 (x + 1)) (wide s) (high s)) ?_ (fun k => rfl)
   rw [if_neg (by simp)]
   obtain ⟨K, hK⟩ := ih (x + 1) (by omega) (by omega)
   refine ⟨K, fun k hk => ?_⟩
   have a := hK k hk
   dsimp only at a ⊢
   rw [if_neg (by simp), wz (x + 1) (by omega) (by omega)]; exact a
theorem place_l0 (hpl : ∀ q ∈ pl, Lie q) (hN : pl.length ≤ 1000000) (hs : Shp s) (hw : w ≤ 100) (hw0 : -20000 ≤ w) (ny : Int) (hny : ny ≤ 200) :
  ∀ (d : Nat) (y : Int), 0 ≤ y → y + d = ny → Rt (fun k => shape_sheet_place.l0 k w pl (base s) ny y (wide s) (high s)) (res s (colF (fun x y => frees pl (shifted ⟨x, y⟩ (base s))) (w - wide s + 1).toNat y d)) := by
 have sb := size_bd hs
 intro d
 induction d with
 | zero =>
  intro y h0 hy
  refine rt_ret fun k => ?_
  rw [shape_sheet_place.l0, if_neg (by omega)]; rfl
 | succ d ih =>
  intro y h0 hy
  have hr := place_l1 hpl hN hs h0 (show y ≤ 200 by omega) (ih (y + 1) (by omega) (by omega)) (max 0 (w - wide s + 1)) (by omega) (w - wide s + 1).toNat 0 (Int.le_refl 0) (by omega)
  refine rt_step (fun k => ?_) (by unfold colF; exact hr)
  rw [shape_sheet_place.l0, if_pos (by omega), mx_eq, wz (w - wide s) (by omega) (by omega), wz (w - wide s + 1) (by omega) (by omega)]
theorem place_run (hpl : ∀ q ∈ pl, Lie q) (hN : pl.length ≤ 1000000) (hs : Shp s) (hw : w ≤ 100) (hw0 : 0 ≤ w) (hh : h ≤ 100) (hh0 : 0 ≤ h) : Rt (fun k => shape_sheet_place.f k w h pl s) (res s (spot w h pl s)) := by
 have sb := size_bd hs
 have bx := hs.bx
 have hbd : ∀ p ∈ s, Bd p := hs.nf.bd (Int.le_refl _)
 have c := corners_run hs.pos (show s.length ≤ 1000000 by have := hs.len; omega)
 refine rt_bind0 c (g := fun bt k => (shape_sub.f 0 0 bt.1 bt.2.1).bind fun b1 => (shape_moved.f k s b1.1 b1.2).bind fun t => (shape_sub.f bt.2.2.1 bt.2.2.2 bt.1 bt.2.1).bind fun b2 => shape_sheet_place.l0 k w pl t (mx 0 (wrap64 ((wrap64 (h - b2.2)) + 1))) 0 b2.1 b2.2) ?_ (fun k => rfl)
 have s1 : shape_sub.f 0 0 (box s).1 (box s).2.1 = some (-(box s).1, -(box s).2.1) := by
  unfold shape_sub.f; rw [wz _ (by omega) (by omega), wz _ (by omega) (by omega)]; congr 2 <;> omega
 have s2 : shape_sub.f (box s).2.2.1 (box s).2.2.2 (box s).1 (box s).2.1 = some (wide s, high s) := by
  unfold shape_sub.f wide high; rw [wz _ (by omega) (by omega), wz _ (by omega) (by omega)]
 have m1 := moved_run (v := ⟨-(box s).1, -(box s).2.1⟩) hbd (by unfold Bd; dsimp only; omega) (show s.length ≤ 1000000 by have := hs.len; omega)
 have L := place_l0 hpl hN hs hw (by omega) (max 0 (h - high s + 1)) (by omega) (h - high s + 1).toNat 0 (Int.le_refl 0) (by omega)
 refine rt_bind0 m1 (g := fun t k => shape_sheet_place.l0 k w pl t (max 0 (h - high s + 1)) 0 (wide s) (high s)) L (fun k => ?_)
 rw [s1, Option.bind_some, s2]
 simp only [Option.bind_some]
 rw [mx_eq, wz (h - high s) (by omega) (by omega), wz (h - high s + 1) (by omega) (by omega)]
end
section
variable {w h : Int} {xs : List (List Pt)}
theorem rowF_bd {F : Int → Int → Bool} {y x' : Int} : ∀ (d : Nat) (x : Int), rowF F y x d = some x' → x ≤ x' ∧ x' < x + d ∧ F x' y = true ∧ ∀ x'', x ≤ x'' → x'' < x' → F x'' y = false := by
 intro d
 induction d with
 | zero => intro x e; simp [rowF] at e
 | succ d ih =>
  intro x e
  unfold rowF at e
  by_cases hf : F x y = true
  ·rw [if_pos hf] at e
   obtain rfl := Option.some.inj e
   exact ⟨Int.le_refl _, by omega, hf, fun x'' h1 h2 => by omega⟩
  ·rw [if_neg hf] at e
   obtain ⟨a, b, c, g⟩ := ih (x + 1) e
   refine ⟨by omega, by omega, c, fun x'' h1 h2 => ?_⟩
   by_cases e2 : x'' = x
   ·subst e2; simpa using hf
   ·exact g x'' (by omega) h2
theorem rowF_none {F : Int → Int → Bool} {y : Int} : ∀ (d : Nat) (x : Int), rowF F y x d = none → ∀ x'', x ≤ x'' → x'' < x + d → F x'' y = false := by
 intro d
 induction d with
 | zero => intro x _ x'' h1 h2; omega
 | succ d ih =>
  intro x e x'' h1 h2
  unfold rowF at e
  by_cases hf : F x y = true
  ·rw [if_pos hf] at e; simp at e
  ·rw [if_neg hf] at e
   by_cases e2 : x'' = x
   ·subst e2; simpa using hf
   ·exact ih (x + 1) e x'' (by omega) (by omega)
theorem colF_bd {F : Int → Int → Bool} {W : Nat} {x' y' : Int} : ∀ (d : Nat) (y : Int), colF F W y d = some (x', y') → y ≤ y' ∧ y' < y + d ∧ 0 ≤ x' ∧ x' < W ∧ F x' y' = true ∧ (∀ x'', 0 ≤ x'' → x'' < x' → F x'' y' = false) ∧ (∀ y'' x'' : Int, y ≤ y'' → y'' < y' → 0 ≤ x'' → x'' < (W : Int) → F x'' y'' = false) := by
 intro d
 induction d with
 | zero => intro y e; simp [colF] at e
 | succ d ih =>
  intro y e
  unfold colF at e
  cases hr : rowF F y 0 W with
  | some x =>
   rw [hr] at e
   simp at e
   obtain ⟨rfl, rfl⟩ := e
   obtain ⟨a, b, c, g⟩ := rowF_bd W 0 hr
   exact ⟨Int.le_refl _, by omega, a, by omega, c, g, fun y'' x'' h1 h2 => by omega⟩
  | none =>
   rw [hr] at e
   obtain ⟨a, b, c, d1, e1, f1, g1⟩ := ih (y + 1) e
   refine ⟨by omega, by omega, c, d1, e1, f1, fun y'' x'' h1 h2 h3 h4 => ?_⟩
   by_cases e2 : y'' = y
   ·subst e2; exact rowF_none W 0 hr x'' h3 (by omega)
   ·exact g1 y'' x'' (by omega) h2 h3 h4
theorem colF_none {F : Int → Int → Bool} {W : Nat} : ∀ (d : Nat) (y : Int), colF F W y d = none → ∀ y'' x'' : Int, y ≤ y'' → y'' < y + d → 0 ≤ x'' → x'' < (W : Int) → F x'' y'' = false := by
 intro d
 induction d with
 | zero => intro y _ y'' x'' h1 h2; omega
 | succ d ih =>
  intro y e y'' x'' h1 h2 h3 h4
  unfold colF at e
  cases hr : rowF F y 0 W with
  | some x => rw [hr] at e; simp at e
  | none =>
   rw [hr] at e
   by_cases e2 : y'' = y
   ·subst e2; exact rowF_none W 0 hr x'' h3 (by omega)
   ·exact ih (y + 1) e y'' x'' (by omega) (by omega) h3 h4
theorem spot_bd {pl : List (List Pt)} {s : List Pt} (hs : Shp s) {x y : Int} (e : spot w h pl s = some (x, y)) : 0 ≤ x ∧ x ≤ w - wide s ∧ 0 ≤ y ∧ y ≤ h - high s ∧ frees pl (shifted ⟨x, y⟩ (base s)) = true ∧
  (∀ x'', 0 ≤ x'' → x'' < x → frees pl (shifted ⟨x'', y⟩ (base s)) = false) ∧ (∀ y'' x'', 0 ≤ y'' → y'' < y → 0 ≤ x'' → x'' ≤ w - wide s → frees pl (shifted ⟨x'', y''⟩ (base s)) = false) := by
 have sb := size_bd hs
 obtain ⟨a, b, c, d, f, g, i⟩ := colF_bd _ _ e
 exact ⟨c, by omega, a, by omega, f, g, fun y'' x'' h1 h2 h3 h4 => i y'' x'' h1 h2 h3 (by omega)⟩
theorem spot_lie {pl : List (List Pt)} {s : List Pt} (hs : Shp s) (hw : w ≤ 100) (hh : h ≤ 100) {x y : Int} (e : spot w h pl s = some (x, y)) : Lie (shifted ⟨x, y⟩ (base s)) := by
 have sb := size_bd hs
 obtain ⟨a, b, c, d, _⟩ := spot_bd hs e
 exact at_lie hs a (by omega) c (by omega)
theorem nest_l1 (hx : ∀ s ∈ xs, Shp s) (hl : xs.length ≤ 1000) (hw : w ≤ 100) (hw0 : 0 ≤ w) (hh : h ≤ 100) (hh0 : 0 ≤ h) :
  ∀ d i out pl, xs.length = i + d → (∀ q ∈ pl, Lie q) → pl.length ≤ i → out.length ≤ i → Rt (fun k => shape_Nest.l1 k (w, h, pl) out xs (xs.length : Int) (i : Int)) (out ++ nestF w h (xs.drop i) (i : Int) pl, 0) := by
 intro d
 induction d with
 | zero =>
  intro i out pl hi _ _ _
  refine rt_ret fun k => ?_
  rw [shape_Nest.l1, if_neg (by omega), List.drop_of_length_le (by omega)]
  unfold nestF; rw [List.append_nil]
 | succ d ih =>
  intro i out pl hi hpl h1 h2
  have hlt : i < xs.length := by omega
  have hs := hx _ (List.getElem_mem hlt)
  have hd : xs.drop i = xs[i] :: xs.drop (i + 1) := List.drop_eq_getElem_cons hlt
  have p := place_run (h := h) hpl (by omega) hs hw hw0 hh hh0
  refine rt_bind p (g := fun bt k => if bt.2.2.1 = true then (if out.length < 5864062014805 then shape_Nest.l1 k (w, h, pl ++ [bt.2.2.2]) (out ++ [⟨(i : Int), ⟨bt.1, bt.2.1⟩⟩]) xs (xs.length : Int) (wrap64 ((i : Int) + 1)) else none) else shape_Nest.l1 k (w, h, pl) out xs (xs.length : Int) (wrap64 ((i : Int) + 1))) ?_ (fun k => by
   rw [shape_Nest.l1, if_pos (by omega), if_pos (by omega), if_pos (by omega), if_pos (show (w, h, pl).2.2.length < 1000000 by show pl.length < 1000000; omega), rd_l2 hlt])
  rw [hd]
  unfold nestF
  cases e : spot w h pl xs[i] with
  | none =>
   obtain ⟨K, hK⟩ := ih (i + 1) out pl (by omega) hpl (by omega) (by omega)
   refine ⟨K, fun k hk => ?_⟩
   have a := hK k hk
   dsimp only [res] at a ⊢
   refine (if_neg (show ¬ (false = true) by decide)).trans ?_
   rw [wrap_succ i (by omega)]; exact a
  | some xy =>
   obtain ⟨x, y⟩ := xy
   have hlie := spot_lie hs hw hh e
   obtain ⟨K, hK⟩ := ih (i + 1) (out ++ [⟨(i : Int), ⟨x, y⟩⟩]) (pl ++ [shifted ⟨x, y⟩ (base xs[i])]) (by omega) (fun q hq => by
    rcases List.mem_append.mp hq with hq | hq
    ·exact hpl q hq
    ·rw [List.mem_singleton.mp hq]; exact hlie) (by simp; omega) (by simp; omega)
   refine ⟨K, fun k hk => ?_⟩
   have a := hK k hk
   dsimp only [res] at a ⊢
   refine (if_pos (show true = true from rfl)).trans ?_
   rw [if_pos (by omega), wrap_succ i (by omega), a, List.append_assoc]; rfl
end
end Go.Proofs.Ythehmkpcddafnaa.M
end
section
namespace Go.Proofs.Ythehmkpcddafnaa.M
open Go.RowKit Go.Proofs.Ythehmkpcddafnaa.PG Go.Proofs.YthehmkpcddafnaaW.PrintMore Go.Proofs.YthehmkpcddafnaaW.PrintWords
end Go.Proofs.Ythehmkpcddafnaa.M
end
section
namespace Go.Proofs.Ythehmkpcddafnaa.M
open Go.RowKit Go.Proofs.Ythehmkpcddafnaa.PG Go.Proofs.YthehmkpcddafnaaW.PrintMore Go.Proofs.YthehmkpcddafnaaW.PrintWords
theorem code_ex : ∃ cv : List Pt → Int, ∀ r, r.length ≤ 1000000 → Rt (fun k => shape_refused_normal.f k r) (cv r) ∧ Rt (fun k => cracknellaw04_convex.f k r) (cv r) ∧ (cv r = 0 ↔ Poly r ∧ Convex r) := by
 refine Classical.axiomOfChoice (r := fun (r : List Pt) (c : Int) => r.length ≤ 1000000 → Rt (fun k => shape_refused_normal.f k r) c ∧ Rt (fun k => cracknellaw04_convex.f k r) c ∧ (c = 0 ↔ Poly r ∧ Convex r)) (fun r => ?_)
 by_cases h : r.length ≤ 1000000
 ·obtain ⟨c, hc⟩ := bad_convex r h; exact ⟨c, fun _ => hc⟩
 ·exact ⟨0, fun h2 => absurd h2 h⟩
def errF (cv : List Pt → Int) : List (List Pt) → Int
 | [] => 0
 | s :: t => if cv s = 0 then errF cv t else cv s
theorem errF_cons (cv : List Pt → Int) (s : List Pt) (t : List (List Pt)) : errF cv (s :: t) = if cv s = 0 then errF cv t else cv s := rfl
theorem errF_zero {cv : List Pt → Int} : ∀ {xs : List (List Pt)}, errF cv xs = 0 → ∀ s ∈ xs, cv s = 0
 | [], _, s, hs => absurd hs (by simp)
 | a :: t, h, s, hs => by
  unfold errF at h
  by_cases c : cv a = 0
  ·rw [if_pos c] at h
   rcases List.mem_cons.mp hs with e | e
   ·rw [e]; exact c
   ·exact errF_zero h s e
  ·rw [if_neg c] at h; exact absurd h c
section
variable {cv : List Pt → Int} (hcv : ∀ r, r.length ≤ 1000000 → Rt (fun k => shape_refused_normal.f k r) (cv r) ∧ Rt (fun k => cracknellaw04_convex.f k r) (cv r) ∧ (cv r = 0 ↔ Poly r ∧ Convex r)) {w h : Int} {xs : List (List Pt)}
include hcv in
theorem nest_run (hl : ∀ s ∈ xs, s.length ≤ 1000000) (hw0 : 1 ≤ w) (hw : w ≤ 100) (hh0 : 1 ≤ h) (hh : h ≤ 100) (hx : xs.length ≤ 16) : Rt (fun k => shape_Nest.f k w h xs) (if errF cv xs = 0 then nestF w h xs 0 [] else [], errF cv xs) := by
 have H : ∀ d i, xs.length = i + d → (errF cv (xs.drop i) = 0 → errF cv xs = 0) → Rt (fun k => shape_Nest.l0 k (w, h, []) xs xs (xs.length : Int) (i : Int)) (if errF cv (xs.drop i) = 0 then nestF w h xs 0 [] else [], errF cv (xs.drop i)) := by
  intro d
  induction d with
  | zero =>
   intro i hi hz
   have e0 : errF cv (xs.drop i) = 0 := by rw [List.drop_of_length_le (by omega)]; rfl
   rw [e0, if_pos rfl]
   have good : ∀ s ∈ xs, Shp s := fun s hs => by
    have c := errF_zero (hz e0) s hs
    obtain ⟨hp, hc⟩ := (hcv s (hl s hs)).2.2.mp c
    exact ⟨convex_nf hp hc, hp.2.1⟩
   have L := nest_l1 (xs := xs) good (by omega) hw (by omega) hh (by omega) xs.length 0 [] [] (by omega) (fun q hq => absurd hq (by simp)) (by simp) (by simp)
   rw [List.drop_zero, List.nil_append] at L
   refine rt_step (fun k => ?_) L
   rw [shape_Nest.l0, if_neg (by omega)]; rfl
  | succ d ih =>
   intro i hi hz
   have hlt : i < xs.length := by omega
   have hd : xs.drop i = xs[i] :: xs.drop (i + 1) := List.drop_eq_getElem_cons hlt
   have c := (hcv xs[i] (hl _ (List.getElem_mem hlt))).1
   refine rt_bind c (g := fun t k => if t = 0 then shape_Nest.l0 k (w, h, []) xs xs (xs.length : Int) (wrap64 ((i : Int) + 1)) else some ([], t)) ?_ (fun k => by
    rw [shape_Nest.l0, if_pos (by omega), if_pos (by omega), if_pos (by omega), rd_l2 hlt])
   rw [hd]
   rw [hd, errF_cons] at hz
   rw [errF_cons]
   by_cases e : cv xs[i] = 0
   ·rw [if_pos e] at hz
    simp only [if_pos e]
    rw [wrap_succ i (by omega)]
    exact ih (i + 1) (by omega) hz
   ·simp only [if_neg e]
    exact ⟨0, fun k _ => rfl⟩
 have h0 := H xs.length 0 (by omega) (by rw [List.drop_zero]; exact id)
 rw [List.drop_zero] at h0
 have J : Rt (fun k => shape_Nest.j0 k (w, h, []) xs false) (if errF cv xs = 0 then nestF w h xs 0 [] else [], errF cv xs) := by
  refine rt_step (fun k => ?_) h0
  rw [shape_Nest.j0, if_neg (by simp)]; rfl
 obtain ⟨K, hK⟩ := J
 refine ⟨K, fun k hk => ?_⟩
 have a := hK k hk
 dsimp only at a ⊢
 unfold shape_Nest.f
 rw [if_neg (by omega), if_neg (by omega), if_neg (by omega), if_neg (by omega), decide_eq_false (show ¬ ((xs.length : Int) > 16) by omega)]; exact a
theorem lives_rt : Rt (fun k => cracknellaw04_lives.f k) true := ⟨60, fun k hk => lives_ok k hk⟩
theorem nestF_len (w h : Int) : ∀ (xs : List (List Pt)) (i : Int) (pl : List (List Pt)), (nestF w h xs i pl).length ≤ xs.length := by
 intro xs
 induction xs with
 | nil => intro i pl; exact Nat.le_refl _
 | cons s t ih =>
  intro i pl
  unfold nestF
  split
  ·rw [List.length_cons, List.length_cons]; exact Nat.succ_le_succ (ih _ _)
  ·rw [List.length_cons]; exact Nat.le_succ_of_le (ih _ _)
end
end Go.Proofs.Ythehmkpcddafnaa.M
end
section
namespace Go.Proofs.Ythehmkpcddafnaa.M
open Go.RowKit Go.Proofs.Ythehmkpcddafnaa.PG Go.Proofs.YthehmkpcddafnaaW.PrintMore Go.Proofs.YthehmkpcddafnaaW.PrintWords
theorem nestF_ge (w h : Int) : ∀ (xs : List (List Pt)) (i : Int) (pl : List (List Pt)), ∀ e ∈ nestF w h xs i pl, i ≤ e.f0 := by
 intro xs
 induction xs with
 | nil => intro i pl e he; exact absurd he (by unfold nestF; simp)
 | cons s t ih =>
  intro i pl e he
  unfold nestF at he
  split at he
  ·rcases List.mem_cons.mp he with c | c
   ·rw [c]; exact Int.le_refl _
   ·have := ih _ _ e c; omega
  ·have := ih _ _ e he; omega
theorem spot_none {w h : Int} {pl : List (List Pt)} {s : List Pt} (e : spot w h pl s = none) {x y : Int} (x0 : 0 ≤ x) (x1 : x ≤ w - wide s) (y0 : 0 ≤ y) (y1 : y ≤ h - high s) : frees pl (shifted ⟨x, y⟩ (base s)) = false :=
 colF_none _ 0 e y x y0 (by omega) x0 (by omega)
theorem rd48 {l : List S48} {n : Nat} (h : n < l.length) : rd_T48 l (n : Int) = l[n] := by
 unfold rd_T48
 rw [Int.toNat_natCast, List.getD_eq_getElem?_getD, List.getElem?_eq_getElem h]; rfl
open cracknellaw04_ShapeNested
section
variable {w h p q : Int} {xs : List (List Pt)} {l : List S48} {pl : List (List Pt)} {n i : Nat}
theorem nd_l3 {m : List Pt} (hpl : ∀ q ∈ pl, Lie q) (hm : Lie m) (hN : pl.length ≤ 1000) (hi : i ≤ 1000) (hn : n ≤ 1000) (free : ∀ q ∈ pl, Ap q m)
  (hr : Rt (fun k => l1 k w h xs l (pl ++ [m]) ((n + 1 : Nat) : Int) ((i + 1 : Nat) : Int) p q) true) :
  ∀ d j, pl.length = j + d → Rt (fun k => l3 k w h xs l pl (n : Int) (i : Int) m (j : Int) p q) true := by
 intro d
 induction d with
 | zero =>
  intro j hj
  refine rt_step (fun k => ?_) hr
  rw [l3, if_neg (by omega), if_pos (by omega), wrap_succ n (by omega), wrap_succ i (by omega)]
 | succ d ih =>
  intro j hj
  have hlt : j < pl.length := by omega
  have hq := hpl _ (List.getElem_mem hlt)
  obtain ⟨c, _, r2, ic⟩ := apart_run (a := pl[j]) (b := m) hq.bd hm.bd (by have := hq.len; omega) (by have := hm.len; omega)
  have hc : c = true := ic.mpr (free _ (List.getElem_mem hlt))
  subst hc
  refine rt_bind r2 (g := fun t k => if t = true then l3 k w h xs l pl (n : Int) (i : Int) m (wrap64 ((j : Int) + 1)) p q else some false) ?_ (fun k => by
   rw [l3, if_pos (by omega), if_pos (by omega), rd_l2 hlt])
  rw [wrap_succ j (by omega)]
  obtain ⟨K, hK⟩ := ih (j + 1) (by omega)
  exact ⟨K, fun k hk => (if_pos rfl).trans (hK k hk)⟩
theorem nd_l2 {s' : List Pt} {X Y : Int} (hpl : ∀ q ∈ pl, Lie q) (hs : Lie s') (hm : Lie (shifted ⟨X, Y⟩ s')) (hN : pl.length ≤ 1000) (hv : Bd ⟨X, Y⟩) {f0 : Bool} {x1 x2 x3 x4 : Int}
  (hT : ∀ j : Int, Rt (fun k => j6 k w h xs l pl (n : Int) (i : Int) s' (f0 && frees pl (shifted ⟨X, Y⟩ s')) j false p q x1 x2 x3 x4 X Y) true) :
  Rt (fun k => l2 k w h xs l pl (n : Int) (i : Int) s' f0 0 p q x1 x2 x3 x4 X Y) true := by
 have H : ∀ d j (f : Bool), pl.length = j + d → (f && tv (∀ q ∈ pl.drop j, Ap q (shifted ⟨X, Y⟩ s'))) = (f0 && frees pl (shifted ⟨X, Y⟩ s')) → Rt (fun k => l2 k w h xs l pl (n : Int) (i : Int) s' f (j : Int) p q x1 x2 x3 x4 X Y) true := by
  intro d
  have hff : ∀ j : Nat, false = (f0 && frees pl (shifted ⟨X, Y⟩ s')) → Rt (fun k => l2 k w h xs l pl (n : Int) (i : Int) s' false (j : Int) p q x1 x2 x3 x4 X Y) true := by
   intro j e
   have T := hT (j : Int)
   rw [← e] at T
   refine rt_step (fun k => ?_) T
   rw [l2]
   split <;> rfl
  induction d with
  | zero =>
   intro j f hj e
   cases f with
   | false => exact hff j e
   | true =>
    rw [List.drop_of_length_le (by omega), tv_t (fun q hq => absurd hq (by simp)), Bool.and_self] at e
    have T := hT (j : Int)
    rw [← e] at T
    refine rt_step (fun k => ?_) T
    rw [l2, if_neg (by omega)]
  | succ d ih =>
   intro j f hj e
   cases f with
   | false => exact hff j e
   | true =>
    have hlt : j < pl.length := by omega
    have hq := hpl _ (List.getElem_mem hlt)
    have hd : pl.drop j = pl[j] :: pl.drop (j + 1) := List.drop_eq_getElem_cons hlt
    obtain ⟨c, _, r2, ic⟩ := apart_run (a := pl[j]) (b := shifted ⟨X, Y⟩ s') hq.bd hm.bd (by have := hq.len; omega) (by have := hm.len; omega)
    have mv := refMoved_run (v := ⟨X, Y⟩) hs.bd hv (by have := hs.len; omega)
    have e2 : (true && tv (∀ q ∈ pl.drop j, Ap q (shifted ⟨X, Y⟩ s'))) = (c && tv (∀ q ∈ pl.drop (j + 1), Ap q (shifted ⟨X, Y⟩ s'))) := by
     rw [hd]
     cases hc : c with
     | true =>
      have ha : Ap pl[j] (shifted ⟨X, Y⟩ s') := ic.mp hc
      rw [Bool.true_and, Bool.true_and]
      exact tv_eq ⟨fun h q hq => h q (List.mem_cons_of_mem _ hq), fun h q hq => (List.mem_cons.mp hq).elim (fun e => by rw [e]; exact ha) (h q)⟩
     | false =>
      have ha : ¬ Ap pl[j] (shifted ⟨X, Y⟩ s') := fun h => by have := ic.mpr h; rw [hc] at this; simp at this
      rw [Bool.true_and, Bool.false_and]
      exact tv_f (fun h => ha (h _ List.mem_cons_self))
    have J : Rt (fun k => j6 k w h xs l pl (n : Int) (i : Int) s' true (j : Int) true p q x1 x2 x3 x4 X Y) true := by
     refine rt_bind mv (g := fun t k => (cracknelref04_Apart.f k pl[j] t).bind fun u => l2 k w h xs l pl (n : Int) (i : Int) s' u (wrap64 ((j : Int) + 1)) p q x1 x2 x3 x4 X Y) ?_ (fun k => by
      rw [j6, if_pos rfl, if_pos (by omega), if_pos (by omega), rd_l2 hlt])
     refine rt_bind0 r2 (g := fun u k => l2 k w h xs l pl (n : Int) (i : Int) s' u (wrap64 ((j : Int) + 1)) p q x1 x2 x3 x4 X Y) ?_ (fun k => rfl)
     rw [wrap_succ j (by omega)]
     exact ih (j + 1) c (by omega) (e2.symm.trans e)
    refine rt_step (fun k => ?_) J
    rw [l2, if_pos (by omega)]
 exact H pl.length 0 f0 (by omega) (by rw [List.drop_zero]; rfl)
theorem nd_skip {s' : List Pt} {x1 x2 x3 x4 X Y : Int} (hi : i ≤ 1000) (hn : n ≤ l.length) (hne : ∀ e : n < l.length, l[n].f0 ≠ (i : Int)) (hr : Rt (fun k => l1 k w h xs l pl (n : Int) ((i + 1 : Nat) : Int) p q) true) (j : Int) :
  Rt (fun k => j6 k w h xs l pl (n : Int) (i : Int) s' false j false p q x1 x2 x3 x4 X Y) true := by
 have J : Rt (fun k => j7 k w h xs l pl (n : Int) (i : Int) s' false true p q x1 x2 x3 x4 X Y) true := by
  refine rt_step (fun k => ?_) hr
  rw [j7, if_pos rfl, if_neg (by simp), wrap_succ i (by omega)]
 refine rt_step (fun k => ?_) J
 rw [j6, if_neg (by simp)]
 by_cases e : n < l.length
 ·rw [if_neg (by omega), if_pos (by omega), if_pos (by omega), rd48 e, bne_iff_ne.mpr (hne e)]
 ·rw [if_pos (by omega)]
theorem nd_take {s' : List Pt} {x1 x2 x3 x4 X Y x y : Int} {G : Bool} (hn : n < l.length) (he : l[n] = ⟨(i : Int), ⟨x, y⟩⟩) (h1 : 0 ≤ x) (h2 : 0 ≤ y) (h3 : wrap64 (wrap64 (x + x3) - x1) ≤ w) (h4 : wrap64 (wrap64 (y + x4) - x2) ≤ h)
  (hG : G = true → ¬ (Y < y ∨ Y = y ∧ X < x)) (hb : Lie s') (hv : Bd ⟨x, y⟩)
  (hr : Rt (fun k => l3 k w h xs l pl (n : Int) (i : Int) (shifted ⟨x, y⟩ s') 0 p q) true) (j : Int) :
  Rt (fun k => j6 k w h xs l pl (n : Int) (i : Int) s' G j false p q x1 x2 x3 x4 X Y) true := by
 have mv := refMoved_run (v := ⟨x, y⟩) hb.bd hv (by have := hb.len; omega)
 have J8 : Rt (fun k => j8 k w h xs l pl (n : Int) (i : Int) s' false p q x y) true := by
  refine rt_bind mv (g := fun t k => l3 k w h xs l pl (n : Int) (i : Int) t 0 p q) hr (fun k => ?_)
  rw [j8, if_neg (by simp)]
 have J7 : Rt (fun k => j7 k w h xs l pl (n : Int) (i : Int) s' G false p q x1 x2 x3 x4 X Y) true := by
  refine rt_step (fun k => ?_) J8
  rw [j7, if_neg (by simp), if_pos (by omega), if_pos (by omega), rd48 hn, he]
  dsimp only
  rw [if_neg (by omega), if_neg (by omega), if_neg (by omega), if_neg (by omega)]
  cases G with
  | false => rw [if_neg (by simp)]
  | true =>
   have g := hG rfl
   rw [if_pos rfl, if_neg (by omega)]
   by_cases e : Y = y
   ·rw [if_pos e, decide_eq_false (by omega)]
   ·rw [if_neg e]
 refine rt_step (fun k => ?_) J7
 rw [j6, if_neg (by simp), if_neg (by omega), if_pos (by omega), if_pos (by omega), rd48 hn, he]
 dsimp only
 rw [bne_self_eq_false]
end
theorem nd_l1 {w h p q : Int} {xs : List (List Pt)} {l : List S48} (hx : ∀ s ∈ xs, Shp s) (hl : xs.length ≤ 100) (hw0 : 1 ≤ w) (hw : w ≤ 100) (hh0 : 1 ≤ h) (hh : h ≤ 100) {X Y : Int} (hX0 : 0 ≤ X) (hX : X ≤ w) (hY0 : 0 ≤ Y) (hY : Y ≤ h)
  (eX : cracknellaw04_fold.f p (w + 1) = some X) (eY : cracknellaw04_fold.f q (h + 1) = some Y) :
  ∀ d i (out : List S48) (pl : List (List Pt)), xs.length = i + d → (∀ q ∈ pl, Lie q) → pl.length ≤ i → out.length ≤ i → l = out ++ nestF w h (xs.drop i) (i : Int) pl → Rt (fun k => l1 k w h xs l pl (out.length : Int) (i : Int) p q) true := by
 intro d
 induction d with
 | zero =>
  intro i out pl hi hpl h1 h2 e
  rw [List.drop_of_length_le (by omega)] at e
  unfold nestF at e
  rw [List.append_nil] at e
  refine rt_ret fun k => ?_
  rw [l1, if_neg (by omega), e, beq_self_eq_true]
 | succ d ih =>
  intro i out pl hi hpl h1 h2 e
  have hlt : i < xs.length := by omega
  have hs := hx _ (List.getElem_mem hlt)
  have sb := size_bd hs
  have bx := hs.bx
  have hd : xs.drop i = xs[i] :: xs.drop (i + 1) := List.drop_eq_getElem_cons hlt
  have hbd : ∀ p ∈ xs[i], Bd p := hs.nf.bd (Int.le_refl _)
  have b : Rt (fun k => cracknelref04_Box.f k xs[i]) (box xs[i]) := by
   refine rt_bind0 (box_run hs.pos (show xs[i].length ≤ 1000000 by have := hs.len; omega)) (g := fun bt _ => some (bt.1, bt.2.1, bt.2.2.1, bt.2.2.2)) ⟨0, fun k _ => rfl⟩ (fun k => ?_)
   unfold cracknelref04_Box.f; rfl
  have mv := refMoved_run (v := ⟨-(box xs[i]).1, -(box xs[i]).2.1⟩) hbd (by unfold Bd; dsimp only; omega) (show xs[i].length ≤ 1000000 by have := hs.len; omega)
  have lb := base_lie hs
  have w3 : ∀ x : Int, -1000 ≤ x → x ≤ 1000 → wrap64 (wrap64 (x + (box xs[i]).2.2.1) - (box xs[i]).1) = x + wide xs[i] := fun x a c => by
   rw [wz (x + (box xs[i]).2.2.1) (by omega) (by omega), wz _ (by omega) (by omega)]; unfold wide; omega
  have w4 : ∀ x : Int, -1000 ≤ x → x ≤ 1000 → wrap64 (wrap64 (x + (box xs[i]).2.2.2) - (box xs[i]).2.1) = x + high xs[i] := fun x a c => by
   rw [wz (x + (box xs[i]).2.2.2) (by omega) (by omega), wz _ (by omega) (by omega)]; unfold high; omega
  have lm : Lie (shifted ⟨X, Y⟩ (base xs[i])) := at_lie hs hX0 (by omega) hY0 (by omega)
  have J4 : ∀ f0 : Bool, (f0 = true → X ≤ w - wide xs[i] ∧ Y ≤ h - high xs[i]) → Rt (fun k => j4 k w h xs l pl (out.length : Int) (i : Int) (base xs[i]) f0 p q (box xs[i]).1 (box xs[i]).2.1 (box xs[i]).2.2.1 (box xs[i]).2.2.2 X Y) true := by
   intro f0 hf
   have L2 : Rt (fun k => l2 k w h xs l pl (out.length : Int) (i : Int) (base xs[i]) f0 0 p q (box xs[i]).1 (box xs[i]).2.1 (box xs[i]).2.2.1 (box xs[i]).2.2.2 X Y) true := by
    refine nd_l2 hpl lb lm (by omega) (by unfold Bd; dsimp only; omega) (fun j => ?_)
    cases hsp : spot w h pl xs[i] with
    | none =>
     have e2 : l = out ++ nestF w h (xs.drop (i + 1)) ((i + 1 : Nat) : Int) pl := by
      rw [e, hd]; conv => lhs; unfold nestF
      rw [hsp]; rfl
     have g : (f0 && frees pl (shifted ⟨X, Y⟩ (base xs[i]))) = false := by
      cases f0 with
      | false => rfl
      | true => rw [Bool.true_and]; exact spot_none hsp hX0 (hf rfl).1 hY0 (hf rfl).2
     rw [g]
     refine nd_skip (by omega) (by rw [e2]; simp) (fun hn => ?_) (ih (i + 1) out pl (by omega) hpl (by omega) (by omega) e2) j
     have hmem : l[out.length] ∈ nestF w h (xs.drop (i + 1)) ((i + 1 : Nat) : Int) pl := by
      have : ∀ (l : List S48) (hn : out.length < l.length), l = out ++ nestF w h (xs.drop (i + 1)) ((i + 1 : Nat) : Int) pl → l[out.length] ∈ nestF w h (xs.drop (i + 1)) ((i + 1 : Nat) : Int) pl := by
       rintro l hn rfl
       rw [List.getElem_append_right (Nat.le_refl _)]
       exact List.getElem_mem _
      exact this l hn e2
     have := nestF_ge _ _ _ _ _ _ hmem
     omega
    | some v =>
     obtain ⟨x, y⟩ := v
     obtain ⟨s1, s2, s3, s4, s5, s6, s7⟩ := spot_bd hs hsp
     have e2 : l = out ++ ⟨(i : Int), ⟨x, y⟩⟩ :: nestF w h (xs.drop (i + 1)) ((i + 1 : Nat) : Int) (pl ++ [shifted ⟨x, y⟩ (base xs[i])]) := by
      rw [e, hd]; conv => lhs; unfold nestF
      rw [hsp]; rfl
     have hn : out.length < l.length := by rw [e2]; simp
     have he : l[out.length] = ⟨(i : Int), ⟨x, y⟩⟩ := by
      have : ∀ (l : List S48) (hn : out.length < l.length), l = out ++ ⟨(i : Int), ⟨x, y⟩⟩ :: nestF w h (xs.drop (i + 1)) ((i + 1 : Nat) : Int) (pl ++ [shifted ⟨x, y⟩ (base xs[i])]) → l[out.length] = ⟨(i : Int), ⟨x, y⟩⟩ := by
       rintro l hn rfl
       rw [List.getElem_append_right (Nat.le_refl _)]
       simp
      exact this l hn e2
     have lm2 : Lie (shifted ⟨x, y⟩ (base xs[i])) := at_lie hs s1 (by omega) s3 (by omega)
     have nxt := ih (i + 1) (out ++ [⟨(i : Int), ⟨x, y⟩⟩]) (pl ++ [shifted ⟨x, y⟩ (base xs[i])]) (by omega) (fun q hq => by
      rcases List.mem_append.mp hq with hq | hq
      ·exact hpl q hq
      ·rw [List.mem_singleton.mp hq]; exact lm2) (by simp; omega) (by simp; omega) (by rw [e2, List.append_assoc]; rfl)
     rw [List.length_append, List.length_singleton] at nxt
     refine nd_take hn he s1 s3 (by rw [w3 x (by omega) (by omega)]; omega) (by rw [w4 y (by omega) (by omega)]; omega) ?_ lb (by unfold Bd; dsimp only; omega)
      (nd_l3 hpl lm2 (by omega) (by omega) (by omega) (tv_iff.mp s5) nxt pl.length 0 (by omega)) j
     intro g
     rw [Bool.and_eq_true] at g
     have hf := hf g.1
     rintro (c | ⟨c, c2⟩)
     ·have := s7 Y X hY0 c hX0 hf.1; rw [g.2] at this; simp at this
     ·have := s6 X hX0 c2; rw [← c, g.2] at this; simp at this
   refine rt_step (fun k => ?_) L2
   rw [j4]
  refine rt_bind b (g := fun bt k => (cracknelref04_Moved.f k xs[i] (wrap64 (-bt.1)) (wrap64 (-bt.2.1))).bind fun t => (cracknellaw04_fold.f p (wrap64 (w + 1))).bind fun t132 => (cracknellaw04_fold.f q (wrap64 (h + 1))).bind fun t133 => (if (wrap64 ((wrap64 (t132 + bt.2.2.1)) - bt.1)) ≤ w then (j4 k w h xs l pl (out.length : Int) (i : Int) t (decide ((wrap64 ((wrap64 (t133 + bt.2.2.2)) - bt.2.1)) ≤ h)) p q bt.1 bt.2.1 bt.2.2.1 bt.2.2.2 t132 t133) else (j4 k w h xs l pl (out.length : Int) (i : Int) t false p q bt.1 bt.2.1 bt.2.2.1 bt.2.2.2 t132 t133))) ?_ (fun k => by
   rw [l1, if_pos (by omega), if_pos (by omega), rd_l2 hlt])
  refine rt_bind0 mv (g := fun t k => (cracknellaw04_fold.f p (w + 1)).bind fun t132 => (cracknellaw04_fold.f q (h + 1)).bind fun t133 => (if (wrap64 ((wrap64 (t132 + (box xs[i]).2.2.1)) - (box xs[i]).1)) ≤ w then (j4 k w h xs l pl (out.length : Int) (i : Int) t (decide ((wrap64 ((wrap64 (t133 + (box xs[i]).2.2.2)) - (box xs[i]).2.1)) ≤ h)) p q (box xs[i]).1 (box xs[i]).2.1 (box xs[i]).2.2.1 (box xs[i]).2.2.2 t132 t133) else (j4 k w h xs l pl (out.length : Int) (i : Int) t false p q (box xs[i]).1 (box xs[i]).2.1 (box xs[i]).2.2.1 (box xs[i]).2.2.2 t132 t133))) ?_ (fun k => by
   rw [wz (-(box xs[i]).1) (by omega) (by omega), wz (-(box xs[i]).2.1) (by omega) (by omega), wz (w + 1) (by omega) (by omega), wz (h + 1) (by omega) (by omega)])
  rw [eX, eY]
  simp only [Option.bind_some]
  rw [w3 X (by omega) (by omega), w4 Y (by omega) (by omega)]
  by_cases c : X + wide xs[i] ≤ w
  ·simp only [if_pos c]
   exact J4 _ (fun f => by have := of_decide_eq_true f; omega)
  ·simp only [if_neg c]
   exact J4 false (fun f => by simp at f)
theorem nested_plain (a b : Int) (x : List (List S41)) (p q : Int) (ha : 0 ≤ a) (ha2 : a ≤ 255) (hb : 0 ≤ b) (hb2 : b ≤ 255) : ∃ k, f k a b x p q = some true := by
 obtain ⟨cv, hcv⟩ := code_ex
 have t1 : Int.tmod a 40 = a % 40 := Int.tmod_eq_emod_of_nonneg ha
 have t2 : Int.tmod b 40 = b % 40 := Int.tmod_eq_emod_of_nonneg hb
 have ew : wrap64 (Int.tmod (wrap64 a) 40 + 1) = a % 40 + 1 := by rw [wz a (by omega) (by omega), t1]; exact wz _ (by omega) (by omega)
 have eh : wrap64 (Int.tmod (wrap64 b) 40 + 1) = b % 40 + 1 := by rw [wz b (by omega) (by omega), t2]; exact wz _ (by omega) (by omega)
 obtain ⟨w, hw⟩ : ∃ w : Nat, (w : Int) = a % 40 + 1 := ⟨(a % 40 + 1).toNat, by omega⟩
 obtain ⟨h, hh⟩ : ∃ h : Nat, (h : Int) = b % 40 + 1 := ⟨(b % 40 + 1).toNat, by omega⟩
 obtain ⟨X, hX, eX⟩ := fold_f p (w + 1) (by omega) (by omega)
 obtain ⟨Y, hY, eY⟩ := fold_f q (h + 1) (by omega) (by omega)
 have cw : (((w + 1 : Nat)) : Int) = (w : Int) + 1 := by omega
 have ch : (((h + 1 : Nat)) : Int) = (h : Int) + 1 := by omega
 rw [cw] at eX
 rw [ch] at eY
 have J1 : ∀ xs : List (List Pt), (∀ s ∈ xs, Shp s) → xs.length ≤ 8 → Rt (fun k => j1 k (w : Int) (h : Int) xs p q) true := by
  intro xs hx hl
  have hz : errF cv xs = 0 := by
   clear hl
   induction xs with
   | nil => rfl
   | cons s t ih =>
    have hs := hx s List.mem_cons_self
    have c : cv s = 0 := (hcv s (by have := hs.len; omega)).2.2.mpr ⟨hs.nf.poly (Int.le_refl _) hs.len, hs.nf.convex⟩
    rw [errF_cons, if_pos c]
    exact ih (fun s h => hx s (List.mem_cons_of_mem _ h))
  have N := nest_run (w := (w : Int)) (h := (h : Int)) hcv (fun s hs => by have := (hx s hs).len; omega) (by omega) (by omega) (by omega) (by omega) (show xs.length ≤ 16 by omega)
  rw [hz, if_pos rfl] at N
  have ln := nestF_len (w : Int) (h : Int) xs 0 []
  have L := nd_l1 (w := (w : Int)) (h := (h : Int)) (p := p) (q := q) (l := nestF (w : Int) (h : Int) xs 0 []) hx (by omega) (by omega) (by omega) (by omega) (by omega) (X := (X : Int)) (Y := (Y : Int)) (by omega) (by omega) (by omega) (by omega) eX eY xs.length 0 [] [] (by omega) (fun q hq => absurd hq (by simp)) (by simp) (by simp) (by rw [List.drop_zero]; rfl)
  have J2 : Rt (fun k => j2 k (w : Int) (h : Int) xs (nestF (w : Int) (h : Int) xs 0 []) false p q) true := by
   refine rt_step (fun k => ?_) L
   rw [j2, if_neg (by simp)]; rfl
  refine rt_bind N (g := fun bt k => (if bt.2 = 0 then (if (bt.1.length : Int) > (xs.length : Int) then (j2 k (w : Int) (h : Int) xs bt.1 true p q) else ((cracknellaw04_lives.f k).bind fun t117 => (j2 k (w : Int) (h : Int) xs bt.1 (!t117) p q))) else (j2 k (w : Int) (h : Int) xs bt.1 true p q))) ?_ (fun k => by rw [j1])
  simp only [if_true, if_neg (show ¬ (((nestF (w : Int) (h : Int) xs 0 []).length : Int) > (xs.length : Int)) by omega)]
  exact rt_bind0 lives_rt (g := fun t k => j2 k (w : Int) (h : Int) xs (nestF (w : Int) (h : Int) xs 0 []) (!t) p q) J2 (fun k => rfl)
 have L0 : ∀ d (acc : List (List Pt)), acc.length + d = 8 → (∀ s ∈ acc, Shp s) → Rt (fun k => l0 k x (w : Int) (h : Int) acc (acc.length : Int) p q) true := by
  intro d
  induction d with
  | zero =>
   intro acc hd hs
   refine rt_step (fun k => ?_) (J1 acc hs (by omega))
   rw [l0]
   split
   ·rw [if_neg (by omega)]
   ·rfl
  | succ d ih =>
   intro acc hd hs
   by_cases hlt : acc.length < x.length
   ·obtain ⟨s, rs, hnf, hlen⟩ := law_hull_run x[acc.length] 12 (by omega) (by omega)
    have sh : Shp s := ⟨⟨hnf.ring, hnf.flat, hnf.fst, fun p hp => by have := hnf.inb p hp; unfold In at *; omega⟩, by omega⟩
    have nxt := ih (acc ++ [s]) (by simp; omega) (fun t ht => by
     rcases List.mem_append.mp ht with c | c
     ·exact hs t c
     ·rw [List.mem_singleton.mp c]; exact sh)
    refine rt_bind rs (g := fun t k => if acc.length < 5864062014805 then l0 k x (w : Int) (h : Int) (acc ++ [t]) (wrap64 ((acc.length : Int) + 1)) p q else none) ?_ (fun k => by
     rw [l0, if_pos (by omega), if_pos (by omega), if_pos (by omega), rd_l2 hlt])
    rw [wrap_succ acc.length (by omega)]
    have el : ((acc ++ [s]).length : Int) = ((acc.length + 1 : Nat) : Int) := by simp
    rw [el] at nxt
    simp only [if_pos (show acc.length < 5864062014805 by omega)]
    exact nxt
   ·refine rt_step (fun k => ?_) (J1 acc hs (by omega))
    rw [l0, if_neg (by omega)]
 obtain ⟨K, hK⟩ := L0 8 [] rfl (fun s hs => absurd hs (by simp))
 refine ⟨K, ?_⟩
 have := hK K (Nat.le_refl _)
 unfold cracknellaw04_ShapeNested.f
 rw [ew, eh, ← hw, ← hh]
 exact this
theorem nested_row (a b : Int) (ha : (Lit.int .u8 a).wf = true) (hb : (Lit.int .u8 b).wf = true) (x : List (List S41)) (p : S41) (_u : (Lit.int .i64 p.f0).wf = true) (_y : (Lit.int .i64 p.f1).wf = true) : ∃ k, f k a b x p.f0 p.f1 = some true := by
 have h1 : 0 ≤ a ∧ a ≤ 255 := by
  have e1 : IntKind.u8.min = 0 := by decide
  have e2 : IntKind.u8.max = 255 := by decide
  simp [Lit.wf, e1, e2] at ha; omega
 have h2 : 0 ≤ b ∧ b ≤ 255 := by
  have e1 : IntKind.u8.min = 0 := by decide
  have e2 : IntKind.u8.max = 255 := by decide
  simp [Lit.wf, e1, e2] at hb; omega
 exact nested_plain a b x p.f0 p.f1 h1.1 h1.2 h2.1 h2.2
end Go.Proofs.Ythehmkpcddafnaa.M
end
