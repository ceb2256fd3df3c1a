/- Parts of the proof of YtoffmpkgickfhaaLawShapeMinkowski: printed walks, their words, and plain laws. -/
import Derived.Test.YtoffmpkgickfhaaQM1
import Derived.Test.YtoffmpkgickfhaaQM3
import Derived.Test.YtoffmpkgickfhaaQM2
import Derived.Test.YtoffmpkgickfhaaQM4
import Derived.Test.YtoffmpkgickfhaaQM5
section
namespace Go.Proofs.Ytoffmpkgickfhaa.M
open Go.Proofs.Ytoffmpkgickfhaa.PG
abbrev Pt := S29
instance decS29 : DecidableEq S29 := fun a b => if h : a.f0 = b.f0 ∧ a.f1 = b.f1 then isTrue (by cases a; cases b; simp_all) else isFalse (by intro e; exact h (by rw [e]; exact ⟨rfl, rfl⟩))
def cr (a b c : Pt) : Int := (b.f0-a.f0)*(c.f1-a.f1) - (c.f0-a.f0)*(b.f1-a.f1)
/-- p lies on the segment from a to b (for collinear points) -/
def btw (a b p : Pt) : Prop := min a.f0 b.f0 ≤ p.f0 ∧ p.f0 ≤ max a.f0 b.f0 ∧ min a.f1 b.f1 ≤ p.f1 ∧ p.f1 ≤ max a.f1 b.f1
theorem pt_ext {a b : Pt} (h0 : a.f0 = b.f0) (h1 : a.f1 = b.f1) : a = b := by
 cases a; cases b; simp_all
theorem cr_swap (a b c : Pt) : cr a c b = -(cr a b c) := by unfold cr; grind
theorem cr_rot (a b c : Pt) : cr b c a = cr a b c := by unfold cr; grind
theorem cr_self1 (a b : Pt) : cr a b a = 0 := by unfold cr; grind
theorem cr_self2 (a b : Pt) : cr a b b = 0 := by unfold cr; grind
/-- a hull edge of the points S: all lie to its left, or on it -/
def HE (S : List Pt) (a b : Pt) : Prop := a ≠ b ∧ a ∈ S ∧ b ∈ S ∧ ∀ p ∈ S, 0 ≤ cr a b p ∧ (cr a b p = 0 → btw a b p)
theorem btw_eq {a b c : Pt} (h1 : btw a b c) (h2 : btw a c b) : b = c := by
 unfold btw at h1 h2
 apply pt_ext <;> omega
theorem btw_eq' {a b c : Pt} (h1 : btw a c b) (h2 : btw b c a) : a = b := by
 unfold btw at h1 h2
 apply pt_ext <;> omega
theorem he_succ {S : List Pt} {a b c : Pt} (h1 : HE S a b) (h2 : HE S a c) : b = c := by
 obtain ⟨_, _, hb, hB⟩ := h1
 obtain ⟨_, _, hc, hC⟩ := h2
 have h3 := hB c hc
 have h4 := hC b hb
 have h5 := cr_swap a b c
 exact btw_eq (h3.2 (by omega)) (h4.2 (by omega))
theorem he_pred {S : List Pt} {a b c : Pt} (h1 : HE S a c) (h2 : HE S b c) : a = b := by
 obtain ⟨_, ha, _, hA⟩ := h1
 obtain ⟨_, hb, _, hB⟩ := h2
 have h3 := hA b hb
 have h4 := hB a ha
 have h5 : cr b c a = -(cr a c b) := by unfold cr; grind
 exact btw_eq' (h3.2 (by omega)) (h4.2 (by omega))
/-- a linear functional -/
def fn (p q : Int) (a b : Pt) : Int := p * (b.f0 - a.f0) + q * (b.f1 - a.f1)
theorem pos_of_mul {a b : Int} (ha : 0 < a) (h : 0 < a * b) : 0 < b := by
 rcases Int.lt_trichotomy b 0 with h1 | h1 | h1
 ·have := Int.mul_neg_of_pos_of_neg ha h1; omega
 ·subst h1; simp at h
 ·exact h1
theorem nonneg_of_mul {a b : Int} (ha : 0 < a) (h : 0 ≤ a * b) : 0 ≤ b := by
 rcases Int.lt_trichotomy b 0 with h1 | h1 | h1
 ·have := Int.mul_neg_of_pos_of_neg ha h1; omega
 ·omega
 ·omega
/-- around o, in the half plane fn > 0: 'left of' is transitive -/
theorem tr {p q : Int} {o u v w : Pt} (hu : 0 < fn p q o u) (hv : 0 < fn p q o v) (hw : 0 < fn p q o w)
  (h1 : 0 ≤ cr o u v) (h2 : 0 ≤ cr o v w) : 0 ≤ cr o u w ∧ (0 < cr o u v ∨ 0 < cr o v w → 0 < cr o u w) := by
 have e : fn p q o v * cr o u w = fn p q o u * cr o v w + fn p q o w * cr o u v := by unfold fn cr; grind
 have a1 := Int.mul_nonneg (Int.le_of_lt hu) h2
 have a2 := Int.mul_nonneg (Int.le_of_lt hw) h1
 constructor
 ·exact nonneg_of_mul hv (by omega)
 ·intro h
  apply pos_of_mul hv
  rcases h with h | h
  ·have := Int.mul_pos hw h; omega
  ·have := Int.mul_pos hu h; omega
theorem le_of_mul_le {a b c : Int} (ha : 0 < a) (h : a * b ≤ a * c) : b ≤ c := Int.le_of_mul_le_mul_left h ha
/-- collinear, and between by a functional: between -/
theorem btw_of_fn {p q : Int} {a b c : Pt} (hb : 0 < fn p q a b) (h0 : 0 ≤ fn p q a c) (h1 : fn p q a c ≤ fn p q a b) (h : cr a b c = 0) : btw a b c := by
 have e0 : fn p q a b * (c.f0 - a.f0) = fn p q a c * (b.f0 - a.f0) := by unfold fn; unfold cr at h; grind
 have e1 : fn p q a b * (c.f1 - a.f1) = fn p q a c * (b.f1 - a.f1) := by unfold fn; unfold cr at h; grind
 have key : ∀ x y : Int, fn p q a b * x = fn p q a c * y → (0 ≤ y → 0 ≤ x ∧ x ≤ y) ∧ (y ≤ 0 → y ≤ x ∧ x ≤ 0) := by
  intro x y e
  constructor
  ·intro hy
   have m1 := Int.mul_nonneg h0 hy
   have m2 := Int.mul_le_mul_of_nonneg_right h1 hy
   exact ⟨nonneg_of_mul hb (by omega), le_of_mul_le hb (by omega)⟩
  ·intro hy
   have m1 := Int.mul_nonneg h0 (show 0 ≤ -y by omega)
   have m2 := Int.mul_le_mul_of_nonneg_right h1 (show 0 ≤ -y by omega)
   rw [Int.mul_neg] at m1 m2
   rw [Int.mul_neg] at m2
   exact ⟨le_of_mul_le hb (by omega), le_of_mul_le hb (by omega)⟩
 have k0 := key _ _ e0
 have k1 := key _ _ e1
 unfold btw
 omega
theorem fn_add (p q : Int) (a b c : Pt) : fn p q a c = fn p q a b + fn p q b c := by unfold fn; grind
theorem fn_neg (p q : Int) (a b : Pt) : fn p q b a = - fn p q a b := by unfold fn; grind
theorem fn_btw_le {p q : Int} {a b c : Pt} (h : btw a b c) (hc : cr a b c = 0) (hb : 0 < fn p q a b) : 0 ≤ fn p q a c ∧ fn p q a c ≤ fn p q a b := by
 unfold btw at h
 -- c = a + t (b - a), t in [0,1], coordinate by coordinate
 have e0 : fn p q a b * (c.f0 - a.f0) = fn p q a c * (b.f0 - a.f0) := by unfold fn; unfold cr at hc; grind
 have e1 : fn p q a b * (c.f1 - a.f1) = fn p q a c * (b.f1 - a.f1) := by unfold fn; unfold cr at hc; grind
 have hne : b.f0 - a.f0 ≠ 0 ∨ b.f1 - a.f1 ≠ 0 := by
  rcases Int.decEq (b.f0 - a.f0) 0 with h | h
  ·exact .inl h
  ·rcases Int.decEq (b.f1 - a.f1) 0 with h' | h'
   ·exact .inr h'
   ·unfold fn at hb; rw [h, h'] at hb; simp at hb
 have key : ∀ x y : Int, fn p q a b * x = fn p q a c * y → y ≠ 0 → (0 ≤ y → 0 ≤ x ∧ x ≤ y) → (y ≤ 0 → y ≤ x ∧ x ≤ 0) → 0 ≤ fn p q a c ∧ fn p q a c ≤ fn p q a b := by
  intro x y e hy h1 h2
  rcases Int.lt_trichotomy y 0 with h3 | h3 | h3
  ·have h4 := h2 (by omega)
   have m1 := Int.mul_nonneg (Int.le_of_lt hb) (show 0 ≤ -x by omega)
   have m2 := Int.mul_nonneg (Int.le_of_lt hb) (show 0 ≤ x - y by omega)
   rw [Int.mul_neg] at m1
   rw [Int.mul_sub] at m2
   constructor
   ·apply nonneg_of_mul (show 0 < -y by omega)
    rw [Int.neg_mul, Int.mul_comm]; omega
   ·apply le_of_mul_le (show 0 < -y by omega)
    rw [Int.neg_mul, Int.neg_mul, Int.mul_comm y, Int.mul_comm y]; omega
  ·exact absurd h3 hy
  ·have h4 := h1 (by omega)
   have m1 := Int.mul_nonneg (Int.le_of_lt hb) (show 0 ≤ x by omega)
   have m2 := Int.mul_nonneg (Int.le_of_lt hb) (show 0 ≤ y - x by omega)
   rw [Int.mul_sub] at m2
   constructor
   ·apply nonneg_of_mul h3
    rw [Int.mul_comm]; omega
   ·apply le_of_mul_le h3
    rw [Int.mul_comm y, Int.mul_comm y]; omega
 rcases hne with h' | h'
 ·exact key _ _ e0 h' (by omega) (by omega)
 ·exact key _ _ e1 h' (by omega) (by omega)
/-- R holds of each two that follow each other -/
def Pairs (R : Pt → Pt → Prop) : List Pt → Prop
 | [] => True
 | [_] => True
 | a :: b :: l => R a b ∧ Pairs R (b :: l)
theorem Pairs.mono {R R' : Pt → Pt → Prop} (h : ∀ a b, R a b → R' a b) : ∀ l, Pairs R l → Pairs R' l
 | [], _ => trivial
 | [_], _ => trivial
 | _ :: b :: l, ⟨h1, h2⟩ => ⟨h _ _ h1, Pairs.mono h (b :: l) h2⟩
theorem Pairs.append {R : Pt → Pt → Prop} {m : Pt} : ∀ (l l' : List Pt), Pairs R (l ++ [m]) → Pairs R (m :: l') → Pairs R (l ++ m :: l')
 | [], _, _, h => h
 | [_], _, ⟨h1, _⟩, h => ⟨h1, h⟩
 | _ :: b :: l, l', ⟨h1, h2⟩, h => ⟨h1, Pairs.append (b :: l) l' h2 h⟩
theorem Pairs.tail {R : Pt → Pt → Prop} {a : Pt} {l : List Pt} (h : Pairs R (a :: l)) : Pairs R l := by
 cases l with
 | nil => trivial
 | cons b l => exact h.2
theorem Pairs.left {R : Pt → Pt → Prop} : ∀ (l l' : List Pt), Pairs R (l ++ l') → Pairs R l
 | [], _, _ => trivial
 | [_], _, _ => trivial
 | _ :: b :: l, l', ⟨h1, h2⟩ => ⟨h1, Pairs.left (b :: l) l' h2⟩
theorem Pairs.right {R : Pt → Pt → Prop} : ∀ (l l' : List Pt), Pairs R (l ++ l') → Pairs R l'
 | [], _, h => h
 | _ :: l, l', h => Pairs.right l l' h.tail
theorem Pairs.at_ {R : Pt → Pt → Prop} {a b : Pt} {l l' : List Pt} (h : Pairs R (l ++ a :: b :: l')) : R a b := (Pairs.right l _ h).1
/-- two ways in a functional relation, from x on to the first a -/
theorem ways_eq {R : Pt → Pt → Prop} (hf : ∀ a b c, R a b → R a c → b = c) (a : Pt) : ∀ (x : Pt) (t t' : List Pt), Pairs R (x :: (t ++ [a])) → Pairs R (x :: (t' ++ [a])) → a ∉ t → a ∉ t' → t = t'
 | _, [], [], _, _, _, _ => rfl
 | _, [], y :: _, h, h', _, n' => absurd (hf _ _ _ h.1 h'.1) (fun e => n' (by simp [e]))
 | _, z :: _, [], h, h', n, _ => absurd (hf _ _ _ h.1 h'.1) (fun e => n (by simp [e]))
 | _, z :: t, y :: t', h, h', n, n' => by
  obtain rfl := hf _ _ _ h.1 h'.1
  rw [ways_eq hf a z t t' h.2 h'.2 (fun e => n (by simp [e])) (fun e => n' (by simp [e]))]
/-- a closed way of hull edges from a on, that comes to a at its end alone -/
def Ring (S : List Pt) (h : List Pt) : Prop := ∃ a t, h = a :: t ∧ a ∉ t ∧ Pairs (HE S) (a :: (t ++ [a]))
theorem ring_eq {S h h' : List Pt} (r : Ring S h) (r' : Ring S h') (e : h.head? = h'.head?) : h = h' := by
 obtain ⟨a, t, rfl, n, p⟩ := r
 obtain ⟨a', t', rfl, n', p'⟩ := r'
 obtain rfl : a = a' := by simpa using e
 rw [ways_eq (R := HE S) (fun _ _ _ => he_succ) a a t t' p p' n n']
/-! ### the chain (Andrew) -/
/-- what the loop takes off: the stack, its top first -/
def pop (p : Pt) : List Pt → List Pt
 | t :: s :: r => if cr s t p ≤ 0 then pop p (s :: r) else t :: s :: r
 | l => l
def push (st : List Pt) (p : Pt) : List Pt := p :: pop p st
def chain (l : List Pt) : List Pt := (l.foldl push []).reverse
section
variable (p q : Int)
/-- a stack over the points S: hull edges, rising from o on -/
def Stk (S : List Pt) (o : Pt) : List Pt → Prop
 | [] => False
 | [a] => a = o
 | t :: s :: r => 0 < fn p q s t ∧ HE S s t ∧ Stk S o (s :: r)
def Rises (S : List Pt) (o : Pt) : Prop := o ∈ S ∧ (∀ a ∈ S, a = o ∨ 0 < fn p q o a) ∧ ∀ a ∈ S, ∀ b ∈ S, fn p q a b = 0 → a = b
theorem stk_mem {S : List Pt} {o : Pt} (ho : o ∈ S) : ∀ {st : List Pt}, Stk p q S o st → ∀ a ∈ st, a ∈ S
 | [a], h, b, hb => by simp at hb; subst hb; rw [show b = o from h]; exact ho
 | t :: s :: r, h, b, hb => by
  rcases List.mem_cons.mp hb with rfl | hb
  ·exact h.2.1.2.2.1
  ·exact stk_mem ho h.2.2 b hb
/-- what is known of the stack's top while points are taken off for x -/
def Top (S : List Pt) (x : Pt) : List Pt → Prop
 | [] => False
 | t :: _ => ∀ b ∈ S, 0 < fn p q t b → 0 ≤ cr t x b ∧ (cr t x b = 0 → btw t x b)
theorem pop_ok {S : List Pt} {o x : Pt} (hS : Rises p q S o) (hx : ∀ a ∈ S, 0 < fn p q a x) :
  ∀ (st : List Pt), Stk p q S o st → Top p q S x st → Stk p q S o (pop x st) ∧ Top p q S x (pop x st) ∧ (∀ t s r, pop x st = t :: s :: r → 0 < cr s t x)
 | [], h, _ => h.elim
 | [a], h, ht => ⟨h, ht, by intro t s r e; simp [pop] at e⟩
 | t :: s :: r, h, ht => by
  unfold pop
  split
  ·rename_i hle
   apply pop_ok hS hx (s :: r) h.2.2
   intro b hb hsb
   obtain ⟨hst, hne, _⟩ := h
   have he := hne.2.2.2 b hb
   have hsm : s ∈ S := hne.2.1
   have h1 : 0 ≤ cr s x t := by rw [cr_swap]; omega
   have := tr (hx s hsm) hst hsb h1 he.1
   refine ⟨this.1, fun h0 => ?_⟩
   have a1 : cr s x t = 0 := by
    rcases Int.lt_trichotomy 0 (cr s x t) with h2 | h2 | h2
    ·have := this.2 (.inl h2); omega
    ·exact h2.symm
    ·omega
   refine btw_of_fn (hx s hsm) (Int.le_of_lt hsb) ?_ h0
   rw [fn_add p q s b x]; have := hx b hb; omega
  ·rename_i hgt
   refine ⟨h, ht, ?_⟩
   intro t' s' r' e
   simp only [List.cons.injEq] at e
   obtain ⟨rfl, rfl, _⟩ := e
   omega
theorem left_all {S : List Pt} {o x : Pt} (hx : ∀ a ∈ S, 0 < fn p q a x) :
  ∀ (st : List Pt), Stk p q S o st → (∀ t s r, st = t :: s :: r → 0 < cr s t x) → Stk p q (S ++ [x]) o st
 | [], h, _ => h.elim
 | [a], h, _ => h
 | t :: s :: r, h, hc => by
  obtain ⟨hst, hne, hr⟩ := h
  have c1 := hc t s r rfl
  refine ⟨hst, ⟨hne.1, by simp [hne.2.1], by simp [hne.2.2.1], ?_⟩, left_all hx (s :: r) hr ?_⟩
  ·intro b hb
   rcases List.mem_append.mp hb with hb | hb
   ·exact hne.2.2.2 b hb
   ·simp at hb; subst hb
    exact ⟨by omega, fun h => by omega⟩
  ·intro s' u r' e
   simp only [List.cons.injEq] at e
   obtain ⟨rfl, rfl⟩ := e
   obtain ⟨hus, hue, _⟩ := hr
   have d0 := hue.2.2.2 t hne.2.2.1
   have d1 : 0 < cr u s t := by
    rcases Int.lt_trichotomy 0 (cr u s t) with h2 | h2 | h2
    ·exact h2
    ·have := (fn_btw_le (d0.2 h2.symm) h2.symm hus).2
     rw [fn_add p q u s t] at this; omega
    ·omega
   -- directions: s - u, t - s, x - s
   have e1 : cr u s x = cr u s ⟨s.f0 + (x.f0 - s.f0), s.f1 + (x.f1 - s.f1)⟩ := by unfold cr; grind
   let o' : Pt := ⟨0, 0⟩
   let du : Pt := ⟨s.f0 - u.f0, s.f1 - u.f1⟩
   let dv : Pt := ⟨t.f0 - s.f0, t.f1 - s.f1⟩
   let dw : Pt := ⟨x.f0 - s.f0, x.f1 - s.f1⟩
   have g1 : fn p q o' du = fn p q u s := by simp only [fn, o', du]; grind
   have g2 : fn p q o' dv = fn p q s t := by simp only [fn, o', dv]; grind
   have g3 : fn p q o' dw = fn p q s x := by simp only [fn, o', dw]; grind
   have c2 : cr o' du dv = cr u s t := by simp only [cr, o', du, dv]; grind
   have c3 : cr o' dv dw = cr s t x := by simp only [cr, o', dv, dw]; grind
   have c4 : cr o' du dw = cr u s x := by simp only [cr, o', du, dw]; grind
   have := tr (p := p) (q := q) (o := o') (u := du) (v := dv) (w := dw) (by omega) (by omega) (by rw [g3]; exact hx s hne.2.1) (by omega) (by omega)
   have := this.2 (.inl (by omega))
   omega
theorem push_ok {S : List Pt} {o x : Pt} (hS : Rises p q S o) (hx : ∀ a ∈ S, 0 < fn p q a x) (st : List Pt) (h : Stk p q S o st)
  (ht : ∀ t r, st = t :: r → ∀ b ∈ S, fn p q t b ≤ 0) : Stk p q (S ++ [x]) o (push st x) := by
 have hT : Top p q S x st := by
  match st, h, ht with
  | t :: r, _, ht => intro b hb hp; have := ht t r rfl b hb; omega
 obtain ⟨h1, h2, h3⟩ := pop_ok p q hS hx st h hT
 have h4 := left_all p q hx _ h1 h3
 unfold push
 generalize pop x st = st' at *
 match st', h1, h2, h3, h4 with
 | t :: r, h1, h2, h3, h4 =>
  have htm : t ∈ S := stk_mem p q hS.1 h1 t (by simp)
  refine ⟨hx t htm, ⟨?_, by simp [htm], by simp, ?_⟩, h4⟩
  ·intro e; have := hx t htm; rw [e] at this; simp [fn] at this
  ·intro b hb
   rcases List.mem_append.mp hb with hb | hb
   ·rcases Int.lt_trichotomy 0 (fn p q t b) with h5 | h5 | h5
    ·exact h2 b hb h5
    ·obtain rfl := hS.2.2 t htm b hb h5.symm
     rw [cr_self1]; refine ⟨by omega, fun _ => ?_⟩; unfold btw; omega
    ·-- b lies before t
     match r, h1, h3 with
     | [], h1, _ =>
      rw [show t = o from h1] at h5
      rcases hS.2.1 b hb with rfl | h6
      ·simp [fn] at h5
      ·omega
     | s :: r', h1, h3 =>
      obtain ⟨hst, hne, _⟩ := h1
      have c1 := h3 t s r' rfl
      have c2 := (hne.2.2.2 b hb).1
      let o' : Pt := ⟨0, 0⟩
      let du : Pt := ⟨t.f0 - b.f0, t.f1 - b.f1⟩
      let dv : Pt := ⟨t.f0 - s.f0, t.f1 - s.f1⟩
      let dw : Pt := ⟨x.f0 - t.f0, x.f1 - t.f1⟩
      have g1 : fn p q o' du = - fn p q t b := by simp only [fn, o', du]; grind
      have g2 : fn p q o' dv = fn p q s t := by simp only [fn, o', dv]; grind
      have g3 : fn p q o' dw = fn p q t x := by simp only [fn, o', dw]; grind
      have k2 : cr o' du dv = cr s t b := by simp only [cr, o', du, dv]; grind
      have k3 : cr o' dv dw = cr s t x := by simp only [cr, o', dv, dw]; grind
      have k4 : cr o' du dw = cr t x b := by simp only [cr, o', du, dw]; grind
      have := tr (p := p) (q := q) (o := o') (u := du) (v := dv) (w := dw) (by omega) (by omega) (by rw [g3]; exact hx t htm) (by omega) (by omega)
      have := this.2 (.inr (by omega))
      exact ⟨by omega, fun h => by omega⟩
   ·simp at hb; subst hb
    rw [cr_self2]; refine ⟨by omega, fun _ => ?_⟩; unfold btw; omega
/-- strictly rising lists -/
def Up : List Pt → Prop
 | [] => True
 | a :: l => (∀ b ∈ l, 0 < fn p q a b) ∧ Up l
theorem up_append {l : List Pt} {x : Pt} : Up p q (l ++ [x]) → Up p q l ∧ ∀ a ∈ l, 0 < fn p q a x := by
 induction l with
 | nil => intro _; exact ⟨trivial, by simp⟩
 | cons a l ih =>
  intro h
  obtain ⟨h1, h2⟩ := ih h.2
  refine ⟨⟨fun b hb => h.1 b (by simp [hb]), h1⟩, ?_⟩
  intro b hb
  rcases List.mem_cons.mp hb with rfl | hb
  ·exact h.1 x (by simp)
  ·exact h2 b hb
theorem up_rises {o : Pt} {l : List Pt} (h : Up p q (o :: l)) : Rises p q (o :: l) o := by
 refine ⟨by simp, ?_, ?_⟩
 ·intro a ha
  rcases List.mem_cons.mp ha with rfl | ha
  ·exact .inl rfl
  ·exact .inr (h.1 a ha)
 ·intro a ha b hb e
  have : ∀ l : List Pt, Up p q l → ∀ a ∈ l, ∀ b ∈ l, fn p q a b = 0 → a = b := by
   intro l
   induction l with
   | nil => intro _ a ha; simp at ha
   | cons c l ih =>
    intro h a ha b hb e
    rcases List.mem_cons.mp ha with h1 | h1 <;> rcases List.mem_cons.mp hb with h2 | h2
    ·rw [h1, h2]
    ·subst h1; have := h.1 b h2; omega
    ·subst h2; have := h.1 a h1; rw [fn_neg] at this; omega
    ·exact ih h.2 a h1 b h2 e
  exact this _ h a ha b hb e
theorem chain_stk (o : Pt) (l : List Pt) (h : Up p q (o :: l)) : Stk p q (o :: l) o ((o :: l).foldl push []) ∧ ((o :: l).foldl push []).head? = (o :: l).getLast? := by
 -- by the last element
 suffices H : ∀ n (l : List Pt), l.length = n → Up p q (o :: l) → Stk p q (o :: l) o ((o :: l).foldl push []) ∧ ((o :: l).foldl push []).head? = (o :: l).getLast? from H _ l rfl h
 intro n
 induction n with
 | zero =>
  intro l hl _
  obtain rfl := List.eq_nil_of_length_eq_zero hl
  exact ⟨rfl, rfl⟩
 | succ n ih =>
  intro l hl hu
  have hne : l ≠ [] := by intro e; subst e; simp at hl
  obtain ⟨l', x, rfl⟩ : ∃ l' x, l = l' ++ [x] := ⟨l.dropLast, l.getLast hne, (List.dropLast_concat_getLast hne).symm⟩
  have hu' := up_append p q (l := o :: l') (x := x) (by simpa using hu)
  obtain ⟨h1, h2⟩ := ih l' (by simp at hl; omega) hu'.1
  rw [← List.cons_append, List.foldl_append]
  simp only [List.foldl_cons, List.foldl_nil]
  refine ⟨?_, by rw [List.getLast?_concat]; rfl⟩
  apply push_ok p q (up_rises p q hu'.1) hu'.2 _ h1
  intro t r e b hb
  have e2 : (o :: l').getLast? = some t := by rw [← h2]; simp only [List.foldl_cons] at e ⊢; rw [e]; rfl
  -- t is the last of them
  have : ∀ (l : List Pt), Up p q l → l.getLast? = some t → ∀ b ∈ l, fn p q t b ≤ 0 := by
   intro l
   induction l with
   | nil => intro _ _ b hb; simp at hb
   | cons c l ih =>
    intro hu e b hb
    cases l with
    | nil => simp at e hb; subst e; subst hb; simp [fn]
    | cons d l =>
     have e' : (d :: l).getLast? = some t := by simpa using e
     rcases List.mem_cons.mp hb with h1 | h1
     ·have := hu.1 t (List.mem_of_getLast? e'); subst h1; rw [fn_neg]; omega
     ·exact ih hu.2 e' b h1
  exact this _ hu'.1 e2 b hb
end
section
variable (p q : Int)
theorem stk_pairs {S : List Pt} {o : Pt} : ∀ {st : List Pt}, Stk p q S o st → Pairs (fun a b => HE S a b ∧ 0 < fn p q a b) st.reverse ∧ st.reverse.head? = some o
 | [a], h => by have e : a = o := h; subst e; exact ⟨trivial, rfl⟩
 | t :: s :: r, h => by
  obtain ⟨h1, h2⟩ := stk_pairs (st := s :: r) h.2.2
  rw [List.reverse_cons] at h1 h2
  rw [List.reverse_cons, List.reverse_cons]
  refine ⟨?_, ?_⟩
  ·rw [List.append_assoc]
   exact Pairs.append r.reverse [t] h1 ⟨⟨h.2.1, h.1⟩, trivial⟩
  ·rw [List.head?_append, h2]; rfl
/-- the chain over strictly rising points: hull edges, from the first one to the last one, rising -/
theorem chain_ok (o : Pt) (l : List Pt) (h : Up p q (o :: l)) :
  Pairs (fun a b => HE (o :: l) a b ∧ 0 < fn p q a b) (chain (o :: l)) ∧ (chain (o :: l)).head? = some o ∧ (chain (o :: l)).getLast? = (o :: l).getLast? := by
 obtain ⟨h1, h2⟩ := chain_stk p q o l h
 obtain ⟨h3, h4⟩ := stk_pairs p q h1
 exact ⟨h3, h4, by unfold chain; rw [List.getLast?_reverse, h2]⟩
end
theorem pairs_up {p q : Int} : ∀ (l : List Pt), Pairs (fun a b => 0 < fn p q a b) l → Up p q l
 | [], _ => trivial
 | [a], _ => ⟨by simp, trivial⟩
 | a :: b :: l, h => by
  have h2 := pairs_up (b :: l) h.2
  refine ⟨?_, h2⟩
  intro c hc
  rcases List.mem_cons.mp hc with rfl | hc
  ·exact h.1
  ·have := h2.1 c hc; have := h.1; rw [fn_add p q a b c]; omega
theorem he_congr {S S' : List Pt} (h : ∀ a, a ∈ S ↔ a ∈ S') {a b : Pt} (he : HE S a b) : HE S' a b :=
 ⟨he.1, (h _).1 he.2.1, (h _).1 he.2.2.1, fun c hc => he.2.2.2 c ((h _).2 hc)⟩
/-- a point of a way that is not the last one has one that follows -/
theorem has_next {R : Pt → Pt → Prop} {v : Pt} : ∀ (l : List Pt), Pairs R l → v ∈ l.dropLast → ∃ w, R v w
 | [], _, h => by simp at h
 | [_], _, h => by simp at h
 | a :: b :: l, h, hv => by
  rw [List.dropLast_cons_cons] at hv
  rcases List.mem_cons.mp hv with rfl | hv
  ·exact ⟨b, h.1⟩
  ·exact has_next (b :: l) h.2 hv
/-- Andrew's hull: the lower chain, the upper chain, each without its last point -/
def andrew (l : List Pt) : List Pt := (chain l).dropLast ++ (chain l.reverse).dropLast
theorem up_neg {p q : Int} : ∀ (l : List Pt), Up p q l → Up (-p) (-q) l.reverse := by
 intro l
 suffices H : ∀ l m : List Pt, Up p q l → Up (-p) (-q) m → (∀ a ∈ l, ∀ b ∈ m, 0 < fn p q b a) → Up (-p) (-q) (l.reverse ++ m) by
  intro h; have := H l [] h trivial (by simp); simpa using this
 intro l
 induction l with
 | nil => intro m _ h _; exact h
 | cons a l ih =>
  intro m h hm hb
  rw [List.reverse_cons, List.append_assoc]
  apply ih _ h.2
  ·refine ⟨?_, hm⟩
   intro b hb'
   have := hb a (by simp) b (by simpa using hb')
   rw [fn_neg] at this
   unfold fn at this ⊢; grind
  ·intro c hc b hb'
   rcases List.mem_cons.mp hb' with rfl | hb'
   ·exact h.1 c hc
   ·exact hb c (by simp [hc]) b (by simpa using hb')
theorem andrew_ring (p q : Int) (l : List Pt) (h : Up p q l) (h2 : ∃ a b, a ∈ l ∧ b ∈ l ∧ a ≠ b) : Ring l (andrew l) := by
 match l, h, h2 with
 | o :: l, h, h2 =>
  obtain ⟨c1, c2, c3⟩ := chain_ok p q o l h
  have hr := up_neg _ h
  obtain ⟨z, m, e⟩ : ∃ z m, (o :: l).reverse = z :: m := by
   match hh : (o :: l).reverse with
   | [] => simp at hh
   | z :: m => exact ⟨z, m, rfl⟩
  rw [e] at hr
  obtain ⟨d1, d2, d3⟩ := chain_ok (-p) (-q) z m hr
  have hz : (o :: l).getLast? = some z := by rw [← List.head?_reverse, e]; rfl
  have ho : (z :: m).getLast? = some o := by rw [← e, List.getLast?_reverse]; rfl
  rw [hz] at c3
  rw [ho] at d3
  have hmem : ∀ a, a ∈ z :: m ↔ a ∈ o :: l := by intro a; rw [← e, List.mem_reverse]
  have d1' : Pairs (fun a b => HE (o :: l) a b ∧ 0 < fn (-p) (-q) a b) (chain (z :: m)) := Pairs.mono (fun a b h => ⟨he_congr hmem h.1, h.2⟩) _ d1
  -- o is not z
  have hne : o ≠ z := by
   rintro rfl
   have hall : ∀ a ∈ o :: l, a = o := by
    intro a ha
    rcases (up_rises p q h).2.1 a ha with h3 | h3
    ·exact h3
    ·rcases (up_rises _ _ hr).2.1 a ((hmem a).2 ha) with h4 | h4
     ·exact h4
     ·unfold fn at h3 h4; grind
   obtain ⟨a, b, ha, hb, hab⟩ := h2
   exact hab ((hall a ha).trans (hall b hb).symm)
  unfold andrew
  rw [e]
  -- the two chains, written out
  obtain ⟨lo, hlo⟩ : ∃ lo, chain (o :: l) = o :: lo ++ [z] := by
   match hc : chain (o :: l), c2, c3 with
   | [a], c2, c3 => simp at c2 c3; exact absurd (c2.symm.trans c3) hne
   | a :: b :: r, c2, c3 =>
    simp only [List.head?_cons, Option.some.injEq] at c2
    subst c2
    refine ⟨(b :: r).dropLast, ?_⟩
    rw [hc] at c3
    have e3 : (b :: r).getLast (by simp) = z := by
     rw [List.getLast?_cons_cons, List.getLast?_eq_some_getLast (by simp)] at c3; simpa using c3
    rw [List.cons_append, ← e3, List.dropLast_concat_getLast]
  obtain ⟨up, hup⟩ : ∃ up, chain (z :: m) = z :: up ++ [o] := by
   match hc : chain (z :: m), d2, d3 with
   | [a], c2, c3 => simp at c2 c3; exact absurd (c3.symm.trans c2) hne
   | a :: b :: r, c2, c3 =>
    simp only [List.head?_cons, Option.some.injEq] at c2
    subst c2
    refine ⟨(b :: r).dropLast, ?_⟩
    rw [hc] at d3
    have e3 : (b :: r).getLast (by simp) = o := by
     rw [List.getLast?_cons_cons, List.getLast?_eq_some_getLast (by simp)] at d3; simpa using d3
    rw [List.cons_append, ← e3, List.dropLast_concat_getLast]
  rw [hlo] at c1 ⊢
  rw [hup] at d1' ⊢
  rw [List.dropLast_concat, List.dropLast_concat]
  have uplo := pairs_up _ (Pairs.mono (fun a b h => h.2) _ c1)
  have upup := pairs_up _ (Pairs.mono (fun a b h => h.2) _ d1')
  refine ⟨o, lo ++ z :: up, rfl, ?_, ?_⟩
  ·intro hm
   rcases List.mem_append.mp hm with hm | hm
   ·have := uplo.1 o (by simp [hm]); simp [fn] at this
   ·-- o in the upper chain, ahead of its end
    have : ∀ (r : List Pt), Up (-p) (-q) (r ++ [o]) → o ∉ r := fun r hu hm => by
     have := (up_append _ _ hu).2 o hm; simp [fn] at this
    exact this (z :: up) upup hm
  ·have g1 := Pairs.mono (R' := HE (o :: l)) (fun a b h => h.1) _ c1
   have g2 := Pairs.mono (R' := HE (o :: l)) (fun a b h => h.1) _ d1'
   have := Pairs.append (o :: lo) (up ++ [o]) (by simpa using g1) (by simpa using g2)
   simpa using this
/-! ### going round (gift wrapping) -/
instance (a b c : Pt) : Decidable (btw a b c) := by unfold btw; infer_instance
/-- one step of the inner loop -/
def wrapStep (o tq p : Pt) : Pt := if p = o then tq else if tq = o ∨ cr o tq p < 0 ∨ (cr o tq p = 0 ∧ cr o p tq = 0 ∧ btw o p tq) then p else tq
def wrap (S : List Pt) (o : Pt) : Pt := S.foldl (wrapStep o) o
/-- what the inner loop has found among T -/
def Found (T : List Pt) (o tq : Pt) : Prop := (tq = o ∧ ∀ t ∈ T, t = o) ∨ (tq ≠ o ∧ tq ∈ T ∧ ∀ t ∈ T, 0 ≤ cr o tq t ∧ (cr o tq t = 0 → btw o tq t))
theorem btw_end (o a : Pt) : btw o a a := by unfold btw; omega
theorem btw_start (o a : Pt) : btw o a o := by unfold btw; omega
theorem step_ok {p q : Int} {T : List Pt} {o tq x : Pt} (hT : ∀ t ∈ T ++ [x], t = o ∨ 0 < fn p q o t) (h : Found T o tq) : Found (T ++ [x]) o (wrapStep o tq x) := by
 unfold wrapStep
 split
 ·rename_i hx
  subst hx
  rcases h with ⟨rfl, h⟩ | ⟨h1, h2, h3⟩
  ·exact .inl ⟨rfl, by intro t ht; rcases List.mem_append.mp ht with ht | ht; exact h t ht; simpa using ht⟩
  ·refine .inr ⟨h1, by simp [h2], ?_⟩
   intro t ht
   rcases List.mem_append.mp ht with ht | ht
   ·exact h3 t ht
   ·simp at ht; subst ht; rw [cr_self1]; exact ⟨by omega, fun _ => btw_start _ _⟩
 ·rename_i hx
  have fx : 0 < fn p q o x := (hT x (by simp)).resolve_left hx
  rcases h with ⟨rfl, h⟩ | ⟨h1, h2, h3⟩
  ·rw [if_pos (.inl rfl)]
   refine .inr ⟨hx, by simp, ?_⟩
   intro t ht
   rcases List.mem_append.mp ht with ht | ht
   ·rw [h t ht, cr_self1]; exact ⟨by omega, fun _ => btw_start _ _⟩
   ·simp at ht; subst ht; rw [cr_self2]; exact ⟨by omega, fun _ => btw_end _ _⟩
  ·have ft : 0 < fn p q o tq := (hT tq (by simp [h2])).resolve_left h1
   split
   ·rename_i hc
    refine .inr ⟨hx, by simp, ?_⟩
    have h0 : 0 ≤ cr o x tq ∧ (cr o x tq = 0 → btw o x tq) := by
     rcases hc with hc | hc | hc
     ·exact absurd hc h1
     ·have := cr_swap o tq x; exact ⟨by omega, fun h => by omega⟩
     ·exact ⟨by omega, fun _ => hc.2.2⟩
    intro t ht
    rcases List.mem_append.mp ht with ht | ht
    ·rcases hT t (by simp [ht]) with rfl | hf
     ·rw [cr_self1]; exact ⟨by omega, fun _ => btw_start _ _⟩
     ·have := tr fx ft hf h0.1 (h3 t ht).1
      refine ⟨this.1, fun hz => ?_⟩
      have z1 : cr o x tq = 0 := by
       rcases Int.lt_trichotomy 0 (cr o x tq) with h5 | h5 | h5
       ·have := this.2 (.inl h5); omega
       ·exact h5.symm
       ·omega
      have z2 : cr o tq t = 0 := by
       rcases Int.lt_trichotomy 0 (cr o tq t) with h5 | h5 | h5
       ·have := this.2 (.inr h5); omega
       ·exact h5.symm
       ·have := (h3 t ht).1; omega
      have b1 := fn_btw_le (h0.2 z1) z1 fx
      have b2 := fn_btw_le ((h3 t ht).2 z2) z2 ft
      exact btw_of_fn fx b2.1 (by omega) hz
    ·simp at ht; subst ht; rw [cr_self2]; exact ⟨by omega, fun _ => btw_end _ _⟩
   ·rename_i hc
    refine .inr ⟨h1, by simp [h2], ?_⟩
    intro t ht
    rcases List.mem_append.mp ht with ht | ht
    ·exact h3 t ht
    ·simp at ht; subst ht
     have n1 : ¬ cr o tq t < 0 := fun h => hc (.inr (.inl h))
     refine ⟨by omega, fun hz => ?_⟩
     have n2 : ¬ btw o t tq := fun h => hc (.inr (.inr ⟨hz, by rw [cr_swap]; omega, h⟩))
     have hz' : cr o t tq = 0 := by rw [cr_swap]; omega
     by_cases hle : fn p q o t ≤ fn p q o tq
     ·exact btw_of_fn ft (Int.le_of_lt fx) hle hz
     ·exact absurd (btw_of_fn fx (Int.le_of_lt ft) (by omega) hz') n2
theorem wrap_ok {p q : Int} {S : List Pt} {o : Pt} (ho : o ∈ S) (hS : ∀ t ∈ S, t = o ∨ 0 < fn p q o t) (h2 : ∃ t ∈ S, t ≠ o) : HE S o (wrap S o) := by
 have H : ∀ (R T : List Pt) (tq : Pt), T ++ R = S → Found T o tq → Found S o (R.foldl (wrapStep o) tq) := by
  intro R
  induction R with
  | nil => intro T tq e h; rw [← e, List.append_nil]; exact h
  | cons x R ih =>
   intro T tq e h
   rw [List.foldl_cons]
   apply ih (T ++ [x]) _ (by rw [← e]; simp)
   apply step_ok (p := p) (q := q) _ h
   intro t ht
   apply hS
   rw [← e]
   rcases List.mem_append.mp ht with ht | ht
   ·simp [ht]
   ·simp at ht; simp [ht]
 have := H S [] o rfl (.inl ⟨rfl, by simp⟩)
 unfold wrap
 rcases this with ⟨_, h3⟩ | ⟨h3, h4, h5⟩
 ·obtain ⟨t, ht, hn⟩ := h2
  exact absurd (h3 t ht) hn
 ·exact ⟨fun e => h3 e.symm, ho, h4, h5⟩
/-- points that can be told from all others by a functional -/
def Corner (S : List Pt) (o : Pt) : Prop := ∃ p q, ∀ t ∈ S, t = o ∨ 0 < fn p q o t
theorem bounded (f : Pt → Int) : ∀ S : List Pt, ∃ B, ∀ t ∈ S, f t < B
 | [] => ⟨0, by simp⟩
 | a :: S => by
  obtain ⟨B, hB⟩ := bounded f S
  refine ⟨max B (f a + 1), ?_⟩
  intro t ht
  rcases List.mem_cons.mp ht with rfl | ht
  ·omega
  ·have := hB t ht; omega
/-- the end of a hull edge is a corner -/
theorem corner_of_he {S : List Pt} {a b : Pt} (h : HE S a b) : Corner S b := by
 obtain ⟨hab, ha, hb, hS⟩ := h
 let g : Pt → Int := fun t => (b.f0 - a.f0) * (t.f0 - b.f0) + (b.f1 - a.f1) * (t.f1 - b.f1)
 obtain ⟨B, hB⟩ := bounded g S
 have hB0 : 0 < B := by have := hB b hb; simp [g] at this; exact this
 refine ⟨B * -(b.f1 - a.f1) - (b.f0 - a.f0), B * (b.f0 - a.f0) - (b.f1 - a.f1), ?_⟩
 intro t ht
 by_cases e : t = b
 ·exact .inl e
 ·right
  have e1 : fn (B * -(b.f1 - a.f1) - (b.f0 - a.f0)) (B * (b.f0 - a.f0) - (b.f1 - a.f1)) b t = B * cr a b t - g t := by simp only [g, fn, cr]; grind
  rw [e1]
  have h1 := hS t ht
  have h2 := hB t ht
  rcases Int.lt_trichotomy 0 (cr a b t) with h3 | h3 | h3
  ·have := Int.mul_le_mul_of_nonneg_left (show 1 ≤ cr a b t by omega) (Int.le_of_lt hB0)
   omega
  ·rw [← h3]
   have hbt := h1.2 h3.symm
   have hc : cr a b t = 0 := h3.symm
   -- t is between a and b, not b: it lies behind
   have : g t < 0 := by
    have k0 : (b.f0 - a.f0) * (t.f0 - b.f0) ≤ 0 := by
     unfold btw at hbt
     rcases Int.le_total a.f0 b.f0 with h5 | h5
     ·have := Int.mul_nonneg (show 0 ≤ b.f0 - a.f0 by omega) (show 0 ≤ b.f0 - t.f0 by omega); grind
     ·have := Int.mul_nonneg (show 0 ≤ a.f0 - b.f0 by omega) (show 0 ≤ t.f0 - b.f0 by omega); grind
    have k1 : (b.f1 - a.f1) * (t.f1 - b.f1) ≤ 0 := by
     unfold btw at hbt
     rcases Int.le_total a.f1 b.f1 with h5 | h5
     ·have := Int.mul_nonneg (show 0 ≤ b.f1 - a.f1 by omega) (show 0 ≤ b.f1 - t.f1 by omega); grind
     ·have := Int.mul_nonneg (show 0 ≤ a.f1 - b.f1 by omega) (show 0 ≤ t.f1 - b.f1 by omega); grind
    rcases Int.lt_trichotomy (g t) 0 with h5 | h5 | h5
    ·exact h5
    ·exfalso
     simp only [g] at h5
     have z0 : (b.f0 - a.f0) * (t.f0 - b.f0) = 0 := by omega
     have z1 : (b.f1 - a.f1) * (t.f1 - b.f1) = 0 := by omega
     have z2 : (b.f0 - a.f0) * (t.f1 - b.f1) = (b.f1 - a.f1) * (t.f0 - b.f0) := by unfold cr at hc; grind
     have hne : b.f0 - a.f0 ≠ 0 ∨ b.f1 - a.f1 ≠ 0 := by
      rcases Int.decEq (b.f0 - a.f0) 0 with y | y
      ·exact .inl y
      ·exact .inr fun y1 => hab (pt_ext (by omega) (by omega))
     have fin : t.f0 - b.f0 = 0 ∧ t.f1 - b.f1 = 0 := by
      rcases hne with y | y
      ·have w0 := (Int.mul_eq_zero.mp z0).resolve_left y
       rw [w0, Int.mul_zero] at z2
       exact ⟨w0, (Int.mul_eq_zero.mp z2).resolve_left y⟩
      ·have w0 := (Int.mul_eq_zero.mp z1).resolve_left y
       rw [w0, Int.mul_zero] at z2
       exact ⟨(Int.mul_eq_zero.mp z2.symm).resolve_left y, w0⟩
     exact e (pt_ext (by omega) (by omega))
    ·simp only [g] at h5; omega
   omega
  ·omega
/-- lower, or as low and more to the left -/
def first (a b : Pt) : Prop := a.f1 < b.f1 ∨ (a.f1 = b.f1 ∧ a.f0 < b.f0)
instance (a b : Pt) : Decidable (first a b) := by unfold first; infer_instance
theorem corner_of_first {S : List Pt} {o : Pt} (h : ∀ t ∈ S, t = o ∨ first o t) : Corner S o := by
 obtain ⟨B, hB⟩ := bounded (fun t => o.f0 - t.f0) S
 refine ⟨1, max B 1, ?_⟩
 intro t ht
 rcases h t ht with h1 | h1
 ·exact .inl h1
 ·right
  have h2 := hB t ht
  unfold fn
  rcases h1 with h1 | h1
  ·have := Int.mul_le_mul_of_nonneg_left (show 1 ≤ t.f1 - o.f1 by omega) (show 0 ≤ max B 1 by omega)
   omega
  ·rw [show t.f1 - o.f1 = 0 by omega]; omega
/-- going round: the corners from o on, the last one first -/
def around (S : List Pt) : Nat → Pt → List Pt
 | 0, o => [o]
 | n + 1, o => o :: around S n (wrap S o)
theorem length_le_of_nodup {l S : List Pt} (hn : l.Nodup) (h : ∀ a ∈ l, a ∈ S) : l.length ≤ S.length := by
 induction l generalizing S with
 | nil => simp
 | cons a l ih =>
  have ha := h a (by simp)
  have h2 : ∀ b ∈ l, b ∈ S.erase a := by
   intro b hb
   have hne : b ≠ a := by rintro rfl; exact (List.nodup_cons.mp hn).1 hb
   exact (List.mem_erase_of_ne hne).2 (h b (by simp [hb]))
  have := ih (List.nodup_cons.mp hn).2 h2
  have hl := List.length_erase_of_mem ha
  have : 0 < S.length := List.length_pos_of_mem ha
  simp only [List.length_cons]; omega
theorem ring_around {S : List Pt} {o : Pt} (ho : o ∈ S) (hmin : ∀ t ∈ S, t = o ∨ first o t) (h2 : ∃ a b, a ∈ S ∧ b ∈ S ∧ a ≠ b) :
  ∃ n, n < S.length ∧ Ring S (around S n o) ∧ (∃ x, (around S n o).getLast? = some x ∧ wrap S x = o) ∧ (∀ m, m < n → ∃ x, (around S m o).getLast? = some x ∧ wrap S x ≠ o) := by
 have other : ∀ x ∈ S, ∃ t ∈ S, t ≠ x := by
  intro x _
  obtain ⟨a, b, ha, hb, hab⟩ := h2
  by_cases e : a = x
  ·exact ⟨b, hb, fun e' => hab (e.trans e'.symm)⟩
  ·exact ⟨a, ha, e⟩
 have step : ∀ x, x ∈ S → Corner S x → HE S x (wrap S x) := by
  intro x hx hc
  obtain ⟨p, q, h⟩ := hc
  exact wrap_ok hx h (other x hx)
 have snoc : ∀ n x, ∃ y, (around S n x).getLast? = some y ∧ around S (n + 1) x = around S n x ++ [wrap S y] := by
  intro n
  induction n with
  | zero => intro x; exact ⟨x, rfl, rfl⟩
  | succ n ih =>
   intro x
   obtain ⟨y, h1, h2⟩ := ih (wrap S x)
   refine ⟨y, ?_, ?_⟩
   ·rw [around, List.getLast?_cons, h1]; rfl
   ·rw [around, h2]; rfl
 have pairs : ∀ n x, x ∈ S → Corner S x → Pairs (HE S) (around S n x) ∧ (∀ y ∈ around S n x, y ∈ S ∧ Corner S y) := by
  intro n
  induction n with
  | zero => intro x hx hc; exact ⟨trivial, by intro y hy; simp [around] at hy; subst hy; exact ⟨hx, hc⟩⟩
  | succ n ih =>
   intro x hx hc
   have he := step x hx hc
   obtain ⟨h1, h2⟩ := ih (wrap S x) he.2.2.1 (corner_of_he he)
   refine ⟨?_, ?_⟩
   ·cases n with
    | zero => exact ⟨he, trivial⟩
    | succ n => exact ⟨he, h1⟩
   ·intro y hy
    rw [around] at hy
    rcases List.mem_cons.mp hy with rfl | hy
    ·exact ⟨hx, hc⟩
    ·exact h2 y hy
 have hco := corner_of_first hmin
 -- as long as o does not come, all are different
 have nodup : ∀ n, (∀ m, m < n → ∃ x, (around S m o).getLast? = some x ∧ wrap S x ≠ o) → (around S n o).Nodup ∧ o ∉ (around S n o).tail := by
  intro n
  induction n with
  | zero => intro _; simp [around]
  | succ n ih =>
   intro h
   obtain ⟨h1, h2⟩ := ih (fun m hm => h m (by omega))
   obtain ⟨y, e1, e2⟩ := snoc n o
   obtain ⟨y', e1', hn⟩ := h n (by omega)
   obtain rfl : y = y' := by rw [e1] at e1'; simpa using e1'
   have hy : y ∈ around S n o := List.mem_of_getLast? e1
   have hP := (pairs n o ho hco).1
   have hS := (pairs n o ho hco).2 y hy
   have hey := step y hS.1 hS.2
   rw [e2]
   obtain ⟨t, et⟩ : ∃ t, around S n o = o :: t := by cases n <;> exact ⟨_, rfl⟩
   rw [et] at h1 h2 e1 hy hP ⊢
   have hnot : wrap S y ∉ o :: t := by
    intro hm
    rcases List.mem_cons.mp hm with hm | hm
    ·exact hn hm
    ·-- it has one before it, which is y: but y is the last
     obtain ⟨l1, l2, el⟩ := List.append_of_mem hm
     have el' : o :: t = (o :: l1) ++ wrap S y :: l2 := by rw [el]; rfl
     obtain ⟨l0, z, ez⟩ : ∃ l0 z, o :: l1 = l0 ++ [z] := ⟨(o :: l1).dropLast, (o :: l1).getLast (by simp), (List.dropLast_concat_getLast (by simp)).symm⟩
     rw [el', ez, List.append_assoc] at hP
     have hz : HE S z (wrap S y) := Pairs.at_ hP
     have hzy := he_pred hz hey
     subst hzy
     rw [el', ez] at h1 e1
     rw [List.nodup_append] at h1
     have e3 : (wrap S z :: l2).getLast? = some z := by
      rw [List.getLast?_append, List.getLast?_eq_some_getLast (by simp : wrap S z :: l2 ≠ []), Option.some_or] at e1
      rw [List.getLast?_eq_some_getLast (by simp : wrap S z :: l2 ≠ [])]
      exact e1
     exact h1.2.2 z (by simp) z (List.mem_of_getLast? e3) rfl
   refine ⟨?_, ?_⟩
   ·rw [List.nodup_append]
    refine ⟨h1, by simp, ?_⟩
    intro a ha b hb e
    simp at hb
    subst hb; subst e
    exact hnot ha
   ·simp only [List.cons_append, List.tail_cons] at h2 ⊢
    intro hm
    rcases List.mem_append.mp hm with hm | hm
    ·exact h2 hm
    ·simp at hm; exact hn hm.symm
 have len : ∀ n x, (around S n x).length = n + 1 := by
  intro n
  induction n with
  | zero => intro x; rfl
  | succ n ih => intro x; simp [around, ih]
 -- so it comes
 have ex : ∃ n, n < S.length ∧ (∃ x, (around S n o).getLast? = some x ∧ wrap S x = o) ∧ (∀ m, m < n → ∃ x, (around S m o).getLast? = some x ∧ wrap S x ≠ o) := by
  apply Classical.byContradiction
  intro hno
  have all : ∀ n, n ≤ S.length → ∀ m, m < n → ∃ x, (around S m o).getLast? = some x ∧ wrap S x ≠ o := by
   intro n
   induction n with
   | zero => intro _ m hm; omega
   | succ n ih =>
    intro hn m hm
    have hb := ih (by omega)
    by_cases e : m < n
    ·exact hb m e
    ·obtain rfl : m = n := by omega
     obtain ⟨y, e1, _⟩ := snoc m o
     by_cases hw : wrap S y = o
     ·exact absurd ⟨m, by omega, ⟨y, e1, hw⟩, hb⟩ hno
     ·exact ⟨y, e1, hw⟩
  have h1 := (nodup S.length (all _ (Nat.le_refl _))).1
  have := length_le_of_nodup h1 (fun a ha => ((pairs S.length o ho hco).2 a ha).1)
  rw [len] at this
  omega
 obtain ⟨n, hn, ⟨x, e1, hw⟩, hm⟩ := ex
 refine ⟨n, hn, ?_, ⟨x, e1, hw⟩, hm⟩
 obtain ⟨h1, h2⟩ := nodup n hm
 obtain ⟨t, et⟩ : ∃ t, around S n o = o :: t := by cases n <;> exact ⟨_, rfl⟩
 have hP := (pairs n o ho hco).1
 have hx := (pairs n o ho hco).2 x (List.mem_of_getLast? e1)
 have he := step x hx.1 hx.2
 rw [hw] at he
 rw [et] at h2 e1 hP ⊢
 refine ⟨o, t, rfl, h2, ?_⟩
 obtain ⟨l0, z, ez⟩ : ∃ l0 z, o :: t = l0 ++ [z] := ⟨(o :: t).dropLast, (o :: t).getLast (by simp), (List.dropLast_concat_getLast (by simp)).symm⟩
 have : z = x := by rw [ez, List.getLast?_concat] at e1; simpa using e1
 subst this
 rw [← List.cons_append, ez, List.append_assoc]
 rw [ez] at hP
 exact Pairs.append l0 [o] hP ⟨he, trivial⟩
/-! ### a ring by its indices -/
def at_ (h : List Pt) (i : Nat) : Pt := h.getD i ⟨0, 0⟩
theorem at_eq {h : List Pt} {i : Nat} (hi : i < h.length) : at_ h i = h[i] := by
 unfold at_; rw [List.getD_eq_getElem?_getD, List.getElem?_eq_getElem hi]; rfl
theorem at_mem {h : List Pt} {i : Nat} (hi : i < h.length) : at_ h i ∈ h := by
 rw [at_eq hi]; exact List.getElem_mem hi
theorem pairs_at {R : Pt → Pt → Prop} : ∀ (l : List Pt), Pairs R l → ∀ i, i + 1 < l.length → R (at_ l i) (at_ l (i + 1))
 | a :: b :: l, h, 0, _ => h.1
 | a :: b :: l, h, i + 1, hi => pairs_at (b :: l) h.2 i (by simpa using hi)
 | [_], _, _, hi => by simp at hi
 | [], _, _, hi => by simp at hi
theorem ring_at {S h : List Pt} (r : Ring S h) : ∀ i, i < h.length → HE S (at_ h i) (at_ h ((i + 1) % h.length)) := by
 obtain ⟨a, t, rfl, _, hp⟩ := r
 intro i hi
 have h1 := pairs_at _ hp i (by simpa using hi)
 have e1 : at_ (a :: (t ++ [a])) i = at_ (a :: t) i := by
  unfold at_; rw [List.getD_eq_getElem?_getD, List.getD_eq_getElem?_getD, ← List.cons_append, List.getElem?_append_left hi]
 have e2 : at_ (a :: (t ++ [a])) (i + 1) = at_ (a :: t) ((i + 1) % (a :: t).length) := by
  by_cases e : i + 1 = (a :: t).length
  ·rw [e, Nat.mod_self]; unfold at_; rw [List.getD_eq_getElem?_getD, ← List.cons_append, List.getElem?_append_right (by simp)]; simp
  ·have : i + 1 < (a :: t).length := by omega
   rw [Nat.mod_eq_of_lt this]
   unfold at_; rw [List.getD_eq_getElem?_getD, List.getD_eq_getElem?_getD, ← List.cons_append, List.getElem?_append_left this]
 rw [e1, e2] at h1
 exact h1
theorem ring_inj {S h : List Pt} (r : Ring S h) : ∀ i j, i < h.length → j < h.length → at_ h i = at_ h j → i = j := by
 have hr := ring_at r
 have h0 : ∀ j, 0 < j → j < h.length → at_ h 0 ≠ at_ h j := by
  obtain ⟨a, t, rfl, ha, _⟩ := r
  intro j hj hl e
  apply ha
  have : at_ (a :: t) j ∈ t := by
   match j, hj with
   | j + 1, _ => rw [at_eq hl]; simp
  rw [← e] at this
  exact this
 -- shift both back
 have back : ∀ i j, i < j → j < h.length → at_ h i ≠ at_ h j := by
  intro i
  induction i with
  | zero => exact fun j hj hl => h0 j hj hl
  | succ i ih =>
   intro j hj hl e
   have a1 := hr i (by omega)
   have a2 := hr (j - 1) (by omega)
   rw [Nat.mod_eq_of_lt (by omega)] at a1
   rw [show j - 1 + 1 = j by omega, Nat.mod_eq_of_lt hl, ← e] at a2
   exact ih (j - 1) (by omega) (by omega) (he_pred a1 a2)
 intro i j hi hj e
 rcases Nat.lt_trichotomy i j with h1 | h1 | h1
 ·exact absurd e (back i j h1 hj)
 ·exact h1
 ·exact absurd e.symm (back j i h1 hi)
theorem ring_corner {S h : List Pt} (r : Ring S h) : ∀ i, i < h.length → Corner S (at_ h i) ∧ at_ h i ∈ S := by
 intro i hi
 have hr := ring_at r
 rcases Nat.eq_zero_or_pos i with rfl | h0
 ·have := hr (h.length - 1) (by omega)
  rw [show h.length - 1 + 1 = h.length by omega, Nat.mod_self] at this
  exact ⟨corner_of_he this, this.2.2.1⟩
 ·have := hr (i - 1) (by omega)
  rw [show i - 1 + 1 = i by omega, Nat.mod_eq_of_lt hi] at this
  exact ⟨corner_of_he this, this.2.2.1⟩
theorem corner_not_between {S : List Pt} {v a b : Pt} (hv : Corner S v) (ha : a ∈ S) (hb : b ∈ S) (hab : a ≠ b) (hc : cr a b v = 0) (hbt : btw a b v) : v = a ∨ v = b := by
 obtain ⟨p, q, hF⟩ := hv
 rcases hF a ha with h1 | h1
 ·exact .inl h1.symm
 ·rcases hF b hb with h2 | h2
  ·exact .inr h2.symm
  ·exfalso
   have e0 : (v.f0 - a.f0) * fn p q v b + (b.f0 - v.f0) * fn p q v a = 0 := by unfold fn; unfold cr at hc; grind
   have e1 : (v.f1 - a.f1) * fn p q v b + (b.f1 - v.f1) * fn p q v a = 0 := by unfold fn; unfold cr at hc; grind
   have key : ∀ x y z : Int, (v.f0 = v.f0) → (min x z ≤ y ∧ y ≤ max x z) → (y - x) * fn p q v b + (z - y) * fn p q v a = 0 → x = z := by
    intro x y z _ hb e
    rcases Int.lt_trichotomy x z with h | h | h
    ·have m1 := Int.mul_nonneg (show 0 ≤ y - x by omega) (Int.le_of_lt h2)
     have m2 := Int.mul_nonneg (show 0 ≤ z - y by omega) (Int.le_of_lt h1)
     have k1 : (y - x) * fn p q v b = 0 := by omega
     have k2 : (z - y) * fn p q v a = 0 := by omega
     rcases Int.mul_eq_zero.mp k1 with k | k <;> rcases Int.mul_eq_zero.mp k2 with k' | k' <;> omega
    ·exact h
    ·have m1 := Int.mul_nonneg (show 0 ≤ x - y by omega) (Int.le_of_lt h2)
     have m2 := Int.mul_nonneg (show 0 ≤ y - z by omega) (Int.le_of_lt h1)
     have w1 : (y - x) * fn p q v b = - ((x - y) * fn p q v b) := by rw [← Int.neg_mul]; congr 1; omega
     have w2 : (z - y) * fn p q v a = - ((y - z) * fn p q v a) := by rw [← Int.neg_mul]; congr 1; omega
     have k1 : (y - x) * fn p q v b = 0 := by omega
     have k2 : (z - y) * fn p q v a = 0 := by omega
     rcases Int.mul_eq_zero.mp k1 with k | k <;> rcases Int.mul_eq_zero.mp k2 with k' | k' <;> omega
   unfold btw at hbt
   exact hab (pt_ext (key _ _ _ rfl ⟨hbt.1, hbt.2.1⟩ e0) (key _ _ _ rfl ⟨hbt.2.2.1, hbt.2.2.2⟩ e1))
/-- strongly convex: each corner lies to the left of each edge that it is not an end of -/
def Strong (h : List Pt) : Prop :=
 (∀ i, i < h.length → at_ h i ≠ at_ h ((i + 1) % h.length)) ∧
 (∀ i j, i < h.length → j < h.length → at_ h i = at_ h j → i = j) ∧
 ∀ i k, i < h.length → k < h.length → 0 ≤ cr (at_ h i) (at_ h ((i + 1) % h.length)) (at_ h k) ∧
  (cr (at_ h i) (at_ h ((i + 1) % h.length)) (at_ h k) = 0 → k = i ∨ k = (i + 1) % h.length)
theorem ring_strong {S h : List Pt} (r : Ring S h) : Strong h := by
 have hr := ring_at r
 have hi := ring_inj r
 refine ⟨fun i h1 => (hr i h1).1, hi, ?_⟩
 intro i k h1 h2
 have he := hr i h1
 have hk := ring_corner r k h2
 have hn : (i + 1) % h.length < h.length := Nat.mod_lt _ (by omega)
 have := he.2.2.2 _ hk.2
 refine ⟨this.1, fun h0 => ?_⟩
 rcases corner_not_between hk.1 he.2.1 he.2.2.1 he.1 h0 (this.2 h0) with e | e
 ·exact .inl (hi _ _ h2 h1 e)
 ·exact .inr (hi _ _ h2 hn e)
/-- on a segment, as the reference has it -/
def On (a b p : Pt) : Prop := cr a b p = 0 ∧ btw a b p
instance (a b p : Pt) : Decidable (On a b p) := by unfold On; infer_instance
def Meet (a b c d : Pt) : Prop := On a b c ∨ On a b d ∨ On c d a ∨ On c d b ∨
 (((0 < cr a b c ∧ cr a b d < 0) ∨ (cr a b c < 0 ∧ 0 < cr a b d)) ∧ ((0 < cr c d a ∧ cr c d b < 0) ∨ (cr c d a < 0 ∧ 0 < cr c d b)))
instance (a b c d : Pt) : Decidable (Meet a b c d) := by unfold Meet; infer_instance
/-- simple, as the reference has it -/
def Simple (l : List Pt) : Prop :=
 (∀ i, i < l.length → at_ l i ≠ at_ l ((i + 1) % l.length)) ∧
 ∀ i, i < l.length → ¬ On (at_ l i) (at_ l ((i + 1) % l.length)) (at_ l ((i + 1 + 1) % l.length)) ∧
  ¬ On (at_ l ((i + 1) % l.length)) (at_ l ((i + 1 + 1) % l.length)) (at_ l i) ∧
  ∀ k, i + 2 ≤ k → k < l.length → (k + 1) % l.length ≠ i → ¬ Meet (at_ l i) (at_ l ((i + 1) % l.length)) (at_ l k) (at_ l ((k + 1) % l.length))
/-- convex in normal form, as the reference has it -/
def Convex (l : List Pt) : Prop :=
 Simple l ∧ ∀ i, i < l.length → 0 < cr (at_ l i) (at_ l ((i + 1) % l.length)) (at_ l ((i + 1 + 1) % l.length)) ∧ (0 < i → first (at_ l 0) (at_ l i))
theorem mod_two {n i : Nat} (hn : 3 ≤ n) (hi : i < n) : (i + 1 + 1) % n ≠ i ∧ (i + 1 + 1) % n ≠ (i + 1) % n ∧ (i + 1) % n ≠ i := by
 by_cases h1 : i + 1 + 1 < n
 ·rw [Nat.mod_eq_of_lt h1, Nat.mod_eq_of_lt (by omega : i + 1 < n)]; omega
 ·by_cases h2 : i + 1 < n
  ·rw [Nat.mod_eq_of_lt h2, show i + 1 + 1 = n by omega, Nat.mod_self]; omega
  ·rw [show i + 1 = n by omega, Nat.mod_self, show n + 1 = 1 + n by omega, Nat.add_mod_right, Nat.mod_eq_of_lt (by omega)]; omega
theorem strong_turn {l : List Pt} (hn : 3 ≤ l.length) (h : Strong l) (i : Nat) (hi : i < l.length) : 0 < cr (at_ l i) (at_ l ((i + 1) % l.length)) (at_ l ((i + 1 + 1) % l.length)) := by
 have hm := mod_two hn hi
 have hk : (i + 1 + 1) % l.length < l.length := Nat.mod_lt _ (by omega)
 have := h.2.2 i _ hi hk
 rcases Int.lt_trichotomy 0 (cr (at_ l i) (at_ l ((i + 1) % l.length)) (at_ l ((i + 1 + 1) % l.length))) with h1 | h1 | h1
 ·exact h1
 ·rcases this.2 h1.symm with e | e
  ·exact absurd e hm.1
  ·exact absurd e hm.2.1
 ·omega
theorem strong_simple {l : List Pt} (hn : 3 ≤ l.length) (h : Strong l) : Simple l := by
 refine ⟨h.1, ?_⟩
 intro i hi
 have ht := strong_turn hn h i hi
 have hr := cr_rot (at_ l i) (at_ l ((i + 1) % l.length)) (at_ l ((i + 1 + 1) % l.length))
 refine ⟨fun o => by have := o.1; omega, fun o => by have := o.1; omega, ?_⟩
 intro k hk1 hk2 hk3 hm
 have hi1 : (i + 1) % l.length < l.length := Nat.mod_lt _ (by omega)
 have hk4 : (k + 1) % l.length < l.length := Nat.mod_lt _ (by omega)
 have ei : (i + 1) % l.length = i + 1 := Nat.mod_eq_of_lt (by omega)
 have c1 := h.2.2 i k hi hk2
 have c2 := h.2.2 i _ hi hk4
 have c3 := h.2.2 k i hk2 hi
 have c4 := h.2.2 k _ hk2 hi1
 rcases hm with hm | hm | hm | hm | hm
 ·have := c1.2 hm.1; omega
 ·have := c2.2 hm.1
  rcases this with e | e
  ·exact hk3 e
  ·rw [ei] at e
   by_cases h5 : k + 1 < l.length
   ·rw [Nat.mod_eq_of_lt h5] at e; omega
   ·rw [show k + 1 = l.length by omega, Nat.mod_self] at e; omega
 ·have := c3.2 hm.1; omega
 ·rcases c4.2 hm.1 with e | e
  ·omega
  ·rw [ei] at e
   by_cases h5 : k + 1 < l.length
   ·rw [Nat.mod_eq_of_lt h5] at e; omega
   ·rw [show k + 1 = l.length by omega, Nat.mod_self] at e; omega
 ·omega
theorem strong_convex {l : List Pt} (hn : 3 ≤ l.length) (h : Strong l) (h0 : ∀ i, i < l.length → 0 < i → first (at_ l 0) (at_ l i)) : Convex l :=
 ⟨strong_simple hn h, fun i hi => ⟨strong_turn hn h i hi, h0 i hi⟩⟩
/-- all on one line -/
def Flat (S : List Pt) : Prop := ∀ a ∈ S, ∀ b ∈ S, ∀ c ∈ S, cr a b c = 0
theorem flat_of_edge {S : List Pt} {a b : Pt} (hab : a ≠ b) (h : ∀ c ∈ S, cr a b c = 0) : Flat S := by
 intro x hx y hy z hz
 have e1 := h x hx
 have e2 := h y hy
 have e3 := h z hz
 have k0 : (b.f0 - a.f0) * cr x y z = 0 := by unfold cr at *; grind
 have k1 : (b.f1 - a.f1) * cr x y z = 0 := by unfold cr at *; grind
 rcases Int.mul_eq_zero.mp k0 with k | k
 ·rcases Int.mul_eq_zero.mp k1 with k' | k'
  ·exact absurd (pt_ext (by omega) (by omega)) hab
  ·exact k'
 ·exact k
theorem ring_three {S h : List Pt} (r : Ring S h) (hf : ¬ Flat S) : 3 ≤ h.length := by
 have hr := ring_at r
 have h0 : 0 < h.length := by obtain ⟨a, t, rfl, _⟩ := r; simp
 rcases Nat.lt_or_ge h.length 3 with h3 | h3
 ·exfalso
  have a1 := hr 0 h0
  by_cases e : h.length = 1
  ·rw [e] at a1; exact a1.1 rfl
  ·have e2 : h.length = 2 := by omega
   have a2 := hr 1 (by omega)
   rw [e2] at a1 a2
   simp only [Nat.zero_add, Nat.mod_self, Nat.one_mod] at a1 a2
   apply hf
   apply flat_of_edge a1.1
   intro c hc
   have b1 := (a1.2.2.2 c hc).1
   have b2 := (a2.2.2.2 c hc).1
   have : cr (at_ h (1 % 2)) (at_ h 0) c = - cr (at_ h 0) (at_ h (1 % 2)) c := by unfold cr; grind
   simp only [Nat.one_mod] at *
   omega
 ·exact h3
/-- the first of the corners is the first of all points -/
theorem ring_first {S h : List Pt} (r : Ring S h) (hf : ¬ Flat S) (i : Nat) (hi : i < h.length) (hmin : ∀ k, k < h.length → k = i ∨ first (at_ h i) (at_ h k)) : ∀ p ∈ S, p = at_ h i ∨ first (at_ h i) p := by
 have hn := ring_three r hf
 have hs := ring_strong r
 have hr := ring_at r
 intro x hx
 obtain ⟨B, hB⟩ := bounded (fun t => max ((at_ h i).f0 - t.f0) (t.f0 - (at_ h i).f0)) (x :: h)
 -- the neighbours
 obtain ⟨j, hj, ej⟩ : ∃ j, j < h.length ∧ (j + 1) % h.length = i := by
  rcases Nat.eq_zero_or_pos i with rfl | h0
  ·exact ⟨h.length - 1, by omega, by rw [show h.length - 1 + 1 = h.length by omega, Nat.mod_self]⟩
  ·exact ⟨i - 1, by omega, by rw [show i - 1 + 1 = i by omega, Nat.mod_eq_of_lt hi]⟩
 have h1 := (hr j hj).2.2.2 x hx
 have h2 := (hr i hi).2.2.2 x hx
 have ht := strong_turn hn hs j hj
 have hm := mod_two hn hj
 have hm2 := mod_two hn hi
 have ej2 : (j + 1 + 1) % h.length = (i + 1) % h.length := by rw [← ej, Nat.mod_add_mod]
 rw [ej2, ej] at ht
 rw [ej] at h1 hm
 have hk : (i + 1) % h.length < h.length := Nat.mod_lt _ (by omega)
 have f1 : first (at_ h i) (at_ h j) := (hmin j hj).resolve_left (fun e => hm.2.2 e.symm)
 have f2 : first (at_ h i) (at_ h ((i + 1) % h.length)) := (hmin _ hk).resolve_left hm2.2.2
 generalize at_ h i = o at *
 generalize hu : at_ h j = u at *
 generalize hw : at_ h ((i + 1) % h.length) = w at *
 have bx := hB x (by simp)
 have bu := hB u (by rw [← hu]; simp [at_mem hj])
 have bw := hB w (by rw [← hw]; simp [at_mem hk])
 have F : ∀ t : Pt, max (o.f0 - t.f0) (t.f0 - o.f0) < B → (first o t ↔ 0 < fn 1 B o t) := by
  intro t hb
  unfold first fn
  constructor
  ·rintro (h | ⟨h, h'⟩)
   ·have := Int.mul_le_mul_of_nonneg_left (show 1 ≤ t.f1 - o.f1 by omega) (show 0 ≤ B by omega); omega
   ·rw [show t.f1 - o.f1 = 0 by omega]; omega
  ·intro h
   rcases Int.lt_trichotomy o.f1 t.f1 with h3 | h3 | h3
   ·exact .inl h3
   ·rw [show t.f1 - o.f1 = 0 by omega] at h; exact .inr ⟨h3, by omega⟩
   ·have := Int.mul_le_mul_of_nonneg_left (show 1 ≤ o.f1 - t.f1 by omega) (show 0 ≤ B by omega)
    have e : B * (t.f1 - o.f1) = - (B * (o.f1 - t.f1)) := by grind
    omega
 have g1 := (F u bu).1 f1
 have g2 := (F w bw).1 f2
 by_cases e : x = o
 ·exact .inl e
 ·right
  rw [F x bx]
  have id : fn 1 B o x * cr u o w = fn 1 B o w * cr u o x + fn 1 B o u * cr o w x := by unfold fn cr; grind
  have m1 := Int.mul_nonneg (Int.le_of_lt g2) h1.1
  have m2 := Int.mul_nonneg (Int.le_of_lt g1) h2.1
  rcases Int.lt_trichotomy 0 (fn 1 B o x) with h3 | h3 | h3
  ·exact h3
  ·exfalso
   rw [← h3] at id
   have z1 : fn 1 B o w * cr u o x = 0 := by omega
   have z2 : fn 1 B o u * cr o w x = 0 := by omega
   have z3 := (Int.mul_eq_zero.mp z1).resolve_left (by omega)
   have z4 := (Int.mul_eq_zero.mp z2).resolve_left (by omega)
   -- x lies on both lines: it is o
   have y0 : cr u o w * (x.f0 - o.f0) = 0 := by unfold cr at *; grind
   have y1 : cr u o w * (x.f1 - o.f1) = 0 := by unfold cr at *; grind
   have := (Int.mul_eq_zero.mp y0).resolve_left (by omega)
   have := (Int.mul_eq_zero.mp y1).resolve_left (by omega)
   exact e (pt_ext (by omega) (by omega))
  ·have := Int.mul_neg_of_neg_of_pos h3 ht; omega
theorem ring_rot {S h1 h2 : List Pt} (r : Ring S (h1 ++ h2)) (h : h2 ≠ []) : Ring S (h2 ++ h1) := by
 cases h1 with
 | nil => simpa using r
 | cons a t1 =>
  cases h2 with
  | nil => exact absurd rfl h
  | cons b t2 =>
   have hi := ring_inj r
   obtain ⟨a', t, e, ha, hp⟩ := r
   simp only [List.cons_append, List.cons.injEq] at e
   obtain ⟨rfl, rfl⟩ := e
   have e1 : a :: (t1 ++ b :: t2 ++ [a]) = (a :: t1) ++ (b :: (t2 ++ [a])) := by simp
   rw [e1] at hp
   have q1 : Pairs (HE S) ((a :: t1) ++ [b]) := by
    apply Pairs.left ((a :: t1) ++ [b]) (t2 ++ [a]); simpa using hp
   have q2 := Pairs.right _ _ hp
   refine ⟨b, t2 ++ a :: t1, by simp, ?_, ?_⟩
   ·intro hb
    -- b stands at one place alone
    obtain ⟨n, hn, en⟩ := List.mem_iff_getElem.mp hb
    simp only [List.length_append, List.length_cons] at hn
    have p0 : at_ (a :: t1 ++ b :: t2) (t1.length + 1) = b := by
     unfold at_; rw [List.getD_eq_getElem?_getD, List.getElem?_append_right (by simp)]; simp
    by_cases hlt : n < t2.length
    ·have p1 : at_ (a :: t1 ++ b :: t2) (t1.length + 1 + (n + 1)) = b := by
      unfold at_
      rw [List.getD_eq_getElem?_getD, List.getElem?_append_right (by simp)]
      rw [List.getElem_append_left hlt] at en
      simp only [List.length_cons, Nat.add_sub_cancel_left, List.getElem?_cons_succ]
      rw [List.getElem?_eq_getElem hlt]; exact en
     have := hi (t1.length + 1) (t1.length + 1 + (n + 1)) (by simp) (by simp; omega) (p0.trans p1.symm)
     omega
    ·have p1 : at_ (a :: t1 ++ b :: t2) (n - t2.length) = b := by
      unfold at_
      rw [List.getD_eq_getElem?_getD, List.getElem?_append_left (by simp; omega)]
      rw [List.getElem_append_right (by omega)] at en
      rw [List.getElem?_eq_getElem (by simp; omega)]; exact en
     have := hi (t1.length + 1) (n - t2.length) (by simp) (by simp; omega) (p0.trans p1.symm)
     omega
   ·have := Pairs.append (b :: t2) (t1 ++ [b]) (by simpa using q2) (by simpa using q1)
    simpa using this
theorem ring_congr {S S' h : List Pt} (e : ∀ a, a ∈ S ↔ a ∈ S') (r : Ring S h) : Ring S' h := by
 obtain ⟨a, t, e1, h1, h2⟩ := r
 exact ⟨a, t, e1, h1, Pairs.mono (fun _ _ h => he_congr e h) _ h2⟩
theorem first_tri (a b : Pt) : a = b ∨ first a b ∨ first b a := by
 unfold first
 rcases Int.lt_trichotomy a.f1 b.f1 with h | h | h
 ·exact .inr (.inl (.inl h))
 ·rcases Int.lt_trichotomy a.f0 b.f0 with h' | h' | h'
  ·exact .inr (.inl (.inr ⟨h, h'⟩))
  ·exact .inl (pt_ext h' h)
  ·exact .inr (.inr (.inr ⟨h.symm, h'⟩))
 ·exact .inr (.inr (.inl h))
theorem first_trans {a b c : Pt} (h : first a b) (h' : first b c) : first a c := by unfold first at *; omega
theorem first_irrefl (a : Pt) : ¬ first a a := by unfold first; omega
/-- the ring from the first point on: there is one alone -/
theorem rings_one {S h h' : List Pt} (hf : ¬ Flat S) (r : Ring S h) (r' : Ring S h') (m : ∀ k, k < h.length → k = 0 ∨ first (at_ h 0) (at_ h k)) (m' : ∀ p ∈ S, p = at_ h' 0 ∨ first (at_ h' 0) p) : h = h' := by
 have l := ring_three r hf
 have l' := ring_three r' hf
 have h1 := ring_first r hf 0 (by omega) m
 have a1 := (ring_corner r 0 (by omega)).2
 have a2 := (ring_corner r' 0 (by omega)).2
 have e : at_ h 0 = at_ h' 0 := by
  rcases h1 _ a2 with e | e
  ·exact e.symm
  ·rcases m' _ a1 with e' | e'
   ·exact e'
   ·exact absurd (first_trans e e') (first_irrefl _)
 apply ring_eq r r'
 obtain ⟨x, t, rfl, _⟩ := r
 obtain ⟨x', t', rfl, _⟩ := r'
 exact congrArg some e
theorem flat_ring {S h : List Pt} (r : Ring S h) (hf : Flat S) : h.length < 3 := by
 rcases Nat.lt_or_ge h.length 3 with h3 | h3
 ·exact h3
 ·have hs := (ring_strong r).2.2 0 2 (by omega) (by omega)
  have c0 := (ring_corner r 0 (by omega)).2
  have c1 := (ring_corner r ((0 + 1) % h.length) (Nat.mod_lt _ (by omega))).2
  have c2 := (ring_corner r 2 (by omega)).2
  have := hs.2 (hf _ c0 _ c1 _ c2)
  rw [Nat.mod_eq_of_lt (by omega)] at this
  omega
/-- flat, seen from one point -/
theorem flat_of_first {S : List Pt} {o : Pt} (h : ∀ a ∈ S, ∀ b ∈ S, cr o a b = 0) : Flat S := by
 by_cases e : ∃ a ∈ S, a ≠ o
 ·obtain ⟨a, ha, hne⟩ := e
  exact flat_of_edge (fun e => hne e.symm) (h a ha)
 ·have : ∀ a ∈ S, a = o := fun a ha => Classical.byContradiction fun hn => e ⟨a, ha, hn⟩
  intro a ha b hb c hc
  rw [this a ha, this b hb, this c hc, cr_self1]
theorem two_of_not_flat {S : List Pt} (hf : ¬ Flat S) : ∃ a b, a ∈ S ∧ b ∈ S ∧ a ≠ b := by
 apply Classical.byContradiction
 intro hn
 apply hf
 intro a ha b hb c hc
 have e : ∀ x ∈ S, x = a := fun x hx => Classical.byContradiction fun hne => hn ⟨x, a, hx, ha, hne⟩
 rw [e b hb, e c hc, cr_self1]
/-- Andrew's hull of points on one line -/
theorem andrew_flat {p q : Int} {l : List Pt} (h : Up p q l) (hf : Flat l) : (andrew l).length < 3 := by
 by_cases h2 : ∃ a b, a ∈ l ∧ b ∈ l ∧ a ≠ b
 ·exact flat_ring (andrew_ring p q l h h2) hf
 ·match l, h with
  | [], _ => simp [andrew, chain]
  | [a], _ => simp [andrew, chain, push, pop]
  | a :: b :: l, h =>
   exfalso
   apply h2
   refine ⟨a, b, by simp, by simp, ?_⟩
   rintro rfl
   have := h.1 a (by simp)
   simp [fn] at this
end Go.Proofs.Ytoffmpkgickfhaa.M
end
section
namespace Go.Proofs.Ytoffmpkgickfhaa.M
open Go.RowKit Go.Proofs.Ytoffmpkgickfhaa.PG Go.Proofs.YtoffmpkgickfhaaW.PrintMore Go.Proofs.YtoffmpkgickfhaaW.PrintWords
/-- a function of fuel returns v from some fuel on -/
def Rt {α : Type} (g : Nat → Option α) (v : α) : Prop := ∃ K, ∀ k, K ≤ k → g k = some v
theorem wz (n : Int) (h0 : -9223372036854775808 ≤ n) (h1 : n ≤ 9223372036854775807) : wrap64 n = n := by unfold wrap64; omega
def Bd (p : Pt) : Prop := -1000000 ≤ p.f0 ∧ p.f0 ≤ 1000000 ∧ -1000000 ≤ p.f1 ∧ p.f1 ≤ 1000000
theorem mulb {a b : Int} (h0 : -2000000 ≤ a) (h1 : a ≤ 2000000) (h2 : -2000000 ≤ b) (h3 : b ≤ 2000000) : -4000000000000 ≤ a * b ∧ a * b ≤ 4000000000000 := by
 have h : (a * b).natAbs = a.natAbs * b.natAbs := Int.natAbs_mul a b
 have h' : a.natAbs * b.natAbs ≤ 2000000 * 2000000 := Nat.mul_le_mul (by omega) (by omega)
 omega
theorem cr_eq (a b c : Pt) : cr a b c = (b.f0 - a.f0) * (c.f1 - a.f1) - (c.f0 - a.f0) * (b.f1 - a.f1) := rfl
theorem cr_bd {a b c : Pt} (ha : Bd a) (hb : Bd b) (hc : Bd c) : -8000000000000 ≤ cr a b c ∧ cr a b c ≤ 8000000000000 := by
 obtain ⟨a0, a1, a2, a3⟩ := ha; obtain ⟨b0, b1, b2, b3⟩ := hb; obtain ⟨c0, c1, c2, c3⟩ := hc
 have h1 := @mulb (b.f0 - a.f0) (c.f1 - a.f1) (by omega) (by omega) (by omega) (by omega)
 have h2 := @mulb (c.f0 - a.f0) (b.f1 - a.f1) (by omega) (by omega) (by omega) (by omega)
 rw [cr_eq]; omega
theorem Cross_f {a b c : Pt} (ha : Bd a) (hb : Bd b) (hc : Bd c) : cracknelref04_Cross.f a.f0 a.f1 b.f0 b.f1 c.f0 c.f1 = some (cr a b c) := by
 obtain ⟨a0, a1, a2, a3⟩ := ha; obtain ⟨b0, b1, b2, b3⟩ := hb; obtain ⟨c0, c1, c2, c3⟩ := hc
 have h1 := @mulb (b.f0 - a.f0) (c.f1 - a.f1) (by omega) (by omega) (by omega) (by omega)
 have h2 := @mulb (c.f0 - a.f0) (b.f1 - a.f1) (by omega) (by omega) (by omega) (by omega)
 unfold cracknelref04_Cross.f
 rw [wz (b.f0 - a.f0) (by omega) (by omega), wz (c.f1 - a.f1) (by omega) (by omega), wz (c.f0 - a.f0) (by omega) (by omega), wz (b.f1 - a.f1) (by omega) (by omega), wz ((b.f0 - a.f0) * (c.f1 - a.f1)) (by omega) (by omega), wz ((c.f0 - a.f0) * (b.f1 - a.f1)) (by omega) (by omega), wz _ (by omega) (by omega), cr_eq]
theorem side_f {a b c : Pt} (ha : Bd a) (hb : Bd b) (hc : Bd c) : shape_side.f a.f0 a.f1 b.f0 b.f1 c.f0 c.f1 = some (cr a b c) := by
 obtain ⟨a0, a1, a2, a3⟩ := ha; obtain ⟨b0, b1, b2, b3⟩ := hb; obtain ⟨c0, c1, c2, c3⟩ := hc
 have h1 := @mulb (b.f0 - a.f0) (c.f1 - a.f1) (by omega) (by omega) (by omega) (by omega)
 have h2 := @mulb (b.f1 - a.f1) (c.f0 - a.f0) (by omega) (by omega) (by omega) (by omega)
 unfold shape_side.f shape_sub.f shape_cross.f
 simp only [Option.bind_some]
 rw [wz (b.f0 - a.f0) (by omega) (by omega), wz (c.f1 - a.f1) (by omega) (by omega), wz (c.f0 - a.f0) (by omega) (by omega), wz (b.f1 - a.f1) (by omega) (by omega), wz ((b.f0 - a.f0) * (c.f1 - a.f1)) (by omega) (by omega), wz ((b.f1 - a.f1) * (c.f0 - a.f0)) (by omega) (by omega), wz _ (by omega) (by omega), cr_eq]
 congr 1; grind
theorem in_f (v a b : Int) : cracknelref04_in.f v a b = some (decide (a ≤ v ∧ v ≤ b)) := by
 unfold cracknelref04_in.f
 by_cases h : v ≥ a
 ·rw [if_pos h]; simp; omega
 ·rw [if_neg h]; simp; omega
theorem mn_eq (a b : Int) : mn a b = min a b := by unfold mn; split <;> omega
theorem mx_eq (a b : Int) : mx a b = max a b := by unfold mx; split <;> omega
theorem On_f {a b c : Pt} (ha : Bd a) (hb : Bd b) (hc : Bd c) : cracknelref04_On.f a.f0 a.f1 b.f0 b.f1 c.f0 c.f1 = some (decide (On a b c)) := by
 unfold cracknelref04_On.f
 rw [Cross_f ha hb hc]
 simp only [Option.bind_some, in_f, mn_eq, mx_eq]
 by_cases h : cr a b c = 0
 ·rw [if_pos h]
  by_cases h2 : min a.f0 b.f0 ≤ c.f0 ∧ c.f0 ≤ max a.f0 b.f0
  ·simp only [h2, and_self, decide_true, if_true]; simp only [On, btw, h, h2, true_and]
  ·rw [if_neg (by simpa using h2)]; simp only [On, btw, h, true_and]; rw [decide_eq_false]; intro h3; exact h2 ⟨h3.1, h3.2.1⟩
 ·rw [if_neg h]; simp only [On, h, false_and, decide_false]
theorem sq_nn (x : Int) : 0 ≤ x * x := by
 rcases Int.le_total 0 x with h | h
 ·exact Int.mul_nonneg h h
 ·exact Int.mul_nonneg_of_nonpos_of_nonpos h h
/-- for points on one line: the inner product tells which are between -/
theorem dot_on {a b p : Pt} (h : cr a b p = 0) : (a.f0 - p.f0) * (b.f0 - p.f0) + (a.f1 - p.f1) * (b.f1 - p.f1) ≤ 0 ↔ btw a b p := by
 have hx : (a.f0 - p.f0) * (b.f1 - p.f1) = (a.f1 - p.f1) * (b.f0 - p.f0) := by rw [cr_eq] at h; grind
 generalize hu : a.f0 - p.f0 = u at *
 generalize hv : b.f0 - p.f0 = v at *
 generalize hs : a.f1 - p.f1 = s at *
 generalize ht : b.f1 - p.f1 = t at *
 have key : u * v + s * t ≤ 0 ↔ (u * v ≤ 0 ∧ s * t ≤ 0) := by
  constructor
  ·intro h0
   have e : (u * v) * (s * t) = (u * t) * (u * t) := by grind
   have sq : 0 ≤ (u * v) * (s * t) := by rw [e]; exact sq_nn _
   constructor
   ·rcases Int.lt_or_le 0 (u * v) with h1 | h1
    ·have h2 : s * t < 0 := by omega
     have := Int.mul_neg_of_pos_of_neg h1 h2; omega
    ·exact h1
   ·rcases Int.lt_or_le 0 (s * t) with h1 | h1
    ·have h2 : u * v < 0 := by omega
     have := Int.mul_neg_of_neg_of_pos h2 h1; omega
    ·exact h1
  ·omega
 have sgn : ∀ x y : Int, x * y ≤ 0 ↔ ((x ≤ 0 ∧ 0 ≤ y) ∨ (0 ≤ x ∧ y ≤ 0)) := by
  intro x y
  constructor
  ·intro h
   rcases Int.lt_trichotomy x 0 with h1 | h1 | h1
   ·rcases Int.lt_or_le y 0 with h2 | h2
    ·have := Int.mul_pos_of_neg_of_neg h1 h2; omega
    ·omega
   ·omega
   ·rcases Int.lt_or_le 0 y with h2 | h2
    ·have := Int.mul_pos h1 h2; omega
    ·omega
  ·rintro (⟨h1, h2⟩ | ⟨h1, h2⟩)
   ·exact Int.mul_nonpos_of_nonpos_of_nonneg h1 h2
   ·exact Int.mul_nonpos_of_nonneg_of_nonpos h1 h2
 rw [key, sgn, sgn]; unfold btw; omega
theorem dot_f {a b p : Pt} (ha : Bd a) (hb : Bd b) (hp : Bd p) : shape_dot.f (a.f0 - p.f0) (a.f1 - p.f1) (b.f0 - p.f0) (b.f1 - p.f1) = some ((a.f0 - p.f0) * (b.f0 - p.f0) + (a.f1 - p.f1) * (b.f1 - p.f1)) := by
 obtain ⟨a0, a1, a2, a3⟩ := ha; obtain ⟨b0, b1, b2, b3⟩ := hb; obtain ⟨c0, c1, c2, c3⟩ := hp
 have h1 := @mulb (a.f0 - p.f0) (b.f0 - p.f0) (by omega) (by omega) (by omega) (by omega)
 have h2 := @mulb (a.f1 - p.f1) (b.f1 - p.f1) (by omega) (by omega) (by omega) (by omega)
 unfold shape_dot.f
 rw [wz ((a.f0 - p.f0) * (b.f0 - p.f0)) (by omega) (by omega), wz ((a.f1 - p.f1) * (b.f1 - p.f1)) (by omega) (by omega), wz _ (by omega) (by omega)]
theorem sub_f {a b : Pt} (ha : Bd a) (hb : Bd b) : shape_sub.f a.f0 a.f1 b.f0 b.f1 = some (a.f0 - b.f0, a.f1 - b.f1) := by
 obtain ⟨a0, a1, a2, a3⟩ := ha; obtain ⟨b0, b1, b2, b3⟩ := hb
 unfold shape_sub.f
 rw [wz _ (by omega) (by omega), wz _ (by omega) (by omega)]
theorem on_f {a b c : Pt} (ha : Bd a) (hb : Bd b) (hc : Bd c) : shape_on.f a.f0 a.f1 b.f0 b.f1 c.f0 c.f1 = some (decide (On a b c)) := by
 unfold shape_on.f
 rw [side_f ha hb hc, sub_f ha hc, sub_f hb hc]
 simp only [Option.bind_some]
 rw [dot_f ha hb hc]
 simp only [Option.bind_some]
 by_cases h : cr a b c = 0
 ·rw [if_pos h]; have e := dot_on h; simp only [e, On, h, true_and]
 ·rw [if_neg h]; simp only [On, h, false_and, decide_false]
def sg (n : Int) : Int := if n > 0 then 1 else if n < 0 then -1 else 0
theorem compare_f (a b : Int) : cmp_Compare_int.f a b = some (sg (a - b)) := by
 unfold cmp_Compare_int.f cmp_isNaN_int.f sg
 simp
 split <;> (try split) <;> (try split) <;> (try split) <;> first | rfl | omega | (simp; done) | skip
theorem sign_f (n : Int) : shape_sign.f n = some (sg n) := by
 unfold shape_sign.f; rw [compare_f]; simp
theorem sg_neg (x y : Int) : wrap64 (sg x * sg y) < 0 ↔ ((0 < x ∧ y < 0) ∨ (x < 0 ∧ 0 < y)) := by
 unfold sg
 split <;> (try split) <;> (try split) <;> (try split) <;> simp only [wrap64] <;> omega
theorem meet_f {a b c d : Pt} (ha : Bd a) (hb : Bd b) (hc : Bd c) (hd : Bd d) (k : Nat) : shape_meet.f (k + 1) a.f0 a.f1 b.f0 b.f1 c.f0 c.f1 d.f0 d.f1 = some (decide (Meet a b c d)) := by
 unfold shape_meet.f
 simp only [shape_meet.j0, on_f ha hb hc, on_f ha hb hd, on_f hc hd ha, on_f hc hd hb, side_f ha hb hc, side_f ha hb hd, side_f hc hd ha, side_f hc hd hb, sign_f, Option.bind_some, sg_neg, decide_eq_true_eq]
 unfold Meet
 split
 ·simp_all
 ·split
  ·simp_all
  ·split
   ·simp_all
   ·split
    ·simp_all
    ·split <;> simp_all <;> omega
theorem rd_at (l : List Pt) (i : Nat) : rd_T29 l (i : Int) = at_ l i := rfl
theorem tmod_nat (i n : Nat) (h : (i : Int) ≤ 9223372036854775806) : Int.tmod (wrap64 ((i : Int) + 1)) (n : Int) = (((i + 1) % n : Nat) : Int) := by
 rw [wz _ (by omega) (by omega)]
 rw [show ((i : Int) + 1) = ((i + 1 : Nat) : Int) by omega, ← Int.ofNat_tmod]
theorem first_f (a b : Pt) : cracknelref04_first.f a.f0 a.f1 b.f0 b.f1 = some (decide (first a b)) := by
 unfold cracknelref04_first.f first
 split
 ·simp_all
 ·split
  ·simp_all
  ·simp_all
theorem pt_beq (a b : Pt) : (a.f0 == b.f0 && a.f1 == b.f1) = decide (a = b) := by
 by_cases h : a = b
 ·subst h; simp
 ·simp only [h, decide_false, Bool.and_eq_false_imp, beq_iff_eq]
  intro h0
  simp only [beq_eq_false_iff_ne, ne_eq]
  intro h1; exact h (pt_ext h0 h1)
theorem from_split {n i : Nat} (hi : i < n) (P : Nat → Prop) : (∀ i', i ≤ i' → i' < n → P i') ↔ (P i ∧ ∀ i', i + 1 ≤ i' → i' < n → P i') := by
 constructor
 ·intro h; exact ⟨h i (Nat.le_refl _) hi, fun j' h1 h2 => h j' (by omega) h2⟩
 ·rintro ⟨h0, h⟩ j' h1 h2
  rcases Nat.eq_or_lt_of_le h1 with rfl | h3
  ·exact h0
  ·exact h j' h3 h2
theorem fuel1 {k K : Nat} (h : K + 1 ≤ k) : ∃ m, k = m + 1 := ⟨k - 1, by omega⟩
theorem fuel2 {k K : Nat} (h : K + 2 ≤ k) : ∃ m, k = m + 1 + 1 := ⟨k - 2, by omega⟩
theorem rt_step {α : Type} {g h : Nat → Option α} {v : α} (e : ∀ k, g (k + 1) = h k) (r : Rt h v) : Rt g v := by
 obtain ⟨K, hK⟩ := r
 refine ⟨K + 1, fun k hk => ?_⟩
 obtain ⟨k, rfl⟩ := fuel1 hk
 rw [e]; exact hK k (by omega)
theorem rt_ret {α : Type} {g : Nat → Option α} {v : α} (e : ∀ k, g (k + 1) = some v) : Rt g v := by
 refine ⟨0 + 1, fun k hk => ?_⟩
 obtain ⟨k, rfl⟩ := fuel1 hk
 exact e k
theorem wrap_succ (i : Nat) (h : i ≤ 1000000) : wrap64 ((i : Int) + 1) = ((i + 1 : Nat) : Int) := by rw [wz _ (by omega) (by omega)]; omega
theorem wrap_succ2 (i : Nat) (h : i ≤ 1000000) : wrap64 ((i : Int) + 2) = ((i + 2 : Nat) : Int) := by rw [wz _ (by omega) (by omega)]; omega
theorem tmod_nat' (i n : Nat) (_h : i ≤ 1000000) : Int.tmod (((i + 1 : Nat)) : Int) (n : Int) = (((i + 1) % n : Nat) : Int) := by
 rw [← Int.ofNat_tmod]
theorem at_bd {l : List Pt} (hb : ∀ p ∈ l, Bd p) {i : Nat} (hi : i < l.length) : Bd (at_ l i) := hb _ (at_mem hi)
theorem tmod_in (i n : Nat) (hn : 0 < n) : (0 : Int) ≤ (((i % n : Nat)) : Int) ∧ (((i % n : Nat)) : Int) < (n : Int) := by
 have := Nat.mod_lt i hn; omega
end Go.Proofs.Ytoffmpkgickfhaa.M
end
section
namespace Go.Proofs.Ytoffmpkgickfhaa.M
open Go.RowKit Go.Proofs.Ytoffmpkgickfhaa.PG Go.Proofs.YtoffmpkgickfhaaW.PrintMore Go.Proofs.YtoffmpkgickfhaaW.PrintWords
theorem on_line {a b c : Pt} (h : cr a b c = 0) : btw a c b ∨ btw a b c ∨ btw b c a := by
 have h2 : cr a c b = 0 := by rw [cr_swap]; omega
 have h3 : cr b c a = 0 := by rw [cr_rot]; exact h
 rw [← dot_on h, ← dot_on h2, ← dot_on h3]
 rcases Int.lt_or_le 0 ((a.f0 - b.f0) * (c.f0 - b.f0) + (a.f1 - b.f1) * (c.f1 - b.f1)) with q1 | q1
 ·rcases Int.lt_or_le 0 ((a.f0 - c.f0) * (b.f0 - c.f0) + (a.f1 - c.f1) * (b.f1 - c.f1)) with q2 | q2
  ·rcases Int.lt_or_le 0 ((b.f0 - a.f0) * (c.f0 - a.f0) + (b.f1 - a.f1) * (c.f1 - a.f1)) with q3 | q3
   ·exfalso
    rw [cr_eq] at h
    have e2 : (a.f0 - c.f0) * (b.f0 - c.f0) + (a.f1 - c.f1) * (b.f1 - c.f1) = ((c.f0 - b.f0) * (c.f0 - b.f0) + (c.f1 - b.f1) * (c.f1 - b.f1)) - ((a.f0 - b.f0) * (c.f0 - b.f0) + (a.f1 - b.f1) * (c.f1 - b.f1)) := by grind
    have e3 : (b.f0 - a.f0) * (c.f0 - a.f0) + (b.f1 - a.f1) * (c.f1 - a.f1) = ((a.f0 - b.f0) * (a.f0 - b.f0) + (a.f1 - b.f1) * (a.f1 - b.f1)) - ((a.f0 - b.f0) * (c.f0 - b.f0) + (a.f1 - b.f1) * (c.f1 - b.f1)) := by grind
    have e4 : ((a.f0 - b.f0) * (c.f0 - b.f0) + (a.f1 - b.f1) * (c.f1 - b.f1)) * ((a.f0 - b.f0) * (c.f0 - b.f0) + (a.f1 - b.f1) * (c.f1 - b.f1)) = ((a.f0 - b.f0) * (a.f0 - b.f0) + (a.f1 - b.f1) * (a.f1 - b.f1)) * ((c.f0 - b.f0) * (c.f0 - b.f0) + (c.f1 - b.f1) * (c.f1 - b.f1)) := by grind
    rw [e2] at q2; rw [e3] at q3
    generalize (a.f0 - b.f0) * (c.f0 - b.f0) + (a.f1 - b.f1) * (c.f1 - b.f1) = P at *
    generalize (a.f0 - b.f0) * (a.f0 - b.f0) + (a.f1 - b.f1) * (a.f1 - b.f1) = Q at *
    generalize (c.f0 - b.f0) * (c.f0 - b.f0) + (c.f1 - b.f1) * (c.f1 - b.f1) = R at *
    have : P * P < Q * R := Int.lt_of_lt_of_le (Int.mul_lt_mul_of_pos_left (show P < R by omega) q1) (Int.mul_le_mul_of_nonneg_right (by omega) (by omega))
    omega
   ·right; right; have : (b.f0 - a.f0) * (c.f0 - a.f0) + (b.f1 - a.f1) * (c.f1 - a.f1) ≤ 0 := q3; exact this
  ·right; left; exact q2
 ·left; exact q1
/-- a spike: of two edges in a row that lie on one line, one lies on the other one -/
theorem spike {a b c : Pt} (hab : a ≠ b) (hbc : b ≠ c) : (cr b a c = 0 ∧ 0 < (a.f0 - b.f0) * (c.f0 - b.f0) + (a.f1 - b.f1) * (c.f1 - b.f1)) ↔ (On a b c ∨ On b c a) := by
 have e1 : cr b a c = - cr a b c := by rw [cr_eq, cr_eq]; grind
 have e2 : cr a c b = - cr a b c := cr_swap a b c
 have e3 : cr b c a = cr a b c := cr_rot a b c
 by_cases h : cr a b c = 0
 ·have d := dot_on (show cr a c b = 0 by omega)
  have t := on_line h
  have x1 : btw a c b → btw a b c → False := fun p q => hbc (btw_eq q p)
  have x2 : btw a c b → btw b c a → False := fun p q => hab (btw_eq' p q)
  unfold On
  rw [e1, e3, h]
  constructor
  ·rintro ⟨_, h1⟩
   have : ¬ btw a c b := by rw [← d]; omega
   rcases t with t | t | t
   ·exact absurd t this
   ·exact Or.inl ⟨rfl, t⟩
   ·exact Or.inr ⟨rfl, t⟩
  ·intro h1
   refine ⟨by omega, ?_⟩
   have : ¬ btw a c b := by
    intro hb
    rcases h1 with ⟨_, h1⟩ | ⟨_, h1⟩
    ·exact x1 hb h1
    ·exact x2 hb h1
   rw [← d] at this; omega
 ·unfold On; rw [e1, e3]
  constructor
  ·rintro ⟨h1, _⟩; omega
  ·rintro (⟨h1, _⟩ | ⟨h1, _⟩) <;> omega
theorem Meet_comm (a b c d : Pt) : Meet a b c d ↔ Meet c d a b := by
 unfold Meet
 constructor
 ·rintro (h | h | h | h | h)
  ·exact Or.inr (Or.inr (Or.inl h))
  ·exact Or.inr (Or.inr (Or.inr (Or.inl h)))
  ·exact Or.inl h
  ·exact Or.inr (Or.inl h)
  ·exact Or.inr (Or.inr (Or.inr (Or.inr h.symm)))
 ·rintro (h | h | h | h | h)
  ·exact Or.inr (Or.inr (Or.inl h))
  ·exact Or.inr (Or.inr (Or.inr (Or.inl h)))
  ·exact Or.inl h
  ·exact Or.inr (Or.inl h)
  ·exact Or.inr (Or.inr (Or.inr (Or.inr h.symm)))
/-- simple, as the code has it -/
def CSimple (l : List Pt) : Prop := ∀ i, i < l.length →
 at_ l i ≠ at_ l ((i + 1) % l.length) ∧
 ¬ (cr (at_ l i) (at_ l ((i + l.length - 1) % l.length)) (at_ l ((i + 1) % l.length)) = 0 ∧ 0 < ((at_ l ((i + l.length - 1) % l.length)).f0 - (at_ l i).f0) * ((at_ l ((i + 1) % l.length)).f0 - (at_ l i).f0) + ((at_ l ((i + l.length - 1) % l.length)).f1 - (at_ l i).f1) * ((at_ l ((i + 1) % l.length)).f1 - (at_ l i).f1)) ∧
 ∀ j, j < i → j + 1 ≠ i → (j ≠ 0 ∨ i + 1 ≠ l.length) → ¬ Meet (at_ l i) (at_ l ((i + 1) % l.length)) (at_ l j) (at_ l (j + 1))
theorem csimple_iff (l : List Pt) (hn : 3 ≤ l.length) : CSimple l ↔ Simple l := by
 unfold CSimple Simple
 generalize hl : l.length = n at *
 have prev : ∀ i, i < n → (((i + n - 1) % n) + 1) % n = i ∧ (i + n - 1) % n < n := by
  intro i hi
  refine ⟨?_, Nat.mod_lt _ (by omega)⟩
  by_cases h0 : i = 0
  ·subst h0; rw [show 0 + n - 1 = n - 1 by omega, Nat.mod_eq_of_lt (show n - 1 < n by omega), show n - 1 + 1 = n by omega, Nat.mod_self]
  ·rw [show i + n - 1 = (i - 1) + n by omega, Nat.add_mod_right, Nat.mod_eq_of_lt (show i - 1 < n by omega), show i - 1 + 1 = i by omega, Nat.mod_eq_of_lt hi]
 have nxt : ∀ i, i < n → ((i + 1) % n + n - 1) % n = i ∧ (i + 1) % n < n := by
  intro i hi
  refine ⟨?_, Nat.mod_lt _ (by omega)⟩
  by_cases h0 : i + 1 = n
  ·rw [h0, Nat.mod_self, show 0 + n - 1 = n - 1 by omega, Nat.mod_eq_of_lt (by omega)]; omega
  ·rw [Nat.mod_eq_of_lt (show i + 1 < n by omega), show i + 1 + n - 1 = i + n by omega, Nat.add_mod_right, Nat.mod_eq_of_lt hi]
 have two : ∀ i, ((i + 1) % n + 1) % n = (i + 1 + 1) % n := fun i => by rw [Nat.mod_add_mod]
 constructor
 ·intro h
  refine ⟨fun i hi => (h i hi).1, fun i hi => ?_⟩
  obtain ⟨p1, p2⟩ := nxt i hi
  have q := (h _ p2).2.1
  rw [p1, two i] at q
  have e1 := (h i hi).1
  have e2 := (h _ p2).1
  rw [two i] at e2
  rw [spike e1 e2] at q
  refine ⟨fun h1 => q (Or.inl h1), fun h1 => q (Or.inr h1), fun k hk hkn hki hm => ?_⟩
  have hw : i ≠ 0 ∨ k + 1 ≠ n := by
   rcases Nat.lt_or_ge (k + 1) n with h1 | h1
   ·right; omega
   ·left; intro h0; apply hki; rw [show k + 1 = n by omega, Nat.mod_self, h0]
  have := (h k hkn).2.2 i (by omega) (by omega) hw
  apply this
  rw [Meet_comm]
  rwa [Nat.mod_eq_of_lt (show i + 1 < n by omega)] at hm
 ·rintro ⟨h0, h⟩ i hi
  obtain ⟨p1, p2⟩ := prev i hi
  refine ⟨h0 i hi, ?_, fun j hj hji hw hm => ?_⟩
  ·have e1 := h0 _ p2
   rw [p1] at e1
   rw [spike e1 (h0 i hi)]
   have q := h _ p2
   rw [← two ((i + n - 1) % n), p1] at q
   rintro (h1 | h1)
   ·exact q.1 h1
   ·exact q.2.1 h1
  ·have q := (h j (by omega)).2.2 i (by omega) hi (by
    rcases Nat.lt_or_ge (i + 1) n with h1 | h1
    ·rw [Nat.mod_eq_of_lt h1]; omega
    ·rw [show i + 1 = n by omega, Nat.mod_self]; omega)
   apply q
   rw [Nat.mod_eq_of_lt (show j + 1 < n by omega), Meet_comm]
   exact hm
theorem simple_l1 {l : List Pt} (hb : ∀ p ∈ l, Bd p) (hn : 3 ≤ l.length) (hN : l.length ≤ 1000000) {i : Nat} (hi : i < l.length) {b' : Bool} (hnext : Rt (fun k => shape_simple.l0 k l (l.length : Int) (l.length : Int) ((i + 1 : Nat) : Int)) b') :
  ∀ d j, i = j + d → ∃ b, Rt (fun k => shape_simple.l1 k l (l.length : Int) (i : Int) (l.length : Int) (i : Int) (i : Int) (j : Int) (at_ l ((i + 1) % l.length)).f0 (at_ l ((i + 1) % l.length)).f1) b ∧ (b = true ↔ (∀ j', j ≤ j' → j' < i → j' + 1 ≠ i → (j' ≠ 0 ∨ i + 1 ≠ l.length) → ¬ Meet (at_ l i) (at_ l ((i + 1) % l.length)) (at_ l j') (at_ l (j' + 1))) ∧ b' = true) := by
 intro d
 induction d with
 | zero =>
  intro j hj
  obtain ⟨K, hK⟩ := hnext
  refine ⟨b', ⟨K + 1, fun k hk => ?_⟩, ⟨fun h => ⟨fun j' h1 h2 => by omega, h⟩, fun h => h.2⟩⟩
  obtain ⟨k, rfl⟩ : ∃ m, k = m + 1 := ⟨k - 1, by omega⟩
  dsimp only; rw [shape_simple.l1, if_neg (by omega), wz _ (by omega) (by omega)]
  exact hK k (by omega)
 | succ d ih =>
  intro j hj
  obtain ⟨b1, ⟨K, hK⟩, hb1⟩ := ih (j + 1) (by omega)
  have skip : ∀ k, K + 1 ≤ k → shape_simple.j3 k l (l.length : Int) (i : Int) (l.length : Int) (i : Int) (i : Int) (j : Int) false (at_ l ((i + 1) % l.length)).f0 (at_ l ((i + 1) % l.length)).f1 = some b1 := by
   intro k hk
   obtain ⟨k, rfl⟩ : ∃ m, k = m + 1 := ⟨k - 1, by omega⟩
   rw [shape_simple.j3, if_neg (by simp), wz _ (by omega) (by omega)]
   exact hK k (by omega)
  have split_ : ∀ (P : Nat → Prop), (∀ j', j ≤ j' → j' < i → P j') ↔ (P j ∧ ∀ j', j + 1 ≤ j' → j' < i → P j') := by
   intro P
   constructor
   ·intro h; exact ⟨h j (Nat.le_refl _) (by omega), fun j' h1 h2 => h j' (by omega) h2⟩
   ·rintro ⟨h0, h⟩ j' h1 h2
    rcases Nat.eq_or_lt_of_le h1 with rfl | h3
    ·exact h0
    ·exact h j' h3 h2
  rw [show (∃ b, Rt (fun k => shape_simple.l1 k l (l.length : Int) (i : Int) (l.length : Int) (i : Int) (i : Int) (j : Int) (at_ l ((i + 1) % l.length)).f0 (at_ l ((i + 1) % l.length)).f1) b ∧ (b = true ↔ (∀ j', j ≤ j' → j' < i → j' + 1 ≠ i → (j' ≠ 0 ∨ i + 1 ≠ l.length) → ¬ Meet (at_ l i) (at_ l ((i + 1) % l.length)) (at_ l j') (at_ l (j' + 1))) ∧ b' = true)) ↔ (∃ b, Rt (fun k => shape_simple.l1 k l (l.length : Int) (i : Int) (l.length : Int) (i : Int) (i : Int) (j : Int) (at_ l ((i + 1) % l.length)).f0 (at_ l ((i + 1) % l.length)).f1) b ∧ (b = true ↔ ((j + 1 ≠ i → (j ≠ 0 ∨ i + 1 ≠ l.length) → ¬ Meet (at_ l i) (at_ l ((i + 1) % l.length)) (at_ l j) (at_ l (j + 1))) ∧ b1 = true))) from by
   rw [split_]; simp only [hb1, and_assoc]]
  by_cases h1 : j + 1 = i
  ·refine ⟨b1, ⟨K + 2, fun k hk => ?_⟩, ⟨fun h => ⟨fun h2 => absurd h1 h2, h⟩, fun h => h.2⟩⟩
   obtain ⟨k, rfl⟩ : ∃ m, k = m + 1 := ⟨k - 1, by omega⟩
   dsimp only; rw [shape_simple.l1, if_pos (by omega), wz _ (by omega) (by omega), if_pos (by omega)]
   exact skip k (by omega)
  ·have hBi := at_bd hb hi
   have hBn := at_bd hb (show (i + 1) % l.length < l.length from Nat.mod_lt _ (by omega))
   have hBj := at_bd hb (show j < l.length by omega)
   have hBk := at_bd hb (show j + 1 < l.length by omega)
   have go : (j ≠ 0 ∨ i + 1 ≠ l.length) → ∀ k, K + 2 ≤ k → ((shape_meet.f k (rd_T29 l i).f0 (rd_T29 l i).f1 (at_ l ((i + 1) % l.length)).f0 (at_ l ((i + 1) % l.length)).f1 (rd_T29 l j).f0 (rd_T29 l j).f1 (rd_T29 l (((j + 1 : Nat)) : Int)).f0 (rd_T29 l ((j + 1 : Nat) : Int)).f1).bind fun t => shape_simple.j3 k l (l.length : Int) (i : Int) (l.length : Int) (i : Int) (i : Int) (j : Int) t (at_ l ((i + 1) % l.length)).f0 (at_ l ((i + 1) % l.length)).f1) = some (!decide (Meet (at_ l i) (at_ l ((i + 1) % l.length)) (at_ l j) (at_ l (j + 1))) && b1) := by
    intro hw k hk
    obtain ⟨k, rfl⟩ : ∃ m, k = m + 1 := ⟨k - 1, by omega⟩
    rw [rd_at, rd_at, rd_at, meet_f hBi hBn hBj hBk, Option.bind_some]
    by_cases hm : Meet (at_ l i) (at_ l ((i + 1) % l.length)) (at_ l j) (at_ l (j + 1))
    ·simp only [hm, decide_true, Bool.not_true, Bool.false_and]
     rw [shape_simple.j3, if_pos rfl]
    ·simp only [hm, decide_false, Bool.not_false, Bool.true_and]
     exact skip (k + 1) (by omega)
   by_cases h2 : j = 0
   ·by_cases h3 : i + 1 = l.length
    ·refine ⟨b1, ⟨K + 2, fun k hk => ?_⟩, ⟨fun h => ⟨fun _ h2 => by omega, h⟩, fun h => h.2⟩⟩
     obtain ⟨k, rfl⟩ : ∃ m, k = m + 1 := ⟨k - 1, by omega⟩
     dsimp only; rw [shape_simple.l1, if_pos (by omega), wz ((j : Int) + 1) (by omega) (by omega), if_neg (by omega), if_pos (by omega), wz _ (by omega) (by omega), if_pos (by omega)]
     exact skip k (by omega)
    ·refine ⟨(!decide (Meet (at_ l i) (at_ l ((i + 1) % l.length)) (at_ l j) (at_ l (j + 1))) && b1), ⟨K + 3, fun k hk => ?_⟩, ?_⟩
     ·obtain ⟨k, rfl⟩ : ∃ m, k = m + 1 := ⟨k - 1, by omega⟩
      dsimp only; rw [shape_simple.l1, if_pos (by omega), wz ((j : Int) + 1) (by omega) (by omega), if_neg (by omega), if_pos (by omega), wz _ (by omega) (by omega), if_neg (by omega), if_pos (by omega), if_pos (by omega), if_pos (by omega), if_pos (by omega), if_pos (by omega), if_pos (by omega)]
      exact go (by omega) k (by omega)
     ·simp only [Bool.and_eq_true, Bool.not_eq_true', decide_eq_false_iff_not]
      exact ⟨fun h => ⟨fun _ _ => h.1, h.2⟩, fun h => ⟨h.1 h1 (Or.inr h3), h.2⟩⟩
   ·refine ⟨(!decide (Meet (at_ l i) (at_ l ((i + 1) % l.length)) (at_ l j) (at_ l (j + 1))) && b1), ⟨K + 3, fun k hk => ?_⟩, ?_⟩
    ·obtain ⟨k, rfl⟩ : ∃ m, k = m + 1 := ⟨k - 1, by omega⟩
     dsimp only; rw [shape_simple.l1, if_pos (by omega), wz ((j : Int) + 1) (by omega) (by omega), if_neg (by omega), if_neg (by omega), if_pos (by omega), if_pos (by omega), if_pos (by omega), if_pos (by omega), if_pos (by omega), if_pos (by omega)]
     exact go (by omega) k (by omega)
    ·simp only [Bool.and_eq_true, Bool.not_eq_true', decide_eq_false_iff_not]
     exact ⟨fun h => ⟨fun _ _ => h.1, h.2⟩, fun h => ⟨h.1 h1 (Or.inl h2), h.2⟩⟩
theorem tmod_last (i n : Nat) (hi : i < n) (hN : n ≤ 1000000) : Int.tmod (wrap64 (wrap64 ((i : Int) + (n : Int)) - 1)) (n : Int) = (((i + n - 1) % n : Nat) : Int) := by
 rw [wz ((i : Int) + (n : Int)) (by omega) (by omega), wz _ (by omega) (by omega), show ((i : Int) + (n : Int)) - 1 = ((i + n - 1 : Nat) : Int) by omega, ← Int.ofNat_tmod]
theorem simple_l0 {l : List Pt} (hb : ∀ p ∈ l, Bd p) (hn : 3 ≤ l.length) (hN : l.length ≤ 1000000) :
  ∀ d i, l.length = i + d → ∃ b, Rt (fun k => shape_simple.l0 k l (l.length : Int) (l.length : Int) (i : Int)) b ∧ (b = true ↔ ∀ i', i ≤ i' → i' < l.length →
   at_ l i' ≠ at_ l ((i' + 1) % l.length) ∧
   ¬ (cr (at_ l i') (at_ l ((i' + l.length - 1) % l.length)) (at_ l ((i' + 1) % l.length)) = 0 ∧ 0 < ((at_ l ((i' + l.length - 1) % l.length)).f0 - (at_ l i').f0) * ((at_ l ((i' + 1) % l.length)).f0 - (at_ l i').f0) + ((at_ l ((i' + l.length - 1) % l.length)).f1 - (at_ l i').f1) * ((at_ l ((i' + 1) % l.length)).f1 - (at_ l i').f1)) ∧
   ∀ j, j < i' → j + 1 ≠ i' → (j ≠ 0 ∨ i' + 1 ≠ l.length) → ¬ Meet (at_ l i') (at_ l ((i' + 1) % l.length)) (at_ l j) (at_ l (j + 1))) := by
 intro d
 induction d with
 | zero =>
  intro i hi
  refine ⟨true, ⟨1, fun k hk => ?_⟩, ⟨fun _ i' h1 h2 => by omega, fun _ => rfl⟩⟩
  obtain ⟨k, rfl⟩ : ∃ m, k = m + 1 := ⟨k - 1, by omega⟩
  dsimp only; rw [shape_simple.l0, if_neg (by omega)]
 | succ d ih =>
  intro i hi
  obtain ⟨b1, hR1, hb1⟩ := ih (i + 1) (by omega)
  obtain ⟨b2, ⟨K, hK⟩, hb2⟩ := simple_l1 hb hn hN (show i < l.length by omega) hR1 i 0 (by omega)
  have hlt : i < l.length := by omega
  have hBi := at_bd hb hlt
  have hBn := at_bd hb (show (i + 1) % l.length < l.length from Nat.mod_lt _ (by omega))
  have hBl := at_bd hb (show (i + l.length - 1) % l.length < l.length from Nat.mod_lt _ (by omega))
  have t1 := tmod_in (i + 1) l.length (by omega)
  have t2 := tmod_in (i + l.length - 1) l.length (by omega)
  have hcross : shape_cross.f ((at_ l ((i + l.length - 1) % l.length)).f0 - (at_ l i).f0) ((at_ l ((i + l.length - 1) % l.length)).f1 - (at_ l i).f1) ((at_ l ((i + 1) % l.length)).f0 - (at_ l i).f0) ((at_ l ((i + 1) % l.length)).f1 - (at_ l i).f1) = some (cr (at_ l i) (at_ l ((i + l.length - 1) % l.length)) (at_ l ((i + 1) % l.length))) := by
   have := side_f hBi hBl hBn
   unfold shape_side.f at this
   rw [sub_f hBl hBi, sub_f hBn hBi] at this
   simpa using this
  have split_ : ∀ (P : Nat → Prop), (∀ i', i ≤ i' → i' < l.length → P i') ↔ (P i ∧ ∀ i', i + 1 ≤ i' → i' < l.length → P i') := by
   intro P
   constructor
   ·intro h; exact ⟨h i (Nat.le_refl _) hlt, fun j' h1 h2 => h j' (by omega) h2⟩
   ·rintro ⟨h0, h⟩ j' h1 h2
    rcases Nat.eq_or_lt_of_le h1 with rfl | h3
    ·exact h0
    ·exact h j' h3 h2
  by_cases e1 : at_ l i = at_ l ((i + 1) % l.length)
  ·refine ⟨false, ⟨1, fun k hk => ?_⟩, ⟨fun h => by simp at h, fun h => absurd e1 (h i (Nat.le_refl _) hlt).1⟩⟩
   obtain ⟨k, rfl⟩ : ∃ m, k = m + 1 := ⟨k - 1, by omega⟩
   dsimp only
   rw [shape_simple.l0, if_pos (by omega), if_neg (by omega), tmod_last i l.length hlt hN, tmod_nat i l.length (by omega), if_pos (by omega), if_pos (by omega), if_pos (by omega), if_pos (by omega), if_pos (by omega), if_pos (by omega), rd_at, rd_at, rd_at, pt_beq, if_pos (by simpa using e1)]
  ·by_cases e2 : (cr (at_ l i) (at_ l ((i + l.length - 1) % l.length)) (at_ l ((i + 1) % l.length)) = 0 ∧ 0 < ((at_ l ((i + l.length - 1) % l.length)).f0 - (at_ l i).f0) * ((at_ l ((i + 1) % l.length)).f0 - (at_ l i).f0) + ((at_ l ((i + l.length - 1) % l.length)).f1 - (at_ l i).f1) * ((at_ l ((i + 1) % l.length)).f1 - (at_ l i).f1))
   ·refine ⟨false, ⟨2, fun k hk => ?_⟩, ⟨fun h => by simp at h, fun h => absurd e2 (h i (Nat.le_refl _) hlt).2.1⟩⟩
    obtain ⟨k, rfl⟩ : ∃ m, k = m + 1 + 1 := ⟨k - 2, by omega⟩
    dsimp only
    rw [shape_simple.l0, if_pos (by omega), if_neg (by omega), tmod_last i l.length hlt hN, tmod_nat i l.length (by omega), if_pos (by omega), if_pos (by omega), if_pos (by omega), if_pos (by omega), if_pos (by omega), if_pos (by omega), rd_at, rd_at, rd_at, pt_beq, if_neg (by simpa using e1), sub_f hBl hBi, Option.bind_some, sub_f hBn hBi, Option.bind_some, hcross, Option.bind_some, if_pos e2.1, dot_f hBl hBn hBi, Option.bind_some, shape_simple.j1, if_pos (by simpa using e2.2)]
   ·refine ⟨b2, ⟨K + 2, fun k hk => ?_⟩, ?_⟩
    ·obtain ⟨k, rfl⟩ : ∃ m, k = m + 1 + 1 := ⟨k - 2, by omega⟩
     dsimp only
     rw [shape_simple.l0, if_pos (by omega), if_neg (by omega), tmod_last i l.length hlt hN, tmod_nat i l.length (by omega), if_pos (by omega), if_pos (by omega), if_pos (by omega), if_pos (by omega), if_pos (by omega), if_pos (by omega), rd_at, rd_at, rd_at, pt_beq, if_neg (by simpa using e1), sub_f hBl hBi, Option.bind_some, sub_f hBn hBi, Option.bind_some, hcross, Option.bind_some]
     have := hK k (by omega)
     by_cases h3 : cr (at_ l i) (at_ l ((i + l.length - 1) % l.length)) (at_ l ((i + 1) % l.length)) = 0
     ·rw [if_pos h3, dot_f hBl hBn hBi, Option.bind_some, shape_simple.j1, if_neg (by simpa using fun h4 => e2 ⟨h3, h4⟩)]
      exact this
     ·rw [if_neg h3, shape_simple.j1, if_neg (by simp)]
      exact this
    ·rw [split_, hb2, hb1]
     constructor
     ·rintro ⟨h1, h2⟩
      exact ⟨⟨e1, e2, fun j hj h3 h4 => h1 j (Nat.zero_le _) hj h3 h4⟩, h2⟩
     ·rintro ⟨⟨_, _, h1⟩, h2⟩
      exact ⟨fun j _ hj h3 h4 => h1 j hj h3 h4, h2⟩
theorem simple_run {l : List Pt} (hb : ∀ p ∈ l, Bd p) (hn : 3 ≤ l.length) (hN : l.length ≤ 1000000) : ∃ b, Rt (fun k => shape_simple.f k l) b ∧ (b = true ↔ Simple l) := by
 obtain ⟨b, hR, h⟩ := simple_l0 hb hn hN l.length 0 (by omega)
 refine ⟨b, hR, ?_⟩
 rw [← csimple_iff l hn, h]
 exact ⟨fun h i hi => h i (Nat.zero_le _) hi, fun h i _ hi => h i hi⟩
end Go.Proofs.Ytoffmpkgickfhaa.M
end
section
namespace Go.Proofs.Ytoffmpkgickfhaa.M
open Go.RowKit Go.Proofs.Ytoffmpkgickfhaa.PG Go.Proofs.YtoffmpkgickfhaaW.PrintMore Go.Proofs.YtoffmpkgickfhaaW.PrintWords
theorem or_f (a b : Int) (k : Nat) (hk : 3 ≤ k) : cmp_Or_int.f k [a, b] = some (if a = 0 then b else a) := by
 obtain ⟨k, rfl⟩ : ∃ m, k = m + 3 := ⟨k - 3, by omega⟩
 unfold cmp_Or_int.f
 rw [cmp_Or_int.l0]
 simp only [List.length_cons, List.length_nil]
 rw [if_pos (by omega), if_pos (by omega), if_pos (by omega)]
 by_cases h : a = 0
 ·rw [if_pos (show rd [a, b] 0 = 0 from h), cmp_Or_int.l0]
  rw [show wrap64 (0 + 1) = 1 from by unfold wrap64; omega]
  simp only [List.length_cons, List.length_nil]
  rw [if_pos (by omega), if_pos (by omega), if_pos (by omega), if_pos h]
  by_cases h2 : b = 0
  ·rw [if_pos (show rd [a, b] 1 = 0 from h2), cmp_Or_int.l0]
   rw [show wrap64 (1 + 1) = 2 from by unfold wrap64; omega]
   simp only [List.length_cons, List.length_nil]
   rw [if_neg (by omega), h2]
  ·rw [if_neg (show ¬ rd [a, b] 1 = 0 from h2)]; rfl
 ·rw [if_neg (show ¬ rd [a, b] 0 = 0 from h), if_neg h]; rfl
theorem lower_f (a b : Pt) (k : Nat) (hk : 3 ≤ k) : ∃ c, shape_lower.f k a.f0 a.f1 b.f0 b.f1 = some c ∧ (c < 0 ↔ first a b) := by
 refine ⟨_, by unfold shape_lower.f; rw [compare_f, Option.bind_some, compare_f, Option.bind_some, or_f _ _ _ hk, Option.bind_some], ?_⟩
 unfold sg first
 split <;> (try split) <;> (try split) <;> (try split) <;> (try split) <;> omega
/-- the least of the first n points, from m on -/
theorem min_l0 {l : List Pt} (hN : l.length ≤ 1000000) : ∀ d i (m : Pt), l.length = i + d → ∃ r : Pt, Rt (fun k => slices_MinFunc_lower.l0 k l (i : Int) m.f0 m.f1) (r.f0, r.f1) ∧ (r = m ∨ ∃ j, i ≤ j ∧ j < l.length ∧ r = at_ l j) ∧ ¬ first m r ∧ ∀ j, i ≤ j → j < l.length → ¬ first (at_ l j) r := by
 intro d
 induction d with
 | zero =>
  intro i m hi
  refine ⟨m, ⟨0 + 1, fun k hk => ?_⟩, Or.inl rfl, first_irrefl m, fun j h1 h2 => by omega⟩
  obtain ⟨k, rfl⟩ := fuel1 hk
  dsimp only; rw [slices_MinFunc_lower.l0, if_neg (by omega)]
 | succ d ih =>
  intro i m hi
  have hlt : i < l.length := by omega
  by_cases h : first (at_ l i) m
  ·obtain ⟨r, ⟨K, hK⟩, h1, h2, h3⟩ := ih (i + 1) (at_ l i) (by omega)
   refine ⟨r, ⟨K + 4, fun k hk => ?_⟩, ?_, ?_, ?_⟩
   ·obtain ⟨k, rfl⟩ : ∃ m, k = m + 1 := ⟨k - 1, by omega⟩
    obtain ⟨c, hc, hc'⟩ := lower_f (at_ l i) m k (by omega)
    dsimp only; rw [slices_MinFunc_lower.l0, if_pos (by omega), if_pos (by omega), rd_at, hc, Option.bind_some, if_pos (hc'.mpr h), wrap_succ i (by omega)]
    exact hK k (by omega)
   ·right
    rcases h1 with h1 | ⟨j, h4, h5, h6⟩
    ·exact ⟨i, Nat.le_refl _, hlt, h1⟩
    ·exact ⟨j, by omega, h5, h6⟩
   ·intro h4
    exact h2 (first_trans h h4)
   ·intro j h4 h5
    rcases Nat.eq_or_lt_of_le h4 with rfl | h6
    ·exact h2
    ·exact h3 j h6 h5
  ·obtain ⟨r, ⟨K, hK⟩, h1, h2, h3⟩ := ih (i + 1) m (by omega)
   refine ⟨r, ⟨K + 4, fun k hk => ?_⟩, ?_, h2, ?_⟩
   ·obtain ⟨k, rfl⟩ : ∃ m, k = m + 1 := ⟨k - 1, by omega⟩
    obtain ⟨c, hc, hc'⟩ := lower_f (at_ l i) m k (by omega)
    dsimp only; rw [slices_MinFunc_lower.l0, if_pos (by omega), if_pos (by omega), rd_at, hc, Option.bind_some, if_neg (fun h4 => h (hc'.mp h4)), wrap_succ i (by omega)]
    exact hK k (by omega)
   ·rcases h1 with h1 | ⟨j, h4, h5, h6⟩
    ·exact Or.inl h1
    ·exact Or.inr ⟨j, by omega, h5, h6⟩
   ·intro j h4 h5
    rcases Nat.eq_or_lt_of_le h4 with rfl | h6
    ·intro h7
     rcases first_tri m r with e | e | e
     ·rw [e] at h; exact h h7
     ·exact h2 e
     ·exact h (first_trans h7 e)
    ·exact h3 j h6 h5
theorem min_run {l : List Pt} (h0 : 0 < l.length) (hN : l.length ≤ 1000000) : ∃ r : Pt, Rt (fun k => slices_MinFunc_lower.f k l) (r.f0, r.f1) ∧ r ∈ l ∧ ∀ p ∈ l, ¬ first p r := by
 obtain ⟨r, ⟨K, hK⟩, h1, h2, h3⟩ := min_l0 hN (l.length - 1) 1 (at_ l 0) (by omega)
 refine ⟨r, ⟨K, fun k hk => ?_⟩, ?_, ?_⟩
 ·unfold slices_MinFunc_lower.f
  dsimp only; rw [if_neg (by omega), if_pos (by omega)]
  exact hK k hk
 ·rcases h1 with rfl | ⟨j, _, h5, rfl⟩
  ·exact at_mem h0
  ·exact at_mem h5
 ·intro p hp
  obtain ⟨j, hj, rfl⟩ := List.mem_iff_getElem.mp hp
  rw [← at_eq hj]
  by_cases h4 : j = 0
  ·subst h4; exact h2
  ·exact h3 j (by omega) hj
theorem tmod_two (i n : Nat) (h : i ≤ 1000000) : Int.tmod (wrap64 ((i : Int) + 2)) (n : Int) = (((i + 1 + 1) % n : Nat) : Int) := by
 rw [wrap_succ2 i h, ← Int.ofNat_tmod]
theorem normal_l0 {l : List Pt} (hb : ∀ p ∈ l, Bd p) (hn : 3 ≤ l.length) (hN : l.length ≤ 1000000) {r : Pt} (hmin : Rt (fun k => slices_MinFunc_lower.f k l) (r.f0, r.f1)) {b' : Bool} (hs : Rt (fun k => shape_simple.f k l) b') :
  ∀ d i, l.length = i + d → ∃ b, Rt (fun k => shape_normal.l0 k l (l.length : Int) (i : Int)) b ∧ (b = true ↔ (∀ i', i ≤ i' → i' < l.length → 0 < cr (at_ l i') (at_ l ((i' + 1) % l.length)) (at_ l ((i' + 1 + 1) % l.length))) ∧ at_ l 0 = r ∧ b' = true) := by
 intro d
 induction d with
 | zero =>
  intro i hi
  obtain ⟨K1, hK1⟩ := hmin
  obtain ⟨K2, hK2⟩ := hs
  refine ⟨decide (at_ l 0 = r) && b', ⟨K1 + K2 + 1, fun k hk => ?_⟩, ?_⟩
  ·obtain ⟨k, rfl⟩ := fuel1 hk
   have e1 := hK1 k (by omega)
   have e2 := hK2 k (by omega)
   dsimp only at e1 e2 ⊢
   rw [shape_normal.l0, if_neg (by omega), if_pos (by omega), e1, Option.bind_some]
   dsimp only
   rw [show rd_T29 l 0 = at_ l 0 from rfl, pt_beq]
   by_cases h : at_ l 0 = r
   ·rw [if_pos (by simpa using h), e2, Option.bind_some]; simp [h]
   ·rw [if_neg (by simpa using h)]; simp [h]
  ·simp only [Bool.and_eq_true, decide_eq_true_eq]
   exact ⟨fun h => ⟨fun i' h1 h2 => by omega, h⟩, fun h => h.2⟩
 | succ d ih =>
  intro i hi
  have hlt : i < l.length := by omega
  obtain ⟨b1, ⟨K, hK⟩, hb1⟩ := ih (i + 1) (by omega)
  have hBi := at_bd hb hlt
  have hBn := at_bd hb (show (i + 1) % l.length < l.length from Nat.mod_lt _ (by omega))
  have hBm := at_bd hb (show (i + 1 + 1) % l.length < l.length from Nat.mod_lt _ (by omega))
  have t1 := tmod_in (i + 1) l.length (by omega)
  have t2 := tmod_in (i + 1 + 1) l.length (by omega)
  rw [from_split hlt]
  by_cases h1 : cr (at_ l i) (at_ l ((i + 1) % l.length)) (at_ l ((i + 1 + 1) % l.length)) ≤ 0
  ·refine ⟨false, ⟨0 + 1, fun k hk => ?_⟩, ⟨fun h => by simp at h, fun h => absurd h.1.1 (by omega)⟩⟩
   obtain ⟨k, rfl⟩ := fuel1 hk
   dsimp only
   rw [shape_normal.l0, if_pos (by omega), if_pos (by omega), if_pos (by omega), if_neg (by omega), tmod_nat i _ (by omega), tmod_two i _ (by omega), if_pos (by omega), if_pos (by omega), if_pos (by omega), if_pos (by omega), rd_at, rd_at, rd_at, side_f hBi hBn hBm, Option.bind_some, if_pos h1]
  ·refine ⟨b1, ⟨K + 1, fun k hk => ?_⟩, ?_⟩
   ·obtain ⟨k, rfl⟩ := fuel1 hk
    dsimp only
    rw [shape_normal.l0, if_pos (by omega), if_pos (by omega), if_pos (by omega), if_neg (by omega), tmod_nat i _ (by omega), tmod_two i _ (by omega), if_pos (by omega), if_pos (by omega), if_pos (by omega), if_pos (by omega), rd_at, rd_at, rd_at, side_f hBi hBn hBm, Option.bind_some, if_neg h1, wrap_succ i (by omega)]
    exact hK k (by omega)
   ·rw [hb1]; exact ⟨fun h => ⟨⟨by omega, h.1⟩, h.2⟩, fun h => ⟨h.1.2, h.2⟩⟩
/-- a simple polygon comes to its first corner but once -/
theorem simple_once {l : List Pt} (hn : 3 ≤ l.length) (h : Simple l) {i : Nat} (hi : i < l.length) (h0 : 0 < i) : at_ l 0 ≠ at_ l i := by
 intro e
 by_cases h1 : i = 1
 ·subst h1
  have := h.1 0 (by omega)
  rw [Nat.mod_eq_of_lt (by omega)] at this; exact this e
 ·by_cases h2 : i + 1 = l.length
  ·have := h.1 i hi
   rw [h2, Nat.mod_self] at this; exact this e.symm
  ·have := (h.2 0 (by omega)).2.2 i (by omega) hi (by rw [Nat.mod_eq_of_lt (by omega)]; omega)
   apply this
   left
   rw [← e]
   exact ⟨cr_self1 _ _, btw_start _ _⟩
theorem normal_run {l : List Pt} (hb : ∀ p ∈ l, Bd p) (hn : 3 ≤ l.length) (hN : l.length ≤ 1000000) : ∃ b, Rt (fun k => shape_normal.f k l) b ∧ (b = true ↔ Convex l) := by
 obtain ⟨r, hR, hr1, hr2⟩ := min_run (show 0 < l.length by omega) hN
 obtain ⟨b1, hS, hb1⟩ := simple_run hb hn hN
 obtain ⟨b, hB, hb2⟩ := normal_l0 hb hn hN hR hS l.length 0 (by omega)
 refine ⟨b, hB, ?_⟩
 rw [hb2, hb1]
 constructor
 ·rintro ⟨h1, h2, h3⟩
  refine ⟨h3, fun i hi => ⟨h1 i (Nat.zero_le _) hi, fun h0 => ?_⟩⟩
  rcases first_tri (at_ l 0) (at_ l i) with e | e | e
  ·exact absurd e (simple_once hn h3 hi h0)
  ·exact e
  ·rw [h2] at e; exact absurd e (hr2 _ (at_mem hi))
 ·rintro ⟨h3, h4⟩
  refine ⟨fun i _ hi => (h4 i hi).1, ?_, h3⟩
  obtain ⟨j, hj, rfl⟩ := List.mem_iff_getElem.mp hr1
  rw [← at_eq hj] at hr2 ⊢
  by_cases h5 : j = 0
  ·rw [h5]
  ·exact absurd ((h4 j hj).2 (by omega)) (hr2 _ (at_mem (by omega)))
end Go.Proofs.Ytoffmpkgickfhaa.M
end
section
namespace Go.Proofs.Ytoffmpkgickfhaa.M
open Go.RowKit Go.Proofs.Ytoffmpkgickfhaa.PG Go.Proofs.YtoffmpkgickfhaaW.PrintMore Go.Proofs.YtoffmpkgickfhaaW.PrintWords
theorem href_l1 {l : List Pt} (hb : ∀ p ∈ l, Bd p) (hN : l.length ≤ 1000000) {i : Nat} (hi : i < l.length) (m : Pt) :
  ∀ d j b, l.length = j + d → ∃ c, (c = true ↔ b = true ∧ ∀ j', j ≤ j' → j' < l.length → cr (at_ l 0) (at_ l i) (at_ l j') = 0) ∧ ∀ v, Rt (fun k => cracknelref04_Hull.l0 k l c ((i + 1 : Nat) : Int) m.f0 m.f1) v → Rt (fun k => cracknelref04_Hull.l1 k l b (i : Int) (j : Int) m.f0 m.f1) v := by
 intro d
 induction d with
 | zero =>
  intro j b hj
  refine ⟨b, ⟨fun h => ⟨h, fun j' h1 h2 => by omega⟩, fun h => h.1⟩, fun v hv => rt_step (fun k => ?_) hv⟩
  rw [cracknelref04_Hull.l1, if_neg (by omega), wrap_succ i (by omega)]
 | succ d ih =>
  intro j b hj
  have hlt : j < l.length := by omega
  cases b with
  | false =>
   refine ⟨false, by simp, fun v hv => rt_step (fun k => ?_) hv⟩
   rw [cracknelref04_Hull.l1, if_pos (by omega), if_neg (by simp), wrap_succ i (by omega)]
  | true =>
   obtain ⟨c, hc, hr⟩ := ih (j + 1) (decide (cr (at_ l 0) (at_ l i) (at_ l j) = 0)) (by omega)
   refine ⟨c, ?_, fun v hv => rt_step (fun k => ?_) (hr v hv)⟩
   ·rw [hc, from_split hlt, decide_eq_true_eq]; exact ⟨fun h => ⟨rfl, h⟩, fun h => h.2⟩
   ·rw [cracknelref04_Hull.l1, if_pos (by omega), if_pos rfl, if_pos (by omega), if_pos (by omega), if_pos (by omega), if_pos (by omega), show rd_T29 l 0 = at_ l 0 from rfl, rd_at, rd_at, Cross_f (at_bd hb (by omega)) (at_bd hb hi) (at_bd hb hlt), Option.bind_some, wrap_succ j (by omega)]
    rfl
theorem href_l0 {l : List Pt} (hb : ∀ p ∈ l, Bd p) (hN : l.length ≤ 1000000) :
  ∀ d i (m : Pt) b, l.length = i + d → ∃ r c, (c = true ↔ b = true ∧ ∀ i', i ≤ i' → i' < l.length → ∀ j, j < l.length → cr (at_ l 0) (at_ l i') (at_ l j) = 0) ∧ (r = m ∨ ∃ j, i ≤ j ∧ j < l.length ∧ r = at_ l j) ∧ ¬ first m r ∧ (∀ j, i ≤ j → j < l.length → ¬ first (at_ l j) r) ∧
   ∀ v, Rt (fun k => cracknelref04_Hull.l0 k l c (l.length : Int) r.f0 r.f1) v → Rt (fun k => cracknelref04_Hull.l0 k l b (i : Int) m.f0 m.f1) v := by
 intro d
 induction d with
 | zero =>
  intro i m b hi
  refine ⟨m, b, ⟨fun h => ⟨h, fun i' h1 h2 => by omega⟩, fun h => h.1⟩, Or.inl rfl, first_irrefl m, fun j h1 h2 => by omega, fun v hv => ?_⟩
  rw [show i = l.length by omega]; exact hv
 | succ d ih =>
  intro i m b hi
  have hlt : i < l.length := by omega
  by_cases h : first (at_ l i) m
  ·obtain ⟨c1, hc1, hr1⟩ := href_l1 hb hN hlt (at_ l i) l.length 0 b (by omega)
   obtain ⟨r, c, hc, h1, h2, h3, hr⟩ := ih (i + 1) (at_ l i) c1 (by omega)
   refine ⟨r, c, ?_, ?_, ?_, ?_, fun v hv => rt_step (h := fun k => cracknelref04_Hull.j1 k l b (i : Int) (at_ l i).f0 (at_ l i).f1) (fun k => ?_) (rt_step (fun k => ?_) (hr1 v (hr v hv)))⟩
   rotate_left 4
   ·rw [cracknelref04_Hull.l0, if_pos (by omega), if_pos (by omega), rd_at, first_f, Option.bind_some, if_pos (by simpa using h)]
   ·rw [cracknelref04_Hull.j1]; rfl
   ·rw [hc, hc1, from_split hlt, and_assoc]
    exact ⟨fun h => ⟨h.1, fun j hj => h.2.1 j (Nat.zero_le _) hj, h.2.2⟩, fun h => ⟨h.1, fun j _ hj => h.2.1 j hj, h.2.2⟩⟩
   ·right
    rcases h1 with h1 | ⟨j, h4, h5, h6⟩
    ·exact ⟨i, Nat.le_refl _, hlt, h1⟩
    ·exact ⟨j, by omega, h5, h6⟩
   ·exact fun h4 => h2 (first_trans h h4)
   ·intro j h4 h5
    rcases Nat.eq_or_lt_of_le h4 with rfl | h6
    ·exact h2
    ·exact h3 j h6 h5
  ·obtain ⟨c1, hc1, hr1⟩ := href_l1 hb hN hlt m l.length 0 b (by omega)
   obtain ⟨r, c, hc, h1, h2, h3, hr⟩ := ih (i + 1) m c1 (by omega)
   refine ⟨r, c, ?_, ?_, h2, ?_, fun v hv => rt_step (h := fun k => cracknelref04_Hull.j1 k l b (i : Int) m.f0 m.f1) (fun k => ?_) (rt_step (fun k => ?_) (hr1 v (hr v hv)))⟩
   rotate_left 3
   ·rw [cracknelref04_Hull.l0, if_pos (by omega), if_pos (by omega), rd_at, first_f, Option.bind_some, if_neg (by simpa using h)]
   ·rw [cracknelref04_Hull.j1]; rfl
   ·rw [hc, hc1, from_split hlt, and_assoc]
    exact ⟨fun h => ⟨h.1, fun j hj => h.2.1 j (Nat.zero_le _) hj, h.2.2⟩, fun h => ⟨h.1, fun j _ hj => h.2.1 j hj, h.2.2⟩⟩
   ·rcases h1 with h1 | ⟨j, h4, h5, h6⟩
    ·exact Or.inl h1
    ·exact Or.inr ⟨j, by omega, h5, h6⟩
   ·intro j h4 h5
    rcases Nat.eq_or_lt_of_le h4 with rfl | h6
    ·intro h7
     rcases first_tri m r with e | e | e
     ·rw [e] at h; exact h h7
     ·exact h2 e
     ·exact h (first_trans h7 e)
    ·exact h3 j h6 h5
theorem drop_at {l : List Pt} {i : Nat} (h : i < l.length) : l.drop i = at_ l i :: l.drop (i + 1) := by
 rw [at_eq h]; exact List.drop_eq_getElem_cons h
theorem wrapStep_bd {o t p : Pt} (ht : Bd t) (hp : Bd p) : Bd (wrapStep o t p) := by
 unfold wrapStep; split
 ·exact ht
 ·split
  ·exact hp
  ·exact ht
theorem href_l3 {l : List Pt} (hb : ∀ p ∈ l, Bd p) (hN : l.length ≤ 1000000) (x : List Pt) (low o : Pt) (ho : Bd o) :
  ∀ d i t, l.length = i + d → Bd t → ∀ v, Rt (fun k => cracknelref04_Hull.l3 k l x (l.length : Int) low.f0 low.f1 o.f0 o.f1 ((l.drop i).foldl (wrapStep o) t).f0 ((l.drop i).foldl (wrapStep o) t).f1) v →
   Rt (fun k => cracknelref04_Hull.l3 k l x (i : Int) low.f0 low.f1 o.f0 o.f1 t.f0 t.f1) v := by
 intro d
 induction d with
 | zero =>
  intro i t hi _ v hv
  rw [List.drop_of_length_le (by omega), List.foldl_nil] at hv
  rw [show i = l.length by omega]; exact hv
 | succ d ih =>
  intro i t hi ht v hv
  have hlt : i < l.length := by omega
  have hp := at_bd hb hlt
  rw [drop_at hlt, List.foldl_cons] at hv
  have h := ih (i + 1) (wrapStep o t (at_ l i)) (by omega) (wrapStep_bd ht hp) v hv
  have e : wrapStep o t (at_ l i) = if at_ l i = o then t else if t = o ∨ cr o t (at_ l i) < 0 ∨ (cr o t (at_ l i) = 0 ∧ cr o (at_ l i) t = 0 ∧ btw o (at_ l i) t) then at_ l i else t := rfl
  by_cases h1 : at_ l i = o
  ·rw [if_pos h1] at e; rw [e] at h
   refine rt_step (fun k => ?_) h
   rw [cracknelref04_Hull.l3, if_pos (by omega), if_pos (by omega), rd_at, pt_beq, if_pos (by simpa using h1), wrap_succ i (by omega)]
  ·rw [if_neg h1] at e
   have s0 : ∀ k, cracknelref04_Hull.l3 (k + 1) l x (i : Int) low.f0 low.f1 o.f0 o.f1 t.f0 t.f1 = cracknelref04_Hull.j5 k l x (i : Int) (decide (t = o ∨ cr o t (at_ l i) < 0 ∨ (cr o t (at_ l i) = 0 ∧ cr o (at_ l i) t = 0 ∧ btw o (at_ l i) t))) low.f0 low.f1 o.f0 o.f1 t.f0 t.f1 (at_ l i).f0 (at_ l i).f1 := by
    intro k
    rw [cracknelref04_Hull.l3, if_pos (by omega), if_pos (by omega), rd_at, pt_beq, if_neg (by simpa using h1), Cross_f ho ht hp, Option.bind_some, pt_beq]
    by_cases h2 : t = o
    ·rw [if_pos (by simpa using h2)]; simp only [h2, true_or, decide_true]
    ·rw [if_neg (by simpa using h2)]
     by_cases h3 : cr o t (at_ l i) < 0
     ·rw [if_pos h3]; simp only [h3, true_or, or_true, decide_true]
     ·rw [if_neg h3]
      by_cases h4 : cr o t (at_ l i) = 0
      ·rw [if_pos h4, On_f ho hp ht, Option.bind_some]
       rw [show decide (On o (at_ l i) t) = decide (t = o ∨ cr o t (at_ l i) < 0 ∨ (cr o t (at_ l i) = 0 ∧ cr o (at_ l i) t = 0 ∧ btw o (at_ l i) t)) from by
        rw [decide_eq_decide]; unfold On
        exact ⟨fun h => Or.inr (Or.inr ⟨h4, h⟩), fun h => by
         rcases h with h | h | h
         ·exact absurd h h2
         ·exact absurd h h3
         ·exact h.2⟩]
      ·rw [if_neg h4]
       rw [show decide (t = o ∨ cr o t (at_ l i) < 0 ∨ (cr o t (at_ l i) = 0 ∧ cr o (at_ l i) t = 0 ∧ btw o (at_ l i) t)) = false from by
        rw [decide_eq_false_iff_not]
        rintro (h | h | h)
        ·exact h2 h
        ·exact h3 h
        ·exact h4 h.1]
   by_cases h5 : (t = o ∨ cr o t (at_ l i) < 0 ∨ (cr o t (at_ l i) = 0 ∧ cr o (at_ l i) t = 0 ∧ btw o (at_ l i) t))
   ·rw [if_pos h5] at e; rw [e] at h
    refine rt_step s0 (rt_step (fun k => ?_) h)
    rw [cracknelref04_Hull.j5, if_pos (by simpa using h5), wrap_succ i (by omega)]
   ·rw [if_neg h5] at e; rw [e] at h
    refine rt_step s0 (rt_step (fun k => ?_) h)
    rw [cracknelref04_Hull.j5, if_neg (by simpa using h5), wrap_succ i (by omega)]
theorem around_last (S : List Pt) : ∀ n o x, (around S n o).getLast? = some x → around S (n + 1) o = around S n o ++ [wrap S x] := by
 intro n
 induction n with
 | zero => intro o x h; simp [around] at h ⊢; rw [h]
 | succ n ih =>
  intro o x h
  have e : around S (n + 1) o = o :: around S n (wrap S o) := rfl
  have ne : around S n (wrap S o) ≠ [] := by cases n <;> simp [around]
  rw [e, List.getLast?_cons_of_ne_nil ne] at h
  have := ih (wrap S o) x h
  show o :: around S (n + 1) (wrap S o) = _
  rw [this]; rfl
theorem around_len (S : List Pt) : ∀ n o, (around S n o).length = n + 1 := by
 intro n
 induction n with
 | zero => intro o; rfl
 | succ n ih => intro o; show (around S n (wrap S o)).length + 1 = _; rw [ih]
theorem foldl_bd {S : List Pt} {o : Pt} : ∀ (l : List Pt) (t : Pt), (∀ p ∈ l, p ∈ S) → t ∈ S → l.foldl (wrapStep o) t ∈ S := by
 intro l
 induction l with
 | nil => intro t _ h; exact h
 | cons a l ih =>
  intro t h ht
  rw [List.foldl_cons]
  refine ih _ (fun p hp => h p (List.mem_cons_of_mem _ hp)) ?_
  unfold wrapStep; split
  ·exact ht
  ·split
   ·exact h a (List.mem_cons_self)
   ·exact ht
theorem wrap_mem {S : List Pt} {o : Pt} (h : o ∈ S) : wrap S o ∈ S := foldl_bd S o (fun _ h => h) h
theorem around_mem {S : List Pt} : ∀ n o, o ∈ S → ∀ p ∈ around S n o, p ∈ S := by
 intro n
 induction n with
 | zero => intro o h p hp; simp [around] at hp; rw [hp]; exact h
 | succ n ih =>
  intro o h p hp
  have hp : p = o ∨ p ∈ around S n (wrap S o) := by simpa [around] using hp
  rcases hp with rfl | hp
  ·exact h
  ·exact ih _ (wrap_mem h) p hp
theorem last_at {x : List Pt} {y : Pt} (h : x.getLast? = some y) : 0 < x.length ∧ at_ x (x.length - 1) = y := by
 cases x with
 | nil => simp at h
 | cons a t =>
  refine ⟨by simp, ?_⟩
  rw [List.getLast?_eq_getElem?] at h
  rw [at_eq (by simp)]
  have := List.getElem?_eq_some_iff.mp h
  exact this.2
theorem href_l2 {l : List Pt} (hb : ∀ p ∈ l, Bd p) (hN : l.length ≤ 1000000) {low : Pt} (hlow : low ∈ l) {n : Nat} (hn : n < l.length) (hend : ∃ x, (around l n low).getLast? = some x ∧ wrap l x = low) (hmid : ∀ m, m < n → ∃ x, (around l m low).getLast? = some x ∧ wrap l x ≠ low) :
  ∀ d m, n = m + d → Rt (fun k => cracknelref04_Hull.l2 k l (around l m low) low.f0 low.f1) (around l n low, true) := by
 intro d
 have step : ∀ m, m ≤ n → ∀ x, (around l m low).getLast? = some x → ∀ v, Rt (fun k => cracknelref04_Hull.l3 k l (around l m low) (l.length : Int) low.f0 low.f1 x.f0 x.f1 (wrap l x).f0 (wrap l x).f1) v → Rt (fun k => cracknelref04_Hull.l2 k l (around l m low) low.f0 low.f1) v := by
  intro m hm x hx v hv
  obtain ⟨h0, h1⟩ := last_at hx
  have hlen := around_len l m low
  have hxl : x ∈ l := around_mem m low hlow x (List.mem_of_getLast? hx)
  have := href_l3 hb hN (around l m low) low x (hb x hxl) l.length 0 x (by omega) (hb x hxl) v hv
  refine rt_step (fun k => ?_) this
  rw [cracknelref04_Hull.l2, wz _ (by omega) (by omega), show (((around l m low).length : Int) - 1) = (((around l m low).length - 1 : Nat) : Int) by omega, if_pos (by omega), if_pos (by omega), rd_at, h1]
  rfl
 induction d with
 | zero =>
  intro m hm
  obtain ⟨x, hx, hw⟩ := hend
  obtain rfl : n = m := by omega
  refine step n (Nat.le_refl _) x hx _ (rt_ret fun k => ?_)
  rw [cracknelref04_Hull.l3, if_neg (by omega), hw, pt_beq, if_pos (by simp)]
 | succ d ih =>
  intro m hm
  obtain ⟨x, hx, hw⟩ := hmid m (by omega)
  have hlen := around_len l m low
  refine step m (by omega) x hx _ (rt_step (fun k => ?_) (ih (m + 1) (by omega)))
  rw [cracknelref04_Hull.l3, if_neg (by omega), pt_beq, if_neg (by simpa using hw), if_pos (by omega), around_last l m low x hx]
/-- what the reference's hull is of points that lie not on one line .. -/
theorem refHull_run {l : List Pt} (hb : ∀ p ∈ l, Bd p) (hN : l.length ≤ 1000000) (h0 : 0 < l.length) :
  (Flat l → Rt (fun k => cracknelref04_Hull.f k l) ([], false)) ∧ (¬ Flat l → ∃ h, Rt (fun k => cracknelref04_Hull.f k l) (h, true) ∧ Ring l h ∧ ∀ p ∈ l, p = at_ h 0 ∨ first (at_ h 0) p) := by
 obtain ⟨r, c, hc, h1, h2, h3, hr⟩ := href_l0 hb hN l.length 0 (at_ l 0) true (by omega)
 have hfl : c = true ↔ Flat l := by
  rw [hc]
  constructor
  ·rintro ⟨_, h⟩
   refine flat_of_first (o := at_ l 0) fun a ha b hb' => ?_
   obtain ⟨i, hi, rfl⟩ := List.mem_iff_getElem.mp ha
   obtain ⟨j, hj, rfl⟩ := List.mem_iff_getElem.mp hb'
   rw [← at_eq hi, ← at_eq hj]
   exact h i (Nat.zero_le _) hi j hj
  ·intro h
   exact ⟨rfl, fun i _ hi j hj => h _ (at_mem h0) _ (at_mem hi) _ (at_mem hj)⟩
 have hrm : r ∈ l := by
  rcases h1 with rfl | ⟨j, _, hj, rfl⟩
  ·exact at_mem h0
  ·exact at_mem hj
 have hmin : ∀ p ∈ l, p = r ∨ first r p := by
  intro p hp
  obtain ⟨j, hj, rfl⟩ := List.mem_iff_getElem.mp hp
  have := h3 j (Nat.zero_le _) hj
  rw [at_eq hj] at this
  rcases first_tri l[j] r with e | e | e
  ·exact Or.inl e
  ·exact absurd e this
  ·exact Or.inr e
 have start : ∀ v, Rt (fun k => cracknelref04_Hull.l0 k l true 0 (at_ l 0).f0 (at_ l 0).f1) v → Rt (fun k => cracknelref04_Hull.f k l) v := by
  rintro v ⟨K, hK⟩
  refine ⟨K, fun k hk => ?_⟩
  have := hK k hk
  unfold cracknelref04_Hull.f
  dsimp only at this ⊢
  rw [if_pos (by omega)]; exact this
 refine ⟨fun hf => start _ (hr _ (rt_ret fun k => ?_)), fun hf => ?_⟩
 ·rw [cracknelref04_Hull.l0, if_neg (by omega), if_pos (hfl.mpr hf)]
 ·obtain ⟨n, hn, ring, hend, hmid⟩ := ring_around hrm hmin (two_of_not_flat hf)
  refine ⟨around l n r, start _ (hr _ (rt_step (fun k => ?_) (href_l2 hb hN hrm hn hend hmid n 0 (by omega)))), ring, ?_⟩
  ·rw [cracknelref04_Hull.l0, if_neg (by omega), if_neg (fun h => hf (hfl.mp h))]; rfl
  ·have : at_ (around l n r) 0 = r := by cases n <;> rfl
   rw [this]; exact hmin
theorem ring_sub {S h : List Pt} (r : Ring S h) : ∀ p ∈ h, p ∈ S := by
 intro p hp
 obtain ⟨j, hj, rfl⟩ := List.mem_iff_getElem.mp hp
 rw [← at_eq hj]; exact (ring_corner r j hj).2
theorem ring_nodup {S h : List Pt} (r : Ring S h) : h.Nodup := by
 unfold List.Nodup
 rw [List.pairwise_iff_getElem]
 intro i j hi hj hij e
 rw [← at_eq hi, ← at_eq hj] at e
 have := ring_inj r i j hi hj e
 omega
end Go.Proofs.Ytoffmpkgickfhaa.M
end
section
namespace Go.Proofs.Ytoffmpkgickfhaa.M
open Go.RowKit Go.Proofs.Ytoffmpkgickfhaa.PG Go.Proofs.YtoffmpkgickfhaaW.PrintMore Go.Proofs.YtoffmpkgickfhaaW.PrintWords
/-- coordinates up to a limit -/
def In (m : Int) (p : Pt) : Prop := -m ≤ p.f0 ∧ p.f0 ≤ m ∧ -m ≤ p.f1 ∧ p.f1 ≤ m
instance (m : Int) (p : Pt) : Decidable (In m p) := by unfold In; infer_instance
def Poly (l : List Pt) : Prop := 3 ≤ l.length ∧ l.length ≤ 32 ∧ ∀ p ∈ l, In 10000 p
instance (l : List Pt) : Decidable (Poly l) := by unfold Poly; infer_instance
theorem beyond_f (m : Int) (h0 : 0 ≤ m) (h1 : m ≤ 1000000) (p : Pt) : beyond m p = !decide (In m p) := by
 unfold beyond
 rw [wz _ (by omega) (by omega), Bool.eq_iff_iff]
 simp only [Bool.or_eq_true, decide_eq_true_eq, Bool.not_eq_true']
 rw [decide_eq_false_iff_not]
 unfold In
 omega
theorem within_f (l : List Pt) (m : Int) (h0 : 0 ≤ m) (h1 : m ≤ 1000000) : shape_within.f l m = some (decide (∀ p ∈ l, In m p)) := by
 unfold shape_within.f
 congr 1
 rw [Bool.eq_iff_iff]
 simp only [Bool.not_eq_true', List.any_eq_false, beyond_f m h0 h1, decide_eq_true_eq, Bool.not_eq_true', decide_eq_false_iff_not, Decidable.not_not]
theorem polygon_f (l : List Pt) : shape_polygon.f l = some (decide (Poly l)) := by
 unfold shape_polygon.f
 by_cases h : (l.length : Int) ≥ 3
 ·rw [if_pos h]
  by_cases h2 : (l.length : Int) ≤ 32
  ·rw [if_pos h2, within_f _ _ (by omega) (by omega), Option.bind_some]
   congr 1; rw [decide_eq_decide]
   exact ⟨fun h3 => ⟨by omega, by omega, h3⟩, fun h3 => h3.2.2⟩
  ·rw [if_neg h2]
   congr 1; symm; rw [decide_eq_false_iff_not]
   intro h3; have := h3.2.1; omega
 ·rw [if_neg h]
  congr 1; symm; rw [decide_eq_false_iff_not]
  intro h3; have := h3.1; omega
theorem in_bd {p : Pt} (h : In 10000 p) : Bd p := by unfold In at h; unfold Bd; omega
/-- what edge i adds to twice the area -/
def term (l : List Pt) (i : Nat) : Int := (at_ l i).f0 * (at_ l ((i + 1) % l.length)).f1 - (at_ l i).f1 * (at_ l ((i + 1) % l.length)).f0
def areaTo (l : List Pt) : Nat → Int
 | 0 => 0
 | i + 1 => areaTo l i + term l i
/-- twice the signed area -/
def area (l : List Pt) : Int := areaTo l l.length
theorem prod_bd {a b : Pt} (ha : Bd a) (hb : Bd b) : (-4000000000000 ≤ a.f0 * b.f1 ∧ a.f0 * b.f1 ≤ 4000000000000) ∧ (-4000000000000 ≤ a.f1 * b.f0 ∧ a.f1 * b.f0 ≤ 4000000000000) := by
 obtain ⟨a0, a1, a2, a3⟩ := ha; obtain ⟨b0, b1, b2, b3⟩ := hb
 exact ⟨mulb (by omega) (by omega) (by omega) (by omega), mulb (by omega) (by omega) (by omega) (by omega)⟩
theorem areaTo_bd {l : List Pt} (hb : ∀ p ∈ l, Bd p) : ∀ i, i ≤ l.length → -8000000000000 * (i : Int) ≤ areaTo l i ∧ areaTo l i ≤ 8000000000000 * (i : Int) := by
 intro i
 induction i with
 | zero => intro _; unfold areaTo; omega
 | succ i ih =>
  intro hi
  have h := ih (by omega)
  have h2 := prod_bd (at_bd hb (show i < l.length by omega)) (at_bd hb (show (i + 1) % l.length < l.length from Nat.mod_lt _ (by omega)))
  unfold areaTo term; omega
theorem area_l0 {l : List Pt} (hb : ∀ p ∈ l, Bd p) (hN : l.length ≤ 1000000) : ∀ d i, l.length = i + d → Rt (fun k => shape_area2.l0 k l (areaTo l i) (l.length : Int) (i : Int)) (area l) := by
 intro d
 induction d with
 | zero =>
  intro i hi
  refine ⟨0 + 1, fun k hk => ?_⟩
  obtain ⟨k, rfl⟩ := fuel1 hk
  dsimp only; rw [shape_area2.l0, if_neg (by omega)]
  rw [show i = l.length by omega]; rfl
 | succ d ih =>
  intro i hi
  have hlt : i < l.length := by omega
  obtain ⟨K, hK⟩ := ih (i + 1) (by omega)
  refine ⟨K + 1, fun k hk => ?_⟩
  obtain ⟨k, rfl⟩ := fuel1 hk
  have t1 := tmod_in (i + 1) l.length (by omega)
  have h2 := prod_bd (at_bd hb hlt) (at_bd hb (show (i + 1) % l.length < l.length from Nat.mod_lt _ (by omega)))
  have h3 := areaTo_bd hb (i + 1) (by omega)
  have h4 := areaTo_bd hb i (by omega)
  have e : areaTo l (i + 1) = areaTo l i + term l i := rfl
  unfold term at e
  dsimp only
  rw [shape_area2.l0, if_pos (by omega), if_pos (by omega), if_pos (by omega), if_neg (by omega), tmod_nat i _ (by omega), if_pos (by omega), if_pos (by omega), rd_at, rd_at]
  unfold shape_cross.f
  rw [Option.bind_some, wz ((at_ l i).f0 * _) (by omega) (by omega), wz ((at_ l i).f1 * _) (by omega) (by omega), wz (_ - _) (by omega) (by omega), wz (areaTo l i + _) (by omega) (by omega), ← e, wrap_succ i (by omega)]
  exact hK k (by omega)
theorem area_run {l : List Pt} (hb : ∀ p ∈ l, Bd p) (hN : l.length ≤ 1000000) : Rt (fun k => shape_area2.f k l) (area l) := by
 obtain ⟨K, hK⟩ := area_l0 hb hN l.length 0 (by omega)
 exact ⟨K, fun k hk => hK k hk⟩
end Go.Proofs.Ytoffmpkgickfhaa.M
end
section
namespace Go.Proofs.Ytoffmpkgickfhaa.M
open Go.RowKit Go.Proofs.Ytoffmpkgickfhaa.PG Go.Proofs.YtoffmpkgickfhaaW.PrintMore Go.Proofs.YtoffmpkgickfhaaW.PrintWords
theorem pairs_sub {S h : List Pt} (hS : ∀ p ∈ h, p ∈ S) : ∀ l : List Pt, (∀ p ∈ l, p ∈ h) → Pairs (HE S) l → Pairs (HE h) l
 | [], _, _ => trivial
 | [_], _, _ => trivial
 | a :: b :: l, hm, hp => by
  refine ⟨?_, pairs_sub hS (b :: l) (fun p h => hm p (List.mem_cons_of_mem _ h)) hp.2⟩
  obtain ⟨n, _, _, L⟩ := hp.1
  exact ⟨n, hm a (by simp), hm b (by simp), fun p h => L p (hS p h)⟩
theorem ring_self {S h : List Pt} (r : Ring S h) : Ring h h := by
 have hs := ring_sub r
 obtain ⟨a, t, e, n, p⟩ := r
 refine ⟨a, t, e, n, pairs_sub hs _ (fun x hx => ?_) p⟩
 rw [e]
 have : x = a ∨ x ∈ t ∨ x = a := by simpa using hx
 rcases this with h1 | h1 | h1
 ·rw [h1]; simp
 ·exact List.mem_cons_of_mem _ h1
 ·rw [h1]; simp
theorem first_at {S h : List Pt} (r : Ring S h) (h0 : 0 < h.length) (hf : ∀ p ∈ S, p = at_ h 0 ∨ first (at_ h 0) p) : ∀ k, k < h.length → k = 0 ∨ first (at_ h 0) (at_ h k) := by
 intro k hk
 rcases hf _ (ring_sub r _ (at_mem hk)) with e | e
 ·exact Or.inl (ring_inj r k 0 hk h0 e)
 ·exact Or.inr e
theorem ring_len {S h : List Pt} (r : Ring S h) : h.length ≤ S.length := length_le_of_nodup (ring_nodup r) (ring_sub r)
theorem ring_not_flat {S h : List Pt} (r : Ring S h) (hf : ¬ Flat S) : ¬ Flat h := by
 intro h1
 have := flat_ring (ring_self r) h1
 have := ring_three r hf
 omega
theorem ring_convex {S h : List Pt} (r : Ring S h) (hf : ¬ Flat S) (hm : ∀ p ∈ S, p = at_ h 0 ∨ first (at_ h 0) p) : Convex h := by
 have h3 := ring_three r hf
 exact strong_convex h3 (ring_strong r) (fun i hi h0 => (first_at r (by omega) hm i hi).resolve_left (by omega))
/-- nothing stands against a simple polygon .. -/
theorem refused_simple {r : List Pt} (hl : r.length ≤ 1000000) (hp : Poly r) (hs : Simple r) : Rt (fun k => shape_refused_simple.f k r) 0 := by
 obtain ⟨b, ⟨K, h⟩, i⟩ := simple_run (fun p h => in_bd (hp.2.2 p h)) hp.1 hl
 refine ⟨K, fun k hk => ?_⟩
 have a := h k hk
 dsimp only at a ⊢
 unfold shape_refused_simple.f
 rw [polygon_f, Option.bind_some, if_pos (by simpa using hp), a, Option.bind_some, if_pos (i.mpr hs)]
/-- .. nor against a convex one -/
theorem refused_normal {r : List Pt} (hl : r.length ≤ 1000000) (hp : Poly r) (hs : Convex r) : Rt (fun k => shape_refused_normal.f k r) 0 := by
 obtain ⟨b, ⟨K, h⟩, i⟩ := normal_run (fun p h => in_bd (hp.2.2 p h)) hp.1 hl
 refine ⟨K, fun k hk => ?_⟩
 have a := h k hk
 dsimp only at a ⊢
 unfold shape_refused_normal.f
 rw [polygon_f, Option.bind_some, if_pos (by simpa using hp), a, Option.bind_some, if_pos (i.mpr hs)]
/-- three points that are not on one line -/
theorem not_flat3 (r : List Pt) : ¬ Flat (r ++ [(⟨0, 0⟩ : S29), (⟨1, 0⟩ : S29), (⟨0, 1⟩ : S29)]) := by
 intro h
 have := h ⟨0, 0⟩ (by simp) ⟨1, 0⟩ (by simp) ⟨0, 1⟩ (by simp)
 rw [cr_eq] at this
 simp at this
end Go.Proofs.Ytoffmpkgickfhaa.M
end
section
namespace Go.Proofs.Ytoffmpkgickfhaa.M
open Go.Proofs.Ytoffmpkgickfhaa.PG
def vec (a b : Pt) : Pt := ⟨b.f0 - a.f0, b.f1 - a.f1⟩
def cx (u v : Pt) : Int := u.f0 * v.f1 - u.f1 * v.f0
def ph (p q : Int) (u : Pt) : Int := p * u.f0 + q * u.f1
def plus (u v : Pt) : Pt := ⟨u.f0 + v.f0, u.f1 + v.f1⟩
theorem id3 (p q : Int) (u v w : Pt) : ph p q u * cx v w = ph p q v * cx u w - ph p q w * cx u v := by unfold ph cx; grind
theorem cx_swap (u v : Pt) : cx v u = - cx u v := by unfold cx; grind
theorem cr_cx (a b c : Pt) : cr a b c = cx (vec a b) (vec a c) := by unfold cr cx vec; dsimp only; grind
/-- the corner at i, round and round -/
def P (l : List Pt) (i : Nat) : Pt := at_ l (i % l.length)
def ed (l : List Pt) (i : Nat) : Pt := vec (P l i) (P l (i + 1))
/-- a convex polygon, and a direction in which its first corner is the first one alone -/
structure Cvx (p q : Int) (l : List Pt) : Prop where
 three : 3 ≤ l.length
 strong : Strong l
 low : ∀ k, k < l.length → k = 0 ∨ 0 < fn p q (at_ l 0) (at_ l k)
 some_ : ∀ i, ph p q (ed l i) ≠ 0
section
variable {p q : Int} {l : List Pt}
theorem P_mod (l : List Pt) (i : Nat) : P l (i % l.length) = P l i := by unfold P; rw [Nat.mod_mod]
theorem P_lt {i : Nat} (h : i < l.length) : P l i = at_ l i := by unfold P; rw [Nat.mod_eq_of_lt h]
theorem P_len (l : List Pt) : P l l.length = P l 0 := by unfold P; rw [Nat.mod_self, Nat.zero_mod]
theorem P_add (l : List Pt) (i : Nat) : P l (i + l.length) = P l i := by unfold P; rw [Nat.add_mod_right]
theorem ed_add (l : List Pt) (i : Nat) : ed l (i + l.length) = ed l i := by unfold ed; rw [P_add, show i + l.length + 1 = (i + 1) + l.length by omega, P_add]
theorem ed_len (l : List Pt) : ed l l.length = ed l 0 := by have := ed_add l 0; rwa [Nat.zero_add] at this
theorem Cvx.left (h : Cvx p q l) (i k : Nat) : 0 ≤ cx (ed l i) (vec (P l i) (P l k)) ∧ (cx (ed l i) (vec (P l i) (P l k)) = 0 → P l k = P l i ∨ P l k = P l (i + 1)) := by
 have n0 : 0 < l.length := by have := h.three; omega
 have hi := Nat.mod_lt i n0
 have hk := Nat.mod_lt k n0
 obtain ⟨s1, s2⟩ := h.strong.2.2 _ _ hi hk
 have e : at_ l ((i % l.length + 1) % l.length) = P l (i + 1) := by unfold P; rw [Nat.mod_add_mod]
 rw [e] at s1 s2
 have e2 : cr (at_ l (i % l.length)) (P l (i + 1)) (at_ l (k % l.length)) = cx (ed l i) (vec (P l i) (P l k)) := cr_cx _ _ _
 rw [e2] at s1 s2
 refine ⟨s1, fun h0 => ?_⟩
 rcases s2 h0 with h1 | h1
 ·left; unfold P; rw [h1]
 ·right; rw [← e]; unfold P; rw [h1]
theorem Cvx.turn (h : Cvx p q l) (i : Nat) : 0 < cx (ed l i) (ed l (i + 1)) := by
 have n0 : 0 < l.length := by have := h.three; omega
 have hi := Nat.mod_lt i n0
 have t := strong_turn h.three h.strong _ hi
 have e1 : at_ l ((i % l.length + 1) % l.length) = P l (i + 1) := by unfold P; rw [Nat.mod_add_mod]
 have e2 : at_ l ((i % l.length + 1 + 1) % l.length) = P l (i + 2) := by
  unfold P; rw [show i % l.length + 1 + 1 = i % l.length + 2 by omega, Nat.mod_add_mod]
 rw [e1, e2, cr_cx] at t
 have : cx (vec (P l i) (P l (i + 1))) (vec (P l i) (P l (i + 2))) = cx (ed l i) (ed l (i + 1)) := by unfold ed cx vec; dsimp only; grind
 rw [← this]; exact t
theorem Cvx.up0 (h : Cvx p q l) : 0 < ph p q (ed l 0) := by
 have h3 := h.three
 have := (h.low 1 (by omega)).resolve_left (by omega)
 unfold ed; rw [P_lt (by omega), P_lt (by omega)]; exact this
theorem Cvx.down (h : Cvx p q l) : ph p q (ed l (l.length - 1)) < 0 := by
 have h3 := h.three
 have := (h.low (l.length - 1) (by omega)).resolve_left (by omega)
 unfold ed; rw [P_lt (by omega), show l.length - 1 + 1 = l.length by omega, P_len, P_lt (by omega)]
 unfold fn at this; unfold ph vec; dsimp only
 rw [Int.mul_sub, Int.mul_sub] at *; omega
/-- a corner that is locally the first in the direction e is so among all -/
theorem Cvx.extreme (h : Cvx p q l) (j : Nat) (e : Pt) (h1 : 0 ≤ cx e (ed l (j + 1))) (h2 : 0 < cx (ed l j) e) (k : Nat) :
  0 ≤ cx e (vec (P l (j + 1)) (P l k)) ∧ (cx e (vec (P l (j + 1)) (P l k)) = 0 → P l k = P l (j + 1) ∨ (cx e (ed l (j + 1)) = 0 ∧ P l k = P l (j + 2))) := by
 have T := h.turn j
 obtain ⟨a1, a2⟩ := h.left (j + 1) k
 obtain ⟨b1, _⟩ := h.left j k
 have b1' : 0 ≤ cx (ed l j) (vec (P l (j + 1)) (P l k)) := by
  have : cx (ed l j) (vec (P l (j + 1)) (P l k)) = cx (ed l j) (vec (P l j) (P l k)) := by unfold ed cx vec; dsimp only; grind
  rw [this]; exact b1
 generalize hw : vec (P l (j + 1)) (P l k) = w at *
 have id : cx (ed l j) (ed l (j + 1)) * cx e w = cx (ed l j) w * cx e (ed l (j + 1)) + cx (ed l (j + 1)) w * cx (ed l j) e := by unfold cx; grind
 have m1 : 0 ≤ cx (ed l j) w * cx e (ed l (j + 1)) := Int.mul_nonneg b1' h1
 have m2 : 0 ≤ cx (ed l (j + 1)) w * cx (ed l j) e := Int.mul_nonneg a1 (by omega)
 refine ⟨nonneg_of_mul T (by omega), fun h0 => ?_⟩
 rw [h0, Int.mul_zero] at id
 have z2 : cx (ed l (j + 1)) w * cx (ed l j) e = 0 := by omega
 have z1 : cx (ed l j) w * cx e (ed l (j + 1)) = 0 := by omega
 have z3 : cx (ed l (j + 1)) w = 0 := by
  rcases Int.mul_eq_zero.mp z2 with h | h
  ·exact h
  ·omega
 rcases a2 z3 with h4 | h4
 ·exact Or.inl h4
 ·right
  have e3 : w = ed l (j + 1) := by rw [← hw]; unfold ed; rw [h4]
  rw [e3] at z1
  rcases Int.mul_eq_zero.mp z1 with h | h
  ·omega
  ·exact ⟨h, h4⟩
/-- the directions of the edges: first the rising ones, then the falling ones -/
theorem Cvx.phases (h : Cvx p q l) (i : Nat) (hi : i + 1 < l.length) : ¬ (ph p q (ed l i) < 0 ∧ 0 < ph p q (ed l (i + 1))) := by
 rintro ⟨h1, h2⟩
 have T := h.turn i
 obtain ⟨a1, _⟩ := h.left (i + 1) 0
 obtain ⟨b1, _⟩ := h.left i 0
 have b1' : 0 ≤ cx (ed l i) (vec (P l (i + 1)) (P l 0)) := by
  have : cx (ed l i) (vec (P l (i + 1)) (P l 0)) = cx (ed l i) (vec (P l i) (P l 0)) := by unfold ed cx vec; dsimp only; grind
  rw [this]; exact b1
 have hlow := (h.low (i + 1) hi).resolve_left (by omega)
 have hw : ph p q (vec (P l (i + 1)) (P l 0)) < 0 := by
  rw [P_lt hi, P_lt (by omega)]; unfold fn at hlow; unfold ph vec; dsimp only
  rw [Int.mul_sub, Int.mul_sub] at *; omega
 generalize vec (P l (i + 1)) (P l 0) = w at *
 have id := id3 p q w (ed l i) (ed l (i + 1))
 have s1 : cx w (ed l (i + 1)) = - cx (ed l (i + 1)) w := cx_swap _ _
 have s2 : cx w (ed l i) = - cx (ed l i) w := cx_swap _ _
 rw [s1, s2] at id
 have m1 : ph p q w * cx (ed l i) (ed l (i + 1)) < 0 := Int.mul_neg_of_neg_of_pos hw T
 have m2 : 0 ≤ ph p q (ed l i) * - cx (ed l (i + 1)) w := Int.mul_nonneg_of_nonpos_of_nonpos (by omega) (by omega)
 have m3 : ph p q (ed l (i + 1)) * - cx (ed l i) w ≤ 0 := Int.mul_nonpos_of_nonneg_of_nonpos (by omega) (by omega)
 omega
/-- one direction comes before another one -/
def Bf (p q : Int) (u v : Pt) : Prop := (0 < ph p q u ∧ ph p q v < 0) ∨ (0 < ph p q u ∧ 0 < ph p q v ∧ 0 < cx u v) ∨ (ph p q u < 0 ∧ ph p q v < 0 ∧ 0 < cx u v)
theorem Bf.trans {u v w : Pt} (h1 : Bf p q u v) (h2 : Bf p q v w) : Bf p q u w := by
 have id := id3 p q v u w
 have s : cx v u = - cx u v := cx_swap u v
 rw [s] at id
 rcases h1 with ⟨a, b⟩ | ⟨a, b, c⟩ | ⟨a, b, c⟩ <;> rcases h2 with ⟨d, e⟩ | ⟨d, e, f⟩ | ⟨d, e, f⟩
 ·omega
 ·omega
 ·exact Or.inl ⟨a, e⟩
 ·exact Or.inl ⟨a, e⟩
 ·refine Or.inr (Or.inl ⟨a, e, ?_⟩)
  have m1 : 0 < ph p q u * cx v w := Int.mul_pos a f
  have m2 : ph p q w * - cx u v < 0 := Int.mul_neg_of_pos_of_neg e (by omega)
  exact pos_of_mul d (by omega)
 ·omega
 ·omega
 ·omega
 ·refine Or.inr (Or.inr ⟨a, e, ?_⟩)
  have m1 : ph p q u * cx v w < 0 := Int.mul_neg_of_neg_of_pos a f
  have m2 : 0 < ph p q w * - cx u v := Int.mul_pos_of_neg_of_neg e (by omega)
  rcases Int.lt_or_le 0 (cx u w) with h | h
  ·exact h
  ·have : 0 ≤ ph p q v * cx u w := Int.mul_nonneg_of_nonpos_of_nonpos (by omega) h
   omega
theorem Cvx.sorted (h : Cvx p q l) (i : Nat) (hi : i + 1 < l.length) : Bf p q (ed l i) (ed l (i + 1)) := by
 have T := h.turn i
 have hp := h.phases i hi
 have n1 := h.some_ i
 have n2 := h.some_ (i + 1)
 unfold Bf
 omega
end
end Go.Proofs.Ytoffmpkgickfhaa.M
end
section
namespace Go.Proofs.Ytoffmpkgickfhaa.M
open Go.Proofs.Ytoffmpkgickfhaa.PG
section
variable {p q : Int} {a b : List Pt} {S : List Pt}
/-- all sums of a corner of each -/
def Sums (a b S : List Pt) : Prop := ∀ s, s ∈ S ↔ ∃ k l, k < a.length ∧ l < b.length ∧ s = plus (at_ a k) (at_ b l)
def V (a b : List Pt) (i j : Nat) : Pt := plus (P a i) (P b j)
theorem Sums.swap (h : Sums a b S) : Sums b a S := by
 intro s
 rw [h s]
 constructor
 ·rintro ⟨k, l, h1, h2, h3⟩; exact ⟨l, k, h2, h1, by rw [h3]; unfold plus; rw [Int.add_comm, Int.add_comm (at_ a k).f1]⟩
 ·rintro ⟨k, l, h1, h2, h3⟩; exact ⟨l, k, h2, h1, by rw [h3]; unfold plus; rw [Int.add_comm, Int.add_comm (at_ b k).f1]⟩
theorem V_swap (a b : List Pt) (i j : Nat) : V a b i j = V b a j i := by unfold V plus; rw [Int.add_comm, Int.add_comm (P a i).f1]
theorem Sums.mem (h : Sums a b S) (ha : 0 < a.length) (hb : 0 < b.length) (i j : Nat) : V a b i j ∈ S := by
 rw [h]; exact ⟨i % a.length, j % b.length, Nat.mod_lt _ ha, Nat.mod_lt _ hb, rfl⟩
theorem Sums.get (h : Sums a b S) {s : Pt} (hs : s ∈ S) : ∃ k l, s = V a b k l := by
 obtain ⟨k, l, h1, h2, h3⟩ := (h s).mp hs
 exact ⟨k, l, by unfold V; rw [P_lt h1, P_lt h2]; exact h3⟩
theorem ed_ne (h : Cvx p q a) (i : Nat) : P a i ≠ P a (i + 1) := by
 intro e
 have := h.some_ i
 apply this
 unfold ed vec ph; rw [e]; dsimp only; simp
/-- a step along an edge of the first polygon -/
theorem step_a (ca : Cvx p q a) (cb : Cvx p q b) (hS : Sums a b S) (i j : Nat) (h1 : 0 < cx (ed a i) (ed b (j + 1))) (h2 : 0 < cx (ed b j) (ed a i)) : HE S (V a b i (j + 1)) (V a b (i + 1) (j + 1)) := by
 have la := ca.three
 have lb := cb.three
 refine ⟨fun e => ed_ne ca i ?_, hS.mem (by omega) (by omega) _ _, hS.mem (by omega) (by omega) _ _, fun s hs => ?_⟩
 ·unfold V plus at e
  have e0 := congrArg S29.f0 e
  have e1 := congrArg S29.f1 e
  dsimp only at e0 e1
  exact pt_ext (by omega) (by omega)
 ·obtain ⟨k, l, rfl⟩ := hS.get hs
  obtain ⟨a1, a2⟩ := ca.left i k
  obtain ⟨b1, b2⟩ := cb.extreme j (ed a i) (by omega) h2 l
  have e : cr (V a b i (j + 1)) (V a b (i + 1) (j + 1)) (V a b k l) = cx (ed a i) (vec (P a i) (P a k)) + cx (ed a i) (vec (P b (j + 1)) (P b l)) := by
   unfold cr V plus cx ed vec; dsimp only; grind
  rw [e]
  refine ⟨by omega, fun h0 => ?_⟩
  have c1 := a2 (by omega)
  have c2 := (b2 (by omega)).resolve_right (by omega)
  rcases c1 with c1 | c1
  ·have : V a b k l = V a b i (j + 1) := by unfold V; rw [c1, c2]
   rw [this]; exact btw_start _ _
  ·have : V a b k l = V a b (i + 1) (j + 1) := by unfold V; rw [c1, c2]
   rw [this]; exact btw_end _ _
/-- a step along an edge of each: both go in one direction -/
theorem step_ab (ca : Cvx p q a) (cb : Cvx p q b) (hS : Sums a b S) (i j : Nat) (h0 : cx (ed a (i + 1)) (ed b (j + 1)) = 0) (hs : 0 < ph p q (ed a (i + 1)) * ph p q (ed b (j + 1))) (_h1 : 0 < cx (ed a i) (ed b (j + 1))) (h2 : 0 < cx (ed b j) (ed a (i + 1))) :
  HE S (V a b (i + 1) (j + 1)) (V a b (i + 2) (j + 2)) := by
 have la := ca.three
 have lb := cb.three
 have par : ∀ w, ph p q (ed a (i + 1)) * cx (ed b (j + 1)) w = ph p q (ed b (j + 1)) * cx (ed a (i + 1)) w := by
  intro w
  have := id3 p q (ed a (i + 1)) (ed b (j + 1)) w
  rw [h0, Int.mul_zero, Int.sub_zero] at this; exact this
 have sgn : ∀ u v : Int, ph p q (ed a (i + 1)) * v = ph p q (ed b (j + 1)) * u → 0 ≤ u → 0 ≤ v ∧ (v = 0 ↔ u = 0) := by
  intro u v e hu
  generalize ph p q (ed a (i + 1)) = A at *
  generalize ph p q (ed b (j + 1)) = B at *
  have e2 : (A * B) * v = (B * B) * u := by
   have : B * (A * v) = B * (B * u) := by rw [e]
   grind
  have hB : B ≠ 0 := by intro h; rw [h, Int.mul_zero] at hs; omega
  have hBB : 0 < B * B := by
   rcases Int.lt_trichotomy B 0 with h | h | h
   ·exact Int.mul_pos_of_neg_of_neg h h
   ·exact absurd h hB
   ·exact Int.mul_pos h h
  have m : 0 ≤ (B * B) * u := Int.mul_nonneg (by omega) hu
  refine ⟨nonneg_of_mul hs (by omega), fun hv => ?_, fun hu => ?_⟩
  ·rw [hv, Int.mul_zero] at e2
   rcases Int.mul_eq_zero.mp e2.symm with h | h
   ·omega
   ·exact h
  ·rw [hu, Int.mul_zero] at e2
   rcases Int.mul_eq_zero.mp e2 with h | h
   ·omega
   ·exact h
 have sgn2 : ∀ u v : Int, ph p q (ed a (i + 1)) * v = ph p q (ed b (j + 1)) * u → (0 ≤ u ∧ 0 ≤ v) ∨ (u ≤ 0 ∧ v ≤ 0) := by
  intro u v e
  rcases Int.le_total 0 u with hu | hu
  ·exact Or.inl ⟨hu, (sgn u v e hu).1⟩
  ·right
   have := sgn (-u) (-v) (by rw [Int.mul_neg, Int.mul_neg, e]) (by omega)
   omega
 have ne : P a (i + 1) ≠ P a (i + 2) := ed_ne ca (i + 1)
 have f0 : ph p q (ed a (i + 1)) * (ed b (j + 1)).f0 = ph p q (ed b (j + 1)) * (ed a (i + 1)).f0 := by
  have := h0; unfold cx at this; unfold ph; grind
 have f1 : ph p q (ed a (i + 1)) * (ed b (j + 1)).f1 = ph p q (ed b (j + 1)) * (ed a (i + 1)).f1 := by
  have := h0; unfold cx at this; unfold ph; grind
 have g0 := sgn2 _ _ f0
 have g1 := sgn2 _ _ f1
 have ea0 : (ed a (i + 1)).f0 = (P a (i + 2)).f0 - (P a (i + 1)).f0 := rfl
 have ea1 : (ed a (i + 1)).f1 = (P a (i + 2)).f1 - (P a (i + 1)).f1 := rfl
 have eb0 : (ed b (j + 1)).f0 = (P b (j + 2)).f0 - (P b (j + 1)).f0 := rfl
 have eb1 : (ed b (j + 1)).f1 = (P b (j + 2)).f1 - (P b (j + 1)).f1 := rfl
 refine ⟨fun e => ne ?_, hS.mem (by omega) (by omega) _ _, hS.mem (by omega) (by omega) _ _, fun s hs' => ?_⟩
 ·unfold V plus at e
  have e0 := congrArg S29.f0 e
  have e1 := congrArg S29.f1 e
  dsimp only at e0 e1
  exact pt_ext (by omega) (by omega)
 ·obtain ⟨k, l, rfl⟩ := hS.get hs'
  obtain ⟨a1, a2⟩ := ca.left (i + 1) k
  obtain ⟨b1, b2⟩ := cb.left (j + 1) l
  have x1 := sgn _ _ (par (vec (P a (i + 1)) (P a k))) a1
  have hab : 0 ≤ cx (ed a (i + 1)) (vec (P b (j + 1)) (P b l)) := (cb.extreme j (ed a (i + 1)) (by omega) h2 l).1
  have e : cr (V a b (i + 1) (j + 1)) (V a b (i + 2) (j + 2)) (V a b k l) = cx (ed a (i + 1)) (vec (P a (i + 1)) (P a k)) + cx (ed b (j + 1)) (vec (P a (i + 1)) (P a k)) + cx (ed a (i + 1)) (vec (P b (j + 1)) (P b l)) + cx (ed b (j + 1)) (vec (P b (j + 1)) (P b l)) := by
   unfold cr V plus cx ed vec; dsimp only; grind
  rw [e]
  refine ⟨by omega, fun hz => ?_⟩
  have c1 := a2 (by omega)
  have c2 := b2 (by omega)
  rcases c1 with c1 | c1 <;> rcases c2 with c2 | c2
  ·have : V a b k l = V a b (i + 1) (j + 1) := by unfold V; rw [c1, c2]
   rw [this]; exact btw_start _ _
  ·have : V a b k l = V a b (i + 1) (j + 2) := by unfold V; rw [c1, c2]
   rw [this]; unfold btw V plus; dsimp only; omega
  ·have : V a b k l = V a b (i + 2) (j + 1) := by unfold V; rw [c1, c2]
   rw [this]; unfold btw V plus; dsimp only; omega
  ·have : V a b k l = V a b (i + 2) (j + 2) := by unfold V; rw [c1, c2]
   rw [this]; exact btw_end _ _
/-- what has been taken comes before what has not -/
def Inv (p q : Int) (a b : List Pt) (i j : Nat) : Prop := i ≤ a.length ∧ j ≤ b.length ∧ (i < a.length → 0 < j → Bf p q (ed b (j - 1)) (ed a i)) ∧ (j < b.length → 0 < i → Bf p q (ed a (i - 1)) (ed b j))
theorem Inv.swap {i j : Nat} (h : Inv p q a b i j) : Inv p q b a j i := ⟨h.2.1, h.1, h.2.2.2, h.2.2.1⟩
/-- where the next edge of the first rises and the second's falls, the first's comes first -/
theorem cmp_ud (_ca : Cvx p q a) (cb : Cvx p q b) {i j : Nat} (h : Inv p q a b i j) (hi : i < a.length) (hj : j < b.length) (h1 : 0 < ph p q (ed a i)) (h2 : ph p q (ed b j) < 0) : 0 < cx (ed a i) (ed b j) := by
 have j0 : 0 < j := by
  rcases Nat.eq_zero_or_pos j with e | e
  ·subst e; have := cb.up0; omega
  ·exact e
 have hB := h.2.2.1 hi j0
 have T := cb.turn (j - 1)
 rw [show j - 1 + 1 = j by omega] at T
 have id := id3 p q (ed b (j - 1)) (ed a i) (ed b j)
 rcases hB with ⟨x, y⟩ | ⟨x, y, z⟩ | ⟨x, y, z⟩
 ·omega
 ·have m1 : 0 < ph p q (ed a i) * cx (ed b (j - 1)) (ed b j) := Int.mul_pos h1 T
  have m2 : ph p q (ed b j) * cx (ed b (j - 1)) (ed a i) < 0 := Int.mul_neg_of_neg_of_pos h2 z
  exact pos_of_mul x (by omega)
 ·omega
theorem cmp3 (ca : Cvx p q a) (cb : Cvx p q b) {i j : Nat} (h : Inv p q a b i j) (hi : i < a.length) (hj : j < b.length) :
  (0 < cx (ed a i) (ed b j) → Bf p q (ed a i) (ed b j)) ∧ (cx (ed a i) (ed b j) < 0 → Bf p q (ed b j) (ed a i)) ∧ (cx (ed a i) (ed b j) = 0 → 0 < ph p q (ed a i) * ph p q (ed b j)) := by
 have n1 := ca.some_ i
 have n2 := cb.some_ j
 have s : cx (ed b j) (ed a i) = - cx (ed a i) (ed b j) := cx_swap _ _
 have ud : 0 < ph p q (ed a i) → ph p q (ed b j) < 0 → 0 < cx (ed a i) (ed b j) := cmp_ud ca cb h hi hj
 have du : 0 < ph p q (ed b j) → ph p q (ed a i) < 0 → 0 < cx (ed b j) (ed a i) := cmp_ud cb ca h.swap hj hi
 unfold Bf
 rcases Int.lt_trichotomy (ph p q (ed a i)) 0 with x | x | x <;> rcases Int.lt_trichotomy (ph p q (ed b j)) 0 with y | y | y
 ·exact ⟨fun h => Or.inr (Or.inr ⟨x, y, h⟩), fun h => Or.inr (Or.inr ⟨y, x, by omega⟩), fun _ => Int.mul_pos_of_neg_of_neg x y⟩
 ·exact absurd y n2
 ·have := du y x
  exact ⟨fun h => by omega, fun _ => Or.inl ⟨y, x⟩, fun h => by omega⟩
 ·exact absurd x n1
 ·exact absurd x n1
 ·exact absurd x n1
 ·have := ud x y
  exact ⟨fun _ => Or.inl ⟨x, y⟩, fun h => by omega, fun h => by omega⟩
 ·exact absurd y n2
 ·exact ⟨fun h => Or.inr (Or.inl ⟨x, y, h⟩), fun h => Or.inr (Or.inl ⟨y, x, by omega⟩), fun _ => Int.mul_pos x y⟩
/-- the edge ahead of j, round and round -/
theorem prev_ed (cb : Cvx p q b) (j : Nat) (_hj : j ≤ b.length) : ∃ j', ed b (j' + 1) = ed b j ∧ P b (j' + 1) = P b j ∧ P b (j' + 2) = P b (j + 1) ∧ ((0 < j → ed b j' = ed b (j - 1)) ∧ (j = 0 → ed b j' = ed b (b.length - 1))) := by
 have := cb.three
 by_cases h : j = 0
 ·refine ⟨b.length - 1, ?_, ?_, ?_, ?_, fun _ => rfl⟩
  ·rw [show b.length - 1 + 1 = b.length by omega, ed_len, h]
  ·rw [show b.length - 1 + 1 = b.length by omega, P_len, h]
  ·rw [show b.length - 1 + 2 = 1 + b.length by omega, P_add, h]
  ·intro h1; omega
 ·exact ⟨j - 1, by rw [show j - 1 + 1 = j by omega], by rw [show j - 1 + 1 = j by omega], by rw [show j - 1 + 2 = j + 1 by omega], fun _ => rfl, fun h1 => absurd h1 h⟩
/-- the edge of b ahead of the corner comes before the edge of a that is taken -/
theorem before_a (ca : Cvx p q a) (cb : Cvx p q b) {i j : Nat} (h : Inv p q a b i j) (hi : i < a.length) (hc : j < b.length → 0 ≤ cx (ed a i) (ed b j) ∧ (Bf p q (ed a i) (ed b j) ∨ 0 < ph p q (ed a i) * ph p q (ed b j))) {j' : Nat} (hj' : (0 < j → ed b j' = ed b (j - 1)) ∧ (j = 0 → ed b j' = ed b (b.length - 1))) (ht : 0 < cx (ed b j') (ed b j)) : 0 < cx (ed b j') (ed a i) := by
 have lb := cb.three
 have n1 := ca.some_ i
 by_cases j0 : j = 0
 ·subst j0
  obtain ⟨c1, c2⟩ := hc (by omega)
  have u := cb.up0
  have d := cb.down
  rw [hj'.2 rfl] at ht ⊢
  have ua : 0 < ph p q (ed a i) := by
   rcases c2 with c2 | c2
   ·unfold Bf at c2; omega
   ·exact pos_of_mul u (by rw [Int.mul_comm]; exact c2)
  have id := id3 p q (ed b 0) (ed b (b.length - 1)) (ed a i)
  have s : cx (ed b 0) (ed a i) = - cx (ed a i) (ed b 0) := cx_swap _ _
  have s2 : cx (ed b 0) (ed b (b.length - 1)) = - cx (ed b (b.length - 1)) (ed b 0) := cx_swap _ _
  rw [s, s2] at id
  have m1 : 0 ≤ ph p q (ed b (b.length - 1)) * - cx (ed a i) (ed b 0) := Int.mul_nonneg_of_nonpos_of_nonpos (by omega) (by omega)
  have m2 : ph p q (ed a i) * - cx (ed b (b.length - 1)) (ed b 0) < 0 := Int.mul_neg_of_pos_of_neg ua (by omega)
  exact pos_of_mul u (by omega)
 ·rw [hj'.1 (by omega)] at ht ⊢
  rcases h.2.2.1 hi (by omega) with ⟨x, y⟩ | ⟨x, y, z⟩ | ⟨x, y, z⟩
  ·have jl : j < b.length := by
    rcases Nat.lt_or_ge j b.length with h1 | h1
    ·exact h1
    ·have := h.2.1
     have e : j = b.length := by omega
     subst e
     have := cb.down; omega
   obtain ⟨c1, c2⟩ := hc jl
   have db : ph p q (ed b j) < 0 := by
    rcases c2 with c2 | c2
    ·unfold Bf at c2; omega
    ·rcases Int.lt_or_le (ph p q (ed b j)) 0 with h1 | h1
     ·exact h1
     ·have := Int.mul_nonpos_of_nonpos_of_nonneg (show ph p q (ed a i) ≤ 0 by omega) h1; omega
   have id := id3 p q (ed b j) (ed b (j - 1)) (ed a i)
   have s : cx (ed b j) (ed a i) = - cx (ed a i) (ed b j) := cx_swap _ _
   have s2 : cx (ed b j) (ed b (j - 1)) = - cx (ed b (j - 1)) (ed b j) := cx_swap _ _
   rw [s, s2] at id
   have m1 : ph p q (ed b (j - 1)) * - cx (ed a i) (ed b j) ≤ 0 := Int.mul_nonpos_of_nonneg_of_nonpos (by omega) (by omega)
   have m2 : 0 < ph p q (ed a i) * - cx (ed b (j - 1)) (ed b j) := Int.mul_pos_of_neg_of_neg y (by omega)
   rcases Int.lt_or_le 0 (cx (ed b (j - 1)) (ed a i)) with h1 | h1
   ·exact h1
   ·have := Int.mul_nonneg_of_nonpos_of_nonpos (show ph p q (ed b j) ≤ 0 by omega) h1; omega
  ·exact z
  ·exact z
/-- when b is done, what is left of a still turns less than b's first edge -/
theorem after_b (_ca : Cvx p q a) (cb : Cvx p q b) {i : Nat} (h : Inv p q a b i b.length) (hi : i < a.length) : 0 < cx (ed a i) (ed b b.length) := by
 have lb := cb.three
 have u := cb.up0
 have d := cb.down
 have T := cb.turn (b.length - 1)
 rw [show b.length - 1 + 1 = b.length by omega] at T
 rw [ed_len] at T ⊢
 rcases h.2.2.1 hi (by omega) with ⟨x, y⟩ | ⟨x, y, z⟩ | ⟨x, y, z⟩
 ·omega
 ·omega
 ·have id := id3 p q (ed b (b.length - 1)) (ed a i) (ed b 0)
  have m1 : ph p q (ed a i) * cx (ed b (b.length - 1)) (ed b 0) < 0 := Int.mul_neg_of_neg_of_pos y T
  have m2 : 0 < ph p q (ed b 0) * cx (ed b (b.length - 1)) (ed a i) := Int.mul_pos u z
  rcases Int.lt_or_le 0 (cx (ed a i) (ed b 0)) with h1 | h1
  ·exact h1
  ·have := Int.mul_nonneg_of_nonpos_of_nonpos (show ph p q (ed b (b.length - 1)) ≤ 0 by omega) h1; omega
/-- taking an edge of a alone -/
theorem take_a (ca : Cvx p q a) (cb : Cvx p q b) (hS : Sums a b S) {i j : Nat} (h : Inv p q a b i j) (hi : i < a.length) (hc : j < b.length → 0 < cx (ed a i) (ed b j)) : HE S (V a b i j) (V a b (i + 1) j) ∧ Inv p q a b (i + 1) j := by
 obtain ⟨j', e1, e2, _, e3⟩ := prev_ed cb j h.2.1
 have hB : j < b.length → Bf p q (ed a i) (ed b j) := fun hj => (cmp3 ca cb h hi hj).1 (hc hj)
 have T := cb.turn j'
 rw [e1] at T
 have x1 := before_a ca cb h hi (fun hj => ⟨by have := hc hj; omega, Or.inl (hB hj)⟩) e3 T
 have x2 : 0 < cx (ed a i) (ed b j) := by
  rcases Nat.lt_or_ge j b.length with h1 | h1
  ·exact hc h1
  ·have e : j = b.length := by have := h.2.1; omega
   subst e; exact after_b ca cb h hi
 constructor
 ·have := step_a ca cb hS i j' (by rw [e1]; exact x2) x1
  unfold V at this ⊢; rw [e2] at this; exact this
 ·refine ⟨by omega, h.2.1, fun h1 h2 => ?_, fun h1 _ => by rw [Nat.add_sub_cancel]; exact hB h1⟩
  exact Bf.trans (h.2.2.1 hi h2) (ca.sorted i h1)
theorem take_b (ca : Cvx p q a) (cb : Cvx p q b) (hS : Sums a b S) {i j : Nat} (h : Inv p q a b i j) (hj : j < b.length) (hc : i < a.length → cx (ed a i) (ed b j) < 0) : HE S (V a b i j) (V a b i (j + 1)) ∧ Inv p q a b i (j + 1) := by
 obtain ⟨h1, h2⟩ := take_a cb ca hS.swap h.swap hj (fun hi => by have := hc hi; rw [cx_swap]; omega)
 exact ⟨by rw [V_swap a b, V_swap a b]; exact h1, h2.swap⟩
theorem take_ab (ca : Cvx p q a) (cb : Cvx p q b) (hS : Sums a b S) {i j : Nat} (h : Inv p q a b i j) (hi : i < a.length) (hj : j < b.length) (hc : cx (ed a i) (ed b j) = 0) : HE S (V a b i j) (V a b (i + 1) (j + 1)) ∧ Inv p q a b (i + 1) (j + 1) := by
 obtain ⟨j', e1, e2, e2', e3⟩ := prev_ed cb j h.2.1
 obtain ⟨i', d1, d2, d2', d3⟩ := prev_ed ca i h.1
 have hs := (cmp3 ca cb h hi hj).2.2 hc
 have Tb := cb.turn j'
 have Ta := ca.turn i'
 rw [e1] at Tb
 rw [d1] at Ta
 have hc' : cx (ed b j) (ed a i) = 0 := by rw [cx_swap]; omega
 have x1 := before_a ca cb h hi (fun _ => ⟨by omega, Or.inr hs⟩) e3 Tb
 have x2 := before_a cb ca h.swap hj (fun _ => ⟨by omega, Or.inr (by rw [Int.mul_comm]; exact hs)⟩) d3 Ta
 constructor
 ·have := step_ab ca cb hS i' j' (by rw [d1, e1]; exact hc) (by rw [d1, e1]; exact hs) (by rw [e1]; exact x2) (by rw [d1]; exact x1)
  unfold V at this ⊢; rw [d2, e2, d2', e2'] at this; exact this
 ·have par : ∀ {u v w : Pt}, cx u v = 0 → 0 < ph p q u * ph p q v → Bf p q v w → Bf p q u w := by
   intro u v w h0 hs hB
   have id := id3 p q v u w
   have s : cx v u = - cx u v := cx_swap u v
   rw [s, h0, Int.neg_zero, Int.mul_zero, Int.sub_zero] at id
   have sg : (0 < ph p q u ∧ 0 < ph p q v) ∨ (ph p q u < 0 ∧ ph p q v < 0) := by
    rcases Int.lt_trichotomy (ph p q u) 0 with h | h | h
    ·right; refine ⟨h, ?_⟩
     rcases Int.lt_or_le (ph p q v) 0 with h1 | h1
     ·exact h1
     ·have := Int.mul_nonpos_of_nonpos_of_nonneg (show ph p q u ≤ 0 by omega) h1; omega
    ·rw [h, Int.zero_mul] at hs; omega
    ·left; exact ⟨h, pos_of_mul h hs⟩
   rcases hB with ⟨x, y⟩ | ⟨x, y, z⟩ | ⟨x, y, z⟩
   ·exact Or.inl ⟨by omega, y⟩
   ·refine Or.inr (Or.inl ⟨by omega, y, ?_⟩)
    have m : 0 < ph p q u * cx v w := Int.mul_pos (by omega) z
    exact pos_of_mul x (by omega)
   ·refine Or.inr (Or.inr ⟨by omega, y, ?_⟩)
    have m : ph p q u * cx v w < 0 := Int.mul_neg_of_neg_of_pos (by omega) z
    rcases Int.lt_or_le 0 (cx u w) with h1 | h1
    ·exact h1
    ·have := Int.mul_nonneg_of_nonpos_of_nonpos (show ph p q v ≤ 0 by omega) h1; omega
  refine ⟨by omega, by omega, fun h1 _ => ?_, fun h1 _ => ?_⟩
  ·rw [Nat.add_sub_cancel]
   exact par hc' (by rw [Int.mul_comm]; exact hs) (ca.sorted i h1)
  ·rw [Nat.add_sub_cancel]
   exact par hc hs (cb.sorted j h1)
end
end Go.Proofs.Ytoffmpkgickfhaa.M
end
section
namespace Go.Proofs.Ytoffmpkgickfhaa.M
open Go.Proofs.Ytoffmpkgickfhaa.PG
/-- the corners from (i, j) on, without that one, up to the start again -/
def path (a b : List Pt) : Nat → Nat → Nat → List Pt
 | 0, _, _ => []
 | d + 1, i, j =>
  if i < a.length ∧ (j < b.length → 0 < cx (ed a i) (ed b j)) then V a b (i + 1) j :: path a b d (i + 1) j
  else if j < b.length ∧ (i < a.length → cx (ed a i) (ed b j) < 0) then V a b i (j + 1) :: path a b d i (j + 1)
  else if i < a.length ∧ j < b.length then V a b (i + 1) (j + 1) :: path a b d (i + 1) (j + 1)
  else []
section
variable {p q : Int} {a b S : List Pt}
theorem path_pairs (ca : Cvx p q a) (cb : Cvx p q b) (hS : Sums a b S) : ∀ d i j, Inv p q a b i j → Pairs (HE S) (V a b i j :: path a b d i j) := by
 intro d
 induction d with
 | zero => intro i j _; trivial
 | succ d ih =>
  intro i j h
  unfold path
  by_cases h1 : i < a.length ∧ (j < b.length → 0 < cx (ed a i) (ed b j))
  ·rw [if_pos h1]
   obtain ⟨s1, s2⟩ := take_a ca cb hS h h1.1 h1.2
   exact ⟨s1, ih _ _ s2⟩
  ·rw [if_neg h1]
   by_cases h2 : j < b.length ∧ (i < a.length → cx (ed a i) (ed b j) < 0)
   ·rw [if_pos h2]
    obtain ⟨s1, s2⟩ := take_b ca cb hS h h2.1 h2.2
    exact ⟨s1, ih _ _ s2⟩
   ·rw [if_neg h2]
    by_cases h3 : i < a.length ∧ j < b.length
    ·rw [if_pos h3]
     have hc : cx (ed a i) (ed b j) = 0 := by
      rcases Int.lt_trichotomy (cx (ed a i) (ed b j)) 0 with x | x | x
      ·exact absurd ⟨h3.2, fun _ => x⟩ h2
      ·exact x
      ·exact absurd ⟨h3.1, fun _ => x⟩ h1
     obtain ⟨s1, s2⟩ := take_ab ca cb hS h h3.1 h3.2 hc
     exact ⟨s1, ih _ _ s2⟩
    ·rw [if_neg h3]; trivial
/-- only at the end the start comes again -/
theorem start_once (ca : Cvx p q a) (cb : Cvx p q b) {i j : Nat} (h : Inv p q a b i j) (h0 : 0 < i + j) (h1 : i < a.length ∨ j < b.length) : V a b i j ≠ V a b 0 0 := by
 have la := ca.three
 have lb := cb.three
 intro e
 have lin : fn p q (V a b 0 0) (V a b i j) = fn p q (P a 0) (P a i) + fn p q (P b 0) (P b j) := by unfold V plus fn; dsimp only; grind
 have z : fn p q (V a b 0 0) (V a b i j) = 0 := by rw [e]; unfold fn; simp
 have lo : ∀ {c : List Pt}, Cvx p q c → ∀ i, i ≤ c.length → (i = 0 ∨ i = c.length) ∨ 0 < fn p q (P c 0) (P c i) := by
  intro c cc i hi
  have := cc.three
  rcases Nat.lt_or_ge i c.length with h | h
  ·rcases cc.low i h with h2 | h2
   ·exact Or.inl (Or.inl h2)
   ·right; rw [P_lt (by omega), P_lt h]; exact h2
  ·exact Or.inl (Or.inr (by omega))
 have nn : ∀ {c : List Pt}, Cvx p q c → ∀ i, i ≤ c.length → 0 ≤ fn p q (P c 0) (P c i) := by
  intro c cc i hi
  rcases lo cc i hi with (h | h) | h
  ·rw [h]; unfold fn; simp
  ·rw [h, P_len]; unfold fn; simp
  ·omega
 have na := nn ca i h.1
 have nb := nn cb j h.2.1
 have xa := (lo ca i h.1).resolve_right (by omega)
 have xb := (lo cb j h.2.1).resolve_right (by omega)
 have u := ca.up0
 have u' := cb.up0
 have d := ca.down
 have d' := cb.down
 rcases xa with xa | xa <;> rcases xb with xb | xb
 ·omega
 ·subst xa; subst xb
  have := h.2.2.1 (by omega) (by omega)
  unfold Bf at this; omega
 ·subst xa; subst xb
  have := h.2.2.2 (by omega) (by omega)
  unfold Bf at this; omega
 ·omega
theorem path_ends (ca : Cvx p q a) (cb : Cvx p q b) (hS : Sums a b S) : ∀ d i j, Inv p q a b i j → (a.length - i) + (b.length - j) ≤ d → (i < a.length ∨ j < b.length) → ∃ t, path a b d i j = t ++ [V a b a.length b.length] ∧ t.length < (a.length - i) + (b.length - j) ∧ V a b 0 0 ∉ t := by
 intro d
 induction d with
 | zero => intro i j _ h1 h2; omega
 | succ d ih =>
  intro i j h hd hij
  have next : ∀ i' j', Inv p q a b i' j' → (a.length - i') + (b.length - j') < (a.length - i) + (b.length - j) → 0 < i' + j' → ∃ t, V a b i' j' :: path a b d i' j' = t ++ [V a b a.length b.length] ∧ t.length < (a.length - i) + (b.length - j) ∧ V a b 0 0 ∉ t := by
   intro i' j' h' hlt h0
   by_cases he : i' < a.length ∨ j' < b.length
   ·obtain ⟨t, e, hl, hn⟩ := ih i' j' h' (by omega) he
    refine ⟨V a b i' j' :: t, by rw [e]; rfl, by simp only [List.length_cons]; omega, ?_⟩
    intro hm
    rcases List.mem_cons.mp hm with h1 | h1
    ·exact start_once ca cb h' h0 he h1.symm
    ·exact hn h1
   ·have e1 : i' = a.length := by have := h'.1; omega
    have e2 : j' = b.length := by have := h'.2.1; omega
    subst e1; subst e2
    have ep : path a b d a.length b.length = [] := by
     cases d with
     | zero => rfl
     | succ d => unfold path; rw [if_neg (by omega), if_neg (by omega), if_neg (by omega)]
    exact ⟨[], by rw [ep]; rfl, by simp only [List.length_nil]; omega, by simp⟩
  unfold path
  by_cases h1 : i < a.length ∧ (j < b.length → 0 < cx (ed a i) (ed b j))
  ·rw [if_pos h1]
   exact next _ _ (take_a ca cb hS h h1.1 h1.2).2 (by omega) (by omega)
  ·rw [if_neg h1]
   by_cases h2 : j < b.length ∧ (i < a.length → cx (ed a i) (ed b j) < 0)
   ·rw [if_pos h2]
    exact next _ _ (take_b ca cb hS h h2.1 h2.2).2 (by omega) (by omega)
   ·rw [if_neg h2]
    have h3 : i < a.length ∧ j < b.length := by
     rcases hij with x | x
     ·refine ⟨x, ?_⟩
      apply Classical.byContradiction
      intro hn; exact h1 ⟨x, fun hy => absurd hy hn⟩
     ·refine ⟨?_, x⟩
      apply Classical.byContradiction
      intro hn; exact h2 ⟨x, fun hy => absurd hy hn⟩
    rw [if_pos h3]
    have hc : cx (ed a i) (ed b j) = 0 := by
     rcases Int.lt_trichotomy (cx (ed a i) (ed b j)) 0 with x | x | x
     ·exact absurd ⟨h3.2, fun _ => x⟩ h2
     ·exact x
     ·exact absurd ⟨h3.1, fun _ => x⟩ h1
    exact next _ _ (take_ab ca cb hS h h3.1 h3.2 hc).2 (by omega) (by omega)
/-- what the code returns: the start and the way, without the start at its end -/
theorem sum_ring (ca : Cvx p q a) (cb : Cvx p q b) (hS : Sums a b S) : ∃ t, path a b (a.length + b.length) 0 0 = t ++ [V a b 0 0] ∧ Ring S (V a b 0 0 :: t) ∧ t.length < a.length + b.length := by
 have la := ca.three
 have h : Inv p q a b 0 0 := ⟨Nat.zero_le _, Nat.zero_le _, fun _ h => absurd h (by omega), fun _ h => absurd h (by omega)⟩
 obtain ⟨t, e, hl, hn⟩ := path_ends ca cb hS (a.length + b.length) 0 0 h (by omega) (by omega)
 have hp := path_pairs ca cb hS (a.length + b.length) 0 0 h
 have ev : V a b a.length b.length = V a b 0 0 := by unfold V; rw [P_len, P_len]
 rw [ev] at e
 rw [e] at hp
 exact ⟨t, e, ⟨V a b 0 0, t, rfl, hn, hp⟩, by omega⟩
/-- the first corner of the sum is first -/
theorem sum_low (ca : Cvx p q a) (cb : Cvx p q b) (hS : Sums a b S) : ∀ s ∈ S, s = V a b 0 0 ∨ 0 < fn p q (V a b 0 0) s := by
 have la := ca.three
 have lb := cb.three
 intro s hs
 obtain ⟨k, l, hk, hl, rfl⟩ := (hS s).mp hs
 have e0 : V a b 0 0 = plus (at_ a 0) (at_ b 0) := by unfold V; rw [P_lt (by omega), P_lt (by omega)]
 have lin : fn p q (plus (at_ a 0) (at_ b 0)) (plus (at_ a k) (at_ b l)) = fn p q (at_ a 0) (at_ a k) + fn p q (at_ b 0) (at_ b l) := by unfold plus fn; dsimp only; grind
 rw [e0, lin]
 have z : ∀ c : Pt, fn p q c c = 0 := by intro c; unfold fn; simp
 rcases ca.low k hk with h1 | h1 <;> rcases cb.low l hl with h2 | h2
 ·subst h1; subst h2; exact Or.inl rfl
 ·right; subst h1; rw [z]; omega
 ·right; subst h2; rw [z]; omega
 ·right; omega
end
end Go.Proofs.Ytoffmpkgickfhaa.M
end
section
namespace Go.Proofs.Ytoffmpkgickfhaa.M
open Go.RowKit Go.Proofs.Ytoffmpkgickfhaa.PG Go.Proofs.YtoffmpkgickfhaaW.PrintMore Go.Proofs.YtoffmpkgickfhaaW.PrintWords
theorem P_bd {l : List Pt} (hb : ∀ p ∈ l, Bd p) (h0 : 0 < l.length) (i : Nat) : Bd (P l i) := hb _ (at_mem (Nat.mod_lt _ h0))
theorem edge_f {l : List Pt} (hb : ∀ p ∈ l, Bd p) (hN : l.length ≤ 1000000) {i : Nat} (hi : i < l.length) : shape_Sum_1.f l (i : Int) = some ((ed l i).f0, (ed l i).f1) := by
 have t1 := tmod_in (i + 1) l.length (by omega)
 have h1 := P_bd hb (by omega) i
 have h2 := P_bd hb (by omega) (i + 1)
 unfold shape_Sum_1.f
 rw [if_neg (by omega), tmod_nat i _ (by omega), if_pos (by omega), if_pos (by omega), if_pos (by omega), if_pos (by omega), rd_at, rd_at]
 rw [show at_ l ((i + 1) % l.length) = P l (i + 1) from rfl, ← P_lt hi, sub_f h2 h1, Option.bind_some]; rfl
theorem ed_bd {l : List Pt} (hb : ∀ p ∈ l, Bd p) (h0 : 0 < l.length) (i : Nat) : -2000000 ≤ (ed l i).f0 ∧ (ed l i).f0 ≤ 2000000 ∧ -2000000 ≤ (ed l i).f1 ∧ (ed l i).f1 ≤ 2000000 := by
 obtain ⟨a0, a1, a2, a3⟩ := P_bd hb h0 i
 obtain ⟨b0, b1, b2, b3⟩ := P_bd hb h0 (i + 1)
 unfold ed vec; dsimp only; omega
theorem cross_f {u v : Pt} (hu : -2000000 ≤ u.f0 ∧ u.f0 ≤ 2000000 ∧ -2000000 ≤ u.f1 ∧ u.f1 ≤ 2000000) (hv : -2000000 ≤ v.f0 ∧ v.f0 ≤ 2000000 ∧ -2000000 ≤ v.f1 ∧ v.f1 ≤ 2000000) : shape_cross.f u.f0 u.f1 v.f0 v.f1 = some (cx u v) := by
 have h1 := @mulb u.f0 v.f1 (by omega) (by omega) (by omega) (by omega)
 have h2 := @mulb u.f1 v.f0 (by omega) (by omega) (by omega) (by omega)
 unfold shape_cross.f
 rw [wz (u.f0 * v.f1) (by omega) (by omega), wz (u.f1 * v.f0) (by omega) (by omega), wz _ (by omega) (by omega)]; rfl
theorem snoc_last (x : List Pt) (v : Pt) : at_ (x ++ [v]) x.length = v := by
 rw [at_eq (by simp)]; simp
section
variable {a b : List Pt}
theorem sum_l1 (ha : ∀ p ∈ a, Bd p) (hb : ∀ p ∈ b, Bd p) (hn : 0 < a.length) (hm : 0 < b.length) (hN : a.length ≤ 100000) (hM : b.length ≤ 100000) :
  ∀ d i j (x : List Pt), i ≤ a.length → j ≤ b.length → (a.length - i) + (b.length - j) ≤ d → x.length ≤ i + j → Rt (fun k => shape_Sum.l1 k a b (x ++ [V a b i j]) (i : Int) (j : Int)) ((x ++ V a b i j :: path a b d i j).dropLast, 0) := by
 intro d
 have done : ∀ d (x : List Pt), x.length ≤ a.length + b.length → Rt (fun k => shape_Sum.l1 k a b (x ++ [V a b a.length b.length]) (a.length : Int) (b.length : Int)) ((x ++ V a b a.length b.length :: path a b d a.length b.length).dropLast, 0) := by
  intro d x hx
  have ep : path a b d a.length b.length = [] := by
   cases d with
   | zero => rfl
   | succ d => unfold path; rw [if_neg (by omega), if_neg (by omega), if_neg (by omega)]
  refine rt_step (h := fun k => shape_Sum.j2 k a b (x ++ [V a b a.length b.length]) (a.length : Int) (b.length : Int) false) (fun k => ?_) (rt_ret fun k => ?_)
  ·rw [shape_Sum.l1, if_neg (by omega), decide_eq_false (by omega)]
  ·have l1 : (((x ++ [V a b a.length b.length]).length : Nat) : Int) = (x.length : Int) + 1 := by simp
   rw [shape_Sum.j2, if_neg (by simp), l1, wz _ (by omega) (by omega), if_pos (by omega), if_pos (by omega), ep, List.dropLast_concat, show (x.length : Int) + 1 - 1 = (x.length : Int) by omega, Int.toNat_natCast]
   simp
 induction d with
 | zero =>
  intro i j x hi hj hd hx
  have e1 : i = a.length := by omega
  have e2 : j = b.length := by omega
  subst e1; subst e2
  exact done 0 x hx
 | succ d ih =>
  intro i j x hi hj hd hx
  by_cases hend : i = a.length ∧ j = b.length
  ·obtain ⟨e1, e2⟩ := hend
   subst e1; subst e2
   exact done (d + 1) x hx
  ·have hx1 : (((x ++ [V a b i j]).length : Nat) : Int) = (x.length : Int) + 1 := by simp
   obtain ⟨pa0, pa1, pa2, pa3⟩ := P_bd ha hn i
   obtain ⟨pa4, pa5, pa6, pa7⟩ := P_bd ha hn (i + 1)
   obtain ⟨pb0, pb1, pb2, pb3⟩ := P_bd hb hm j
   obtain ⟨pb4, pb5, pb6, pb7⟩ := P_bd hb hm (j + 1)
   -- what is added to the last corner
   have lastf : rd_T29 (x ++ [V a b i j]) (((x.length : Nat)) : Int) = V a b i j := by rw [rd_at, snoc_last]
   have addf : ∀ (u w : Pt), plus (V a b i j) u = w → -4000000 ≤ u.f0 → u.f0 ≤ 4000000 → -4000000 ≤ u.f1 → u.f1 ≤ 4000000 → shape_add.f (V a b i j).f0 (V a b i j).f1 u.f0 u.f1 = some (w.f0, w.f1) := by
    intro u w e h0 h1 h2 h3
    unfold shape_add.f
    have v0 : (V a b i j).f0 = (P a i).f0 + (P b j).f0 := rfl
    have v1 : (V a b i j).f1 = (P a i).f1 + (P b j).f1 := rfl
    rw [wz _ (by omega) (by omega), wz _ (by omega) (by omega), ← e]; rfl
   have eda0 : (ed a i).f0 = (P a (i + 1)).f0 - (P a i).f0 := rfl
   have eda1 : (ed a i).f1 = (P a (i + 1)).f1 - (P a i).f1 := rfl
   have edb0 : (ed b j).f0 = (P b (j + 1)).f0 - (P b j).f0 := rfl
   have edb1 : (ed b j).f1 = (P b (j + 1)).f1 - (P b j).f1 := rfl
   -- the comparison
   have fin : ∀ (c : Int), (0 ≤ c → i < a.length) → (c ≤ 0 → j < b.length) →
     (c > 0 → path a b (d + 1) i j = V a b (i + 1) j :: path a b d (i + 1) j) → (c < 0 → path a b (d + 1) i j = V a b i (j + 1) :: path a b d i (j + 1)) → (c = 0 → path a b (d + 1) i j = V a b (i + 1) (j + 1) :: path a b d (i + 1) (j + 1)) →
     Rt (fun k => shape_Sum.j3 k a b (x ++ [V a b i j]) (i : Int) (j : Int) c) ((x ++ V a b i j :: path a b (d + 1) i j).dropLast, 0) := by
    intro c hca hcb hp hm' hz
    have glue : ∀ (w : Pt) (t : List Pt), x ++ V a b i j :: w :: t = (x ++ [V a b i j]) ++ w :: t := by intro w t; simp
    rcases Int.lt_trichotomy c 0 with h0 | h0 | h0
    ·-- an edge of b
     have hj' := hcb (by omega)
     rw [hm' h0, glue]
     refine rt_step (h := fun k => shape_Sum.j4 k a b (x ++ [V a b i j]) (i : Int) (j : Int) c 0 0) (fun k => ?_) (rt_step (fun k => ?_) (ih i (j + 1) (x ++ [V a b i j]) hi (by omega) (by omega) (by simp only [List.length_append, List.length_singleton]; omega)))
     ·rw [shape_Sum.j3, if_neg (by omega)]
     ·rw [shape_Sum.j4, if_pos (by omega), edge_f hb (by omega) hj', Option.bind_some]
      rw [show shape_add.f 0 0 (ed b j).f0 (ed b j).f1 = some ((ed b j).f0, (ed b j).f1) by unfold shape_add.f; rw [wz _ (by omega) (by omega), wz _ (by omega) (by omega), Int.zero_add, Int.zero_add], Option.bind_some, hx1, wz _ (by omega) (by omega), if_pos (by omega), if_pos (by omega), show (x.length : Int) + 1 - 1 = ((x.length : Nat) : Int) by omega, lastf, addf (ed b j) (V a b i (j + 1)) (by unfold plus V; apply pt_ext <;> dsimp only [plus] <;> omega) (by omega) (by omega) (by omega) (by omega), Option.bind_some, if_pos (by simp only [List.length_append, List.length_singleton]; omega), wrap_succ j (by omega)]
    ·-- an edge of each
     have hi' := hca (by omega)
     have hj' := hcb (by omega)
     rw [hz h0, glue]
     refine rt_step (h := fun k => shape_Sum.j4 k a b (x ++ [V a b i j]) ((i + 1 : Nat) : Int) (j : Int) c (ed a i).f0 (ed a i).f1) (fun k => ?_) (rt_step (fun k => ?_) (ih (i + 1) (j + 1) (x ++ [V a b i j]) (by omega) (by omega) (by omega) (by simp only [List.length_append, List.length_singleton]; omega)))
     ·rw [shape_Sum.j3, if_pos (by omega), edge_f ha (by omega) hi', Option.bind_some, wrap_succ i (by omega)]
     ·rw [shape_Sum.j4, if_pos (by omega), edge_f hb (by omega) hj', Option.bind_some]
      rw [show shape_add.f (ed a i).f0 (ed a i).f1 (ed b j).f0 (ed b j).f1 = some ((plus (ed a i) (ed b j)).f0, (plus (ed a i) (ed b j)).f1) by unfold shape_add.f plus; rw [wz _ (by omega) (by omega), wz _ (by omega) (by omega)], Option.bind_some, hx1, wz _ (by omega) (by omega), if_pos (by omega), if_pos (by omega), show (x.length : Int) + 1 - 1 = ((x.length : Nat) : Int) by omega, lastf, addf (plus (ed a i) (ed b j)) (V a b (i + 1) (j + 1)) (by unfold plus V; apply pt_ext <;> dsimp only [plus] <;> omega) (by unfold plus; dsimp only; omega) (by unfold plus; dsimp only; omega) (by unfold plus; dsimp only; omega) (by unfold plus; dsimp only; omega), Option.bind_some, if_pos (by simp only [List.length_append, List.length_singleton]; omega), wrap_succ j (by omega)]
    ·-- an edge of a
     have hi' := hca (by omega)
     rw [hp h0, glue]
     refine rt_step (h := fun k => shape_Sum.j4 k a b (x ++ [V a b i j]) ((i + 1 : Nat) : Int) (j : Int) c (ed a i).f0 (ed a i).f1) (fun k => ?_) (rt_step (fun k => ?_) (ih (i + 1) j (x ++ [V a b i j]) (by omega) hj (by omega) (by simp only [List.length_append, List.length_singleton]; omega)))
     ·rw [shape_Sum.j3, if_pos (by omega), edge_f ha (by omega) hi', Option.bind_some, wrap_succ i (by omega)]
     ·rw [shape_Sum.j4, if_neg (by omega), hx1, wz _ (by omega) (by omega), if_pos (by omega), if_pos (by omega), show (x.length : Int) + 1 - 1 = ((x.length : Nat) : Int) by omega, lastf, addf (ed a i) (V a b (i + 1) j) (by unfold plus V; apply pt_ext <;> dsimp only [plus] <;> omega) (by omega) (by omega) (by omega) (by omega), Option.bind_some, if_pos (by simp only [List.length_append, List.length_singleton]; omega)]
   have s1 : ∀ k, shape_Sum.l1 (k + 1) a b (x ++ [V a b i j]) (i : Int) (j : Int) = shape_Sum.j2 k a b (x ++ [V a b i j]) (i : Int) (j : Int) true := by
    intro k
    rw [shape_Sum.l1]
    by_cases h : (i : Int) < (a.length : Int)
    ·rw [if_pos h]
    ·rw [if_neg h, decide_eq_true (by omega)]
   by_cases hjm : j = b.length
   ·refine rt_step s1 (rt_step (fun k => ?_) (fin 1 (fun _ => by omega) (fun h => by omega) (fun _ => ?_) (fun h => by omega) (fun h => by omega)))
    ·rw [shape_Sum.j2, if_pos rfl, if_pos (by omega)]
    ·show (if _ then _ else _) = _
     rw [if_pos ⟨by omega, fun h => absurd h (by omega)⟩]
   ·by_cases hin : i = a.length
    ·refine rt_step s1 (rt_step (fun k => ?_) (fin (-1) (fun h => by omega) (fun _ => by omega) (fun h => by omega) (fun _ => ?_) (fun h => by omega)))
     ·rw [shape_Sum.j2, if_pos rfl, if_neg (by omega), if_pos (by omega)]
     ·show (if _ then _ else _) = _
      rw [if_neg (by omega), if_pos ⟨by omega, fun h => absurd h (by omega)⟩]
    ·have hi' : i < a.length := by omega
     have hj' : j < b.length := by omega
     refine rt_step s1 (rt_step (fun k => ?_) (fin (cx (ed a i) (ed b j)) (fun _ => hi') (fun _ => hj') (fun h => ?_) (fun h => ?_) (fun h => ?_)))
     ·rw [shape_Sum.j2, if_pos rfl, if_neg (by omega), if_neg (by omega), edge_f ha (by omega) hi', Option.bind_some, edge_f hb (by omega) hj', Option.bind_some]
      dsimp only
      rw [cross_f (ed_bd ha hn i) (ed_bd hb hm j), Option.bind_some]
     ·show (if _ then _ else _) = _
      rw [if_pos ⟨hi', fun _ => h⟩]
     ·show (if _ then _ else _) = _
      rw [if_neg (fun h2 => by have := h2.2 hj'; omega), if_pos ⟨hj', fun _ => h⟩]
     ·show (if _ then _ else _) = _
      rw [if_neg (fun h2 => by have := h2.2 hj'; omega), if_neg (fun h2 => by have := h2.2 hi'; omega), if_pos ⟨hi', hj'⟩]
/-- Sum, of two polygons that are convex in normal form -/
theorem Sum_run {p q : Int} {S : List Pt} (ca : Cvx p q a) (cb : Cvx p q b) (hS : Sums a b S) (ha : ∀ p ∈ a, Bd p) (hb : ∀ p ∈ b, Bd p) (hN : a.length ≤ 100000) (hM : b.length ≤ 100000)
  (h1 : Rt (fun k => shape_refused_normal.f k a) 0) (h2 : Rt (fun k => shape_refused_normal.f k b) 0) : ∃ h, Rt (fun k => shape_Sum.f k a b) (h, 0) ∧ Ring S h ∧ (∀ s ∈ S, s = at_ h 0 ∨ 0 < fn p q (at_ h 0) s) ∧ h.length ≤ a.length + b.length := by
 have la := ca.three
 have lb := cb.three
 obtain ⟨t, e, ring, hl⟩ := sum_ring ca cb hS
 obtain ⟨K1, g1⟩ := h1
 obtain ⟨K2, g2⟩ := h2
 obtain ⟨K3, g3⟩ := sum_l1 ha hb (by omega) (by omega) hN hM (a.length + b.length) 0 0 [] (by omega) (by omega) (by omega) (by simp)
 refine ⟨V a b 0 0 :: t, ⟨K1 + K2 + K3 + 3, fun k hk => ?_⟩, ring, sum_low ca cb hS, by simp only [List.length_cons]; omega⟩
 obtain ⟨k, rfl⟩ : ∃ m, k = m + 1 + 1 + 1 := ⟨k - 3, by omega⟩
 have a1 := g1 (k + 1 + 1) (by omega)
 have a2 := g2 (k + 1) (by omega)
 have a3 := g3 k (by omega)
 dsimp only at a1 a2 a3 ⊢
 have r0 : rd_L2 [a, b] 0 = a := rfl
 have r1 : rd_L2 [a, b] 1 = b := rfl
 have w1 : wrap64 (0 + 1) = 1 := by unfold wrap64; omega
 have w2 : wrap64 (1 + 1) = 2 := by unfold wrap64; omega
 have ln : (([a, b] : List (List S29)).length : Int) = 2 := rfl
 obtain ⟨pa0, pa1, pa2, pa3⟩ := P_bd ha (by omega) 0
 obtain ⟨pb0, pb1, pb2, pb3⟩ := P_bd hb (by omega) 0
 have z0 : rd_T29 a 0 = P a 0 := by rw [P_lt (by omega)]; rfl
 have z1 : rd_T29 b 0 = P b 0 := by rw [P_lt (by omega)]; rfl
 unfold shape_Sum.f
 rw [Option.bind_some, ln, shape_Sum.l0, ln, if_pos (by omega), if_pos (by omega), if_pos (by omega), r0, a1, Option.bind_some, if_pos rfl, w1, shape_Sum.l0, ln, if_pos (by omega), if_pos (by omega), if_pos (by omega), r1, a2, Option.bind_some, if_pos rfl, w2, shape_Sum.l0, if_neg (by omega), if_pos (by omega), if_pos (by omega), z0, z1]
 unfold shape_add.f
 rw [Option.bind_some, wz ((P a 0).f0 + _) (by omega) (by omega), wz ((P a 0).f1 + _) (by omega) (by omega)]
 have : ([] ++ V a b 0 0 :: path a b (a.length + b.length) 0 0).dropLast = V a b 0 0 :: t := by
  rw [e, List.nil_append, show V a b 0 0 :: (t ++ [V a b 0 0]) = (V a b 0 0 :: t) ++ [V a b 0 0] from rfl, List.dropLast_concat]
 rw [this] at a3
 exact a3
end
end Go.Proofs.Ytoffmpkgickfhaa.M
end
section
namespace Go.Proofs.Ytoffmpkgickfhaa.PG
open Go.RowKit Go.Proofs.YtoffmpkgickfhaaW.PrintWords Go.Proofs.YtoffmpkgickfhaaW.PrintLast Go.Proofs.YtoffmpkgickfhaaW.PrintMore
attribute [local go_sem] max2_int min2_int max_two min_two max_three min_three max_four min_four
set_option linter.unusedVariables false
set_option linter.unusedSimpArgs false
/-! ### cracknellaw04_fold: function 39 -/
def cracknellaw04_fold.f (a0 : Int) (a1 : Int) : Option (Int) := if a1 = 0 then (none) else (some (Int.tmod (wrap64 ((Int.tmod a0 a1) + a1)) a1))
set_option maxHeartbeats 8000000 in
set_option maxRecDepth 100000 in
theorem cracknellaw04_fold.calls (a0 : Int) (a1 : Int) (r : Int) (w : World) (h : cracknellaw04_fold.f a0 a1 = some r) :
  Calls Try.prog 39 #[.int .i64 a0, .int .i64 a1] w fun e w' => e = .returned (.int .i64 r) ∧ Drawn0 w w' := by
 have H : (if a1 = 0 then (none) else (some (Int.tmod (wrap64 ((Int.tmod a0 a1) + a1)) a1))) = some r := h
 clear h
 by_cases c3 : a1 = 0
 ·rw [if_pos c3] at H
  exact absurd H (by simp)
 ·rw [if_neg c3] at H
  have c3b0 : (a1 == 0) = false := beq_eq_false_iff_ne.mpr c3
  have c3b1 : (a1 != 0) = true := bne_iff_ne.mpr c3
  obtain rfl := Option.some.inj H
  go_enter Try.func39, Try.ntmps39
  go_wp2
  go_ret
  exact ⟨by first | rfl | (simp; done) | (simp [*]; done), by repeat (first | exact Drawn0.refl _ | apply Drawn0.step)⟩
end Go.Proofs.Ytoffmpkgickfhaa.PG
end
section
namespace Go.Proofs.Ytoffmpkgickfhaa.M
open Go.RowKit Go.Proofs.Ytoffmpkgickfhaa.PG Go.Proofs.YtoffmpkgickfhaaW.PrintMore Go.Proofs.YtoffmpkgickfhaaW.PrintWords
theorem tmod_bd (a b : Int) (hb : 0 < b) : -b < Int.tmod a b ∧ Int.tmod a b < b := by
 have h : (Int.tmod a b).natAbs = a.natAbs % b.natAbs := Int.natAbs_tmod a b
 have h2 : a.natAbs % b.natAbs < b.natAbs := Nat.mod_lt _ (by omega)
 omega
theorem points_run (l : List Pt) (m : Int) (q : Nat) (h0 : 0 ≤ m) (h1 : m ≤ 1000000) (hq : q ≤ 1000000) : ∃ r, Rt (fun k => cracknellaw04_points.f k l m (q : Int)) r ∧ r.length ≤ q ∧ ∀ p ∈ r, In m p := by
 have H : ∀ d i (x : List Pt), i + d = min l.length q → x.length = i → (∀ p ∈ x, In m p) → ∃ r, Rt (fun k => cracknellaw04_points.l0 k l m (q : Int) x (i : Int)) r ∧ r.length ≤ q ∧ ∀ p ∈ r, In m p := by
  intro d
  induction d with
  | zero =>
   intro i x hi hx hin
   refine ⟨x, rt_ret fun k => ?_, by omega, hin⟩
   rw [cracknellaw04_points.l0]
   by_cases h : (i : Int) < (l.length : Int)
   ·rw [if_pos h, if_neg (by omega)]
   ·rw [if_neg h]
  | succ d ih =>
   intro i x hi hx hin
   have b0 := tmod_bd (at_ l i).f0 (m + 1) (by omega)
   have b1 := tmod_bd (at_ l i).f1 (m + 1) (by omega)
   obtain ⟨r, hr, hr1, hr2⟩ := ih (i + 1) (x ++ [⟨Int.tmod (at_ l i).f0 (m + 1), Int.tmod (at_ l i).f1 (m + 1)⟩]) (by omega) (by simp [hx]) (fun p hp => by
    rcases List.mem_append.mp hp with h | h
    ·exact hin p h
    ·rw [List.mem_singleton] at h; subst h; unfold In; dsimp only; omega)
   refine ⟨r, rt_step (fun k => ?_) hr, hr1, hr2⟩
   rw [cracknellaw04_points.l0, if_pos (by omega), if_pos (by omega), if_pos (by omega), wz (m + 1) (by omega) (by omega), if_neg (by omega), if_pos (by omega), rd_at, wrap_succ i (by omega)]
 obtain ⟨r, ⟨K, hK⟩, h⟩ := H (min l.length q) 0 [] (by omega) rfl (by simp)
 exact ⟨r, ⟨K, fun k hk => hK k hk⟩, h⟩
theorem fold_f (a : Int) (n : Nat) (h0 : 0 < n) (h1 : n ≤ 1000000) : ∃ t : Nat, t < n ∧ cracknellaw04_fold.f a (n : Int) = some (t : Int) := by
 have b := tmod_bd a (n : Int) (by omega)
 refine ⟨((Int.tmod a n + n).toNat) % n, Nat.mod_lt _ h0, ?_⟩
 unfold cracknellaw04_fold.f
 rw [if_neg (by omega), wz _ (by omega) (by omega)]
 congr 1
 have e : Int.tmod a n + n = ((Int.tmod a n + n).toNat : Int) := by omega
 rw [e, ← Int.ofNat_tmod]; simp
end Go.Proofs.Ytoffmpkgickfhaa.M
end
section
namespace Go.Proofs.Ytoffmpkgickfhaa.M
open Go.RowKit Go.Proofs.Ytoffmpkgickfhaa.PG Go.Proofs.YtoffmpkgickfhaaW.PrintMore Go.Proofs.YtoffmpkgickfhaaW.PrintWords
/-- a convex polygon in normal form, its coordinates up to m -/
structure Nf (m : Int) (h : List Pt) : Prop where
 ring : Ring h h
 flat : ¬ Flat h
 fst : ∀ p ∈ h, p = at_ h 0 ∨ first (at_ h 0) p
 inb : ∀ p ∈ h, In m p
theorem Nf.of_ring {m : Int} {S h : List Pt} (r : Ring S h) (hf : ¬ Flat S) (hm : ∀ p ∈ S, p = at_ h 0 ∨ first (at_ h 0) p) (hin : ∀ p ∈ S, In m p) : Nf m h :=
 ⟨ring_self r, ring_not_flat r hf, fun p hp => hm p (ring_sub r p hp), fun p hp => hin p (ring_sub r p hp)⟩
section
variable {m : Int} {h : List Pt}
theorem Nf.three (n : Nf m h) : 3 ≤ h.length := ring_three n.ring n.flat
theorem Nf.convex (n : Nf m h) : Convex h := ring_convex n.ring n.flat n.fst
theorem Nf.bd (n : Nf m h) (hm : m ≤ 10000) : ∀ p ∈ h, Bd p := fun p hp => by have := n.inb p hp; unfold In at this; unfold Bd; omega
theorem Nf.poly (n : Nf m h) (hm : m ≤ 10000) (hl : h.length ≤ 32) : Poly h := ⟨n.three, hl, fun p hp => by have := n.inb p hp; unfold In at *; omega⟩
theorem Nf.normal (n : Nf m h) (hm : m ≤ 10000) (hl : h.length ≤ 32) : Rt (fun k => shape_refused_normal.f k h) 0 := refused_normal (by omega) (n.poly hm hl) n.convex
theorem Nf.first_k (n : Nf m h) : ∀ k, k < h.length → k = 0 ∨ first (at_ h 0) (at_ h k) := first_at n.ring (by have := n.three; omega) n.fst
theorem fn_first {a b : Pt} (ha : Bd a) (hb : Bd b) : first a b ↔ 0 < fn 1 10000000 a b := by
 unfold Bd at ha hb; unfold first fn; omega
theorem Nf.cvx (n : Nf m h) (hm : m ≤ 10000) : Cvx 1 10000000 h := by
 have h3 := n.three
 have hb := n.bd hm
 refine ⟨h3, ring_strong n.ring, fun k hk => ?_, fun i => ?_⟩
 ·rcases n.first_k k hk with e | e
  ·exact Or.inl e
  ·exact Or.inr ((fn_first (at_bd hb (by omega)) (at_bd hb hk)).mp e)
 ·have hi : i % h.length < h.length := Nat.mod_lt _ (by omega)
  have hj : (i + 1) % h.length < h.length := Nat.mod_lt _ (by omega)
  obtain ⟨b0, b1, b2, b3⟩ := at_bd hb hi
  obtain ⟨c0, c1, c2, c3⟩ := at_bd hb hj
  have ne := (ring_strong n.ring).1 _ hi
  rw [Nat.mod_add_mod] at ne
  intro e
  apply ne
  unfold ed vec ph P at e
  dsimp only at e
  apply pt_ext <;> omega
end
/-- the sums of all corners -/
def sums (a b : List Pt) : List Pt := a.flatMap fun x => b.map (plus x)
theorem sums_ok (a b : List Pt) : Sums a b (sums a b) := by
 intro s
 unfold sums
 rw [List.mem_flatMap]
 constructor
 ·rintro ⟨x, hx, hs⟩
  obtain ⟨y, hy, rfl⟩ := List.mem_map.mp hs
  obtain ⟨k, hk, rfl⟩ := List.mem_iff_getElem.mp hx
  obtain ⟨l, hl, rfl⟩ := List.mem_iff_getElem.mp hy
  exact ⟨k, l, hk, hl, by rw [at_eq hk, at_eq hl]⟩
 ·rintro ⟨k, l, hk, hl, rfl⟩
  exact ⟨at_ a k, at_mem hk, List.mem_map.mpr ⟨at_ b l, at_mem hl, rfl⟩⟩
theorem sums_mem {a b : List Pt} {s : Pt} : s ∈ sums a b ↔ ∃ x ∈ a, ∃ y ∈ b, s = plus x y := by
 unfold sums
 rw [List.mem_flatMap]
 constructor
 ·rintro ⟨x, hx, hs⟩
  obtain ⟨y, hy, rfl⟩ := List.mem_map.mp hs
  exact ⟨x, hx, y, hy, rfl⟩
 ·rintro ⟨x, hx, y, hy, rfl⟩
  exact ⟨x, hx, List.mem_map.mpr ⟨y, hy, rfl⟩⟩
theorem sums_flat {a b : List Pt} (hb : 0 < b.length) (h : Flat (sums a b)) : Flat a := by
 intro x hx y hy z hz
 have m := at_mem hb
 have := h _ (sums_mem.mpr ⟨x, hx, _, m, rfl⟩) _ (sums_mem.mpr ⟨y, hy, _, m, rfl⟩) _ (sums_mem.mpr ⟨z, hz, _, m, rfl⟩)
 rw [cr_eq] at this ⊢
 unfold plus at this
 dsimp only at this
 rw [← this]; grind
/-- the code's sum of two polygons in normal form is one, the hull of all sums -/
theorem sum_nf {m1 m2 : Int} {a b : List Pt} (na : Nf m1 a) (nb : Nf m2 b) (h1 : 0 ≤ m1) (h2 : 0 ≤ m2) (hm : m1 + m2 ≤ 10000) (la : a.length ≤ 32) (lb : b.length ≤ 32) :
  ∃ h, Rt (fun k => shape_Sum.f k a b) (h, 0) ∧ Ring (sums a b) h ∧ Nf (m1 + m2) h ∧ h.length ≤ a.length + b.length := by
 obtain ⟨h, r, ring, lo, hl⟩ := Sum_run (na.cvx (by omega)) (nb.cvx (by omega)) (sums_ok a b) (na.bd (by omega)) (nb.bd (by omega)) (by omega) (by omega) (na.normal (by omega) la) (nb.normal (by omega) lb)
 have inS : ∀ s ∈ sums a b, In (m1 + m2) s := by
  intro s hs
  obtain ⟨x, hx, y, hy, rfl⟩ := sums_mem.mp hs
  have i1 := na.inb x hx
  have i2 := nb.inb y hy
  unfold In plus at *; dsimp only; omega
 have bS : ∀ s ∈ sums a b, Bd s := fun s hs => by have := inS s hs; unfold In at this; unfold Bd; omega
 have hf : ¬ Flat (sums a b) := fun h => na.flat (sums_flat (by have := nb.three; omega) h)
 have h3 := ring_three ring hf
 have m0 := ring_sub ring _ (at_mem (show 0 < h.length by omega))
 exact ⟨h, r, ring, Nf.of_ring ring hf (fun p hp => (lo p hp).imp id (fun e => (fn_first (bS _ m0) (bS p hp)).mpr e)) inS, hl⟩
/-- the law's own hull -/
theorem law_hull_run (l : List Pt) (m : Int) (h0 : 1 ≤ m) (h1 : m ≤ 10000) : ∃ h, Rt (fun k => cracknellaw04_hull.f k l m) h ∧ Nf m h ∧ h.length ≤ 12 := by
 obtain ⟨r, ⟨K1, h2⟩, hl, hin⟩ := points_run l m 9 (by omega) (by omega) (by omega)
 have hinb : ∀ p ∈ r ++ [(⟨0, 0⟩ : S29), (⟨1, 0⟩ : S29), (⟨0, 1⟩ : S29)], In m p := by
  intro p hp
  rcases List.mem_append.mp hp with h | h
  ·exact hin p h
  ·have : p = ⟨0, 0⟩ ∨ p = ⟨1, 0⟩ ∨ p = ⟨0, 1⟩ := by simpa using h
   rcases this with rfl | rfl | rfl <;> (unfold In; dsimp only; omega)
 have hlen : (r ++ [(⟨0, 0⟩ : S29), (⟨1, 0⟩ : S29), (⟨0, 1⟩ : S29)]).length = r.length + 3 := by simp
 obtain ⟨h, ⟨K2, c⟩, ring, hm⟩ := (refHull_run (l := r ++ [(⟨0, 0⟩ : S29), (⟨1, 0⟩ : S29), (⟨0, 1⟩ : S29)]) (fun p hp => by have := hinb p hp; unfold In at this; unfold Bd; omega) (by omega) (by omega)).2 (not_flat3 r)
 refine ⟨h, ⟨K1 + K2, fun k hk => ?_⟩, Nf.of_ring ring (not_flat3 r) hm hinb, by have := ring_len ring; omega⟩
 have a1 := h2 k (by omega)
 have a2 := c k (by omega)
 dsimp only at a1 a2 ⊢
 unfold cracknellaw04_hull.f
 rw [show (9 : Int) = ((9 : Nat) : Int) from rfl, a1, Option.bind_some, Option.bind_some, if_pos (by simp only [List.length_cons, List.length_nil]; omega), a2, Option.bind_some]
end Go.Proofs.Ytoffmpkgickfhaa.M
end
section
namespace Go.Proofs.Ytoffmpkgickfhaa.M
open Go.RowKit Go.Proofs.Ytoffmpkgickfhaa.PG Go.Proofs.YtoffmpkgickfhaaW.PrintMore Go.Proofs.YtoffmpkgickfhaaW.PrintWords
theorem ring_ext {S T h : List Pt} (r : Ring S h) (hs : ∀ p ∈ S, p ∈ T) (ht : ∀ u v, HE S u v → ∀ t ∈ T, 0 ≤ cr u v t ∧ (cr u v t = 0 → btw u v t)) : Ring T h := by
 obtain ⟨a, t, e, n, p⟩ := r
 exact ⟨a, t, e, n, Pairs.mono (fun u v he => ⟨he.1, hs u he.2.1, hs v he.2.2.1, ht u v he⟩) _ p⟩
theorem has_min (f : Nat → Int) : ∀ n, 0 < n → ∃ i, i < n ∧ ∀ j, j < n → f i ≤ f j := by
 intro n
 induction n with
 | zero => intro h; omega
 | succ n ih =>
  intro _
  by_cases h0 : n = 0
  ·subst h0; exact ⟨0, by omega, fun j hj => by rw [show j = 0 by omega]; exact Int.le_refl _⟩
  ·obtain ⟨i, hi, hm⟩ := ih (by omega)
   by_cases hc : f i ≤ f n
   ·exact ⟨i, by omega, fun j hj => by
     rcases Nat.lt_or_ge j n with h1 | h1
     ·exact hm j h1
     ·rw [show j = n by omega]; exact hc⟩
   ·exact ⟨n, by omega, fun j hj => by
     rcases Nat.lt_or_ge j n with h1 | h1
     ·have := hm j h1; omega
     ·rw [show j = n by omega]; exact Int.le_refl _⟩
/-- in each direction the ring goes as far as the whole set -/
theorem dom {X x : List Pt} (r : Ring X x) (h3 : 3 ≤ x.length) {e : Pt} (he : ¬ (e.f0 = 0 ∧ e.f1 = 0)) {s : Pt} (hs : s ∈ X) :
  ∃ u v, u ∈ x ∧ v ∈ x ∧ 0 ≤ cx e (vec u s) ∧ (cx e (vec u s) = 0 → cx e (vec u v) = 0 ∧ btw u v s) := by
 obtain ⟨i, hi, hmin⟩ := has_min (fun k => cx e (at_ x k)) x.length (by omega)
 have hpos : ∀ k, k < x.length → 0 ≤ cx e (vec (at_ x i) (at_ x k)) := by
  intro k hk
  have := hmin k hk
  have e1 : cx e (vec (at_ x i) (at_ x k)) = cx e (at_ x k) - cx e (at_ x i) := by unfold cx vec; dsimp only; grind
  omega
 obtain ⟨j, hj, hji⟩ : ∃ j, j < x.length ∧ (j + 1) % x.length = i := by
  by_cases h0 : i = 0
  ·exact ⟨x.length - 1, by omega, by rw [show x.length - 1 + 1 = x.length by omega, Nat.mod_self, h0]⟩
  ·exact ⟨i - 1, by omega, by rw [show i - 1 + 1 = i by omega, Nat.mod_eq_of_lt hi]⟩
 have T := strong_turn h3 (ring_strong r) j hj
 have e2 : (j + 1 + 1) % x.length = (i + 1) % x.length := by rw [← Nat.mod_add_mod, hji]
 rw [hji, e2] at T
 have hn : (i + 1) % x.length < x.length := Nat.mod_lt _ (by omega)
 have E1 := ring_at r j hj
 have E2 := ring_at r i hi
 rw [hji] at E1
 obtain ⟨l1, b1⟩ := E1.2.2.2 s hs
 obtain ⟨l2, b2⟩ := E2.2.2.2 s hs
 have p1 := hpos j hj
 have p2 := hpos _ hn
 have mu := at_mem hj
 have mv := at_mem hi
 have mw := at_mem hn
 generalize at_ x j = u at *
 generalize at_ x i = v at *
 generalize at_ x ((i + 1) % x.length) = w at *
 have id : cr u v w * cx e (vec v s) = cr u v s * cx e (vec v w) + cr v w s * cx e (vec v u) := by unfold cr cx vec; dsimp only; grind
 have m1 : 0 ≤ cr u v s * cx e (vec v w) := Int.mul_nonneg l1 p2
 have m2 : 0 ≤ cr v w s * cx e (vec v u) := Int.mul_nonneg l2 p1
 have nn := nonneg_of_mul T (show 0 ≤ cr u v w * cx e (vec v s) by omega)
 by_cases z : cx e (vec v w) = 0
 ·refine ⟨v, w, mv, mw, nn, fun h0 => ⟨z, ?_⟩⟩
  rw [h0, Int.mul_zero] at id
  have z2 : cr v w s * cx e (vec v u) = 0 := by omega
  rcases Int.mul_eq_zero.mp z2 with h | h
  ·exact b2 h
  ·exfalso
   apply he
   have k0 : cr u v w * e.f0 = 0 := by
    have : cr u v w * e.f0 = cx e (vec v w) * (v.f0 - u.f0) + cx e (vec v u) * (w.f0 - v.f0) := by unfold cr cx vec; dsimp only; grind
    rw [this, z, h]; simp
   have k1 : cr u v w * e.f1 = 0 := by
    have : cr u v w * e.f1 = cx e (vec v w) * (v.f1 - u.f1) + cx e (vec v u) * (w.f1 - v.f1) := by unfold cr cx vec; dsimp only; grind
    rw [this, z, h]; simp
   constructor
   ·rcases Int.mul_eq_zero.mp k0 with h | h
    ·omega
    ·exact h
   ·rcases Int.mul_eq_zero.mp k1 with h | h
    ·omega
    ·exact h
 ·have cz : cx e (vec v s) = 0 → cr u v s = 0 := by
   intro h0
   rw [h0, Int.mul_zero] at id
   rcases Int.mul_eq_zero.mp (show cr u v s * cx e (vec v w) = 0 by omega) with h | h
   ·exact h
   ·exact absurd h z
  by_cases y : cx e (vec v u) = 0
  ·refine ⟨v, u, mv, mu, nn, fun h0 => ⟨y, ?_⟩⟩
   have bb := b1 (cz h0)
   unfold btw at *; omega
  ·refine ⟨v, v, mv, mv, nn, fun h0 => ?_⟩
   have c1 := cz h0
   rw [h0, Int.mul_zero] at id
   have h : cr v w s = 0 := by
    rcases Int.mul_eq_zero.mp (show cr v w s * cx e (vec v u) = 0 by omega) with h | h
    ·exact h
    ·exact absurd h y
   have k0 : cr u v w * (s.f0 - v.f0) = 0 := by
    have : cr u v w * (s.f0 - v.f0) = cr u v s * (w.f0 - v.f0) - cr v w s * (v.f0 - u.f0) := by unfold cr; grind
    rw [this, c1, h]; simp
   have k1 : cr u v w * (s.f1 - v.f1) = 0 := by
    have : cr u v w * (s.f1 - v.f1) = cr u v s * (w.f1 - v.f1) - cr v w s * (v.f1 - u.f1) := by unfold cr; grind
    rw [this, c1, h]; simp
   have s0 : s.f0 = v.f0 := by
    rcases Int.mul_eq_zero.mp k0 with h | h <;> omega
   have s1 : s.f1 = v.f1 := by
    rcases Int.mul_eq_zero.mp k1 with h | h <;> omega
   have es : s = v := pt_ext s0 s1
   rw [es]
   exact ⟨by unfold cx vec; dsimp only; simp, btw_start _ _⟩
/-- a hull added to something is as good as the set itself -/
theorem sum_ext {X x c L : List Pt} (r : Ring X x) (h3 : 3 ≤ x.length) (rl : Ring (sums x c) L) : Ring (sums X c) L := by
 refine ring_ext rl (fun p hp => ?_) (fun u v he t ht => ?_)
 ·obtain ⟨a, ha, b, hb, rfl⟩ := sums_mem.mp hp
  exact sums_mem.mpr ⟨a, ring_sub r a ha, b, hb, rfl⟩
 ·obtain ⟨s0, hs0, c0, hc0, rfl⟩ := sums_mem.mp ht
  have hne : ¬ ((vec u v).f0 = 0 ∧ (vec u v).f1 = 0) := by
   rintro ⟨h0, h1⟩
   apply he.1
   unfold vec at h0 h1; dsimp only at h0 h1
   exact pt_ext (by omega) (by omega)
  obtain ⟨y, z, hy, hz, d1, d2⟩ := dom r h3 hne hs0
  obtain ⟨g1, g2⟩ := he.2.2.2 _ (sums_mem.mpr ⟨y, hy, c0, hc0, rfl⟩)
  obtain ⟨k1, k2⟩ := he.2.2.2 _ (sums_mem.mpr ⟨z, hz, c0, hc0, rfl⟩)
  have e1 : cr u v (plus s0 c0) = cr u v (plus y c0) + cx (vec u v) (vec y s0) := by unfold cr cx vec plus; dsimp only; grind
  have e2 : cr u v (plus z c0) = cr u v (plus y c0) + cx (vec u v) (vec y z) := by unfold cr cx vec plus; dsimp only; grind
  refine ⟨by omega, fun h0 => ?_⟩
  obtain ⟨f1, f2⟩ := d2 (by omega)
  have b1 := g2 (by omega)
  have b2 := k2 (by omega)
  unfold btw plus at *; dsimp only at *; omega
theorem sums_comm {a b : List Pt} (s : Pt) : s ∈ sums a b ↔ s ∈ sums b a := by
 rw [sums_mem, sums_mem]
 constructor
 ·rintro ⟨x, hx, y, hy, rfl⟩; exact ⟨y, hy, x, hx, by unfold plus; rw [Int.add_comm, Int.add_comm x.f1]⟩
 ·rintro ⟨x, hx, y, hy, rfl⟩; exact ⟨y, hy, x, hx, by unfold plus; rw [Int.add_comm, Int.add_comm x.f1]⟩
theorem sums_assoc {a b c : List Pt} (s : Pt) : s ∈ sums (sums a b) c ↔ s ∈ sums (sums b c) a := by
 rw [sums_mem, sums_mem]
 constructor
 ·rintro ⟨x, hx, y, hy, rfl⟩
  obtain ⟨u, hu, v, hv, rfl⟩ := sums_mem.mp hx
  exact ⟨plus v y, sums_mem.mpr ⟨v, hv, y, hy, rfl⟩, u, hu, by unfold plus; apply pt_ext <;> dsimp only <;> omega⟩
 ·rintro ⟨x, hx, y, hy, rfl⟩
  obtain ⟨u, hu, v, hv, rfl⟩ := sums_mem.mp hx
  exact ⟨plus y u, sums_mem.mpr ⟨y, hy, u, hu, rfl⟩, v, hv, by unfold plus; apply pt_ext <;> dsimp only <;> omega⟩
/-- two rings of one set that begin with their first corners are one -/
theorem nf_one {m m' : Int} {S h h' : List Pt} (hf : ¬ Flat S) (r : Ring S h) (r' : Ring S h') (n : Nf m h) (n' : Nf m' h') : h = h' := by
 have h3 := n'.three
 refine rings_one hf r r' n.first_k ?_
 exact ring_first r' hf 0 (by omega) n'.first_k
/-! ### twice the polygon -/
def dbl (l : List Pt) : List Pt := l.map fun p => plus p p
theorem dbl_at (l : List Pt) (i : Nat) : at_ (dbl l) i = plus (at_ l i) (at_ l i) := by
 unfold at_ dbl
 rw [List.getD_eq_getElem?_getD, List.getD_eq_getElem?_getD, List.getElem?_map]
 cases l[i]? <;> rfl
theorem dbl_ring {a : List Pt} (r : Ring a a) : Ring (sums a a) (dbl a) := by
 have H : ∀ u v, HE a u v → HE (sums a a) (plus u u) (plus v v) := by
  rintro u v ⟨ne, hu, hv, L⟩
  refine ⟨fun e => ne ?_, sums_mem.mpr ⟨u, hu, u, hu, rfl⟩, sums_mem.mpr ⟨v, hv, v, hv, rfl⟩, fun s hs => ?_⟩
  ·unfold plus at e
   have e0 := congrArg S29.f0 e
   have e1 := congrArg S29.f1 e
   dsimp only at e0 e1
   exact pt_ext (by omega) (by omega)
  ·obtain ⟨x, hx, y, hy, rfl⟩ := sums_mem.mp hs
   obtain ⟨x1, x2⟩ := L x hx
   obtain ⟨y1, y2⟩ := L y hy
   have e : cr (plus u u) (plus v v) (plus x y) = 2 * cr u v x + 2 * cr u v y := by unfold cr plus; dsimp only; grind
   rw [e]
   refine ⟨by omega, fun h0 => ?_⟩
   have b1 := x2 (by omega)
   have b2 := y2 (by omega)
   unfold btw plus at *; dsimp only at *; omega
 have PM : ∀ l : List Pt, Pairs (HE a) l → Pairs (HE (sums a a)) (l.map fun p => plus p p) := by
  intro l
  induction l with
  | nil => intro _; trivial
  | cons x l ih =>
   cases l with
   | nil => intro _; trivial
   | cons y l => intro hp; exact ⟨H x y hp.1, ih hp.2⟩
 obtain ⟨o, t, e, n, p⟩ := r
 refine ⟨plus o o, t.map fun p => plus p p, by unfold dbl; rw [e]; rfl, fun hm => n ?_, ?_⟩
 ·obtain ⟨x, hx, hxe⟩ := List.mem_map.mp hm
  have e0 := congrArg S29.f0 hxe
  have e1 := congrArg S29.f1 hxe
  unfold plus at e0 e1; dsimp only at e0 e1
  have : x = o := pt_ext (by omega) (by omega)
  rw [← this]; exact hx
 ·have := PM _ p
  rw [List.map_cons, List.map_append] at this; exact this
theorem dbl_area (l : List Pt) : area (dbl l) = 4 * area l := by
 have hl : (dbl l).length = l.length := by unfold dbl; rw [List.length_map]
 have H : ∀ i, areaTo (dbl l) i = 4 * areaTo l i := by
  intro i
  induction i with
  | zero => rfl
  | succ i ih =>
   unfold areaTo
   rw [ih]
   unfold term
   rw [dbl_at, dbl_at, hl]
   unfold plus; dsimp only; grind
 unfold area
 rw [hl, H]
end Go.Proofs.Ytoffmpkgickfhaa.M
end
section
namespace Go.Proofs.Ytoffmpkgickfhaa.M
open Go.RowKit Go.Proofs.Ytoffmpkgickfhaa.PG Go.Proofs.YtoffmpkgickfhaaW.PrintMore Go.Proofs.YtoffmpkgickfhaaW.PrintWords
theorem concat_run (a b : List Pt) (hN : a.length + b.length ≤ 1000000) : Rt (fun k => api_Point_57.f k [a, b]) (a ++ b) := by
 refine ⟨6, fun k hk => ?_⟩
 obtain ⟨k, rfl⟩ : ∃ m, k = m + 6 := ⟨k - 6, by omega⟩
 unfold api_Point_57.f
 have r0 : rd_L2 [a, b] 0 = a := rfl
 have r1 : rd_L2 [a, b] 1 = b := rfl
 have w1 : wrap64 (0 + 1) = 1 := by unfold wrap64; omega
 have w2 : wrap64 (1 + 1) = 2 := by unfold wrap64; omega
 have ln : (([a, b] : List (List S29)).length : Int) = 2 := rfl
 dsimp only
 rw [api_Point_57.l0, ln, if_pos (by omega), if_pos (by omega), if_pos (by omega), r0, wz (0 + (a.length : Int)) (by omega) (by omega), if_neg (by omega), w1, api_Point_57.l0, ln, if_pos (by omega), if_pos (by omega), if_pos (by omega), r1, wz _ (by omega) (by omega), if_neg (by omega), w2, api_Point_57.l0, if_neg (by omega)]
 rw [show slices_Grow_nil.f (0 + (a.length : Int) + (b.length : Int)) = some [] by unfold slices_Grow_nil.f; rw [if_pos (by omega)], Option.bind_some]
 rw [api_Point_57.l1, ln, if_pos (by omega), if_pos (by omega), if_pos (by omega), r0, if_pos (by simp; omega), w1, api_Point_57.l1, ln, if_pos (by omega), if_pos (by omega), if_pos (by omega), r1, if_pos (by simp; omega), w2, api_Point_57.l1, if_neg (by omega)]
 rfl
theorem index_run {l : List Pt} {p : Pt} (hp : p ∈ l) (hN : l.length ≤ 1000000) : ∃ i, i < l.length ∧ at_ l i = p ∧ Rt (fun k => api_Point_93.f k l p.f0 p.f1) (i : Int) := by
 have H : ∀ d i, l.length = i + d → (∃ j, i ≤ j ∧ j < l.length ∧ at_ l j = p) → ∃ j, j < l.length ∧ at_ l j = p ∧ Rt (fun k => api_Point_93.l0 k l (l.length : Int) (i : Int) p.f0 p.f1) (j : Int) := by
  intro d
  induction d with
  | zero => intro i hi ⟨j, h1, h2, _⟩; omega
  | succ d ih =>
   intro i hi ⟨j, h1, h2, h3⟩
   have hlt : i < l.length := by omega
   by_cases h : p = at_ l i
   ·refine ⟨i, hlt, h.symm, rt_ret fun k => ?_⟩
    rw [api_Point_93.l0, if_pos (by omega), if_pos (by omega), if_pos (by omega), rd_at, pt_beq, if_pos (by simpa using h)]
   ·obtain ⟨j', h4, h5, h6⟩ := ih (i + 1) (by omega) ⟨j, by
     rcases Nat.eq_or_lt_of_le h1 with rfl | h7
     ·exact absurd h3.symm h
     ·exact h7, h2, h3⟩
    refine ⟨j', h4, h5, rt_step (fun k => ?_) h6⟩
    rw [api_Point_93.l0, if_pos (by omega), if_pos (by omega), if_pos (by omega), rd_at, pt_beq, if_neg (by simpa using h), wrap_succ i (by omega)]
 obtain ⟨j, hj, rfl⟩ := List.mem_iff_getElem.mp hp
 obtain ⟨i, h1, h2, h3⟩ := H l.length 0 (by omega) ⟨j, Nat.zero_le _, hj, at_eq hj⟩
 exact ⟨i, h1, h2, h3⟩
theorem begun_run {l : List Pt} (h0 : 0 < l.length) (hN : l.length ≤ 1000000) : ∃ i, i < l.length ∧ (∀ p ∈ l, ¬ first p (at_ l i)) ∧ Rt (fun k => shape_begun.f k l) (l.drop i ++ l.take i) := by
 obtain ⟨r, ⟨K1, h1⟩, hr, hmin⟩ := min_run h0 hN
 obtain ⟨i, hi, hir, ⟨K2, h2⟩⟩ := index_run hr hN
 obtain ⟨K3, h3⟩ := concat_run (l.drop i) (l.take i) (by simp only [List.length_drop, List.length_take]; omega)
 refine ⟨i, hi, hir ▸ hmin, ⟨K1 + K2 + K3, fun k hk => ?_⟩⟩
 have a1 := h1 k (by omega)
 have a2 := h2 k (by omega)
 have a3 := h3 k (by omega)
 dsimp only at a1 a2 a3 ⊢
 unfold shape_begun.f
 rw [a1, Option.bind_some]
 dsimp only
 rw [a2, Option.bind_some, if_pos (by omega), if_pos (by omega), Int.toNat_natCast, a3, Option.bind_some]
theorem same_run (a b : List Pt) (hN : a.length ≤ 1000000) : ∃ c, Rt (fun k => cracknelref04_Same.f k a b) c ∧ (c = true ↔ a = b) := by
 by_cases hl : a.length = b.length
 ·have H : ∀ d i, a.length = i + d → ∃ c, Rt (fun k => cracknelref04_Same.l0 k a b (i : Int)) c ∧ (c = true ↔ ∀ j, i ≤ j → j < a.length → at_ a j = at_ b j) := by
   intro d
   induction d with
   | zero =>
    intro i hi
    refine ⟨true, rt_ret fun k => ?_, ⟨fun _ j h1 h2 => by omega, fun _ => rfl⟩⟩
    rw [cracknelref04_Same.l0, if_neg (by omega)]
   | succ d ih =>
    intro i hi
    have hlt : i < a.length := by omega
    obtain ⟨c, hc, hb⟩ := ih (i + 1) (by omega)
    rw [from_split hlt]
    by_cases h : at_ a i = at_ b i
    ·refine ⟨c, rt_step (fun k => ?_) hc, ?_⟩
     ·rw [cracknelref04_Same.l0, if_pos (by omega), if_pos (by omega), if_pos (by omega), rd_at, rd_at, if_neg (by simp [h]), wrap_succ i (by omega)]
     ·rw [hb]; exact ⟨fun h1 => ⟨h, h1⟩, fun h1 => h1.2⟩
    ·refine ⟨false, rt_ret fun k => ?_, ⟨fun h1 => by simp at h1, fun h1 => absurd h1.1 h⟩⟩
     have h5 : (!((at_ a i).f0 == (at_ b i).f0) || !((at_ a i).f1 == (at_ b i).f1)) = true := by
      have := pt_beq (at_ a i) (at_ b i)
      rw [decide_eq_false h] at this
      rw [← Bool.not_and, this]; rfl
     rw [cracknelref04_Same.l0, if_pos (by omega), if_pos (by omega), if_pos (by omega), rd_at, rd_at, if_pos h5]
  obtain ⟨c, ⟨K, hK⟩, hb⟩ := H a.length 0 (by omega)
  refine ⟨c, ⟨K, fun k hk => ?_⟩, ?_⟩
  ·unfold cracknelref04_Same.f; dsimp only; rw [if_pos (by omega)]; exact hK k hk
  ·rw [hb]
   constructor
   ·intro h
    apply List.ext_getElem hl
    intro j h1 h2
    rw [← at_eq h1, ← at_eq h2]; exact h j (Nat.zero_le _) h1
   ·rintro rfl j _ _; rfl
 ·refine ⟨false, ⟨0, fun k _ => ?_⟩, ⟨fun h => by simp at h, fun h => absurd (by rw [h]) hl⟩⟩
  unfold cracknelref04_Same.f; dsimp only; rw [if_neg (by omega)]
end Go.Proofs.Ytoffmpkgickfhaa.M
end
section
namespace Go.Proofs.Ytoffmpkgickfhaa.M
open Go.RowKit Go.Proofs.Ytoffmpkgickfhaa.PG Go.Proofs.YtoffmpkgickfhaaW.PrintMore Go.Proofs.YtoffmpkgickfhaaW.PrintWords
def neg (p : Pt) : Pt := ⟨-p.f0, -p.f1⟩
def negs (l : List Pt) : List Pt := l.map neg
theorem neg_neg (p : Pt) : neg (neg p) = p := by unfold neg; apply pt_ext <;> dsimp only <;> omega
theorem negs_mem {l : List Pt} {p : Pt} : p ∈ negs l ↔ neg p ∈ l := by
 unfold negs
 rw [List.mem_map]
 exact ⟨fun ⟨x, hx, e⟩ => by rw [← e, neg_neg]; exact hx, fun h => ⟨neg p, h, neg_neg p⟩⟩
theorem cr_neg (a b c : Pt) : cr (neg a) (neg b) (neg c) = cr a b c := by unfold cr neg; dsimp only; grind
theorem neg_ring {S h : List Pt} (r : Ring S h) : Ring (negs S) (negs h) := by
 have H : ∀ u v, HE S u v → HE (negs S) (neg u) (neg v) := by
  rintro u v ⟨ne, hu, hv, L⟩
  refine ⟨fun e => ne ?_, negs_mem.mpr (by rw [neg_neg]; exact hu), negs_mem.mpr (by rw [neg_neg]; exact hv), fun s hs => ?_⟩
  ·have := congrArg neg e; rwa [neg_neg, neg_neg] at this
  ·obtain ⟨x1, x2⟩ := L (neg s) (negs_mem.mp hs)
   rw [← cr_neg, neg_neg] at x1 x2
   refine ⟨x1, fun h0 => ?_⟩
   have b := x2 h0
   unfold btw neg at *; dsimp only at *; omega
 have PM : ∀ l : List Pt, Pairs (HE S) l → Pairs (HE (negs S)) (l.map neg) := by
  intro l
  induction l with
  | nil => intro _; trivial
  | cons x l ih =>
   cases l with
   | nil => intro _; trivial
   | cons y l => intro hp; exact ⟨H x y hp.1, ih hp.2⟩
 obtain ⟨o, t, e, n, p⟩ := r
 refine ⟨neg o, t.map neg, by unfold negs; rw [e]; rfl, fun hm => n ?_, ?_⟩
 ·obtain ⟨x, hx, hxe⟩ := List.mem_map.mp hm
  have := congrArg neg hxe
  rw [neg_neg, neg_neg] at this
  rw [← this]; exact hx
 ·have := PM _ p
  rw [List.map_cons, List.map_append] at this; exact this
theorem neg_flat {S : List Pt} (h : Flat (negs S)) : Flat S := by
 intro a ha b hb c hc
 have := h (neg a) (negs_mem.mpr (by rw [neg_neg]; exact ha)) (neg b) (negs_mem.mpr (by rw [neg_neg]; exact hb)) (neg c) (negs_mem.mpr (by rw [neg_neg]; exact hc))
 rwa [cr_neg] at this
theorem negative_run {l : List Pt} (hb : ∀ p ∈ l, Bd p) (h0 : 0 < l.length) (hN : l.length ≤ 1000000) : ∃ i, i < l.length ∧ (∀ p ∈ negs l, ¬ first p (at_ (negs l) i)) ∧ Rt (fun k => shape_negative.f k l) ((negs l).drop i ++ (negs l).take i) := by
 have hl : (negs l).length = l.length := by unfold negs; rw [List.length_map]
 obtain ⟨i, hi, hmin, hB⟩ := begun_run (l := negs l) (by omega) (by omega)
 refine ⟨i, by omega, hmin, ?_⟩
 have H : ∀ d j, l.length = j + d → Rt (fun k => shape_negative.l0 k (negs (l.take j)) l (l.length : Int) (j : Int)) ((negs l).drop i ++ (negs l).take i) := by
  intro d
  induction d with
  | zero =>
   intro j hj
   refine rt_step (h := fun k => (shape_begun.f k (negs l)).bind fun t => some t) (fun k => ?_) ?_
   ·rw [shape_negative.l0, if_neg (by omega), List.take_of_length_le (by omega)]
   ·obtain ⟨K, hK⟩ := hB
    refine ⟨K, fun k hk => ?_⟩
    have := hK k hk
    dsimp only at this ⊢
    rw [this, Option.bind_some]
  | succ d ih =>
   intro j hj
   have hlt : j < l.length := by omega
   obtain ⟨b0, b1, b2, b3⟩ := at_bd hb hlt
   have e : negs (l.take (j + 1)) = negs (l.take j) ++ [neg (at_ l j)] := by
    rw [at_eq hlt, ← List.take_append_getElem hlt]; unfold negs; rw [List.map_append]; rfl
   refine rt_step (fun k => ?_) (ih (j + 1) (by omega))
   rw [e, shape_negative.l0, if_pos (by omega), if_pos (by omega), if_pos (by omega), rd_at]
   unfold shape_sub.f
   rw [Option.bind_some, wz (0 - (at_ l j).f0) (by omega) (by omega), wz (0 - (at_ l j).f1) (by omega) (by omega), if_pos (by unfold negs; rw [List.length_map, List.length_take]; omega), wrap_succ j (by omega)]
   unfold neg
   rw [Int.zero_sub, Int.zero_sub]
 obtain ⟨K, hK⟩ := H l.length 0 (by omega)
 exact ⟨K, fun k hk => hK k hk⟩
theorem Negative_run {m : Int} {a : List Pt} (n : Nf m a) (hm : m ≤ 10000) (hl : a.length ≤ 32) : ∃ h, Rt (fun k => shape_Negative.f k a) (h, 0) ∧ Ring (negs a) h ∧ Nf m h ∧ h.length = a.length := by
 have h3 := n.three
 have hla : (negs a).length = a.length := by unfold negs; rw [List.length_map]
 obtain ⟨i, hi, hmin, ⟨K2, h2⟩⟩ := negative_run (n.bd hm) (by omega) (by omega)
 obtain ⟨K1, h1⟩ := n.normal hm hl
 have ring : Ring (negs a) ((negs a).drop i ++ (negs a).take i) := by
  refine ring_rot ?_ (by intro h; have := congrArg List.length h; simp only [List.length_drop, List.length_nil] at this; omega)
  rw [List.take_append_drop]; exact neg_ring n.ring
 have hf : ¬ Flat (negs a) := fun h => n.flat (neg_flat h)
 have e0 : at_ ((negs a).drop i ++ (negs a).take i) 0 = at_ (negs a) i := by rw [drop_at (by omega)]; rfl
 refine ⟨_, ⟨K1 + K2, fun k hk => ?_⟩, ring, Nf.of_ring ring hf (fun p hp => ?_) (fun p hp => ?_), ?_⟩
 ·have a1 := h1 k (by omega)
  have a2 := h2 k (by omega)
  dsimp only at a1 a2 ⊢
  unfold shape_Negative.f
  rw [a1, Option.bind_some, if_pos rfl, a2, Option.bind_some]
 ·rw [e0]
  rcases first_tri p (at_ (negs a) i) with e | e | e
  ·exact Or.inl e
  ·exact absurd e (hmin p hp)
  ·exact Or.inr e
 ·have := n.inb _ (negs_mem.mp hp)
  unfold In neg at *; dsimp only at *; omega
 ·simp only [List.length_append, List.length_drop, List.length_take, hla]; omega
/-- twice the other way round is the polygon itself -/
theorem Negative_twice {m : Int} {a : List Pt} (n : Nf m a) (hm : m ≤ 10000) (hl : a.length ≤ 32) : ∃ h, Rt (fun k => shape_Negative.f k a) (h, 0) ∧ Rt (fun k => shape_Negative.f k h) (a, 0) := by
 obtain ⟨h, r1, ring1, n1, l1⟩ := Negative_run n hm hl
 obtain ⟨g, r2, ring2, n2, l2⟩ := Negative_run n1 hm (by omega)
 have hm2 : ∀ p, p ∈ h ↔ p ∈ negs a := by
  intro p
  refine ⟨ring_sub ring1 p, fun hp => ?_⟩
  -- the ring has as many corners as the set
  apply Classical.byContradiction
  intro hn
  have hnd : (p :: h).Nodup := List.nodup_cons.mpr ⟨hn, ring_nodup ring1⟩
  have := length_le_of_nodup (S := negs a) hnd (fun x hx => by
   rcases List.mem_cons.mp hx with e | e
   ·rw [e]; exact hp
   ·exact ring_sub ring1 x e)
  have hla : (negs a).length = a.length := by unfold negs; rw [List.length_map]
  simp only [List.length_cons] at this; omega
 have ring3 : Ring a g := by
  refine ring_congr (fun p => ?_) ring2
  rw [negs_mem, hm2, negs_mem, neg_neg]
 have e : g = a := nf_one n.flat ring3 n.ring n2 n
 rw [e] at r2
 exact ⟨h, r1, r2⟩
end Go.Proofs.Ytoffmpkgickfhaa.M
end
section
namespace Go.Proofs.Ytoffmpkgickfhaa.M
open Go.RowKit Go.Proofs.Ytoffmpkgickfhaa.PG Go.Proofs.YtoffmpkgickfhaaW.PrintMore Go.Proofs.YtoffmpkgickfhaaW.PrintWords
theorem sort5 : slices_SortFunc_xy.f [(⟨0, 0⟩ : S29), (⟨1, 0⟩ : S29), (⟨2, 0⟩ : S29), (⟨0, 2⟩ : S29), (⟨1, 1⟩ : S29)] = some [(⟨0, 0⟩ : S29), (⟨0, 2⟩ : S29), (⟨1, 0⟩ : S29), (⟨1, 1⟩ : S29), (⟨2, 0⟩ : S29)] := by
 simp [slices_SortFunc_xy.f, List.mergeSort, List.MergeSort.Internal.splitInTwo, xyLt]
theorem hull_ok (k : Nat) (hk : shape_Hull.f k [(⟨0, 0⟩ : S29), (⟨1, 0⟩ : S29), (⟨2, 0⟩ : S29), (⟨0, 2⟩ : S29), (⟨1, 1⟩ : S29)] = shape_Hull.j0 k [(⟨0, 0⟩ : S29), (⟨1, 0⟩ : S29), (⟨2, 0⟩ : S29), (⟨0, 2⟩ : S29), (⟨1, 1⟩ : S29)] false) (h60 : k = 60) : shape_Hull.f k [(⟨0, 0⟩ : S29), (⟨1, 0⟩ : S29), (⟨2, 0⟩ : S29), (⟨0, 2⟩ : S29), (⟨1, 1⟩ : S29)] = some ([(⟨0, 0⟩ : S29), (⟨2, 0⟩ : S29), (⟨0, 2⟩ : S29)], 0) := by
 rw [hk]; subst h60
 rw [shape_Hull.j0, if_neg (by simp), show slices_Clone.f [(⟨0, 0⟩ : S29), (⟨1, 0⟩ : S29), (⟨2, 0⟩ : S29), (⟨0, 2⟩ : S29), (⟨1, 1⟩ : S29)] = some [(⟨0, 0⟩ : S29), (⟨1, 0⟩ : S29), (⟨2, 0⟩ : S29), (⟨0, 2⟩ : S29), (⟨1, 1⟩ : S29)] by decide +kernel, Option.bind_some, sort5, Option.bind_some]
 decide +kernel
theorem area_ok : shape_Area2.f 60 [(⟨0, 0⟩ : S29), (⟨2, 0⟩ : S29), (⟨2, 2⟩ : S29), (⟨0, 2⟩ : S29)] = some (8, 0) := by decide +kernel
theorem simple_ok : shape_simple.f 60 [(⟨0, 0⟩ : S29), (⟨2, 0⟩ : S29), (⟨2, 2⟩ : S29), (⟨0, 2⟩ : S29)] = some true := by decide +kernel
theorem lattice_ok : shape_Lattice.f 60 [(⟨0, 0⟩ : S29), (⟨2, 0⟩ : S29), (⟨2, 2⟩ : S29), (⟨0, 2⟩ : S29)] = some (1, 8, 0) := by
 unfold shape_Lattice.f shape_refused_simple.f
 rw [simple_ok, show shape_polygon.f [(⟨0, 0⟩ : S29), (⟨2, 0⟩ : S29), (⟨2, 2⟩ : S29), (⟨0, 2⟩ : S29)] = some true by decide +kernel]
 decide +kernel
theorem same_ok : cracknelref04_Same.f 60 [(⟨0, 0⟩ : S29), (⟨2, 0⟩ : S29), (⟨0, 2⟩ : S29)] [(⟨0, 0⟩ : S29), (⟨2, 0⟩ : S29), (⟨0, 2⟩ : S29)] = some true := by decide +kernel
theorem hull_pre (k : Nat) : shape_Hull.f k [(⟨0, 0⟩ : S29), (⟨1, 0⟩ : S29), (⟨2, 0⟩ : S29), (⟨0, 2⟩ : S29), (⟨1, 1⟩ : S29)] = shape_Hull.j0 k [(⟨0, 0⟩ : S29), (⟨1, 0⟩ : S29), (⟨2, 0⟩ : S29), (⟨0, 2⟩ : S29), (⟨1, 1⟩ : S29)] false := by
 unfold shape_Hull.f
 rw [show shape_within.f [(⟨0, 0⟩ : S29), (⟨1, 0⟩ : S29), (⟨2, 0⟩ : S29), (⟨0, 2⟩ : S29), (⟨1, 1⟩ : S29)] 10000 = some true by decide +kernel, Option.bind_some]
 simp only [List.length_cons, List.length_nil]
 rw [if_neg (by omega), if_neg (by omega)]
 rfl
theorem hull_60 : ∀ k, k = 60 → shape_Hull.f k [(⟨0, 0⟩ : S29), (⟨1, 0⟩ : S29), (⟨2, 0⟩ : S29), (⟨0, 2⟩ : S29), (⟨1, 1⟩ : S29)] = some ([(⟨0, 0⟩ : S29), (⟨2, 0⟩ : S29), (⟨0, 2⟩ : S29)], 0) := fun k h => hull_ok k (hull_pre k) h
theorem lives_at (k : Nat) (h : k = 60) : cracknellaw04_lives.f k = some true := by
 unfold cracknellaw04_lives.f
 rw [hull_60 k h, Option.bind_some, show shape_Area2.f k [(⟨0, 0⟩ : S29), (⟨2, 0⟩ : S29), (⟨2, 2⟩ : S29), (⟨0, 2⟩ : S29)] = some (8, 0) by rw [h]; exact area_ok, show shape_Lattice.f k [(⟨0, 0⟩ : S29), (⟨2, 0⟩ : S29), (⟨2, 2⟩ : S29), (⟨0, 2⟩ : S29)] = some (1, 8, 0) by rw [h]; exact lattice_ok]
 simp only [Option.bind_some, if_true, show cracknelref04_Same.f k [(⟨0, 0⟩ : S29), (⟨2, 0⟩ : S29), (⟨0, 2⟩ : S29)] [(⟨0, 0⟩ : S29), (⟨2, 0⟩ : S29), (⟨0, 2⟩ : S29)] = some true by rw [h]; exact same_ok]
theorem lives_60 : cracknellaw04_lives.f 60 = some true := lives_at 60 rfl
theorem lives_ok (k : Nat) (hk : 60 ≤ k) : cracknellaw04_lives.f k = some true := by
 obtain ⟨d, rfl⟩ : ∃ d, k = 60 + d := ⟨k - 60, by omega⟩
 clear hk
 induction d with
 | zero => exact lives_60
 | succ d ih => exact cracknellaw04_lives.mono _ _ ih
end Go.Proofs.Ytoffmpkgickfhaa.M
end
section
namespace Go.Proofs.Ytoffmpkgickfhaa.M
open Go.RowKit Go.Proofs.Ytoffmpkgickfhaa.PG Go.Proofs.YtoffmpkgickfhaaW.PrintMore Go.Proofs.YtoffmpkgickfhaaW.PrintWords
theorem Area2_run {l : List Pt} (hp : Poly l) : Rt (fun k => shape_Area2.f k l) (area l, 0) := by
 obtain ⟨K, h⟩ := area_run (fun p h => in_bd (hp.2.2 p h)) (show l.length ≤ 1000000 by have := hp.2.1; omega)
 refine ⟨K, fun k hk => ?_⟩
 have a := h k hk
 dsimp only at a ⊢
 unfold shape_Area2.f
 rw [polygon_f, Option.bind_some, if_pos (by simpa using hp), a, Option.bind_some]
theorem same_self (a : List Pt) (hN : a.length ≤ 1000000) : Rt (fun k => cracknelref04_Same.f k a a) true := by
 obtain ⟨c, h, e⟩ := same_run a a hN
 rw [e.mpr rfl] at h; exact h
theorem minkowski_plain (x y z : List S29) : ∃ k, cracknellaw04_ShapeMinkowski.f k x y z = some true := by
 obtain ⟨a, ⟨K1, h1⟩, na, la⟩ := law_hull_run x 3000 (by omega) (by omega)
 obtain ⟨b, ⟨K2, h2⟩, nb, lb⟩ := law_hull_run y 3000 (by omega) (by omega)
 obtain ⟨c, ⟨K3, h3⟩, nc, lc⟩ := law_hull_run z 3000 (by omega) (by omega)
 obtain ⟨ab, ⟨K4, h4⟩, rab, nab, lab⟩ := sum_nf na nb (by omega) (by omega) (by omega) (by omega) (by omega)
 obtain ⟨ba, ⟨K5, h5⟩, rba, nba, lba⟩ := sum_nf nb na (by omega) (by omega) (by omega) (by omega) (by omega)
 obtain ⟨bc, ⟨K6, h6⟩, rbc, nbc, lbc⟩ := sum_nf nb nc (by omega) (by omega) (by omega) (by omega) (by omega)
 obtain ⟨lf, ⟨K7, h7⟩, rlf, nlf, llf⟩ := sum_nf nab nc (by omega) (by omega) (by omega) (by omega) (by omega)
 obtain ⟨rt, ⟨K8, h8⟩, rrt, nrt, lrt⟩ := sum_nf na nbc (by omega) (by omega) (by omega) (by omega) (by omega)
 obtain ⟨aa, ⟨K9, h9⟩, raa, naa, laa⟩ := sum_nf na na (by omega) (by omega) (by omega) (by omega) (by omega)
 obtain ⟨n, ⟨K10, h10⟩, ⟨K11, h11⟩⟩ := Negative_twice na (by omega) (by omega)
 have fa : ¬ Flat (sums a b) := fun h => na.flat (sums_flat (by have := nb.three; omega) h)
 have e1 : ba = ab := nf_one fa (ring_congr (fun p => sums_comm p) rba) rab nba nab
 subst e1
 have fT : ¬ Flat (sums (sums a b) c) := fun h => fa (sums_flat (by have := nc.three; omega) h)
 have t1 : Ring (sums (sums a b) c) lf := sum_ext rab nab.three rlf
 have t2 : Ring (sums (sums a b) c) rt := by
  have := sum_ext (c := a) rbc nbc.three (ring_congr (fun p => sums_comm p) rrt)
  exact ring_congr (fun p => (sums_assoc p).symm) this
 have e2 : lf = rt := nf_one fT t1 t2 nlf nrt
 subst e2
 have faa : ¬ Flat (sums a a) := fun h => na.flat (sums_flat (by have := na.three; omega) h)
 have ndd : ∀ k, k < (dbl a).length → k = 0 ∨ first (at_ (dbl a) 0) (at_ (dbl a) k) := by
  intro k hk
  have hl : (dbl a).length = a.length := by unfold dbl; rw [List.length_map]
  rcases na.first_k k (by omega) with e | e
  ·exact Or.inl e
  ·right; rw [dbl_at, dbl_at]; unfold first plus at *; dsimp only; omega
 have e3 : dbl a = aa := rings_one faa (dbl_ring na.ring) raa ndd (ring_first raa faa 0 (by have := naa.three; omega) naa.first_k)
 obtain ⟨K12, h12⟩ := Area2_run (na.poly (by omega) (by omega))
 obtain ⟨K13, h13⟩ := Area2_run (naa.poly (by omega) (by omega))
 obtain ⟨K14, h14⟩ := same_self ba (by omega)
 obtain ⟨K15, h15⟩ := same_self lf (by omega)
 obtain ⟨K16, h16⟩ := same_self a (by omega)
 have har : area aa = 4 * area a := by rw [← e3, dbl_area]
 have hab := areaTo_bd (na.bd (by omega)) a.length (Nat.le_refl _)
 refine ⟨K1 + K2 + K3 + K4 + K5 + K6 + K7 + K8 + K9 + K10 + K11 + K12 + K13 + K14 + K15 + K16 + 60 + 1, ?_⟩
 generalize hk : K1 + K2 + K3 + K4 + K5 + K6 + K7 + K8 + K9 + K10 + K11 + K12 + K13 + K14 + K15 + K16 + 60 = k
 have a1 := h1 (k + 1) (by omega)
 have a2 := h2 (k + 1) (by omega)
 have a3 := h3 (k + 1) (by omega)
 have a4 := h4 (k + 1) (by omega)
 have a5 := h5 (k + 1) (by omega)
 have a6 := h6 (k + 1) (by omega)
 have a7 := h7 k (by omega)
 have a8 := h8 k (by omega)
 have a9 := h9 k (by omega)
 have a10 := h10 k (by omega)
 have a11 := h11 k (by omega)
 have a12 := h12 k (by omega)
 have a13 := h13 k (by omega)
 have a14 := h14 (k + 1) (by omega)
 have a15 := h15 k (by omega)
 have a16 := h16 k (by omega)
 have a17 := lives_ok (k + 1) (by omega)
 dsimp only at a1 a2 a3 a4 a5 a6 a7 a8 a9 a10 a11 a12 a13 a14 a15 a16
 unfold cracknellaw04_ShapeMinkowski.f
 rw [a1, Option.bind_some, a2, Option.bind_some, a3, Option.bind_some, a4, Option.bind_some, a5, Option.bind_some, a6, Option.bind_some]
 rw [if_pos rfl, if_pos rfl, if_pos rfl, a14, Option.bind_some, if_pos rfl, if_neg (by dsimp only; omega), if_neg (by dsimp only; omega), a17, Option.bind_some]
 rw [cracknellaw04_ShapeMinkowski.j0, if_neg (by simp)]
 dsimp only
 rw [a7, Option.bind_some, a8, Option.bind_some, a9, Option.bind_some, a10, Option.bind_some]
 dsimp only
 rw [a11, Option.bind_some, a12, Option.bind_some, a13, Option.bind_some]
 dsimp only
 rw [if_pos rfl, if_pos rfl, if_pos rfl, if_pos rfl, if_pos rfl, if_pos rfl, if_pos rfl, a15, Option.bind_some, if_pos rfl, a16, Option.bind_some, if_pos rfl]
 have hw : wrap64 (4 * area a) = 4 * area a := wz _ (by unfold area; omega) (by unfold area; omega)
 rw [har, hw]; simp
end Go.Proofs.Ytoffmpkgickfhaa.M
end
