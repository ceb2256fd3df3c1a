/- Parts of the proof of YtoffmpkgickfhaaLawShapeSums: printed walks, their words, and plain laws. -/
import Derived.Test.YtoffmpkgickfhaaQV5
import Derived.Test.YtoffmpkgickfhaaQV2
import Derived.Test.YtoffmpkgickfhaaQV4
import Derived.Test.YtoffmpkgickfhaaQV1
import Derived.Test.YtoffmpkgickfhaaQV3
import Derived.KernelRfl
section
namespace Go.Proofs.Ytoffmpkgickfhaa.M
open Go.Proofs.Ytoffmpkgickfhaa.PG
section
variable (p q : Int) (l : List Pt)
def F (i j : Nat) : Pt := vec (P l i) (P l j)
def Hs (i j : Nat) : Int := cn p q (F l i j) (F l i (j + 1))
def Ws (i j : Nat) : Int := cn p q (F l i j) (F l (i + 1) j)
def sH (i : Nat) : Nat → Nat → Int
 | _, 0 => 0
 | j, m + 1 => Hs p q l i j + sH i (j + 1) m
def sW (n : Nat) : Nat → Nat → Int
 | _, 0 => 0
 | i, m + 1 => Ws p q l i n + sW n (i + 1) m
def sS : Nat → Nat → Int
 | _, 0 => 0
 | i, m + 1 => cn p q (ed l i) (ed l (i + 1)) + sS (i + 1) m
end
section
variable {p q : Int} {l : List Pt}
theorem sH_end (i : Nat) : ∀ m j, sH p q l i j (m + 1) = sH p q l i j m + Hs p q l i (j + m) := by
 intro m
 induction m with
 | zero => intro j; simp [sH]
 | succ m ih => intro j; rw [sH, ih (j + 1), sH, show j + 1 + m = j + (m + 1) by omega]; omega
structure Free (p q : Int) (l : List Pt) : Prop where
 three : 3 ≤ l.length
 lev : ∀ i j, i < j → j ≤ l.length → ¬ (i = 0 ∧ j = l.length) → ph p q (F l i j) ≠ 0
 apart : ∀ i j, i + 2 ≤ j → j < l.length → ¬ (i = 0 ∧ j + 1 = l.length) → ¬ Meet (P l i) (P l (i + 1)) (P l j) (P l (j + 1))
theorem square (h : Free p q l) (i j : Nat) (h1 : i + 2 ≤ j) (h2 : j < l.length) (h3 : ¬ (i = 0 ∧ j + 1 = l.length)) : Hs p q l i j + Ws p q l i (j + 1) = Ws p q l i j + Hs p q l (i + 1) j :=
 quad (h.lev i j (by omega) (by omega) (by omega)) (h.lev i (j + 1) (by omega) (by omega) h3) (h.lev (i + 1) (j + 1) (by omega) (by omega) (by omega)) (h.lev (i + 1) j (by omega) (by omega) (by omega)) (h.apart i j h1 h2 h3)
theorem tele (h : Free p q l) (i : Nat) : ∀ m j, i + 2 ≤ j → j + m ≤ l.length → (i = 0 → j + m < l.length) → Ws p q l i j + sH p q l (i + 1) j m = sH p q l i j m + Ws p q l i (j + m) := by
 intro m
 induction m with
 | zero => intro j _ _ _; simp [sH]
 | succ m ih =>
  intro j h1 h2 h3
  have s := square h i j h1 (by omega) (by omega)
  have k := ih (j + 1) (by omega) (by omega) (by omega)
  rw [sH, sH, show j + (m + 1) = j + 1 + m by omega]; omega
theorem two_steps (h : Free p q l) (i : Nat) (hi : i + 2 ≤ l.length) (h3 : 4 ≤ l.length ∨ ¬ (i = 0 ∧ i + 2 = l.length)) : cn p q (ed l i) (ed l (i + 1)) = Hs p q l i (i + 1) + Ws p q l i (i + 2) := by
 have := h.three
 refine (cn_sum (u := ed l i) (v := ed l (i + 1)) (w := F l i (i + 2)) ?_ ?_ (h.lev i (i + 1) (by omega) (by omega) (by omega)) (h.lev (i + 1) (i + 2) (by omega) (by omega) (by omega)) (h.lev i (i + 2) (by omega) (by omega) (by omega))).symm
 ·rw [show i + 2 = i + 1 + 1 from rfl]; unfold F ed vec; dsimp only; omega
 ·rw [show i + 2 = i + 1 + 1 from rfl]; unfold F ed vec; dsimp only; omega
theorem stair (h : Free p q l) : ∀ m i, 1 ≤ i → i + m + 1 = l.length → sS p q l i m = sH p q l i (i + 1) m + sW p q l l.length i m := by
 intro m
 induction m with
 | zero => intro i _ _; simp [sS, sH, sW]
 | succ m ih =>
  intro i h1 h2
  have k := ih (i + 1) (by omega) (by omega)
  have t := tele h i m (i + 2) (by omega) (by omega) (by omega)
  have w := two_steps h i (by omega) (by omega)
  rw [show i + 2 + m = l.length by omega] at t
  rw [sS, sH, sW, k, w, show i + 1 + 1 = i + 2 by omega]; omega
theorem sH_zero (i : Nat) : ∀ m j, (∀ t, j ≤ t → t < j + m → Hs p q l i t = 0) → sH p q l i j m = 0 := by
 intro m
 induction m with
 | zero => intro j _; rfl
 | succ m ih => intro j h; rw [sH, h j (by omega) (by omega), ih (j + 1) (fun t h1 h2 => h t (by omega) (by omega))]; rfl
theorem sW_zero (n : Nat) : ∀ m i, (∀ t, i ≤ t → t < i + m → Ws p q l t n = 0) → sW p q l n i m = 0 := by
 intro m
 induction m with
 | zero => intro j _; rfl
 | succ m ih => intro j h; rw [sW, h j (by omega) (by omega), ih (j + 1) (fun t h1 h2 => h t (by omega) (by omega))]; rfl
theorem sS_zero : ∀ m i, (∀ t, i ≤ t → t < i + m → 0 ≤ cn p q (ed l t) (ed l (t + 1))) → sS p q l i m = 0 → ∀ t, i ≤ t → t < i + m → cn p q (ed l t) (ed l (t + 1)) = 0 := by
 have nn : ∀ m i, (∀ t, i ≤ t → t < i + m → 0 ≤ cn p q (ed l t) (ed l (t + 1))) → 0 ≤ sS p q l i m := by
  intro m
  induction m with
  | zero => intro i _; exact Int.le_refl 0
  | succ m ih =>
   intro i h
   have a := h i (by omega) (by omega)
   have b := ih (i + 1) (fun t h1 h2 => h t (by omega) (by omega))
   rw [sS]; omega
 intro m
 induction m with
 | zero => intro i _ _ t h1 h2; omega
 | succ m ih =>
  intro i h hz t h1 h2
  have a := h i (by omega) (by omega)
  have b := nn m (i + 1) (fun t h1 h2 => h t (by omega) (by omega))
  rw [sS] at hz
  by_cases e : t = i
  ·subst e; omega
  ·exact ih (i + 1) (fun t h1 h2 => h t (by omega) (by omega)) (by omega) t (by omega) (by omega)
theorem turn_sorted (h : Free p q l) (low : ∀ j, 0 < j → j < l.length → 0 < ph p q (F l 0 j)) (left : ∀ i, 0 < cx (ed l i) (ed l (i + 1))) (i : Nat) (hi : i + 1 < l.length) : Bf p q (ed l i) (ed l (i + 1)) := by
 have h3 := h.three
 obtain ⟨n, hn⟩ : ∃ n, l.length = n + 3 := ⟨l.length - 3, by omega⟩
 have pn : ∀ j, F l j l.length = vec (P l j) (P l 0) := fun j => by unfold F; rw [P_len]
 have z1 : sS p q l 0 (n + 2) = 0 := by
  have s1 := stair h (n + 1) 1 (by omega) (by omega)
  have w := two_steps h 0 (by omega) (by omega)
  have t := tele h 0 n 2 (by omega) (by omega) (by omega)
  have e := sH_end (p := p) (q := q) (l := l) 1 n 2
  have a1 : sH p q l 0 2 n = 0 := sH_zero 0 n 2 (fun t h1 h2 => by
   have x := low t (by omega) (by omega)
   have y := low (t + 1) (by omega) (by omega)
   unfold Hs cn; exact cnI_pp x y)
  have a2 : Hs p q l 0 1 = 0 := by
   have x := low 1 (by omega) (by omega)
   have y := low 2 (by omega) (by omega)
   unfold Hs cn; exact cnI_pp x y
  have a3 : sW p q l l.length 1 (n + 1) = 0 := sW_zero _ (n + 1) 1 (fun t h1 h2 => by
   have x := low t (by omega) (by omega)
   have y := low (t + 1) (by omega) (by omega)
   unfold Ws cn
   refine cnI_nn ?_ ?_
   ·rw [pn]; unfold F ph vec at *; dsimp only at *; grind
   ·rw [pn]; unfold F ph vec at *; dsimp only at *; grind)
  have a4 : Ws p q l 0 (2 + n) + Hs p q l 1 (2 + n) = 0 := by
   have x := low (2 + n) (by omega) (by omega)
   have y := low 1 (by omega) (by omega)
   have c := left (n + 2)
   have e2 : 2 + n + 1 = l.length := by omega
   have g : cn p q (F l 0 (2 + n)) (F l 1 (2 + n)) + cn p q (F l 1 (2 + n)) (F l 1 (2 + n + 1)) = cn p q (F l 0 (2 + n)) (F l 1 (2 + n + 1)) := by
    refine cn_sum ?_ ?_ (by omega) (h.lev 1 _ (by omega) (by omega) (by omega)) (h.lev 1 _ (by omega) (by omega) (by omega))
    ·rw [e2, pn]; unfold F vec; dsimp only; omega
    ·rw [e2, pn]; unfold F vec; dsimp only; omega
   unfold Ws Hs
   rw [g, e2, pn]
   unfold cn
   rw [cnI_dn x (by unfold F at y; unfold ph vec at y ⊢; dsimp only at y ⊢; grind)]
   have c1 : cx (ed l (n + 2)) (ed l (n + 2 + 1)) = cx (F l 0 (2 + n)) (vec (P l 1) (P l 0)) := by
    have e3 : n + 2 + 1 = 0 + l.length := by omega
    have e4 : P l (n + 2 + 1) = P l 0 := by rw [e3, P_add]
    have e5 : ed l (n + 2 + 1) = ed l 0 := by rw [e3, ed_add]
    rw [e5]; unfold ed; rw [e4, show n + 2 = 2 + n by omega]; unfold F cx vec; dsimp only; grind
   rw [c1] at c
   rw [if_neg (by omega)]
  rw [sS, s1, w, e, a3]
  show Hs p q l 0 1 + Ws p q l 0 2 + (sH p q l 1 2 n + Hs p q l 1 (2 + n) + 0) = 0
  rw [show (0 + 1 : Nat) = 1 from rfl] at t
  omega
 have z2 := sS_zero (n + 2) 0 (fun t _ _ => by
  have c := left t
  unfold cn cnI
  rw [if_neg (c := 0 < ph p q (ed l t) ∧ _) (by omega)]
  split <;> omega) z1 i (by omega) (by omega)
 have c := left i
 have n1 := h.lev i (i + 1) (by omega) (by omega) (by omega)
 have n2 := h.lev (i + 1) (i + 1 + 1) (by omega) (by omega) (by omega)
 unfold cn cnI at z2
 unfold Bf
 have e1 : F l i (i + 1) = ed l i := rfl
 have e2 : F l (i + 1) (i + 1 + 1) = ed l (i + 1) := rfl
 rw [e1] at n1
 rw [e2] at n2
 by_cases u : ph p q (ed l i) < 0 ∧ 0 < ph p q (ed l (i + 1))
 ·rw [if_pos ⟨u.1, u.2, c⟩] at z2; omega
 ·omega
def seg (l : List Pt) (s m : Nat) : List El := (List.range' s m).map fun t => (ed l t, 1, 1)
theorem seg_app (l : List Pt) (s m n : Nat) : seg l s m ++ seg l (s + m) n = seg l s (m + n) := by unfold seg; rw [← List.map_append, List.range'_append_1]
theorem seg_per (l : List Pt) (k : Nat) : seg l l.length k = seg l 0 k := by
 unfold seg
 refine List.ext_getElem (by simp) (fun i h1 h2 => ?_)
 simp only [List.getElem_map, List.getElem_range', Nat.one_mul, Nat.zero_add]
 rw [Nat.add_comm, ed_add]
theorem seg_s (l : List Pt) : ∀ m s, s0 X (seg l s m) = (P l (s + m)).f0 - (P l s).f0 ∧ s1 X (seg l s m) = (P l (s + m)).f1 - (P l s).f1 := by
 intro m
 induction m with
 | zero => intro s; simp [seg, s0, s1]
 | succ m ih =>
  intro s
  obtain ⟨a, b⟩ := ih (s + 1)
  have e : seg l s (m + 1) = (ed l s, 1, 1) :: seg l (s + 1) m := by unfold seg; rw [List.range'_succ]; rfl
  rw [e, show s + (m + 1) = s + 1 + m by omega]
  simp only [s0, s1, a, b, X, Int.one_mul]
  unfold ed vec; dsimp only; omega
theorem support_strict {P R : List El} {e : El} (hg : ∀ x ∈ P ++ e :: R, 0 < X x) (hc : Clo X (P ++ e :: R)) (hC : Cyc (P ++ e :: R)) (hP : P ≠ []) (hR : R ≠ []) : 0 < s0 X P * e.1.f1 - s1 X P * e.1.f0 := by
 have hC2 : Cyc (e :: R ++ P) := hC.rot
 have strictsum : ∀ L : List El, L ≠ [] → (∀ x ∈ L, 0 < X x) → (∀ x ∈ L, 0 < cx x.1 e.1) → 0 < s0 X L * e.1.f1 - s1 X L * e.1.f0 := by
  intro L
  cases L with
  | nil => intro h; exact absurd rfl h
  | cons a L =>
   intro _ h1 h2
   have k := cross_sum X e.1 L (fun x hx => Int.mul_nonneg (by have := h1 x (by simp [hx]); omega) (by have := h2 x (by simp [hx]); omega))
   have k2 := Int.mul_pos (h1 a (by simp)) (h2 a (by simp))
   have e1 : s0 X (a :: L) * e.1.f1 - s1 X (a :: L) * e.1.f0 = X a * cx a.1 e.1 + (s0 X L * e.1.f1 - s1 X L * e.1.f0) := by unfold cx; simp only [s0, s1]; grind
   omega
 have tr : ∀ x ∈ R, ∀ y ∈ P, tri e.1 x.1 y.1 := fun x hx y hy => hC2 _ _ _ (by
  rw [List.cons_append, List.map_cons, List.map_append]
  exact List.Sublist.cons_cons _ (List.Sublist.append (l₁ := [x.1]) (r₁ := [y.1]) (List.singleton_sublist.mpr (List.mem_map_of_mem hx)) (List.singleton_sublist.mpr (List.mem_map_of_mem hy))))
 by_cases hp : ∃ x ∈ R, 0 ≤ cx x.1 e.1
 ·obtain ⟨x, hx, h0⟩ := hp
  refine strictsum P hP (fun y hy => hg y (by simp [hy])) (fun y hy => ?_)
  have t := tr x hx y hy
  have sw := cx_swap e.1 x.1
  unfold tri at t; omega
 ·have hn : ∀ x ∈ R, cx x.1 e.1 < 0 := fun x hx => by
   rcases Int.lt_or_le (cx x.1 e.1) 0 with h | h
   ·exact h
   ·exact absurd ⟨x, hx, h⟩ hp
  have k : s0 X R * e.1.f1 - s1 X R * e.1.f0 < 0 := by
   match R, hR, hn, hg with
   | a :: R', _, hn, hg =>
    have k := cross_sum' X e.1 R' (fun x hx => Int.mul_nonpos_of_nonneg_of_nonpos (by have := hg x (by simp [hx]); omega) (by have := hn x (by simp [hx]); omega))
    have k2 := Int.mul_neg_of_pos_of_neg (hg a (by simp)) (hn a (by simp))
    have e1 : s0 X (a :: R') * e.1.f1 - s1 X (a :: R') * e.1.f0 = X a * cx a.1 e.1 + (s0 X R' * e.1.f1 - s1 X R' * e.1.f0) := by unfold cx; simp only [s0, s1]; grind
    omega
  unfold Clo at hc
  rw [s0_app, s1_app] at hc
  simp only [s0, s1] at hc
  have e0 : s0 X P = - (X e * e.1.f0 + s0 X R) := by omega
  have e1 : s1 X P = - (X e * e.1.f1 + s1 X R) := by omega
  have : s0 X P * e.1.f1 - s1 X P * e.1.f0 = - (s0 X R * e.1.f1 - s1 X R * e.1.f0) := by rw [e0, e1]; grind
  omega
theorem sorted_strong (h3 : 3 ≤ l.length) (hs : ∀ i, i + 1 < l.length → Bf p q (ed l i) (ed l (i + 1))) : Strong l := by
 have far : ∀ d i, i + d + 1 < l.length → Bf p q (ed l i) (ed l (i + d + 1)) := by
  intro d
  induction d with
  | zero => intro i hi; exact hs i hi
  | succ d ih => intro i hi; exact (ih i (by omega)).trans (by have := hs (i + d + 1) (by omega); rwa [show i + d + 1 + 1 = i + (d + 1) + 1 by omega] at this)
 have cyc0 : Cyc (seg l 0 l.length) := by
  refine cyc_of_bf (p := p) (q := q) ?_
  unfold seg
  rw [List.pairwise_map, ← List.range_eq_range']
  refine List.Pairwise.imp_of_mem (fun {a b} ha hb hab => ?_) List.pairwise_lt_range
  rw [List.mem_range] at ha hb
  have := far (b - a - 1) a (by omega)
  rwa [show a + (b - a - 1) + 1 = b by omega] at this
 have cycK : ∀ k, k ≤ l.length → Cyc (seg l k l.length) := by
  intro k hk
  have e1 : seg l 0 k ++ seg l k (l.length - k) = seg l 0 l.length := by
   have := seg_app l 0 k (l.length - k); rw [Nat.zero_add] at this; rw [this, show k + (l.length - k) = l.length by omega]
  have e2 : seg l k (l.length - k) ++ seg l 0 k = seg l k l.length := by
   rw [← seg_per]
   have := seg_app l k (l.length - k) k
   rw [show k + (l.length - k) = l.length by omega, show l.length - k + k = l.length by omega] at this; exact this
  rw [← e1] at cyc0
  rw [← e2]; exact cyc0.rot
 have main : ∀ k m, k < l.length → 0 < m → m + 1 < l.length → 0 < cx (ed l (k + m)) (vec (P l (k + m)) (P l k)) := by
  intro k m hk h0 hm
  have e : seg l k m ++ (ed l (k + m), 1, 1) :: seg l (k + m + 1) (l.length - m - 1) = seg l k l.length := by
   have e1 : (ed l (k + m), (1 : Int), (1 : Int)) :: seg l (k + m + 1) (l.length - m - 1) = seg l (k + m) (l.length - m - 1 + 1) := by unfold seg; rw [List.range'_succ]; rfl
   rw [e1, seg_app, show m + (l.length - m - 1 + 1) = l.length by omega]
  have cy := cycK k (by omega)
  have cl : Clo X (seg l k l.length) := by
   obtain ⟨a, b⟩ := seg_s l l.length k
   rw [P_add] at a b
   exact ⟨by omega, by omega⟩
  rw [← e] at cy cl
  have s := support_strict (fun x hx => by
   rw [e] at hx; unfold seg at hx
   obtain ⟨t, _, rfl⟩ := List.mem_map.mp hx
   exact Int.one_pos) cl cy (by
    intro hh; have := congrArg List.length hh; unfold seg at this; simp at this; omega) (by
    intro hh; have := congrArg List.length hh; unfold seg at this; simp at this; omega)
  obtain ⟨a, b⟩ := seg_s l m k
  rw [a, b] at s
  have : cx (ed l (k + m)) (vec (P l (k + m)) (P l k)) = ((P l (k + m)).f0 - (P l k).f0) * (ed l (k + m)).f1 - ((P l (k + m)).f1 - (P l k).f1) * (ed l (k + m)).f0 := by unfold cx vec; dsimp only; grind
  rw [this]; exact s
 have strict : ∀ i k, i < l.length → k < l.length → k ≠ i → k ≠ (i + 1) % l.length → 0 < cr (at_ l i) (at_ l ((i + 1) % l.length)) (at_ l k) := by
  intro i k hi hk h1 h2
  have eP : at_ l ((i + 1) % l.length) = P l (i + 1) := rfl
  rw [eP, ← P_lt hi, ← P_lt hk, cr_cx]
  show 0 < cx (ed l i) _
  by_cases hlt : k < i
  ·have g := main k (i - k) hk (by omega) (by
    by_cases e : i + 1 < l.length
    ·omega
    ·have e2 : (i + 1) % l.length = 0 := by rw [show i + 1 = l.length by omega, Nat.mod_self]
     omega)
   rw [show k + (i - k) = i by omega] at g; exact g
  ·have e1 : i + 1 < l.length := by omega
   rw [Nat.mod_eq_of_lt e1] at h2
   have g := main k (i + l.length - k) hk (by omega) (by omega)
   rw [show k + (i + l.length - k) = i + l.length by omega, ed_add, P_add] at g; exact g
 have ne1 : ∀ i, i < l.length → at_ l i ≠ at_ l ((i + 1) % l.length) := by
  intro i hi e
  have hz : ed l i = ⟨0, 0⟩ := by
   have eP : P l (i + 1) = at_ l ((i + 1) % l.length) := rfl
   unfold ed vec; rw [P_lt hi, eP, ← e]; simp
  have g : cx (ed l i) (vec (P l i) (P l ((i + 2) % l.length))) = 0 := by rw [hz]; unfold cx; simp
  have hm := mod_two h3 hi
  have s := strict i ((i + 2) % l.length) hi (Nat.mod_lt _ (by omega)) hm.1 hm.2.1
  have eP : at_ l ((i + 1) % l.length) = P l (i + 1) := rfl
  rw [eP, ← P_lt hi, ← P_lt (Nat.mod_lt (i + 2) (show 0 < l.length by omega)), cr_cx] at s
  have : cx (vec (P l i) (P l (i + 1))) (vec (P l i) (P l ((i + 2) % l.length))) = 0 := g
  omega
 refine ⟨ne1, fun i j hi hj e => ?_, fun i k hi hk => ?_⟩
 ·apply Classical.byContradiction
  intro hne
  by_cases h2 : j = (i + 1) % l.length
  ·exact ne1 i hi (by rw [← h2]; exact e)
  ·have := strict i j hi hj (fun h => hne h.symm) h2
   rw [← e, cr_self1] at this; omega
 ·by_cases h1 : k = i
  ·subst h1; rw [cr_self1]; exact ⟨Int.le_refl 0, fun _ => Or.inl rfl⟩
  ·by_cases h2 : k = (i + 1) % l.length
   ·rw [← h2, cr_self2]; exact ⟨Int.le_refl 0, fun _ => Or.inr rfl⟩
   ·have := strict i k hi hk h1 h2
    exact ⟨by omega, fun e => by omega⟩
end
end Go.Proofs.Ytoffmpkgickfhaa.M
end
section
namespace Go.Proofs.Ytoffmpkgickfhaa.M
open Go.RowKit Go.Proofs.Ytoffmpkgickfhaa.PG Go.Proofs.YtoffmpkgickfhaaW.PrintMore Go.Proofs.YtoffmpkgickfhaaW.PrintWords
theorem href_l1 {l : List Pt} (hb : ∀ p ∈ l, Bd p) (hN : l.length ≤ 1000000) {i : Nat} (hi : i < l.length) (m : Pt) :
  ∀ d j b, l.length = j + d → ∃ c, (c = true ↔ b = true ∧ ∀ j', j ≤ j' → j' < l.length → cr (at_ l 0) (at_ l i) (at_ l j') = 0) ∧ ∀ v, Rt (fun k => cracknelref04_Hull.l0 k l c ((i + 1 : Nat) : Int) m.f0 m.f1) v → Rt (fun k => cracknelref04_Hull.l1 k l b (i : Int) (j : Int) m.f0 m.f1) v := by
 intro d
 induction d with
 | zero =>
  intro j b hj
  refine ⟨b, ⟨fun h => ⟨h, fun j' h1 h2 => by omega⟩, fun h => h.1⟩, fun v hv => rt_step (fun k => ?_) hv⟩
  rw [cracknelref04_Hull.l1, if_neg (by omega), wrap_succ i (by omega)]
 | succ d ih =>
  intro j b hj
  have hlt : j < l.length := by omega
  cases b with
  | false =>
   refine ⟨false, by simp, fun v hv => rt_step (fun k => ?_) hv⟩
   rw [cracknelref04_Hull.l1, if_pos (by omega), if_neg (by simp), wrap_succ i (by omega)]
  | true =>
   obtain ⟨c, hc, hr⟩ := ih (j + 1) (decide (cr (at_ l 0) (at_ l i) (at_ l j) = 0)) (by omega)
   refine ⟨c, ?_, fun v hv => rt_step (fun k => ?_) (hr v hv)⟩
   ·rw [hc, from_split hlt, decide_eq_true_eq]; exact ⟨fun h => ⟨rfl, h⟩, fun h => h.2⟩
   ·rw [cracknelref04_Hull.l1, if_pos (by omega), if_pos rfl, if_pos (by omega), if_pos (by omega), if_pos (by omega), if_pos (by omega), show rd_T29 l 0 = at_ l 0 from rfl, rd_at, rd_at, Cross_f (at_bd hb (by omega)) (at_bd hb hi) (at_bd hb hlt), Option.bind_some, wrap_succ j (by omega)]
    rfl
theorem href_l0 {l : List Pt} (hb : ∀ p ∈ l, Bd p) (hN : l.length ≤ 1000000) :
  ∀ d i (m : Pt) b, l.length = i + d → ∃ r c, (c = true ↔ b = true ∧ ∀ i', i ≤ i' → i' < l.length → ∀ j, j < l.length → cr (at_ l 0) (at_ l i') (at_ l j) = 0) ∧ (r = m ∨ ∃ j, i ≤ j ∧ j < l.length ∧ r = at_ l j) ∧ ¬ first m r ∧ (∀ j, i ≤ j → j < l.length → ¬ first (at_ l j) r) ∧
   ∀ v, Rt (fun k => cracknelref04_Hull.l0 k l c (l.length : Int) r.f0 r.f1) v → Rt (fun k => cracknelref04_Hull.l0 k l b (i : Int) m.f0 m.f1) v := by
 intro d
 induction d with
 | zero =>
  intro i m b hi
  refine ⟨m, b, ⟨fun h => ⟨h, fun i' h1 h2 => by omega⟩, fun h => h.1⟩, Or.inl rfl, first_irrefl m, fun j h1 h2 => by omega, fun v hv => ?_⟩
  rw [show i = l.length by omega]; exact hv
 | succ d ih =>
  intro i m b hi
  have hlt : i < l.length := by omega
  by_cases h : first (at_ l i) m
  ·obtain ⟨c1, hc1, hr1⟩ := href_l1 hb hN hlt (at_ l i) l.length 0 b (by omega)
   obtain ⟨r, c, hc, h1, h2, h3, hr⟩ := ih (i + 1) (at_ l i) c1 (by omega)
   refine ⟨r, c, ?_, ?_, ?_, ?_, fun v hv => rt_step (h := fun k => cracknelref04_Hull.j1 k l b (i : Int) (at_ l i).f0 (at_ l i).f1) (fun k => ?_) (rt_step (fun k => ?_) (hr1 v (hr v hv)))⟩
   rotate_left 4
   ·rw [cracknelref04_Hull.l0, if_pos (by omega), if_pos (by omega), rd_at, first_f, Option.bind_some, if_pos (by simpa using h)]
   ·rw [cracknelref04_Hull.j1]; rfl
   ·rw [hc, hc1, from_split hlt, and_assoc]
    exact ⟨fun h => ⟨h.1, fun j hj => h.2.1 j (Nat.zero_le _) hj, h.2.2⟩, fun h => ⟨h.1, fun j _ hj => h.2.1 j hj, h.2.2⟩⟩
   ·right
    rcases h1 with h1 | ⟨j, h4, h5, h6⟩
    ·exact ⟨i, Nat.le_refl _, hlt, h1⟩
    ·exact ⟨j, by omega, h5, h6⟩
   ·exact fun h4 => h2 (first_trans h h4)
   ·intro j h4 h5
    rcases Nat.eq_or_lt_of_le h4 with rfl | h6
    ·exact h2
    ·exact h3 j h6 h5
  ·obtain ⟨c1, hc1, hr1⟩ := href_l1 hb hN hlt m l.length 0 b (by omega)
   obtain ⟨r, c, hc, h1, h2, h3, hr⟩ := ih (i + 1) m c1 (by omega)
   refine ⟨r, c, ?_, ?_, h2, ?_, fun v hv => rt_step (h := fun k => cracknelref04_Hull.j1 k l b (i : Int) m.f0 m.f1) (fun k => ?_) (rt_step (fun k => ?_) (hr1 v (hr v hv)))⟩
   rotate_left 3
   ·rw [cracknelref04_Hull.l0, if_pos (by omega), if_pos (by omega), rd_at, first_f, Option.bind_some, if_neg (by simpa using h)]
   ·rw [cracknelref04_Hull.j1]; rfl
   ·rw [hc, hc1, from_split hlt, and_assoc]
    exact ⟨fun h => ⟨h.1, fun j hj => h.2.1 j (Nat.zero_le _) hj, h.2.2⟩, fun h => ⟨h.1, fun j _ hj => h.2.1 j hj, h.2.2⟩⟩
   ·rcases h1 with h1 | ⟨j, h4, h5, h6⟩
    ·exact Or.inl h1
    ·exact Or.inr ⟨j, by omega, h5, h6⟩
   ·intro j h4 h5
    rcases Nat.eq_or_lt_of_le h4 with rfl | h6
    ·intro h7
     rcases first_tri m r with e | e | e
     ·rw [e] at h; exact h h7
     ·exact h2 e
     ·exact h (first_trans h7 e)
    ·exact h3 j h6 h5
theorem drop_at {l : List Pt} {i : Nat} (h : i < l.length) : l.drop i = at_ l i :: l.drop (i + 1) := by
 rw [at_eq h]; exact List.drop_eq_getElem_cons h
theorem wrapStep_bd {o t p : Pt} (ht : Bd t) (hp : Bd p) : Bd (wrapStep o t p) := by
 unfold wrapStep; split
 ·exact ht
 ·split
  ·exact hp
  ·exact ht
theorem href_l3 {l : List Pt} (hb : ∀ p ∈ l, Bd p) (hN : l.length ≤ 1000000) (x : List Pt) (low o : Pt) (ho : Bd o) :
  ∀ d i t, l.length = i + d → Bd t → ∀ v, Rt (fun k => cracknelref04_Hull.l3 k l x (l.length : Int) low.f0 low.f1 o.f0 o.f1 ((l.drop i).foldl (wrapStep o) t).f0 ((l.drop i).foldl (wrapStep o) t).f1) v →
   Rt (fun k => cracknelref04_Hull.l3 k l x (i : Int) low.f0 low.f1 o.f0 o.f1 t.f0 t.f1) v := by
 intro d
 induction d with
 | zero =>
  intro i t hi _ v hv
  rw [List.drop_of_length_le (by omega), List.foldl_nil] at hv
  rw [show i = l.length by omega]; exact hv
 | succ d ih =>
  intro i t hi ht v hv
  have hlt : i < l.length := by omega
  have hp := at_bd hb hlt
  rw [drop_at hlt, List.foldl_cons] at hv
  have h := ih (i + 1) (wrapStep o t (at_ l i)) (by omega) (wrapStep_bd ht hp) v hv
  have e : wrapStep o t (at_ l i) = if at_ l i = o then t else if t = o ∨ cr o t (at_ l i) < 0 ∨ (cr o t (at_ l i) = 0 ∧ cr o (at_ l i) t = 0 ∧ btw o (at_ l i) t) then at_ l i else t := rfl
  by_cases h1 : at_ l i = o
  ·rw [if_pos h1] at e; rw [e] at h
   refine rt_step (fun k => ?_) h
   rw [cracknelref04_Hull.l3, if_pos (by omega), if_pos (by omega), rd_at, pt_beq, if_pos (by simpa using h1), wrap_succ i (by omega)]
  ·rw [if_neg h1] at e
   have s0 : ∀ k, cracknelref04_Hull.l3 (k + 1) l x (i : Int) low.f0 low.f1 o.f0 o.f1 t.f0 t.f1 = cracknelref04_Hull.j5 k l x (i : Int) (decide (t = o ∨ cr o t (at_ l i) < 0 ∨ (cr o t (at_ l i) = 0 ∧ cr o (at_ l i) t = 0 ∧ btw o (at_ l i) t))) low.f0 low.f1 o.f0 o.f1 t.f0 t.f1 (at_ l i).f0 (at_ l i).f1 := by
    intro k
    rw [cracknelref04_Hull.l3, if_pos (by omega), if_pos (by omega), rd_at, pt_beq, if_neg (by simpa using h1), Cross_f ho ht hp, Option.bind_some, pt_beq]
    by_cases h2 : t = o
    ·rw [if_pos (by simpa using h2)]; simp only [h2, true_or, decide_true]
    ·rw [if_neg (by simpa using h2)]
     by_cases h3 : cr o t (at_ l i) < 0
     ·rw [if_pos h3]; simp only [h3, true_or, or_true, decide_true]
     ·rw [if_neg h3]
      by_cases h4 : cr o t (at_ l i) = 0
      ·rw [if_pos h4, On_f ho hp ht, Option.bind_some]
       rw [show decide (On o (at_ l i) t) = decide (t = o ∨ cr o t (at_ l i) < 0 ∨ (cr o t (at_ l i) = 0 ∧ cr o (at_ l i) t = 0 ∧ btw o (at_ l i) t)) from by
        rw [decide_eq_decide]; unfold On
        exact ⟨fun h => Or.inr (Or.inr ⟨h4, h⟩), fun h => by
         rcases h with h | h | h
         ·exact absurd h h2
         ·exact absurd h h3
         ·exact h.2⟩]
      ·rw [if_neg h4]
       rw [show decide (t = o ∨ cr o t (at_ l i) < 0 ∨ (cr o t (at_ l i) = 0 ∧ cr o (at_ l i) t = 0 ∧ btw o (at_ l i) t)) = false from by
        rw [decide_eq_false_iff_not]
        rintro (h | h | h)
        ·exact h2 h
        ·exact h3 h
        ·exact h4 h.1]
   by_cases h5 : (t = o ∨ cr o t (at_ l i) < 0 ∨ (cr o t (at_ l i) = 0 ∧ cr o (at_ l i) t = 0 ∧ btw o (at_ l i) t))
   ·rw [if_pos h5] at e; rw [e] at h
    refine rt_step s0 (rt_step (fun k => ?_) h)
    rw [cracknelref04_Hull.j5, if_pos (by simpa using h5), wrap_succ i (by omega)]
   ·rw [if_neg h5] at e; rw [e] at h
    refine rt_step s0 (rt_step (fun k => ?_) h)
    rw [cracknelref04_Hull.j5, if_neg (by simpa using h5), wrap_succ i (by omega)]
theorem around_last (S : List Pt) : ∀ n o x, (around S n o).getLast? = some x → around S (n + 1) o = around S n o ++ [wrap S x] := by
 intro n
 induction n with
 | zero => intro o x h; simp [around] at h ⊢; rw [h]
 | succ n ih =>
  intro o x h
  have e : around S (n + 1) o = o :: around S n (wrap S o) := rfl
  have ne : around S n (wrap S o) ≠ [] := by cases n <;> simp [around]
  rw [e, List.getLast?_cons_of_ne_nil ne] at h
  have := ih (wrap S o) x h
  show o :: around S (n + 1) (wrap S o) = _
  rw [this]; rfl
theorem around_len (S : List Pt) : ∀ n o, (around S n o).length = n + 1 := by
 intro n
 induction n with
 | zero => intro o; rfl
 | succ n ih => intro o; show (around S n (wrap S o)).length + 1 = _; rw [ih]
theorem foldl_bd {S : List Pt} {o : Pt} : ∀ (l : List Pt) (t : Pt), (∀ p ∈ l, p ∈ S) → t ∈ S → l.foldl (wrapStep o) t ∈ S := by
 intro l
 induction l with
 | nil => intro t _ h; exact h
 | cons a l ih =>
  intro t h ht
  rw [List.foldl_cons]
  refine ih _ (fun p hp => h p (List.mem_cons_of_mem _ hp)) ?_
  unfold wrapStep; split
  ·exact ht
  ·split
   ·exact h a (List.mem_cons_self)
   ·exact ht
theorem wrap_mem {S : List Pt} {o : Pt} (h : o ∈ S) : wrap S o ∈ S := foldl_bd S o (fun _ h => h) h
theorem around_mem {S : List Pt} : ∀ n o, o ∈ S → ∀ p ∈ around S n o, p ∈ S := by
 intro n
 induction n with
 | zero => intro o h p hp; simp [around] at hp; rw [hp]; exact h
 | succ n ih =>
  intro o h p hp
  have hp : p = o ∨ p ∈ around S n (wrap S o) := by simpa [around] using hp
  rcases hp with rfl | hp
  ·exact h
  ·exact ih _ (wrap_mem h) p hp
theorem last_at {x : List Pt} {y : Pt} (h : x.getLast? = some y) : 0 < x.length ∧ at_ x (x.length - 1) = y := by
 cases x with
 | nil => simp at h
 | cons a t =>
  refine ⟨by simp, ?_⟩
  rw [List.getLast?_eq_getElem?] at h
  rw [at_eq (by simp)]
  have := List.getElem?_eq_some_iff.mp h
  exact this.2
theorem href_l2 {l : List Pt} (hb : ∀ p ∈ l, Bd p) (hN : l.length ≤ 1000000) {low : Pt} (hlow : low ∈ l) {n : Nat} (hn : n < l.length) (hend : ∃ x, (around l n low).getLast? = some x ∧ wrap l x = low) (hmid : ∀ m, m < n → ∃ x, (around l m low).getLast? = some x ∧ wrap l x ≠ low) :
  ∀ d m, n = m + d → Rt (fun k => cracknelref04_Hull.l2 k l (around l m low) low.f0 low.f1) (around l n low, true) := by
 intro d
 have step : ∀ m, m ≤ n → ∀ x, (around l m low).getLast? = some x → ∀ v, Rt (fun k => cracknelref04_Hull.l3 k l (around l m low) (l.length : Int) low.f0 low.f1 x.f0 x.f1 (wrap l x).f0 (wrap l x).f1) v → Rt (fun k => cracknelref04_Hull.l2 k l (around l m low) low.f0 low.f1) v := by
  intro m hm x hx v hv
  obtain ⟨h0, h1⟩ := last_at hx
  have hlen := around_len l m low
  have hxl : x ∈ l := around_mem m low hlow x (List.mem_of_getLast? hx)
  have := href_l3 hb hN (around l m low) low x (hb x hxl) l.length 0 x (by omega) (hb x hxl) v hv
  refine rt_step (fun k => ?_) this
  rw [cracknelref04_Hull.l2, wz _ (by omega) (by omega), show (((around l m low).length : Int) - 1) = (((around l m low).length - 1 : Nat) : Int) by omega, if_pos (by omega), if_pos (by omega), rd_at, h1]
  rfl
 induction d with
 | zero =>
  intro m hm
  obtain ⟨x, hx, hw⟩ := hend
  obtain rfl : n = m := by omega
  refine step n (Nat.le_refl _) x hx _ (rt_ret fun k => ?_)
  rw [cracknelref04_Hull.l3, if_neg (by omega), hw, pt_beq, if_pos (by simp)]
 | succ d ih =>
  intro m hm
  obtain ⟨x, hx, hw⟩ := hmid m (by omega)
  have hlen := around_len l m low
  refine step m (by omega) x hx _ (rt_step (fun k => ?_) (ih (m + 1) (by omega)))
  rw [cracknelref04_Hull.l3, if_neg (by omega), pt_beq, if_neg (by simpa using hw), if_pos (by omega), around_last l m low x hx]
theorem refHull_run {l : List Pt} (hb : ∀ p ∈ l, Bd p) (hN : l.length ≤ 1000000) (h0 : 0 < l.length) :
  (Flat l → Rt (fun k => cracknelref04_Hull.f k l) ([], false)) ∧ (¬ Flat l → ∃ h, Rt (fun k => cracknelref04_Hull.f k l) (h, true) ∧ Ring l h ∧ ∀ p ∈ l, p = at_ h 0 ∨ first (at_ h 0) p) := by
 obtain ⟨r, c, hc, h1, h2, h3, hr⟩ := href_l0 hb hN l.length 0 (at_ l 0) true (by omega)
 have hfl : c = true ↔ Flat l := by
  rw [hc]
  constructor
  ·rintro ⟨_, h⟩
   refine flat_of_first (o := at_ l 0) fun a ha b hb' => ?_
   obtain ⟨i, hi, rfl⟩ := List.mem_iff_getElem.mp ha
   obtain ⟨j, hj, rfl⟩ := List.mem_iff_getElem.mp hb'
   rw [← at_eq hi, ← at_eq hj]
   exact h i (Nat.zero_le _) hi j hj
  ·intro h
   exact ⟨rfl, fun i _ hi j hj => h _ (at_mem h0) _ (at_mem hi) _ (at_mem hj)⟩
 have hrm : r ∈ l := by
  rcases h1 with rfl | ⟨j, _, hj, rfl⟩
  ·exact at_mem h0
  ·exact at_mem hj
 have hmin : ∀ p ∈ l, p = r ∨ first r p := by
  intro p hp
  obtain ⟨j, hj, rfl⟩ := List.mem_iff_getElem.mp hp
  have := h3 j (Nat.zero_le _) hj
  rw [at_eq hj] at this
  rcases first_tri l[j] r with e | e | e
  ·exact Or.inl e
  ·exact absurd e this
  ·exact Or.inr e
 have start : ∀ v, Rt (fun k => cracknelref04_Hull.l0 k l true 0 (at_ l 0).f0 (at_ l 0).f1) v → Rt (fun k => cracknelref04_Hull.f k l) v := by
  rintro v ⟨K, hK⟩
  refine ⟨K, fun k hk => ?_⟩
  have := hK k hk
  unfold cracknelref04_Hull.f
  dsimp only at this ⊢
  rw [if_pos (by omega)]; exact this
 refine ⟨fun hf => start _ (hr _ (rt_ret fun k => ?_)), fun hf => ?_⟩
 ·rw [cracknelref04_Hull.l0, if_neg (by omega), if_pos (hfl.mpr hf)]
 ·obtain ⟨n, hn, ring, hend, hmid⟩ := ring_around hrm hmin (two_of_not_flat hf)
  refine ⟨around l n r, start _ (hr _ (rt_step (fun k => ?_) (href_l2 hb hN hrm hn hend hmid n 0 (by omega)))), ring, ?_⟩
  ·rw [cracknelref04_Hull.l0, if_neg (by omega), if_neg (fun h => hf (hfl.mp h))]; rfl
  ·have : at_ (around l n r) 0 = r := by cases n <;> rfl
   rw [this]; exact hmin
theorem ring_sub {S h : List Pt} (r : Ring S h) : ∀ p ∈ h, p ∈ S := by
 intro p hp
 obtain ⟨j, hj, rfl⟩ := List.mem_iff_getElem.mp hp
 rw [← at_eq hj]; exact (ring_corner r j hj).2
end Go.Proofs.Ytoffmpkgickfhaa.M
end
section
namespace Go.Proofs.Ytoffmpkgickfhaa.M
open Go.RowKit Go.Proofs.Ytoffmpkgickfhaa.PG Go.Proofs.YtoffmpkgickfhaaW.PrintMore Go.Proofs.YtoffmpkgickfhaaW.PrintWords
theorem pairs_sub {S h : List Pt} (hS : ∀ p ∈ h, p ∈ S) : ∀ l : List Pt, (∀ p ∈ l, p ∈ h) → Pairs (HE S) l → Pairs (HE h) l
 | [], _, _ => trivial
 | [_], _, _ => trivial
 | a :: b :: l, hm, hp => by
  refine ⟨?_, pairs_sub hS (b :: l) (fun p h => hm p (List.mem_cons_of_mem _ h)) hp.2⟩
  obtain ⟨n, _, _, L⟩ := hp.1
  exact ⟨n, hm a (by simp), hm b (by simp), fun p h => L p (hS p h)⟩
theorem ring_self {S h : List Pt} (r : Ring S h) : Ring h h := by
 have hs := ring_sub r
 obtain ⟨a, t, e, n, p⟩ := r
 refine ⟨a, t, e, n, pairs_sub hs _ (fun x hx => ?_) p⟩
 rw [e]
 have : x = a ∨ x ∈ t ∨ x = a := by simpa using hx
 rcases this with h1 | h1 | h1
 ·rw [h1]; simp
 ·exact List.mem_cons_of_mem _ h1
 ·rw [h1]; simp
theorem first_at {S h : List Pt} (r : Ring S h) (h0 : 0 < h.length) (hf : ∀ p ∈ S, p = at_ h 0 ∨ first (at_ h 0) p) : ∀ k, k < h.length → k = 0 ∨ first (at_ h 0) (at_ h k) := by
 intro k hk
 rcases hf _ (ring_sub r _ (at_mem hk)) with e | e
 ·exact Or.inl (ring_inj r k 0 hk h0 e)
 ·exact Or.inr e
theorem ring_not_flat {S h : List Pt} (r : Ring S h) (hf : ¬ Flat S) : ¬ Flat h := by
 intro h1
 have := flat_ring (ring_self r) h1
 have := ring_three r hf
 omega
theorem ring_convex {S h : List Pt} (r : Ring S h) (hf : ¬ Flat S) (hm : ∀ p ∈ S, p = at_ h 0 ∨ first (at_ h 0) p) : Convex h := by
 have h3 := ring_three r hf
 exact strong_convex h3 (ring_strong r) (fun i hi h0 => (first_at r (by omega) hm i hi).resolve_left (by omega))
theorem refused_normal {r : List Pt} (hl : r.length ≤ 1000000) (hp : Poly r) (hs : Convex r) : Rt (fun k => shape_refused_normal.f k r) 0 := by
 obtain ⟨b, ⟨K, h⟩, i⟩ := normal_run (fun p h => in_bd (hp.2.2 p h)) hp.1 hl
 refine ⟨K, fun k hk => ?_⟩
 have a := h k hk
 dsimp only at a ⊢
 unfold shape_refused_normal.f
 rw [polygon_f, Option.bind_some, if_pos (by simpa using hp), a, Option.bind_some, if_pos (i.mpr hs)]
end Go.Proofs.Ytoffmpkgickfhaa.M
end
section
namespace Go.Proofs.Ytoffmpkgickfhaa.M
open Go.RowKit Go.Proofs.Ytoffmpkgickfhaa.PG Go.Proofs.YtoffmpkgickfhaaW.PrintMore Go.Proofs.YtoffmpkgickfhaaW.PrintWords
theorem P_bd {l : List Pt} (hb : ∀ p ∈ l, Bd p) (h0 : 0 < l.length) (i : Nat) : Bd (P l i) := hb _ (at_mem (Nat.mod_lt _ h0))
theorem edge_f {l : List Pt} (hb : ∀ p ∈ l, Bd p) (hN : l.length ≤ 1000000) {i : Nat} (hi : i < l.length) : shape_Sum_1.f l (i : Int) = some ((ed l i).f0, (ed l i).f1) := by
 have t1 := tmod_in (i + 1) l.length (by omega)
 have h1 := P_bd hb (by omega) i
 have h2 := P_bd hb (by omega) (i + 1)
 unfold shape_Sum_1.f
 rw [if_neg (by omega), tmod_nat i _ (by omega), if_pos (by omega), if_pos (by omega), if_pos (by omega), if_pos (by omega), rd_at, rd_at]
 rw [show at_ l ((i + 1) % l.length) = P l (i + 1) from rfl, ← P_lt hi, sub_f h2 h1, Option.bind_some]; rfl
theorem ed_bd {l : List Pt} (hb : ∀ p ∈ l, Bd p) (h0 : 0 < l.length) (i : Nat) : -2000000 ≤ (ed l i).f0 ∧ (ed l i).f0 ≤ 2000000 ∧ -2000000 ≤ (ed l i).f1 ∧ (ed l i).f1 ≤ 2000000 := by
 obtain ⟨a0, a1, a2, a3⟩ := P_bd hb h0 i
 obtain ⟨b0, b1, b2, b3⟩ := P_bd hb h0 (i + 1)
 unfold ed vec; dsimp only; omega
theorem cross_f {u v : Pt} (hu : -2000000 ≤ u.f0 ∧ u.f0 ≤ 2000000 ∧ -2000000 ≤ u.f1 ∧ u.f1 ≤ 2000000) (hv : -2000000 ≤ v.f0 ∧ v.f0 ≤ 2000000 ∧ -2000000 ≤ v.f1 ∧ v.f1 ≤ 2000000) : shape_cross.f u.f0 u.f1 v.f0 v.f1 = some (cx u v) := by
 have h1 := @mulb u.f0 v.f1 (by omega) (by omega) (by omega) (by omega)
 have h2 := @mulb u.f1 v.f0 (by omega) (by omega) (by omega) (by omega)
 unfold shape_cross.f
 rw [wz (u.f0 * v.f1) (by omega) (by omega), wz (u.f1 * v.f0) (by omega) (by omega), wz _ (by omega) (by omega)]; rfl
theorem snoc_last (x : List Pt) (v : Pt) : at_ (x ++ [v]) x.length = v := by
 rw [at_eq (by simp)]; simp
section
variable {a b : List Pt}
theorem sum_l1 (ha : ∀ p ∈ a, Bd p) (hb : ∀ p ∈ b, Bd p) (hn : 0 < a.length) (hm : 0 < b.length) (hN : a.length ≤ 100000) (hM : b.length ≤ 100000) :
  ∀ d i j (x : List Pt), i ≤ a.length → j ≤ b.length → (a.length - i) + (b.length - j) ≤ d → x.length ≤ i + j → Rt (fun k => shape_Sum.l1 k a b (x ++ [V a b i j]) (i : Int) (j : Int)) ((x ++ V a b i j :: path a b d i j).dropLast, 0) := by
 intro d
 have done : ∀ d (x : List Pt), x.length ≤ a.length + b.length → Rt (fun k => shape_Sum.l1 k a b (x ++ [V a b a.length b.length]) (a.length : Int) (b.length : Int)) ((x ++ V a b a.length b.length :: path a b d a.length b.length).dropLast, 0) := by
  intro d x hx
  have ep : path a b d a.length b.length = [] := by
   cases d with
   | zero => rfl
   | succ d => unfold path; rw [if_neg (by omega), if_neg (by omega), if_neg (by omega)]
  refine rt_step (h := fun k => shape_Sum.j2 k a b (x ++ [V a b a.length b.length]) (a.length : Int) (b.length : Int) false) (fun k => ?_) (rt_ret fun k => ?_)
  ·rw [shape_Sum.l1, if_neg (by omega), decide_eq_false (by omega)]
  ·have l1 : (((x ++ [V a b a.length b.length]).length : Nat) : Int) = (x.length : Int) + 1 := by simp
   rw [shape_Sum.j2, if_neg (by simp), l1, wz _ (by omega) (by omega), if_pos (by omega), if_pos (by omega), ep, List.dropLast_concat, show (x.length : Int) + 1 - 1 = (x.length : Int) by omega, Int.toNat_natCast]
   simp
 induction d with
 | zero =>
  intro i j x hi hj hd hx
  have e1 : i = a.length := by omega
  have e2 : j = b.length := by omega
  subst e1; subst e2
  exact done 0 x hx
 | succ d ih =>
  intro i j x hi hj hd hx
  by_cases hend : i = a.length ∧ j = b.length
  ·obtain ⟨e1, e2⟩ := hend
   subst e1; subst e2
   exact done (d + 1) x hx
  ·have hx1 : (((x ++ [V a b i j]).length : Nat) : Int) = (x.length : Int) + 1 := by simp
   obtain ⟨pa0, pa1, pa2, pa3⟩ := P_bd ha hn i
   obtain ⟨pa4, pa5, pa6, pa7⟩ := P_bd ha hn (i + 1)
   obtain ⟨pb0, pb1, pb2, pb3⟩ := P_bd hb hm j
   obtain ⟨pb4, pb5, pb6, pb7⟩ := P_bd hb hm (j + 1)
   have lastf : rd_T29 (x ++ [V a b i j]) (((x.length : Nat)) : Int) = V a b i j := by rw [rd_at, snoc_last]
   have addf : ∀ (u w : Pt), plus (V a b i j) u = w → -4000000 ≤ u.f0 → u.f0 ≤ 4000000 → -4000000 ≤ u.f1 → u.f1 ≤ 4000000 → shape_add.f (V a b i j).f0 (V a b i j).f1 u.f0 u.f1 = some (w.f0, w.f1) := by
    intro u w e h0 h1 h2 h3
    unfold shape_add.f
    have v0 : (V a b i j).f0 = (P a i).f0 + (P b j).f0 := rfl
    have v1 : (V a b i j).f1 = (P a i).f1 + (P b j).f1 := rfl
    rw [wz _ (by omega) (by omega), wz _ (by omega) (by omega), ← e]; rfl
   have eda0 : (ed a i).f0 = (P a (i + 1)).f0 - (P a i).f0 := rfl
   have eda1 : (ed a i).f1 = (P a (i + 1)).f1 - (P a i).f1 := rfl
   have edb0 : (ed b j).f0 = (P b (j + 1)).f0 - (P b j).f0 := rfl
   have edb1 : (ed b j).f1 = (P b (j + 1)).f1 - (P b j).f1 := rfl
   have fin : ∀ (c : Int), (0 ≤ c → i < a.length) → (c ≤ 0 → j < b.length) →
     (c > 0 → path a b (d + 1) i j = V a b (i + 1) j :: path a b d (i + 1) j) → (c < 0 → path a b (d + 1) i j = V a b i (j + 1) :: path a b d i (j + 1)) → (c = 0 → path a b (d + 1) i j = V a b (i + 1) (j + 1) :: path a b d (i + 1) (j + 1)) →
     Rt (fun k => shape_Sum.j3 k a b (x ++ [V a b i j]) (i : Int) (j : Int) c) ((x ++ V a b i j :: path a b (d + 1) i j).dropLast, 0) := by
    intro c hca hcb hp hm' hz
    have glue : ∀ (w : Pt) (t : List Pt), x ++ V a b i j :: w :: t = (x ++ [V a b i j]) ++ w :: t := by intro w t; simp
    rcases Int.lt_trichotomy c 0 with h0 | h0 | h0
    ·-- an edge of b
     have hj' := hcb (by omega)
     rw [hm' h0, glue]
     refine rt_step (h := fun k => shape_Sum.j4 k a b (x ++ [V a b i j]) (i : Int) (j : Int) c 0 0) (fun k => ?_) (rt_step (fun k => ?_) (ih i (j + 1) (x ++ [V a b i j]) hi (by omega) (by omega) (by simp only [List.length_append, List.length_singleton]; omega)))
     ·rw [shape_Sum.j3, if_neg (by omega)]
     ·rw [shape_Sum.j4, if_pos (by omega), edge_f hb (by omega) hj', Option.bind_some]
      rw [show shape_add.f 0 0 (ed b j).f0 (ed b j).f1 = some ((ed b j).f0, (ed b j).f1) by unfold shape_add.f; rw [wz _ (by omega) (by omega), wz _ (by omega) (by omega), Int.zero_add, Int.zero_add], Option.bind_some, hx1, wz _ (by omega) (by omega), if_pos (by omega), if_pos (by omega), show (x.length : Int) + 1 - 1 = ((x.length : Nat) : Int) by omega, lastf, addf (ed b j) (V a b i (j + 1)) (by unfold plus V; apply pt_ext <;> dsimp only [plus] <;> omega) (by omega) (by omega) (by omega) (by omega), Option.bind_some, if_pos (by simp only [List.length_append, List.length_singleton]; omega), wrap_succ j (by omega)]
    ·-- an edge of each
     have hi' := hca (by omega)
     have hj' := hcb (by omega)
     rw [hz h0, glue]
     refine rt_step (h := fun k => shape_Sum.j4 k a b (x ++ [V a b i j]) ((i + 1 : Nat) : Int) (j : Int) c (ed a i).f0 (ed a i).f1) (fun k => ?_) (rt_step (fun k => ?_) (ih (i + 1) (j + 1) (x ++ [V a b i j]) (by omega) (by omega) (by omega) (by simp only [List.length_append, List.length_singleton]; omega)))
     ·rw [shape_Sum.j3, if_pos (by omega), edge_f ha (by omega) hi', Option.bind_some, wrap_succ i (by omega)]
     ·rw [shape_Sum.j4, if_pos (by omega), edge_f hb (by omega) hj', Option.bind_some]
      rw [show shape_add.f (ed a i).f0 (ed a i).f1 (ed b j).f0 (ed b j).f1 = some ((plus (ed a i) (ed b j)).f0, (plus (ed a i) (ed b j)).f1) by unfold shape_add.f plus; rw [wz _ (by omega) (by omega), wz _ (by omega) (by omega)], Option.bind_some, hx1, wz _ (by omega) (by omega), if_pos (by omega), if_pos (by omega), show (x.length : Int) + 1 - 1 = ((x.length : Nat) : Int) by omega, lastf, addf (plus (ed a i) (ed b j)) (V a b (i + 1) (j + 1)) (by unfold plus V; apply pt_ext <;> dsimp only [plus] <;> omega) (by unfold plus; dsimp only; omega) (by unfold plus; dsimp only; omega) (by unfold plus; dsimp only; omega) (by unfold plus; dsimp only; omega), Option.bind_some, if_pos (by simp only [List.length_append, List.length_singleton]; omega), wrap_succ j (by omega)]
    ·-- an edge of a
     have hi' := hca (by omega)
     rw [hp h0, glue]
     refine rt_step (h := fun k => shape_Sum.j4 k a b (x ++ [V a b i j]) ((i + 1 : Nat) : Int) (j : Int) c (ed a i).f0 (ed a i).f1) (fun k => ?_) (rt_step (fun k => ?_) (ih (i + 1) j (x ++ [V a b i j]) (by omega) hj (by omega) (by simp only [List.length_append, List.length_singleton]; omega)))
     ·rw [shape_Sum.j3, if_pos (by omega), edge_f ha (by omega) hi', Option.bind_some, wrap_succ i (by omega)]
     ·rw [shape_Sum.j4, if_neg (by omega), hx1, wz _ (by omega) (by omega), if_pos (by omega), if_pos (by omega), show (x.length : Int) + 1 - 1 = ((x.length : Nat) : Int) by omega, lastf, addf (ed a i) (V a b (i + 1) j) (by unfold plus V; apply pt_ext <;> dsimp only [plus] <;> omega) (by omega) (by omega) (by omega) (by omega), Option.bind_some, if_pos (by simp only [List.length_append, List.length_singleton]; omega)]
   have s1 : ∀ k, shape_Sum.l1 (k + 1) a b (x ++ [V a b i j]) (i : Int) (j : Int) = shape_Sum.j2 k a b (x ++ [V a b i j]) (i : Int) (j : Int) true := by
    intro k
    rw [shape_Sum.l1]
    by_cases h : (i : Int) < (a.length : Int)
    ·rw [if_pos h]
    ·rw [if_neg h, decide_eq_true (by omega)]
   by_cases hjm : j = b.length
   ·refine rt_step s1 (rt_step (fun k => ?_) (fin 1 (fun _ => by omega) (fun h => by omega) (fun _ => ?_) (fun h => by omega) (fun h => by omega)))
    ·rw [shape_Sum.j2, if_pos rfl, if_pos (by omega)]
    ·show (if _ then _ else _) = _
     rw [if_pos ⟨by omega, fun h => absurd h (by omega)⟩]
   ·by_cases hin : i = a.length
    ·refine rt_step s1 (rt_step (fun k => ?_) (fin (-1) (fun h => by omega) (fun _ => by omega) (fun h => by omega) (fun _ => ?_) (fun h => by omega)))
     ·rw [shape_Sum.j2, if_pos rfl, if_neg (by omega), if_pos (by omega)]
     ·show (if _ then _ else _) = _
      rw [if_neg (by omega), if_pos ⟨by omega, fun h => absurd h (by omega)⟩]
    ·have hi' : i < a.length := by omega
     have hj' : j < b.length := by omega
     refine rt_step s1 (rt_step (fun k => ?_) (fin (cx (ed a i) (ed b j)) (fun _ => hi') (fun _ => hj') (fun h => ?_) (fun h => ?_) (fun h => ?_)))
     ·rw [shape_Sum.j2, if_pos rfl, if_neg (by omega), if_neg (by omega), edge_f ha (by omega) hi', Option.bind_some, edge_f hb (by omega) hj', Option.bind_some]
      dsimp only
      rw [cross_f (ed_bd ha hn i) (ed_bd hb hm j), Option.bind_some]
     ·show (if _ then _ else _) = _
      rw [if_pos ⟨hi', fun _ => h⟩]
     ·show (if _ then _ else _) = _
      rw [if_neg (fun h2 => by have := h2.2 hj'; omega), if_pos ⟨hj', fun _ => h⟩]
     ·show (if _ then _ else _) = _
      rw [if_neg (fun h2 => by have := h2.2 hj'; omega), if_neg (fun h2 => by have := h2.2 hi'; omega), if_pos ⟨hi', hj'⟩]
theorem Sum_run {p q : Int} {S : List Pt} (ca : Cvx p q a) (cb : Cvx p q b) (hS : Sums a b S) (ha : ∀ p ∈ a, Bd p) (hb : ∀ p ∈ b, Bd p) (hN : a.length ≤ 100000) (hM : b.length ≤ 100000)
  (h1 : Rt (fun k => shape_refused_normal.f k a) 0) (h2 : Rt (fun k => shape_refused_normal.f k b) 0) : ∃ h, Rt (fun k => shape_Sum.f k a b) (h, 0) ∧ Ring S h ∧ (∀ s ∈ S, s = at_ h 0 ∨ 0 < fn p q (at_ h 0) s) ∧ h.length ≤ a.length + b.length := by
 have la := ca.three
 have lb := cb.three
 obtain ⟨t, e, ring, hl⟩ := sum_ring ca cb hS
 obtain ⟨K1, g1⟩ := h1
 obtain ⟨K2, g2⟩ := h2
 obtain ⟨K3, g3⟩ := sum_l1 ha hb (by omega) (by omega) hN hM (a.length + b.length) 0 0 [] (by omega) (by omega) (by omega) (by simp)
 refine ⟨V a b 0 0 :: t, ⟨K1 + K2 + K3 + 3, fun k hk => ?_⟩, ring, sum_low ca cb hS, by simp only [List.length_cons]; omega⟩
 obtain ⟨k, rfl⟩ : ∃ m, k = m + 1 + 1 + 1 := ⟨k - 3, by omega⟩
 have a1 := g1 (k + 1 + 1) (by omega)
 have a2 := g2 (k + 1) (by omega)
 have a3 := g3 k (by omega)
 dsimp only at a1 a2 a3 ⊢
 have r0 : rd_L2 [a, b] 0 = a := rfl
 have r1 : rd_L2 [a, b] 1 = b := rfl
 have w1 : wrap64 (0 + 1) = 1 := by unfold wrap64; omega
 have w2 : wrap64 (1 + 1) = 2 := by unfold wrap64; omega
 have ln : (([a, b] : List (List S29)).length : Int) = 2 := rfl
 obtain ⟨pa0, pa1, pa2, pa3⟩ := P_bd ha (by omega) 0
 obtain ⟨pb0, pb1, pb2, pb3⟩ := P_bd hb (by omega) 0
 have z0 : rd_T29 a 0 = P a 0 := by rw [P_lt (by omega)]; rfl
 have z1 : rd_T29 b 0 = P b 0 := by rw [P_lt (by omega)]; rfl
 unfold shape_Sum.f
 rw [Option.bind_some, ln, shape_Sum.l0, ln, if_pos (by omega), if_pos (by omega), if_pos (by omega), r0, a1, Option.bind_some, if_pos rfl, w1, shape_Sum.l0, ln, if_pos (by omega), if_pos (by omega), if_pos (by omega), r1, a2, Option.bind_some, if_pos rfl, w2, shape_Sum.l0, if_neg (by omega), if_pos (by omega), if_pos (by omega), z0, z1]
 unfold shape_add.f
 rw [Option.bind_some, wz ((P a 0).f0 + _) (by omega) (by omega), wz ((P a 0).f1 + _) (by omega) (by omega)]
 have : ([] ++ V a b 0 0 :: path a b (a.length + b.length) 0 0).dropLast = V a b 0 0 :: t := by
  rw [e, List.nil_append, show V a b 0 0 :: (t ++ [V a b 0 0]) = (V a b 0 0 :: t) ++ [V a b 0 0] from rfl, List.dropLast_concat]
 rw [this] at a3
 exact a3
end
end Go.Proofs.Ytoffmpkgickfhaa.M
end
section
namespace Go.Proofs.Ytoffmpkgickfhaa.PG
open Go.RowKit Go.Proofs.YtoffmpkgickfhaaW.PrintWords Go.Proofs.YtoffmpkgickfhaaW.PrintLast Go.Proofs.YtoffmpkgickfhaaW.PrintMore
attribute [local go_sem] max2_int min2_int max_two min_two max_three min_three max_four min_four
set_option linter.unusedVariables false
set_option linter.unusedSimpArgs false
/-! ### cracknellaw04_points: function 38 -/
def cracknellaw04_points.l0 : Nat → List (S29) → Int → Int → List (S29) → Int → Option ((List (S29)))
 | 0, _, _, _, _, _ => none
 | k + 1, x0, x1, x2, x7, x8 => if x8 < (x0.length : Int) then (if x8 < x2 then (if 0 ≤ x8 then (if (wrap64 (x1 + 1)) = 0 then (none) else (if x7.length < 8796093022208 then (cracknellaw04_points.l0 k x0 x1 x2 (x7 ++ [(⟨Int.tmod ((rd_T29 x0 x8).f0) (wrap64 (x1 + 1)), Int.tmod ((rd_T29 x0 x8).f1) (wrap64 (x1 + 1))⟩ : S29)]) (wrap64 (x8 + 1))) else (none))) else (none)) else (some x7)) else (some x7)
def cracknellaw04_points.f (k : Nat) (l0 : List (S29)) (a1 : Int) (a2 : Int) : Option ((List (S29))) := cracknellaw04_points.l0 k l0 a1 a2 (([] : List (S29))) 0
def cracknellaw04_points.T5 : Bool × List (List Nat × List Nat) := (true, [([], []), ([], []), ([], []), ([1, 2], [1, 2]), ([3], [3]), ([4], [4]), ([], []), ([6], [6]), ([5, 7], [5, 7]), ([], []), ([], []), ([9, 10], [9, 10]), ([11], [11]), ([12], [12]), ([], []), ([14], [14]), ([13, 15], [13, 15]), ([8, 16], [8, 16]), ([17], [17]), ([0, 18], [0, 18]), ([19, 19, 0, 1, 2, 3, 4, 5, 6, 7, 8, 9, 10, 11, 12, 13, 14, 15, 16, 17, 18, 19], [0, 19])])
def cracknellaw04_points.B5 : List Nat := [0, 0, 0, 6, 14, 30, 0, 64, 254, 0, 0, 1536, 3584, 7680, 0, 16384, 65024, 131070, 262142, 524287, 1048575]
theorem cracknellaw04_points.tab5 : rtab .any (opsOf Try.f38 5) = cracknellaw04_points.T5 := by kernel_rfl
theorem cracknellaw04_points.bits5 : waitsOk cracknellaw04_points.T5.2 cracknellaw04_points.B5 = true := by kernel_rfl
set_option maxHeartbeats 8000000 in
set_option maxRecDepth 100000 in
theorem cracknellaw04_points.calls (k : Nat) (A0 : Option Addr) (c0 : Nat) (l0 : List (S29)) (a1 : Int) (a2 : Int) (r : List (S29)) (w : World) (hr0 : Kd.C k29 w A0 l0.length l0) (hc0 : l0.length ≤ c0) (h : cracknellaw04_points.f k l0 a1 a2 = some r) :
  Calls Try.prog 38 #[.slice A0 l0.length c0, .int .i64 a1, .int .i64 a2] w fun e w' => ∃ v0_ : Value, e = .returned (v0_) ∧ Kd.R k29 29 w' w.heap.size (fun _ => True) v0_ r ∧ Below w.heap.size w w' := by
 have hu29 := Try.underlying29
 have HR0 := Aside0.mk hr0
 have HC0 := Aside0.mk hc0
 clear hr0 hc0
 have HB := Aside0.mk (Below.refl w.heap.size w)
 have H : (cracknellaw04_points.l0 k l0 a1 a2 (([] : List (S29))) 0) = some r := h
 clear h
 obtain ⟨y101, hy101⟩ : ∃ y_ : List (S29), y_ = (([] : List (S29))) := ⟨_, rfl⟩
 replace H : (cracknellaw04_points.l0 k l0 a1 a2 y101 0) = some r := by first | (rw [hy101]; with_reducible exact H) | (have H2_ := (Option.bind_some _ _).symm.trans H; rw [hy101]; with_reducible exact H2_) | (have H2_ := (Option.bind_some _ _).symm.trans H; with_reducible exact H2_) | with_reducible exact H | (rw [hy101]; exact H) | exact H
 have Ny101 := Aside0.mk hy101
 clear hy101
 have H' := Aside0.mk H
 clear H
 go_enter Try.func38, Try.ntmps38
 go_wp2_with (first | ((with_reducible refine gate_dst (N := 9) rfl ?_); refine Kd.R_lit k29 _ 29 ?hg (N := 9) ?hd (xs := ([] : List (S29))) (inner := []) (ok := fun _ => True) (okp := fun _ => True) ?hr ?hp (fun _ hk => hk) trivial (Below.refl _ _) (Nat.le_refl _) (by simp) ?_; (case hd => rfl); (case hg => rfl); (case hr => first | (go_simp; done) | (go_simp; rfl)); (case hp => exact (Reps.none _ _)); intro v102 w4 ho5 hb hg_ hnew_; clear hg_ hnew_; (first | rw [← Ny101.out] at ho5 | (simp only [Int.reduceToNat] at ho5; rw [← Ny101.out] at ho5)); have HO103 := Aside0.mk (Kd.R_lower ho5 (below_size bh)); replace HB := Aside0.mk (below_step bh hb); clear hb ho5))
 go_loopg [7, 8] k (fun kq v7 v8 w' => ∃ (x7_1 : List (S29)) (x8_1 : Int), v8 = .int .i64 x8_1 ∧ Aside0 (cracknellaw04_points.l0 kq l0 a1 a2 x7_1 x8_1 = some r) ∧ Aside0 (kq ≤ k) ∧ Aside0 (Kd.R k29 29 w' w.heap.size (fun _ => True) v7 x7_1) ∧ Aside0 (Below w.heap.size w w'))
 case atStart => exact ⟨(y101), (0), sd, H', ⟨Nat.le_refl _⟩, ⟨by (with_reducible repeat (first | apply Kd.R_alloc | apply Kd.R_drewN | apply Kd.R_drew)); exact HO103.out⟩, ⟨bh⟩⟩
 case round =>
  clear H'
  (try clear p2); (try clear c3)
  obtain ⟨x7_1, x8_1, rfl, HA, HK1, HO_7, HB⟩ := hrel
  cases gk with
  | zero => exact absurd HA.out (by simp [cracknellaw04_points.l0])
  | succ k1 =>
   have H := HA.out
   clear HA
   simp only [cracknellaw04_points.l0] at H
   by_cases c6 : x8_1 < (l0.length : Int)
   ·rw [if_pos c6] at H
    have c6b0 := decide_eq_true c6
    clear c6
    by_cases c7 : x8_1 < a2
    ·rw [if_pos c7] at H
     have c7b0 := decide_eq_true c7
     clear c7
     replace H := oi H
     obtain ⟨c8, H⟩ := H
     have c8b0 := decide_eq_true c8
     clear c8
     replace H := oj H
     obtain ⟨c9, H⟩ := H
     have c9b0 : ((wrap64 (a1 + 1)) == 0) = false := beq_eq_false_iff_ne.mpr c9
     have c9b1 : ((wrap64 (a1 + 1)) != 0) = true := bne_iff_ne.mpr c9
     replace H := oi H
     obtain ⟨c10, H⟩ := H
     have LMc10 := Aside0.mk c10
     clear c10
     obtain ⟨y106, hy106⟩ : ∃ y_ : List (S29), y_ = (x7_1 ++ [(⟨Int.tmod ((rd_T29 l0 x8_1).f0) (wrap64 (a1 + 1)), Int.tmod ((rd_T29 l0 x8_1).f1) (wrap64 (a1 + 1))⟩ : S29)]) := ⟨_, rfl⟩
     replace H : (cracknellaw04_points.l0 k1 l0 a1 a2 y106 (wrap64 (x8_1 + 1))) = some r := by first | (rw [hy106]; with_reducible exact H) | (have H2_ := (Option.bind_some _ _).symm.trans H; rw [hy106]; with_reducible exact H2_) | (have H2_ := (Option.bind_some _ _).symm.trans H; with_reducible exact H2_) | with_reducible exact H | (rw [hy106]; exact H) | exact H
     have Ny106 := Aside0.mk hy106
     clear hy106
     have H' := Aside0.mk H
     clear H
     try go_wp2
     replace HO_7 := Aside0.mk (Kd.R_drew HO_7.out)
     replace HB := Aside0.mk (below_drew1 HB.out)
     have p104 : 0 ≤ (x8_1 : Int) := dt
     have q104 : x8_1 < (l0.length : Int) := dt
     obtain ⟨ad104, e104, hx104_0, hx104_1⟩ := at_T29 HR0.out x8_1 p104 q104
     have hw104_1 := hx104_1
     have hw104_0 := hx104_0
     cases e104
     replace hx104_0 := hc HB hx104_0
     replace hx104_1 := hc HB hx104_1
     replace p104 := eq_true p104
     replace q104 := eq_true q104
     have p105 : 0 ≤ (x8_1 : Int) := dt
     have q105 : x8_1 < (l0.length : Int) := dt
     obtain ⟨ad105, e105, hx105_0, hx105_1⟩ := at_T29 HR0.out x8_1 p105 q105
     have hw105_1 := hx105_1
     have hw105_0 := hx105_0
     obtain rfl : ad104 = ad105 := (by injection e105)
     replace hx105_0 := hc HB hx105_0
     replace hx105_1 := hc HB hx105_1
     replace p105 := eq_true p105
     replace q105 := eq_true q105
     refine start_ (n := 21) (S := fun w' => w'.cell? (ad104.add ((x8_1).toNat * 2)) = some (.int .i64 ((rd_T29 l0 x8_1).f0)) ∧ w'.cell? ⟨(ad104.add ((x8_1).toNat * 2)).block, (ad104.add ((x8_1).toNat * 2)).off + 1, none⟩ = some (.int .i64 ((rd_T29 l0 x8_1).f1)) ∧ w'.cell? (ad104.add ((x8_1).toNat * 2)) = some (.int .i64 ((rd_T29 l0 x8_1).f0)) ∧ w'.cell? ⟨(ad104.add ((x8_1).toNat * 2)).block, (ad104.add ((x8_1).toNat * 2)).off + 1, none⟩ = some (.int .i64 ((rd_T29 l0 x8_1).f1))) (ds := []) #[N,N,N,N,N,N,N,N,N,N,N,N,N,N,N,N,N,N,N,N,N] (by kernel_rfl) rfl rfl ⟨(hc HB hw104_0), (hc HB hw104_1), (hc HB hw105_0), (hc HB hw105_1)⟩ (fun hHeld => ?_); refine with_tabW cracknellaw04_points.tab5 cracknellaw04_points.bits5 (fun HT_ HW_ => ?_)
     generalize wr.drew = w11 at HO_7 HB hx104_0 hx104_1 hx105_0 hx105_1 hHeld ⊢
     refine pu 0 21 HT_ ?_
     refine pu 1 22 HT_ ?_
     refine pu 2 23 HT_ ?_
     refine pu 3 24 HT_ ?_
     refine pu 4 25 HT_ ?_
     refine pu 6 27 HT_ ?_
     refine pu 7 28 HT_ ?_
     refine pu 9 30 HT_ ?_
     refine pu 10 31 HT_ ?_
     refine pu 11 32 HT_ ?_
     refine pu 12 33 HT_ ?_
     refine pu 14 35 HT_ ?_
     refine pu 15 36 HT_ ?_
     refine tk4 5 26 hHeld HT_ HW_ ?_
     refine pu 8 29 HT_ ?_
     refine tk4 13 34 hHeld HT_ HW_ ?_
     refine pu 16 37 HT_ ?_
     refine pu 17 38 HT_ ?_
     refine one_ (i := 18) (N := some 39) #[T,T,T,T,T,T,T,T,T,T,T,T,T,T,T,T,T,T,T,N,N] rfl rfl (on1 HT_) (by decide) (fun K hK => ?_)
     refine value_ (w1 := ?_) (v := ?_) (by rfl) rfl ?_ ?_
     rotate_left 2
     ·go_simp
      constructor
      ·rfl
      ·rfl
     refine hK.out _ _ ⟨(World.cell?_alloc_lt _ _ _ (World.block_lt_of_cell? _ _ ((hc HB hw104_0)))).trans ((hc HB hw104_0)), (World.cell?_alloc_lt _ _ _ (World.block_lt_of_cell? _ _ ((hc HB hw104_1)))).trans ((hc HB hw104_1)), (World.cell?_alloc_lt _ _ _ (World.block_lt_of_cell? _ _ ((hc HB hw105_0)))).trans ((hc HB hw105_0)), (World.cell?_alloc_lt _ _ _ (World.block_lt_of_cell? _ _ ((hc HB hw105_1)))).trans ((hc HB hw105_1))⟩ (fun hHeld => ?_)
     clear hK K
     refine nm 39 ?_
     refine one_ (i := 19) (N := some 40) #[T,T,T,T,T,T,T,T,T,T,T,T,T,T,T,T,T,T,T,T,N] rfl rfl (on1 HT_) (by decide) (fun K hK => ?_)
     refine Kd.R_append_step k29 (w0 := w) w.heap.size (by rfl) (.tmp 21) (.tmp 39) 22 29 (.agg #[(.int .i64 0), (.int .i64 0)]) 16 rfl Try.underlying22 info29 rfl (by decide) (by omega) u7 x7_1 (⟨Int.tmod ((rd_T29 l0 x8_1).f0) (wrap64 (a1 + 1)), Int.tmod ((rd_T29 l0 x8_1).f1) (wrap64 (a1 + 1))⟩ : S29) [.int .i64 (Int.tmod ((rd_T29 l0 x8_1).f0) (wrap64 (a1 + 1))), .int .i64 (Int.tmod ((rd_T29 l0 x8_1).f1) (wrap64 (a1 + 1)))] (fun _ => True) (fun _ => False) rfl rfl ?aP (fun _ hk => hk.elim) ?aF ?aO ?aB ?aS ?aL ?_
     (case aP => exact k29_mkM _ _ _ (⟨Int.tmod ((rd_T29 l0 x8_1).f0) (wrap64 (a1 + 1)), Int.tmod ((rd_T29 l0 x8_1).f1) (wrap64 (a1 + 1))⟩ : S29))
     (case aB => exact bh)
     (case aF => exact (fun _ _ => trivial))
     (case aO => exact (ro HO_7))
     (case aS => exact (below_size bh))
     (case aL => have := LMc10.out; omega)
     intro v107 w12 ho hb hg hat
     rw [← Ny106.out] at ho
     have HO108 := Aside0.mk (ho)
     replace HB := Aside0.mk (hb)
     clear HO_7
     clear ho hb hg hat
     refine hK.out _ _ ⟨(hc HB hw104_0), (hc HB hw104_1), (hc HB hw105_0), (hc HB hw105_1)⟩ (fun hHeld => ?_)
     clear hK K
     refine nm 40 ?_
     refine pu 20 7 HT_ ?_
     refine done_ (done_of HT_.out (by kernel_rfl)) ?_
     try go_wp2
     go_roundg k1
     case measure => have := HK1.out; omega
     case rel => exact ⟨(y106), (wrap64 (x8_1 + 1)), sd, H', ⟨by have := HK1.out; omega⟩, ⟨by (with_reducible repeat (first | apply Kd.R_alloc | apply Kd.R_drewN | apply Kd.R_drew)); exact HO108.out⟩, ⟨bh⟩⟩
    ·rw [if_neg c7] at H
     have c7b0 := decide_eq_false c7
     clear c7
     obtain rfl := Option.some.inj H
     go_wp2
     go_ret
     exact ⟨_, by exact er, by (with_reducible repeat (first | apply Kd.R_alloc | apply Kd.R_drewN | apply Kd.R_drew)); exact HO_7.out, bh⟩
   ·rw [if_neg c6] at H
    have c6b0 := decide_eq_false c6
    clear c6
    obtain rfl := Option.some.inj H
    go_wp2
    go_ret
    exact ⟨_, by exact er, by (with_reducible repeat (first | apply Kd.R_alloc | apply Kd.R_drewN | apply Kd.R_drew)); exact HO_7.out, bh⟩
/-! ### cracknellaw04_fold: function 39 -/
def cracknellaw04_fold.f (a0 : Int) (a1 : Int) : Option (Int) := if a1 = 0 then (none) else (some (Int.tmod (wrap64 ((Int.tmod a0 a1) + a1)) a1))
set_option maxHeartbeats 8000000 in
set_option maxRecDepth 100000 in
theorem cracknellaw04_fold.calls (a0 : Int) (a1 : Int) (r : Int) (w : World) (h : cracknellaw04_fold.f a0 a1 = some r) :
  Calls Try.prog 39 #[.int .i64 a0, .int .i64 a1] w fun e w' => e = .returned (.int .i64 r) ∧ Drawn0 w w' := by
 have H : (if a1 = 0 then (none) else (some (Int.tmod (wrap64 ((Int.tmod a0 a1) + a1)) a1))) = some r := h
 clear h
 replace H := oj H
 obtain ⟨c3, H⟩ := H
 have c3b0 : (a1 == 0) = false := beq_eq_false_iff_ne.mpr c3
 have c3b1 : (a1 != 0) = true := bne_iff_ne.mpr c3
 obtain rfl := Option.some.inj H
 go_enter Try.func39, Try.ntmps39
 go_wp2
 go_ret
 exact ⟨by first | rfl | (simp; done) | (simp [*]; done), by repeat (first | exact Drawn0.refl _ | apply Drawn0.step)⟩
end Go.Proofs.Ytoffmpkgickfhaa.PG
end
section
namespace Go.Proofs.Ytoffmpkgickfhaa.M
open Go.RowKit Go.Proofs.Ytoffmpkgickfhaa.PG Go.Proofs.YtoffmpkgickfhaaW.PrintMore Go.Proofs.YtoffmpkgickfhaaW.PrintWords
end Go.Proofs.Ytoffmpkgickfhaa.M
end
section
namespace Go.Proofs.Ytoffmpkgickfhaa.PG
open Go.RowKit Go.Proofs.YtoffmpkgickfhaaW.PrintWords Go.Proofs.YtoffmpkgickfhaaW.PrintLast Go.Proofs.YtoffmpkgickfhaaW.PrintMore
attribute [local go_sem] max2_int min2_int max_two min_two max_three min_three max_four min_four
set_option linter.unusedVariables false
set_option linter.unusedSimpArgs false
/-! ### cracknellaw04_hull: function 23 -/
def cracknellaw04_hull.f (k : Nat) (l0 : List (S29)) (a1 : Int) : Option ((List (S29))) := (cracknellaw04_points.f k l0 a1 9).bind fun t101 => ((some (([(⟨0, 0⟩ : S29), (⟨1, 0⟩ : S29), (⟨0, 1⟩ : S29)] : List (S29)) : List (S29))).bind fun y104 => (if t101.length + y104.length < 8796093022208 then ((cracknelref04_Hull.f k (t101 ++ y104)).bind fun bt110 => (some bt110.1)) else (none)))
set_option maxHeartbeats 8000000 in
set_option maxRecDepth 100000 in
theorem cracknellaw04_hull.calls (k : Nat) (A0 : Option Addr) (c0 : Nat) (l0 : List (S29)) (a1 : Int) (r : List (S29)) (w : World) (hr0 : Kd.C k29 w A0 l0.length l0) (hc0 : l0.length ≤ c0) (h : cracknellaw04_hull.f k l0 a1 = some r) :
  Calls Try.prog 23 #[.slice A0 l0.length c0, .int .i64 a1] w fun e w' => ∃ v0_ : Value, e = .returned (v0_) ∧ Kd.R k29 29 w' w.heap.size (fun _ => True) v0_ r ∧ Below w.heap.size w w' := by
 have hu29 := Try.underlying29
 have HR0 := Aside0.mk hr0
 have HC0 := Aside0.mk hc0
 clear hr0 hc0
 have HB := Aside0.mk (Below.refl w.heap.size w)
 have H : ((cracknellaw04_points.f k l0 a1 9).bind fun t101 => ((some (([(⟨0, 0⟩ : S29), (⟨1, 0⟩ : S29), (⟨0, 1⟩ : S29)] : List (S29)) : List (S29))).bind fun y104 => (if t101.length + y104.length < 8796093022208 then ((cracknelref04_Hull.f k (t101 ++ y104)).bind fun bt110 => (some bt110.1)) else (none)))) = some r := h
 clear h
 replace H := Option.bind_eq_some_iff.mp H
 obtain ⟨t101, A30, H⟩ := H
 try dsimp only at H
 have A3 := Aside0.mk A30
 clear A30
 obtain ⟨y104, hy104⟩ : ∃ y_ : List (S29), y_ = (([(⟨0, 0⟩ : S29), (⟨1, 0⟩ : S29), (⟨0, 1⟩ : S29)] : List (S29))) := ⟨_, rfl⟩
 replace H : (if t101.length + y104.length < 8796093022208 then ((cracknelref04_Hull.f k (t101 ++ y104)).bind fun bt110 => (some bt110.1)) else (none)) = some r := by first | (rw [hy104]; with_reducible exact H) | (have H2_ := (Option.bind_some _ _).symm.trans H; rw [hy104]; with_reducible exact H2_) | (have H2_ := (Option.bind_some _ _).symm.trans H; with_reducible exact H2_) | with_reducible exact H | (rw [hy104]; exact H) | exact H
 have Ny104 := Aside0.mk hy104
 clear hy104
 replace H := oi H
 obtain ⟨c4, H⟩ := H
 have LMc4 := Aside0.mk c4
 clear c4
 obtain ⟨y107, hy107⟩ : ∃ y_ : List (S29), y_ = (t101 ++ y104) := ⟨_, rfl⟩
 replace H : ((cracknelref04_Hull.f k y107).bind fun bt110 => (some bt110.1)) = some r := by first | (rw [hy107]; with_reducible exact H) | (have H2_ := (Option.bind_some _ _).symm.trans H; rw [hy107]; with_reducible exact H2_) | (have H2_ := (Option.bind_some _ _).symm.trans H; with_reducible exact H2_) | with_reducible exact H | (rw [hy107]; exact H) | exact H
 have Ny107 := Aside0.mk hy107
 clear hy107
 replace H := Option.bind_eq_some_iff.mp H
 obtain ⟨⟨t110, t111⟩, A50, H⟩ := H
 try dsimp only at H
 have A5 := Aside0.mk A50
 clear A50
 obtain rfl := Option.some.inj H
 go_enter Try.func23, Try.ntmps23
 go_wp2_with (first | ((with_reducible refine gc 38 rfl ?_); refine goesL_ (some 10) rfl rfl Try.func38 (by kernel_rfl) rfl #[.slice A0 l0.length c0, .int .i64 a1, .int .i64 9] rfl sg ?_; (with_reducible refine (cracknellaw04_points.calls k _ _ l0 a1 9 t101 _ ?side1 ?side2 A3.out).mono ?_); (case side1 => repeat (first | exact HR0.out | (with_reducible refine Kd.C_alloc ?_ _) | (with_reducible refine Kd.C_drewN ?_ _) | (with_reducible refine Kd.C_drew ?_))); (case side2 => exact HC0.out); rintro e w6 ⟨v102, rfl, ho0, hb⟩; refine ⟨_, rfl, ?_⟩; have HO103 := Aside0.mk (Kd.R_lower ho0 (below_size bh)); replace HB := Aside0.mk (below_step bh hb); (try clear hb); (try clear hb2); (try clear hk); (try clear hi); (try clear ho0)) | ((with_reducible refine gate_dst (N := 15) rfl ?_); refine Kd.R_lit k29 _ 29 ?hg (N := 15) ?hd (xs := ([(⟨0, 0⟩ : S29), (⟨1, 0⟩ : S29), (⟨0, 1⟩ : S29)] : List (S29))) (inner := [.int .i64 0, .int .i64 0, .int .i64 1, .int .i64 0, .int .i64 0, .int .i64 1]) (ok := fun _ => True) (okp := fun _ => True) ?hr ?hp (fun _ hk => hk) trivial (Below.refl _ _) (Nat.le_refl _) (by simp) ?_; (case hd => rfl); (case hg => rfl); (case hr => first | (go_simp; done) | (go_simp; rfl)); (case hp => exact (Reps.c2 (k29_mkM _ _ _ (⟨0, 0⟩ : S29)) (Reps.c2 (k29_mkM _ _ _ (⟨1, 0⟩ : S29)) (Reps.c2 (k29_mkM _ _ _ (⟨0, 1⟩ : S29)) (Reps.none _ _))))); intro v105 w7 ho8 hb hg_ hnew_; clear hg_ hnew_; (first | rw [← Ny104.out] at ho8 | (simp only [Int.reduceToNat] at ho8; rw [← Ny104.out] at ho8)); have HO106 := Aside0.mk (Kd.R_lower (Kd.R_new' ho8 (Kd.R_lt (ro HO103))) (below_size bh)); replace HO103 := Aside0.mk (Kd.R_elder' (ro HO103) (Kd.R_base ho8) hb); replace HB := Aside0.mk (below_step bh hb); clear hb ho8; obtain ⟨Ao10, co10, eo10⟩ := Kd.R_slice HO106.out; subst eo10) | ((with_reducible refine gate_builtin (b := .append) (xs := #[.tmp 11, .tmp 15]) rfl ?_); at_builtin; refine Kd.R_append_rows k29 (w0 := w) w.heap.size rfl (.tmp 11) (.tmp 15) 22 29 (.agg #[(.int .i64 0), (.int .i64 0)]) 16 rfl Try.underlying22 info29 rfl (by decide) (by omega) v102 t101 y104 _ _ _ (fun k_ => some k_ ≠ (.slice Ao10 y104.length co10 : Value).ownBlock) (fun _ => False) rfl rfl ?aO ?aR (fun _ _ h => h) (fun _ h => h.elim) ?aF ?aB ?aS ?aL ?_; (case aR => repeat (first | exact (Kd.R_reads' HO106.out).2.2 | (with_reducible refine Kd.C_alloc ?_ _) | (with_reducible refine Kd.C_drewN ?_ _) | (with_reducible refine Kd.C_drew ?_))); (case aB => exact bh); (case aF => exact (fun k_ hk => Kd.fresh' (Kd.R_lt (ro HO106)) k_ hk)); (case aO => exact (by (with_reducible repeat (first | apply Kd.R_alloc | apply Kd.R_drewN | apply Kd.R_drew)); exact Kd.R_mono HO103.out (fun _ hk => hk.2))); (case aS => exact (below_size bh)); (case aL => have := LMc4.out; omega); intro v108 w9 ho hb hg hat; rw [← Ny107.out] at ho; have HO109 := Aside0.mk (ho); replace HO106 := Aside0.mk (Kd.R_after (ok := (fun _ => True)) (ro HO106) hg hat); replace HB := Aside0.mk (hb); clear HO103; clear ho hb hg hat; obtain ⟨Ao11, co11, eo11⟩ := Kd.R_slice HO109.out; subst eo11) | ((with_reducible refine gc 19 rfl ?_); refine goesL_ (some 19) rfl rfl Try.func19 (by kernel_rfl) rfl #[.slice Ao11 y107.length co11] rfl sg ?_; (with_reducible refine (cracknelref04_Hull.calls k _ _ y107 t110 t111 _ ?side1 ?side2 A5.out).mono ?_); (case side1 => exact cs (Kd.R_reads' HO109.out).2.2); (case side2 => exact (Kd.R_reads' HO109.out).2.1); rintro e w12 ⟨v112, rfl, ho0, hb⟩; refine ⟨_, rfl, ?_⟩; have HO113 := Aside0.mk (Kd.R_lower (Kd.R_new' (Kd.R_new' ho0 (Kd.R_lt (ro HO106))) (Kd.R_lt (ro HO109))) (below_size bh)); replace HO106 := Aside0.mk (Kd.R_elder' (ro HO106) (Kd.R_base ho0) hb); replace HO109 := Aside0.mk (Kd.R_elder' (ro HO109) (Kd.R_base ho0) hb); replace HB := Aside0.mk (below_step bh hb); (try clear hb); (try clear hb2); (try clear hk); (try clear hi); (try clear ho0)))
 go_ret
 exact ⟨_, by exact er, by (with_reducible repeat (first | apply Kd.R_alloc | apply Kd.R_drewN | apply Kd.R_drew)); exact Kd.R_mono HO113.out (fun _ hk => trivial), bh⟩
end Go.Proofs.Ytoffmpkgickfhaa.PG
end
section
namespace Go.Proofs.Ytoffmpkgickfhaa.M
open Go.RowKit Go.Proofs.Ytoffmpkgickfhaa.PG Go.Proofs.YtoffmpkgickfhaaW.PrintMore Go.Proofs.YtoffmpkgickfhaaW.PrintWords
structure Nf (m : Int) (h : List Pt) : Prop where
 ring : Ring h h
 flat : ¬ Flat h
 fst : ∀ p ∈ h, p = at_ h 0 ∨ first (at_ h 0) p
 inb : ∀ p ∈ h, In m p
theorem Nf.of_ring {m : Int} {S h : List Pt} (r : Ring S h) (hf : ¬ Flat S) (hm : ∀ p ∈ S, p = at_ h 0 ∨ first (at_ h 0) p) (hin : ∀ p ∈ S, In m p) : Nf m h :=
 ⟨ring_self r, ring_not_flat r hf, fun p hp => hm p (ring_sub r p hp), fun p hp => hin p (ring_sub r p hp)⟩
section
variable {m : Int} {h : List Pt}
theorem Nf.three (n : Nf m h) : 3 ≤ h.length := ring_three n.ring n.flat
theorem Nf.convex (n : Nf m h) : Convex h := ring_convex n.ring n.flat n.fst
theorem Nf.bd (n : Nf m h) (hm : m ≤ 10000) : ∀ p ∈ h, Bd p := fun p hp => by have := n.inb p hp; unfold In at this; unfold Bd; omega
theorem Nf.poly (n : Nf m h) (hm : m ≤ 10000) (hl : h.length ≤ 32) : Poly h := ⟨n.three, hl, fun p hp => by have := n.inb p hp; unfold In at *; omega⟩
theorem Nf.normal (n : Nf m h) (hm : m ≤ 10000) (hl : h.length ≤ 32) : Rt (fun k => shape_refused_normal.f k h) 0 := refused_normal (by omega) (n.poly hm hl) n.convex
theorem Nf.first_k (n : Nf m h) : ∀ k, k < h.length → k = 0 ∨ first (at_ h 0) (at_ h k) := first_at n.ring (by have := n.three; omega) n.fst
theorem fn_first {a b : Pt} (ha : Bd a) (hb : Bd b) : first a b ↔ 0 < fn 1 10000000 a b := by
 unfold Bd at ha hb; unfold first fn; omega
theorem Nf.cvx (n : Nf m h) (hm : m ≤ 10000) : Cvx 1 10000000 h := by
 have h3 := n.three
 have hb := n.bd hm
 refine ⟨h3, ring_strong n.ring, fun k hk => ?_, fun i => ?_⟩
 ·rcases n.first_k k hk with e | e
  ·exact Or.inl e
  ·exact Or.inr ((fn_first (at_bd hb (by omega)) (at_bd hb hk)).mp e)
 ·have hi : i % h.length < h.length := Nat.mod_lt _ (by omega)
  have hj : (i + 1) % h.length < h.length := Nat.mod_lt _ (by omega)
  obtain ⟨b0, b1, b2, b3⟩ := at_bd hb hi
  obtain ⟨c0, c1, c2, c3⟩ := at_bd hb hj
  have ne := (ring_strong n.ring).1 _ hi
  rw [Nat.mod_add_mod] at ne
  intro e
  apply ne
  unfold ed vec ph P at e
  dsimp only at e
  apply pt_ext <;> omega
end
def sums (a b : List Pt) : List Pt := a.flatMap fun x => b.map (plus x)
theorem sums_ok (a b : List Pt) : Sums a b (sums a b) := by
 intro s
 unfold sums
 rw [List.mem_flatMap]
 constructor
 ·rintro ⟨x, hx, hs⟩
  obtain ⟨y, hy, rfl⟩ := List.mem_map.mp hs
  obtain ⟨k, hk, rfl⟩ := List.mem_iff_getElem.mp hx
  obtain ⟨l, hl, rfl⟩ := List.mem_iff_getElem.mp hy
  exact ⟨k, l, hk, hl, by rw [at_eq hk, at_eq hl]⟩
 ·rintro ⟨k, l, hk, hl, rfl⟩
  exact ⟨at_ a k, at_mem hk, List.mem_map.mpr ⟨at_ b l, at_mem hl, rfl⟩⟩
theorem sums_mem {a b : List Pt} {s : Pt} : s ∈ sums a b ↔ ∃ x ∈ a, ∃ y ∈ b, s = plus x y := by
 unfold sums
 rw [List.mem_flatMap]
 constructor
 ·rintro ⟨x, hx, hs⟩
  obtain ⟨y, hy, rfl⟩ := List.mem_map.mp hs
  exact ⟨x, hx, y, hy, rfl⟩
 ·rintro ⟨x, hx, y, hy, rfl⟩
  exact ⟨x, hx, List.mem_map.mpr ⟨y, hy, rfl⟩⟩
theorem sums_flat {a b : List Pt} (hb : 0 < b.length) (h : Flat (sums a b)) : Flat a := by
 intro x hx y hy z hz
 have m := at_mem hb
 have := h _ (sums_mem.mpr ⟨x, hx, _, m, rfl⟩) _ (sums_mem.mpr ⟨y, hy, _, m, rfl⟩) _ (sums_mem.mpr ⟨z, hz, _, m, rfl⟩)
 rw [cr_eq] at this ⊢
 unfold plus at this
 dsimp only at this
 rw [← this]; grind
end Go.Proofs.Ytoffmpkgickfhaa.M
end
section
namespace Go.Proofs.Ytoffmpkgickfhaa.M
open Go.RowKit Go.Proofs.Ytoffmpkgickfhaa.PG Go.Proofs.YtoffmpkgickfhaaW.PrintMore Go.Proofs.YtoffmpkgickfhaaW.PrintWords
end Go.Proofs.Ytoffmpkgickfhaa.M
end
section
namespace Go.Proofs.Ytoffmpkgickfhaa.M
open Go.RowKit Go.Proofs.Ytoffmpkgickfhaa.PG Go.Proofs.YtoffmpkgickfhaaW.PrintMore Go.Proofs.YtoffmpkgickfhaaW.PrintWords
theorem concat_run (a b : List Pt) (hN : a.length + b.length ≤ 1000000) : Rt (fun k => api_Point_57.f k [a, b]) (a ++ b) := by
 refine ⟨6, fun k hk => ?_⟩
 obtain ⟨k, rfl⟩ : ∃ m, k = m + 6 := ⟨k - 6, by omega⟩
 unfold api_Point_57.f
 have r0 : rd_L2 [a, b] 0 = a := rfl
 have r1 : rd_L2 [a, b] 1 = b := rfl
 have w1 : wrap64 (0 + 1) = 1 := by unfold wrap64; omega
 have w2 : wrap64 (1 + 1) = 2 := by unfold wrap64; omega
 have ln : (([a, b] : List (List S29)).length : Int) = 2 := rfl
 dsimp only
 rw [api_Point_57.l0, ln, if_pos (by omega), if_pos (by omega), if_pos (by omega), r0, wz (0 + (a.length : Int)) (by omega) (by omega), if_neg (by omega), w1, api_Point_57.l0, ln, if_pos (by omega), if_pos (by omega), if_pos (by omega), r1, wz _ (by omega) (by omega), if_neg (by omega), w2, api_Point_57.l0, if_neg (by omega)]
 rw [show slices_Grow_nil.f (0 + (a.length : Int) + (b.length : Int)) = some [] by unfold slices_Grow_nil.f; rw [if_pos (by omega)], Option.bind_some]
 rw [api_Point_57.l1, ln, if_pos (by omega), if_pos (by omega), if_pos (by omega), r0, if_pos (by simp; omega), w1, api_Point_57.l1, ln, if_pos (by omega), if_pos (by omega), if_pos (by omega), r1, if_pos (by simp; omega), w2, api_Point_57.l1, if_neg (by omega)]
 rfl
theorem index_run {l : List Pt} {p : Pt} (hp : p ∈ l) (hN : l.length ≤ 1000000) : ∃ i, i < l.length ∧ at_ l i = p ∧ Rt (fun k => api_Point_93.f k l p.f0 p.f1) (i : Int) := by
 have H : ∀ d i, l.length = i + d → (∃ j, i ≤ j ∧ j < l.length ∧ at_ l j = p) → ∃ j, j < l.length ∧ at_ l j = p ∧ Rt (fun k => api_Point_93.l0 k l (l.length : Int) (i : Int) p.f0 p.f1) (j : Int) := by
  intro d
  induction d with
  | zero => intro i hi ⟨j, h1, h2, _⟩; omega
  | succ d ih =>
   intro i hi ⟨j, h1, h2, h3⟩
   have hlt : i < l.length := by omega
   by_cases h : p = at_ l i
   ·refine ⟨i, hlt, h.symm, rt_ret fun k => ?_⟩
    rw [api_Point_93.l0, if_pos (by omega), if_pos (by omega), if_pos (by omega), rd_at, pt_beq, if_pos (by simpa using h)]
   ·obtain ⟨j', h4, h5, h6⟩ := ih (i + 1) (by omega) ⟨j, by
     rcases Nat.eq_or_lt_of_le h1 with rfl | h7
     ·exact absurd h3.symm h
     ·exact h7, h2, h3⟩
    refine ⟨j', h4, h5, rt_step (fun k => ?_) h6⟩
    rw [api_Point_93.l0, if_pos (by omega), if_pos (by omega), if_pos (by omega), rd_at, pt_beq, if_neg (by simpa using h), wrap_succ i (by omega)]
 obtain ⟨j, hj, rfl⟩ := List.mem_iff_getElem.mp hp
 obtain ⟨i, h1, h2, h3⟩ := H l.length 0 (by omega) ⟨j, Nat.zero_le _, hj, at_eq hj⟩
 exact ⟨i, h1, h2, h3⟩
theorem begun_run {l : List Pt} (h0 : 0 < l.length) (hN : l.length ≤ 1000000) : ∃ i, i < l.length ∧ (∀ p ∈ l, ¬ first p (at_ l i)) ∧ Rt (fun k => shape_begun.f k l) (l.drop i ++ l.take i) := by
 obtain ⟨r, ⟨K1, h1⟩, hr, hmin⟩ := min_run h0 hN
 obtain ⟨i, hi, hir, ⟨K2, h2⟩⟩ := index_run hr hN
 obtain ⟨K3, h3⟩ := concat_run (l.drop i) (l.take i) (by simp only [List.length_drop, List.length_take]; omega)
 refine ⟨i, hi, hir ▸ hmin, ⟨K1 + K2 + K3, fun k hk => ?_⟩⟩
 have a1 := h1 k (by omega)
 have a2 := h2 k (by omega)
 have a3 := h3 k (by omega)
 dsimp only at a1 a2 a3 ⊢
 unfold shape_begun.f
 rw [a1, Option.bind_some]
 dsimp only
 rw [a2, Option.bind_some, if_pos (by omega), if_pos (by omega), Int.toNat_natCast, a3, Option.bind_some]
theorem same_run (a b : List Pt) (hN : a.length ≤ 1000000) : ∃ c, Rt (fun k => cracknelref04_Same.f k a b) c ∧ (c = true ↔ a = b) := by
 by_cases hl : a.length = b.length
 ·have H : ∀ d i, a.length = i + d → ∃ c, Rt (fun k => cracknelref04_Same.l0 k a b (i : Int)) c ∧ (c = true ↔ ∀ j, i ≤ j → j < a.length → at_ a j = at_ b j) := by
   intro d
   induction d with
   | zero =>
    intro i hi
    refine ⟨true, rt_ret fun k => ?_, ⟨fun _ j h1 h2 => by omega, fun _ => rfl⟩⟩
    rw [cracknelref04_Same.l0, if_neg (by omega)]
   | succ d ih =>
    intro i hi
    have hlt : i < a.length := by omega
    obtain ⟨c, hc, hb⟩ := ih (i + 1) (by omega)
    rw [from_split hlt]
    by_cases h : at_ a i = at_ b i
    ·refine ⟨c, rt_step (fun k => ?_) hc, ?_⟩
     ·rw [cracknelref04_Same.l0, if_pos (by omega), if_pos (by omega), if_pos (by omega), rd_at, rd_at, if_neg (by simp [h]), wrap_succ i (by omega)]
     ·rw [hb]; exact ⟨fun h1 => ⟨h, h1⟩, fun h1 => h1.2⟩
    ·refine ⟨false, rt_ret fun k => ?_, ⟨fun h1 => by simp at h1, fun h1 => absurd h1.1 h⟩⟩
     have h5 : (!((at_ a i).f0 == (at_ b i).f0) || !((at_ a i).f1 == (at_ b i).f1)) = true := by
      have := pt_beq (at_ a i) (at_ b i)
      rw [decide_eq_false h] at this
      rw [← Bool.not_and, this]; rfl
     rw [cracknelref04_Same.l0, if_pos (by omega), if_pos (by omega), if_pos (by omega), rd_at, rd_at, if_pos h5]
  obtain ⟨c, ⟨K, hK⟩, hb⟩ := H a.length 0 (by omega)
  refine ⟨c, ⟨K, fun k hk => ?_⟩, ?_⟩
  ·unfold cracknelref04_Same.f; dsimp only; rw [if_pos (by omega)]; exact hK k hk
  ·rw [hb]
   constructor
   ·intro h
    apply List.ext_getElem hl
    intro j h1 h2
    rw [← at_eq h1, ← at_eq h2]; exact h j (Nat.zero_le _) h1
   ·rintro rfl j _ _; rfl
 ·refine ⟨false, ⟨0, fun k _ => ?_⟩, ⟨fun h => by simp at h, fun h => absurd (by rw [h]) hl⟩⟩
  unfold cracknelref04_Same.f; dsimp only; rw [if_neg (by omega)]
end Go.Proofs.Ytoffmpkgickfhaa.M
end
section
namespace Go.Proofs.Ytoffmpkgickfhaa.M
open Go.RowKit Go.Proofs.Ytoffmpkgickfhaa.PG Go.Proofs.YtoffmpkgickfhaaW.PrintMore Go.Proofs.YtoffmpkgickfhaaW.PrintWords
def neg (p : Pt) : Pt := ⟨-p.f0, -p.f1⟩
def negs (l : List Pt) : List Pt := l.map neg
theorem neg_neg (p : Pt) : neg (neg p) = p := by unfold neg; apply pt_ext <;> dsimp only <;> omega
theorem negs_mem {l : List Pt} {p : Pt} : p ∈ negs l ↔ neg p ∈ l := by
 unfold negs
 rw [List.mem_map]
 exact ⟨fun ⟨x, hx, e⟩ => by rw [← e, neg_neg]; exact hx, fun h => ⟨neg p, h, neg_neg p⟩⟩
theorem cr_neg (a b c : Pt) : cr (neg a) (neg b) (neg c) = cr a b c := by unfold cr neg; dsimp only; grind
theorem neg_ring {S h : List Pt} (r : Ring S h) : Ring (negs S) (negs h) := by
 have H : ∀ u v, HE S u v → HE (negs S) (neg u) (neg v) := by
  rintro u v ⟨ne, hu, hv, L⟩
  refine ⟨fun e => ne ?_, negs_mem.mpr (by rw [neg_neg]; exact hu), negs_mem.mpr (by rw [neg_neg]; exact hv), fun s hs => ?_⟩
  ·have := congrArg neg e; rwa [neg_neg, neg_neg] at this
  ·obtain ⟨x1, x2⟩ := L (neg s) (negs_mem.mp hs)
   rw [← cr_neg, neg_neg] at x1 x2
   refine ⟨x1, fun h0 => ?_⟩
   have b := x2 h0
   unfold btw neg at *; dsimp only at *; omega
 have PM : ∀ l : List Pt, Pairs (HE S) l → Pairs (HE (negs S)) (l.map neg) := by
  intro l
  induction l with
  | nil => intro _; trivial
  | cons x l ih =>
   cases l with
   | nil => intro _; trivial
   | cons y l => intro hp; exact ⟨H x y hp.1, ih hp.2⟩
 obtain ⟨o, t, e, n, p⟩ := r
 refine ⟨neg o, t.map neg, by unfold negs; rw [e]; rfl, fun hm => n ?_, ?_⟩
 ·obtain ⟨x, hx, hxe⟩ := List.mem_map.mp hm
  have := congrArg neg hxe
  rw [neg_neg, neg_neg] at this
  rw [← this]; exact hx
 ·have := PM _ p
  rw [List.map_cons, List.map_append] at this; exact this
theorem neg_flat {S : List Pt} (h : Flat (negs S)) : Flat S := by
 intro a ha b hb c hc
 have := h (neg a) (negs_mem.mpr (by rw [neg_neg]; exact ha)) (neg b) (negs_mem.mpr (by rw [neg_neg]; exact hb)) (neg c) (negs_mem.mpr (by rw [neg_neg]; exact hc))
 rwa [cr_neg] at this
theorem negative_run {l : List Pt} (hb : ∀ p ∈ l, Bd p) (h0 : 0 < l.length) (hN : l.length ≤ 1000000) : ∃ i, i < l.length ∧ (∀ p ∈ negs l, ¬ first p (at_ (negs l) i)) ∧ Rt (fun k => shape_negative.f k l) ((negs l).drop i ++ (negs l).take i) := by
 have hl : (negs l).length = l.length := by unfold negs; rw [List.length_map]
 obtain ⟨i, hi, hmin, hB⟩ := begun_run (l := negs l) (by omega) (by omega)
 refine ⟨i, by omega, hmin, ?_⟩
 have H : ∀ d j, l.length = j + d → Rt (fun k => shape_negative.l0 k (negs (l.take j)) l (l.length : Int) (j : Int)) ((negs l).drop i ++ (negs l).take i) := by
  intro d
  induction d with
  | zero =>
   intro j hj
   refine rt_step (h := fun k => (shape_begun.f k (negs l)).bind fun t => some t) (fun k => ?_) ?_
   ·rw [shape_negative.l0, if_neg (by omega), List.take_of_length_le (by omega)]
   ·obtain ⟨K, hK⟩ := hB
    refine ⟨K, fun k hk => ?_⟩
    have := hK k hk
    dsimp only at this ⊢
    rw [this, Option.bind_some]
  | succ d ih =>
   intro j hj
   have hlt : j < l.length := by omega
   obtain ⟨b0, b1, b2, b3⟩ := at_bd hb hlt
   have e : negs (l.take (j + 1)) = negs (l.take j) ++ [neg (at_ l j)] := by
    rw [at_eq hlt, ← List.take_append_getElem hlt]; unfold negs; rw [List.map_append]; rfl
   refine rt_step (fun k => ?_) (ih (j + 1) (by omega))
   rw [e, shape_negative.l0, if_pos (by omega), if_pos (by omega), if_pos (by omega), rd_at]
   unfold shape_sub.f
   rw [Option.bind_some, wz (0 - (at_ l j).f0) (by omega) (by omega), wz (0 - (at_ l j).f1) (by omega) (by omega), if_pos (by unfold negs; rw [List.length_map, List.length_take]; omega), wrap_succ j (by omega)]
   unfold neg
   rw [Int.zero_sub, Int.zero_sub]
 obtain ⟨K, hK⟩ := H l.length 0 (by omega)
 exact ⟨K, fun k hk => hK k hk⟩
theorem Negative_run {m : Int} {a : List Pt} (n : Nf m a) (hm : m ≤ 10000) (hl : a.length ≤ 32) : ∃ h, Rt (fun k => shape_Negative.f k a) (h, 0) ∧ Ring (negs a) h ∧ Nf m h ∧ h.length = a.length := by
 have h3 := n.three
 have hla : (negs a).length = a.length := by unfold negs; rw [List.length_map]
 obtain ⟨i, hi, hmin, ⟨K2, h2⟩⟩ := negative_run (n.bd hm) (by omega) (by omega)
 obtain ⟨K1, h1⟩ := n.normal hm hl
 have ring : Ring (negs a) ((negs a).drop i ++ (negs a).take i) := by
  refine ring_rot ?_ (by intro h; have := congrArg List.length h; simp only [List.length_drop, List.length_nil] at this; omega)
  rw [List.take_append_drop]; exact neg_ring n.ring
 have hf : ¬ Flat (negs a) := fun h => n.flat (neg_flat h)
 have e0 : at_ ((negs a).drop i ++ (negs a).take i) 0 = at_ (negs a) i := by rw [drop_at (by omega)]; rfl
 refine ⟨_, ⟨K1 + K2, fun k hk => ?_⟩, ring, Nf.of_ring ring hf (fun p hp => ?_) (fun p hp => ?_), ?_⟩
 ·have a1 := h1 k (by omega)
  have a2 := h2 k (by omega)
  dsimp only at a1 a2 ⊢
  unfold shape_Negative.f
  rw [a1, Option.bind_some, if_pos rfl, a2, Option.bind_some]
 ·rw [e0]
  rcases first_tri p (at_ (negs a) i) with e | e | e
  ·exact Or.inl e
  ·exact absurd e (hmin p hp)
  ·exact Or.inr e
 ·have := n.inb _ (negs_mem.mp hp)
  unfold In neg at *; dsimp only at *; omega
 ·simp only [List.length_append, List.length_drop, List.length_take, hla]; omega
end Go.Proofs.Ytoffmpkgickfhaa.M
end
section
namespace Go.Proofs.Ytoffmpkgickfhaa.M
open Go.RowKit Go.Proofs.Ytoffmpkgickfhaa.PG Go.Proofs.YtoffmpkgickfhaaW.PrintMore Go.Proofs.YtoffmpkgickfhaaW.PrintWords
theorem refsign_f (n : Int) : cracknelref04_sign.f n = some (sg n) := by
 unfold cracknelref04_sign.f sg; split <;> (try split) <;> rfl
theorem refMeet_f {a b c d : Pt} (ha : Bd a) (hb : Bd b) (hc : Bd c) (hd : Bd d) (k : Nat) : cracknelref04_Meet.f (k + 1) a.f0 a.f1 b.f0 b.f1 c.f0 c.f1 d.f0 d.f1 = some (decide (Meet a b c d)) := by
 unfold cracknelref04_Meet.f
 simp only [cracknelref04_Meet.j0, On_f ha hb hc, On_f ha hb hd, On_f hc hd ha, On_f hc hd hb, Cross_f ha hb hc, Cross_f ha hb hd, Cross_f hc hd ha, Cross_f hc hd hb, refsign_f, Option.bind_some, sg_neg, decide_eq_true_eq]
 unfold Meet
 split
 ·simp_all
 ·split
  ·simp_all
  ·split
   ·simp_all
   ·split
    ·simp_all
    ·split <;> simp_all <;> omega
theorem next_f {l : List Pt} {i : Nat} (hl : 0 < l.length) (hi : (i : Int) ≤ 9223372036854775806) : cracknelref04_next.f l (i : Int) = some ((at_ l ((i + 1) % l.length)).f0, (at_ l ((i + 1) % l.length)).f1) := by
 have h2 : (i + 1) % l.length < l.length := Nat.mod_lt _ hl
 unfold cracknelref04_next.f
 rw [tmod_nat i l.length hi, if_neg (by omega), if_pos (by omega), if_pos (by omega), rd_at]
end Go.Proofs.Ytoffmpkgickfhaa.M
end
section
namespace Go.Proofs.Ytoffmpkgickfhaa.M
open Go.RowKit Go.Proofs.Ytoffmpkgickfhaa.PG Go.Proofs.YtoffmpkgickfhaaW.PrintMore Go.Proofs.YtoffmpkgickfhaaW.PrintWords
theorem ref_l2 {l : List Pt} (hb : ∀ p ∈ l, Bd p) (hn : 3 ≤ l.length) (hN : l.length ≤ 1000000) {i : Nat} (hi : i < l.length) {b' : Bool} (hnext : Rt (fun k => cracknelref04_Simple.l1 k l (l.length : Int) ((i + 1 : Nat) : Int)) b') :
  ∀ d j, l.length + 1 = j + d → ∃ b, Rt (fun k => cracknelref04_Simple.l2 k l (l.length : Int) (i : Int) (j : Int) (at_ l i).f0 (at_ l i).f1 (at_ l ((i + 1) % l.length)).f0 (at_ l ((i + 1) % l.length)).f1) b ∧ (b = true ↔ (∀ j', j ≤ j' → j' < l.length → (j' + 1) % l.length ≠ i → ¬ Meet (at_ l i) (at_ l ((i + 1) % l.length)) (at_ l j') (at_ l ((j' + 1) % l.length))) ∧ b' = true) := by
 intro d
 induction d with
 | zero =>
  intro j hj
  obtain ⟨K, hK⟩ := hnext
  refine ⟨b', ⟨K + 1, fun k hk => ?_⟩, ⟨fun h => ⟨fun j' h1 h2 => by omega, h⟩, fun h => h.2⟩⟩
  obtain ⟨k, rfl⟩ := fuel1 hk
  dsimp only; rw [cracknelref04_Simple.l2, if_neg (by omega), wrap_succ i (by omega)]
  exact hK k (by omega)
 | succ d ih =>
  intro j hj
  by_cases hlt : j < l.length
  rotate_left
  ·obtain ⟨K, hK⟩ := hnext
   refine ⟨b', ⟨K + 1, fun k hk => ?_⟩, ⟨fun h => ⟨fun j' h1 h2 => by omega, h⟩, fun h => h.2⟩⟩
   obtain ⟨k, rfl⟩ := fuel1 hk
   dsimp only; rw [cracknelref04_Simple.l2, if_neg (by omega), wrap_succ i (by omega)]
   exact hK k (by omega)
  obtain ⟨b1, ⟨K, hK⟩, hb1⟩ := ih (j + 1) (by omega)
  have hBi := at_bd hb hi
  have hBn := at_bd hb (show (i + 1) % l.length < l.length from Nat.mod_lt _ (by omega))
  have hBj := at_bd hb hlt
  have hBk := at_bd hb (show (j + 1) % l.length < l.length from Nat.mod_lt _ (by omega))
  rw [from_split hlt]
  by_cases h1 : (j + 1) % l.length = i
  ·refine ⟨b1, ⟨K + 1, fun k hk => ?_⟩, ?_⟩
   ·obtain ⟨k, rfl⟩ := fuel1 hk
    dsimp only; rw [cracknelref04_Simple.l2, if_pos (by omega), if_neg (by omega), wrap_succ j (by omega), tmod_nat' j _ (by omega), if_pos (by omega)]
    exact hK k (by omega)
   ·rw [hb1]; exact ⟨fun h => ⟨⟨fun h2 => absurd h1 h2, h.1⟩, h.2⟩, fun h => ⟨h.1.2, h.2⟩⟩
  ·by_cases hm : Meet (at_ l i) (at_ l ((i + 1) % l.length)) (at_ l j) (at_ l ((j + 1) % l.length))
   ·refine ⟨false, ⟨0 + 2, fun k hk => ?_⟩, ⟨fun h => by simp at h, fun h => absurd hm (h.1.1 h1)⟩⟩
    obtain ⟨k, rfl⟩ := fuel2 hk
    dsimp only; rw [cracknelref04_Simple.l2, if_pos (by omega), if_neg (by omega), wrap_succ j (by omega), tmod_nat' j _ (by omega), if_neg (by omega), if_pos (by omega), if_pos (by omega), next_f (by omega) (by omega), Option.bind_some, rd_at, refMeet_f hBi hBn hBj hBk, Option.bind_some, if_pos (by simpa using hm)]
   ·refine ⟨b1, ⟨K + 2, fun k hk => ?_⟩, ?_⟩
    ·obtain ⟨k, rfl⟩ := fuel2 hk
     dsimp only; rw [cracknelref04_Simple.l2, if_pos (by omega), if_neg (by omega), wrap_succ j (by omega), tmod_nat' j _ (by omega), if_neg (by omega), if_pos (by omega), if_pos (by omega), next_f (by omega) (by omega), Option.bind_some, rd_at, refMeet_f hBi hBn hBj hBk, Option.bind_some, if_neg (by simpa using hm)]
     exact hK _ (by omega)
    ·rw [hb1]; exact ⟨fun h => ⟨⟨fun _ => hm, h.1⟩, h.2⟩, fun h => ⟨h.1.2, h.2⟩⟩
theorem ref_l1 {l : List Pt} (hb : ∀ p ∈ l, Bd p) (hn : 3 ≤ l.length) (hN : l.length ≤ 1000000) :
  ∀ d i, l.length = i + d → ∃ b, Rt (fun k => cracknelref04_Simple.l1 k l (l.length : Int) (i : Int)) b ∧ (b = true ↔ ∀ i', i ≤ i' → i' < l.length →
   ¬ On (at_ l i') (at_ l ((i' + 1) % l.length)) (at_ l ((i' + 1 + 1) % l.length)) ∧
   ¬ On (at_ l ((i' + 1) % l.length)) (at_ l ((i' + 1 + 1) % l.length)) (at_ l i') ∧
   ∀ k, i' + 2 ≤ k → k < l.length → (k + 1) % l.length ≠ i' → ¬ Meet (at_ l i') (at_ l ((i' + 1) % l.length)) (at_ l k) (at_ l ((k + 1) % l.length))) := by
 intro d
 induction d with
 | zero =>
  intro i hi
  refine ⟨true, ⟨0 + 1, fun k hk => ?_⟩, ⟨fun _ i' h1 h2 => by omega, fun _ => rfl⟩⟩
  obtain ⟨k, rfl⟩ := fuel1 hk
  dsimp only; rw [cracknelref04_Simple.l1, if_neg (by omega)]
 | succ d ih =>
  intro i hi
  have hlt : i < l.length := by omega
  obtain ⟨b1, hR1, hb1⟩ := ih (i + 1) (by omega)
  obtain ⟨b2, ⟨K, hK⟩, hb2⟩ := ref_l2 hb hn hN hlt hR1 (l.length + 1 - (i + 2)) (i + 2) (by omega)
  have hBi := at_bd hb hlt
  have hBn := at_bd hb (show (i + 1) % l.length < l.length from Nat.mod_lt _ (by omega))
  have hBm := at_bd hb (show (i + 1 + 1) % l.length < l.length from Nat.mod_lt _ (by omega))
  rw [from_split hlt]
  by_cases h1 : On (at_ l i) (at_ l ((i + 1) % l.length)) (at_ l ((i + 1 + 1) % l.length))
  ·refine ⟨false, ⟨0 + 2, fun k hk => ?_⟩, ⟨fun h => by simp at h, fun h => absurd h1 h.1.1⟩⟩
   obtain ⟨k, rfl⟩ := fuel2 hk
   dsimp only; rw [cracknelref04_Simple.l1, if_pos (by omega), if_pos (by omega), if_pos (by omega), next_f (by omega) (by omega), Option.bind_some, wrap_succ i (by omega), next_f (by omega) (by omega), Option.bind_some, rd_at, On_f hBi hBn hBm, Option.bind_some, if_pos (by simpa using h1), cracknelref04_Simple.j2, if_pos rfl]
  ·by_cases h2 : On (at_ l ((i + 1) % l.length)) (at_ l ((i + 1 + 1) % l.length)) (at_ l i)
   ·refine ⟨false, ⟨0 + 2, fun k hk => ?_⟩, ⟨fun h => by simp at h, fun h => absurd h2 h.1.2.1⟩⟩
    obtain ⟨k, rfl⟩ := fuel2 hk
    dsimp only; rw [cracknelref04_Simple.l1, if_pos (by omega), if_pos (by omega), if_pos (by omega), next_f (by omega) (by omega), Option.bind_some, wrap_succ i (by omega), next_f (by omega) (by omega), Option.bind_some, rd_at, On_f hBi hBn hBm, Option.bind_some, if_neg (by simpa using h1), On_f hBn hBm hBi, Option.bind_some, cracknelref04_Simple.j2, if_pos (by simpa using h2)]
   ·refine ⟨b2, ⟨K + 2, fun k hk => ?_⟩, ?_⟩
    ·obtain ⟨k, rfl⟩ := fuel2 hk
     dsimp only; rw [cracknelref04_Simple.l1, if_pos (by omega), if_pos (by omega), if_pos (by omega), next_f (by omega) (by omega), Option.bind_some, wrap_succ i (by omega), next_f (by omega) (by omega), Option.bind_some, rd_at, On_f hBi hBn hBm, Option.bind_some, if_neg (by simpa using h1), On_f hBn hBm hBi, Option.bind_some, cracknelref04_Simple.j2, if_neg (by simpa using h2), wrap_succ2 i (by omega)]
     exact hK _ (by omega)
    ·rw [hb2, hb1]
     exact ⟨fun h => ⟨⟨h1, h2, fun k h3 h4 h5 => h.1 k h3 h4 h5⟩, h.2⟩, fun h => ⟨fun k h3 h4 h5 => h.1.2.2 k h3 h4 h5, h.2⟩⟩
theorem ref_l0 {l : List Pt} (hn : 3 ≤ l.length) (hN : l.length ≤ 1000000) {b' : Bool} (hnext : Rt (fun k => cracknelref04_Simple.l1 k l (l.length : Int) 0) b') :
  ∀ d i, l.length = i + d → ∃ b, Rt (fun k => cracknelref04_Simple.l0 k l (l.length : Int) (i : Int)) b ∧ (b = true ↔ (∀ i', i ≤ i' → i' < l.length → at_ l i' ≠ at_ l ((i' + 1) % l.length)) ∧ b' = true) := by
 intro d
 induction d with
 | zero =>
  intro i hi
  obtain ⟨K, hK⟩ := hnext
  refine ⟨b', ⟨K + 1, fun k hk => ?_⟩, ⟨fun h => ⟨fun i' h1 h2 => by omega, h⟩, fun h => h.2⟩⟩
  obtain ⟨k, rfl⟩ := fuel1 hk
  dsimp only; rw [cracknelref04_Simple.l0, if_neg (by omega)]
  exact hK k (by omega)
 | succ d ih =>
  intro i hi
  have hlt : i < l.length := by omega
  obtain ⟨b1, ⟨K, hK⟩, hb1⟩ := ih (i + 1) (by omega)
  rw [from_split hlt]
  by_cases h1 : at_ l i = at_ l ((i + 1) % l.length)
  ·refine ⟨false, ⟨0 + 1, fun k hk => ?_⟩, ⟨fun h => by simp at h, fun h => absurd h1 h.1.1⟩⟩
   obtain ⟨k, rfl⟩ := fuel1 hk
   dsimp only; rw [cracknelref04_Simple.l0, if_pos (by omega), if_pos (by omega), if_pos (by omega), next_f (by omega) (by omega), Option.bind_some, rd_at, pt_beq, if_pos (by simpa using h1)]
  ·refine ⟨b1, ⟨K + 1, fun k hk => ?_⟩, ?_⟩
   ·obtain ⟨k, rfl⟩ := fuel1 hk
    dsimp only; rw [cracknelref04_Simple.l0, if_pos (by omega), if_pos (by omega), if_pos (by omega), next_f (by omega) (by omega), Option.bind_some, rd_at, pt_beq, if_neg (by simpa using h1), wrap_succ i (by omega)]
    exact hK k (by omega)
   ·rw [hb1]; exact ⟨fun h => ⟨⟨h1, h.1⟩, h.2⟩, fun h => ⟨h.1.2, h.2⟩⟩
theorem refSimple_run {l : List Pt} (hb : ∀ p ∈ l, Bd p) (hn : 3 ≤ l.length) (hN : l.length ≤ 1000000) : ∃ b, Rt (fun k => cracknelref04_Simple.f k l) b ∧ (b = true ↔ Simple l) := by
 obtain ⟨b1, hR1, h1⟩ := ref_l1 hb hn hN l.length 0 (by omega)
 obtain ⟨b, hR, h⟩ := ref_l0 hn hN hR1 l.length 0 (by omega)
 refine ⟨b, hR, ?_⟩
 rw [h, h1]
 exact ⟨fun h => ⟨fun i hi => h.1 i (Nat.zero_le _) hi, fun i hi => h.2 i (Nat.zero_le _) hi⟩, fun h => ⟨fun i _ hi => h.1 i hi, fun i _ hi => h.2 i hi⟩⟩
end Go.Proofs.Ytoffmpkgickfhaa.M
end
section
namespace Go.Proofs.Ytoffmpkgickfhaa.M
open Go.RowKit Go.Proofs.Ytoffmpkgickfhaa.PG Go.Proofs.YtoffmpkgickfhaaW.PrintMore Go.Proofs.YtoffmpkgickfhaaW.PrintWords
theorem refConvex_l0 {l : List Pt} (hb : ∀ p ∈ l, Bd p) (hn : 3 ≤ l.length) (hN : l.length ≤ 1000000) :
  ∀ d i, l.length = i + d → ∃ b, Rt (fun k => cracknelref04_Convex.l0 k l (i : Int)) b ∧ (b = true ↔ (∀ i', i ≤ i' → i' < l.length → 0 < cr (at_ l i') (at_ l ((i' + 1) % l.length)) (at_ l ((i' + 1 + 1) % l.length)) ∧ (0 < i' → first (at_ l 0) (at_ l i')))) := by
 intro d
 induction d with
 | zero =>
  intro i hi
  refine ⟨true, ⟨0 + 1, fun k hk => ?_⟩, ⟨fun _ i' h1 h2 => by omega, fun _ => rfl⟩⟩
  obtain ⟨k, rfl⟩ := fuel1 hk
  dsimp only; rw [cracknelref04_Convex.l0, if_neg (by omega)]
 | succ d ih =>
  intro i hi
  have hlt : i < l.length := by omega
  obtain ⟨b1, ⟨K, hK⟩, hb1⟩ := ih (i + 1) (by omega)
  have hBi := at_bd hb hlt
  have hBn := at_bd hb (show (i + 1) % l.length < l.length from Nat.mod_lt _ (by omega))
  have hBm := at_bd hb (show (i + 1 + 1) % l.length < l.length from Nat.mod_lt _ (by omega))
  rw [from_split hlt]
  by_cases h1 : cr (at_ l i) (at_ l ((i + 1) % l.length)) (at_ l ((i + 1 + 1) % l.length)) ≤ 0
  ·refine ⟨false, ⟨0 + 2, fun k hk => ?_⟩, ⟨fun h => by simp at h, fun h => absurd h.1.1 (by omega)⟩⟩
   obtain ⟨k, rfl⟩ := fuel2 hk
   dsimp only
   rw [cracknelref04_Convex.l0, if_pos (by omega), if_pos (by omega), next_f (by omega) (by omega), Option.bind_some, wrap_succ i (by omega), next_f (by omega) (by omega), Option.bind_some, rd_at, Cross_f hBi hBn hBm, Option.bind_some, if_pos h1, cracknelref04_Convex.j1, if_pos rfl]
  ·by_cases h2 : 0 < i
   ·by_cases h3 : first (at_ l 0) (at_ l i)
    ·refine ⟨b1, ⟨K + 2, fun k hk => ?_⟩, ?_⟩
     ·obtain ⟨k, rfl⟩ := fuel2 hk
      dsimp only
      rw [cracknelref04_Convex.l0, if_pos (by omega), if_pos (by omega), next_f (by omega) (by omega), Option.bind_some, wrap_succ i (by omega), next_f (by omega) (by omega), Option.bind_some, rd_at, Cross_f hBi hBn hBm, Option.bind_some, if_neg h1, if_pos (by omega), if_pos (by omega), show rd_T29 l 0 = at_ l 0 from rfl, first_f, Option.bind_some, cracknelref04_Convex.j1, if_neg (by simpa using h3), wrap_succ i (by omega)]
      exact hK _ (by omega)
     ·rw [hb1]; exact ⟨fun h => ⟨⟨by omega, fun _ => h3⟩, h⟩, fun h => h.2⟩
    ·refine ⟨false, ⟨0 + 2, fun k hk => ?_⟩, ⟨fun h => by simp at h, fun h => absurd (h.1.2 h2) h3⟩⟩
     obtain ⟨k, rfl⟩ := fuel2 hk
     dsimp only
     rw [cracknelref04_Convex.l0, if_pos (by omega), if_pos (by omega), next_f (by omega) (by omega), Option.bind_some, wrap_succ i (by omega), next_f (by omega) (by omega), Option.bind_some, rd_at, Cross_f hBi hBn hBm, Option.bind_some, if_neg h1, if_pos (by omega), if_pos (by omega), show rd_T29 l 0 = at_ l 0 from rfl, first_f, Option.bind_some, cracknelref04_Convex.j1, if_pos (by simpa using h3)]
   ·refine ⟨b1, ⟨K + 2, fun k hk => ?_⟩, ?_⟩
    ·obtain ⟨k, rfl⟩ := fuel2 hk
     dsimp only
     rw [cracknelref04_Convex.l0, if_pos (by omega), if_pos (by omega), next_f (by omega) (by omega), Option.bind_some, wrap_succ i (by omega), next_f (by omega) (by omega), Option.bind_some, rd_at, Cross_f hBi hBn hBm, Option.bind_some, if_neg h1, if_neg (by omega), cracknelref04_Convex.j1, if_neg (by simp), wrap_succ i (by omega)]
     exact hK _ (by omega)
    ·rw [hb1]; exact ⟨fun h => ⟨⟨by omega, fun h4 => absurd h4 h2⟩, h⟩, fun h => h.2⟩
theorem refConvex_run {l : List Pt} (hb : ∀ p ∈ l, Bd p) (hn : 3 ≤ l.length) (hN : l.length ≤ 1000000) : ∃ b, Rt (fun k => cracknelref04_Convex.f k l) b ∧ (b = true ↔ Convex l) := by
 obtain ⟨b1, ⟨K1, hS⟩, hb1⟩ := refSimple_run hb hn hN
 obtain ⟨b, ⟨K2, hB⟩, hb2⟩ := refConvex_l0 hb hn hN l.length 0 (by omega)
 refine ⟨b1 && b, ⟨K1 + K2, fun k hk => ?_⟩, ?_⟩
 ·have e1 := hS k (by omega)
  have e2 := hB k (by omega)
  dsimp only at e1 e2 ⊢
  unfold cracknelref04_Convex.f
  rw [e1, Option.bind_some]
  cases b1
  ·rw [if_neg (by simp)]; rfl
  ·rw [if_pos rfl]; exact e2
 ·rw [Bool.and_eq_true, hb1, hb2]
  unfold Convex
  exact ⟨fun h => ⟨h.1, fun i hi => h.2 i (Nat.zero_le _) hi⟩, fun h => ⟨h.1, fun i _ hi => h.2 i hi⟩⟩
end Go.Proofs.Ytoffmpkgickfhaa.M
end
section
namespace Go.Proofs.Ytoffmpkgickfhaa.PG
open Go.RowKit Go.Proofs.YtoffmpkgickfhaaW.PrintWords Go.Proofs.YtoffmpkgickfhaaW.PrintLast Go.Proofs.YtoffmpkgickfhaaW.PrintMore
attribute [local go_sem] max2_int min2_int max_two min_two max_three min_three max_four min_four
set_option linter.unusedVariables false
set_option linter.unusedSimpArgs false
/-! ### cracknelref04_Area2: function 30 -/
def cracknelref04_Area2.l0 : Nat → List (S29) → Int → Int → Option (Int)
 | 0, _, _, _ => none
 | k + 1, x0, x3, x4 => if x4 < (x0.length : Int) then (if 0 ≤ x4 then ((cracknelref04_next.f x0 x4).bind fun bt102 => (cracknelref04_Area2.l0 k x0 (wrap64 (x3 + (wrap64 ((wrap64 (((rd_T29 x0 x4).f0) * bt102.2)) - (wrap64 (bt102.1 * ((rd_T29 x0 x4).f1))))))) (wrap64 (x4 + 1)))) else (none)) else (some x3)
def cracknelref04_Area2.f (k : Nat) (l0 : List (S29)) : Option (Int) := cracknelref04_Area2.l0 k l0 0 0
def cracknelref04_Area2.T5 : Bool × List (List Nat × List Nat) := (true, [([], []), ([], []), ([0, 1], [0, 1]), ([2], [2]), ([], []), ([], []), ([4, 5], [4, 5]), ([], []), ([], []), ([7, 3, 6, 0, 1, 2, 3, 7, 8], [3, 7]), ([8, 6, 9, 0, 1, 2, 3, 4, 5, 6, 7, 8, 9], [6, 8])])
def cracknelref04_Area2.B5 : List Nat := [0, 0, 3, 7, 0, 0, 48, 0, 0, 511, 1023]
theorem cracknelref04_Area2.tab5 : rtab .any (opsOf Try.f30 5) = cracknelref04_Area2.T5 := by kernel_rfl
theorem cracknelref04_Area2.bits5 : waitsOk cracknelref04_Area2.T5.2 cracknelref04_Area2.B5 = true := by kernel_rfl
set_option maxHeartbeats 8000000 in
set_option maxRecDepth 100000 in
theorem cracknelref04_Area2.calls (k : Nat) (A0 : Option Addr) (c0 : Nat) (l0 : List (S29)) (r : Int) (w : World) (hr0 : Kd.C k29 w A0 l0.length l0) (hc0 : l0.length ≤ c0) (h : cracknelref04_Area2.f k l0 = some r) :
  Calls Try.prog 30 #[.slice A0 l0.length c0] w fun e w' => e = .returned (.int .i64 r) ∧ Below w.heap.size w w' := by
 have hu29 := Try.underlying29
 have HR0 := Aside0.mk hr0
 have HC0 := Aside0.mk hc0
 clear hr0 hc0
 have HB := Aside0.mk (Below.refl w.heap.size w)
 have H : (cracknelref04_Area2.l0 k l0 0 0) = some r := h
 clear h
 have H' := Aside0.mk H
 clear H
 go_enter Try.func30, Try.ntmps30
 go_wp2
 go_loopg [3, 4] k (fun kq v3 v4 w' => ∃ (x3_1 : Int) (x4_1 : Int), v3 = .int .i64 x3_1 ∧ v4 = .int .i64 x4_1 ∧ Aside0 (cracknelref04_Area2.l0 kq l0 x3_1 x4_1 = some r) ∧ Aside0 (kq ≤ k) ∧ Aside0 (Below w.heap.size w w'))
 case atStart => exact ⟨(0), (0), sd, sd, H', ⟨Nat.le_refl _⟩, ⟨bh⟩⟩
 case round =>
  clear H'
  obtain ⟨x3_1, x4_1, rfl, rfl, HA, HK1, HB⟩ := hrel
  cases gk with
  | zero => exact absurd HA.out (by simp [cracknelref04_Area2.l0])
  | succ k1 =>
   have H := HA.out
   clear HA
   simp only [cracknelref04_Area2.l0] at H
   by_cases c2 : x4_1 < (l0.length : Int)
   ·rw [if_pos c2] at H
    have c2b0 := decide_eq_true c2
    clear c2
    replace H := oi H
    obtain ⟨c3, H⟩ := H
    have c3b0 := decide_eq_true c3
    clear c3
    replace H := Option.bind_eq_some_iff.mp H
    obtain ⟨⟨t102, t103⟩, A40, H⟩ := H
    try dsimp only at H
    have A4 := Aside0.mk A40
    clear A40
    have H' := Aside0.mk H
    clear H
    try go_wp2
    replace HB := Aside0.mk (below_drew1 HB.out)
    have p101 : 0 ≤ (x4_1 : Int) := dt
    have q101 : x4_1 < (l0.length : Int) := dt
    obtain ⟨ad101, e101, hx101_0, hx101_1⟩ := at_T29 HR0.out x4_1 p101 q101
    have hw101_1 := hx101_1
    have hw101_0 := hx101_0
    cases e101
    replace hx101_0 := hc HB hx101_0
    replace hx101_1 := hc HB hx101_1
    replace p101 := eq_true p101
    replace q101 := eq_true q101
    refine start_ (n := 11) (S := fun w' => w'.cell? (ad101.add ((x4_1).toNat * 2)) = some (.int .i64 ((rd_T29 l0 x4_1).f0)) ∧ w'.cell? ⟨(ad101.add ((x4_1).toNat * 2)).block, (ad101.add ((x4_1).toNat * 2)).off + 1, none⟩ = some (.int .i64 ((rd_T29 l0 x4_1).f1))) (ds := []) #[N,N,N,N,N,N,N,N,N,N,N] (by kernel_rfl) rfl rfl ⟨(hc HB hw101_0), (hc HB hw101_1)⟩ (fun hHeld => ?_); refine with_tabW cracknelref04_Area2.tab5 cracknelref04_Area2.bits5 (fun HT_ HW_ => ?_)
    generalize wr.drew = w5 at HB hx101_0 hx101_1 hHeld ⊢
    refine pu 0 13 HT_ ?_
    refine pu 1 14 HT_ ?_
    refine pu 2 15 HT_ ?_
    refine pu 4 17 HT_ ?_
    refine pu 5 18 HT_ ?_
    refine tk2 3 16 hHeld HT_ HW_ ?_
    refine join_ (σ := Nat × Nat) 2 #[T,T,T,T,T,T,T,T,T,N,N] (fun s_ => [(19, .agg #[.int .i64 t102, .int .i64 t103]), (5, .pointer (some ⟨s_.1, 0, none⟩)), (6, .pointer (some ⟨s_.2, 0, none⟩))]) (fun s_ w' => (w'.cell? (ad101.add ((x4_1).toNat * 2)) = some (.int .i64 ((rd_T29 l0 x4_1).f0)) ∧ w'.cell? ⟨(ad101.add ((x4_1).toNat * 2)).block, (ad101.add ((x4_1).toNat * 2)).off + 1, none⟩ = some (.int .i64 ((rd_T29 l0 x4_1).f1))) ∧ (w'.heap[s_.1]? = some (.cells #[.int .i64 0, .int .i64 0] 29 (0, 0))) ∧ (w'.heap[s_.2]? = some (.cells #[.int .i64 0, .int .i64 0] 29 (0, 0))) ∧ (w.heap.size ≤ s_.1) ∧ (w.heap.size ≤ s_.1) ∧ (s_.2 ≠ s_.1) ∧ (s_.1 ≠ s_.2) ∧ (w.heap.size ≤ s_.2) ∧ (w.heap.size ≤ s_.2) ∧ (Below w.heap.size w w')) ?_ ?_
    rotate_left
    ·intro hJ6_7_8
     refine join_ (σ := Nat) 3 #[T,T,T,T,T,T,T,T,N,N,N] (fun s_ => [(19, .agg #[.int .i64 t102, .int .i64 t103]), (5, .pointer (some ⟨s_, 0, none⟩))]) (fun s_ w' => (w'.cell? (ad101.add ((x4_1).toNat * 2)) = some (.int .i64 ((rd_T29 l0 x4_1).f0)) ∧ w'.cell? ⟨(ad101.add ((x4_1).toNat * 2)).block, (ad101.add ((x4_1).toNat * 2)).off + 1, none⟩ = some (.int .i64 ((rd_T29 l0 x4_1).f1))) ∧ (w'.heap[s_]? = some (.cells #[.int .i64 0, .int .i64 0] 29 (0, 0))) ∧ (w.heap.size ≤ s_) ∧ (w.heap.size ≤ s_) ∧ (Below w.heap.size w w')) ?_ ?_
     rotate_left
     ·intro hJ6_7
      refine join_ (σ := Nat) 3 #[T,T,T,T,T,T,T,N,T,N,N] (fun s_ => [(19, .agg #[.int .i64 t102, .int .i64 t103]), (6, .pointer (some ⟨s_, 0, none⟩))]) (fun s_ w' => (w'.cell? (ad101.add ((x4_1).toNat * 2)) = some (.int .i64 ((rd_T29 l0 x4_1).f0)) ∧ w'.cell? ⟨(ad101.add ((x4_1).toNat * 2)).block, (ad101.add ((x4_1).toNat * 2)).off + 1, none⟩ = some (.int .i64 ((rd_T29 l0 x4_1).f1))) ∧ (w'.heap[s_]? = some (.cells #[.int .i64 0, .int .i64 0] 29 (0, 0))) ∧ (w.heap.size ≤ s_) ∧ (w.heap.size ≤ s_) ∧ (Below w.heap.size w w')) ?_ ?_
      rotate_left
      ·intro hJ6_8
       refine join_ (σ := Nat × Nat) 3 #[T,T,T,T,T,T,N,T,T,N,N] (fun s_ => [(5, .pointer (some ⟨s_.1, 0, none⟩)), (6, .pointer (some ⟨s_.2, 0, none⟩))]) (fun s_ w' => (w'.cell? (ad101.add ((x4_1).toNat * 2)) = some (.int .i64 ((rd_T29 l0 x4_1).f0)) ∧ w'.cell? ⟨(ad101.add ((x4_1).toNat * 2)).block, (ad101.add ((x4_1).toNat * 2)).off + 1, none⟩ = some (.int .i64 ((rd_T29 l0 x4_1).f1))) ∧ (w'.heap[s_.1]? = some (.cells #[.int .i64 0, .int .i64 0] 29 (0, 0))) ∧ (w'.heap[s_.2]? = some (.cells #[.int .i64 0, .int .i64 0] 29 (0, 0))) ∧ (w.heap.size ≤ s_.1) ∧ (w.heap.size ≤ s_.1) ∧ (s_.2 ≠ s_.1) ∧ (s_.1 ≠ s_.2) ∧ (w.heap.size ≤ s_.2) ∧ (w.heap.size ≤ s_.2) ∧ (Below w.heap.size w w')) ?_ ?_
       rotate_left
       ·intro hJ7_8
        refine join_ (σ := Unit) 4 #[T,T,T,T,T,T,T,N,N,N,N] (fun s_ => [(19, .agg #[.int .i64 t102, .int .i64 t103])]) (fun s_ w' => (w'.cell? (ad101.add ((x4_1).toNat * 2)) = some (.int .i64 ((rd_T29 l0 x4_1).f0)) ∧ w'.cell? ⟨(ad101.add ((x4_1).toNat * 2)).block, (ad101.add ((x4_1).toNat * 2)).off + 1, none⟩ = some (.int .i64 ((rd_T29 l0 x4_1).f1))) ∧ (Below w.heap.size w w')) ?_ ?_
        rotate_left
        ·intro hJ6
         refine join_ (σ := Nat) 4 #[T,T,T,T,T,T,N,T,N,N,N] (fun s_ => [(5, .pointer (some ⟨s_, 0, none⟩))]) (fun s_ w' => (w'.cell? (ad101.add ((x4_1).toNat * 2)) = some (.int .i64 ((rd_T29 l0 x4_1).f0)) ∧ w'.cell? ⟨(ad101.add ((x4_1).toNat * 2)).block, (ad101.add ((x4_1).toNat * 2)).off + 1, none⟩ = some (.int .i64 ((rd_T29 l0 x4_1).f1))) ∧ (w'.heap[s_]? = some (.cells #[.int .i64 0, .int .i64 0] 29 (0, 0))) ∧ (w.heap.size ≤ s_) ∧ (w.heap.size ≤ s_) ∧ (Below w.heap.size w w')) ?_ ?_
         rotate_left
         ·intro hJ7
          refine join_ (σ := Nat) 4 #[T,T,T,T,T,T,N,N,T,N,N] (fun s_ => [(6, .pointer (some ⟨s_, 0, none⟩))]) (fun s_ w' => (w'.cell? (ad101.add ((x4_1).toNat * 2)) = some (.int .i64 ((rd_T29 l0 x4_1).f0)) ∧ w'.cell? ⟨(ad101.add ((x4_1).toNat * 2)).block, (ad101.add ((x4_1).toNat * 2)).off + 1, none⟩ = some (.int .i64 ((rd_T29 l0 x4_1).f1))) ∧ (w'.heap[s_]? = some (.cells #[.int .i64 0, .int .i64 0] 29 (0, 0))) ∧ (w.heap.size ≤ s_) ∧ (w.heap.size ≤ s_) ∧ (Below w.heap.size w w')) ?_ ?_
          rotate_left
          ·intro hJ8
           refine three_ (i := 6) (j := 7) (k := 8) (Ni := some 19) (Nj := some 5) (Nk := some 6) #[T,T,T,T,T,T,T,N,N,N,N] #[T,T,T,T,T,T,N,T,N,N,N] #[T,T,T,T,T,T,N,N,T,N,N] rfl rfl rfl rfl rfl rfl (on3 HT_) (by decide) (by decide) (by decide) (fun K hK => ?_) (fun K hK => ?_) (fun K hK => ?_)
           ·skip
            refine goes_ Try.func64 (by kernel_rfl) rfl #[.slice (some ad101) l0.length c0, .int .i64 x4_1] (by rfl) rfl rfl sg ?_
            with_reducible refine (cracknelref04_next.calls _ _ l0 x4_1 t102 t103 _ ?side1 ?side2 A4.out).mono ?_
            (case side1 => exact cs (Kd.C_below HR0.out HB.out))
            (case side2 => exact HC0.out)
            rintro e w6 ⟨rfl, hb⟩
            refine ⟨_, rfl, ?_⟩
            replace HB := Aside0.mk (below_step bh hb)
            (try clear hb); (try clear hb2); (try clear hk); (try clear hi)
            refine hK.out _ _ ⟨(hc HB hw101_0), (hc HB hw101_1)⟩ (fun hHeld => ?_)
            clear hK K
            refine nm 19 ?_
            exact norm_ pa (hJ6 () _ ⟨hHeld, bh⟩)
           ·skip
            refine bxs 5 #[.int .i64 0, .int .i64 0] 29 ?_
            intro gb104 hg w6 hbox hb
            have BK104 := Aside0.mk (hbox)
            have GW104 := Aside0.mk (gs hg : w.heap.size ≤ gb104)
            have GE104 := Aside0.mk (gs hg : w.heap.size ≤ gb104)
            replace HB := Aside0.mk (below_step bh hb)
            clear hb hbox hg
            refine hK.out _ _ ⟨(hc HB hw101_0), (hc HB hw101_1)⟩ (fun hHeld => ?_)
            clear hK K
            refine nm 5 ?_
            exact norm_ pa (hJ7 (gb104) _ ⟨hHeld, bk BK104, GW104.out, GE104.out, bh⟩)
           ·skip
            refine bxs 6 #[.int .i64 0, .int .i64 0] 29 ?_
            intro gb105 hg w6 hbox hb
            have BK105 := Aside0.mk (hbox)
            have GW105 := Aside0.mk (gs hg : w.heap.size ≤ gb105)
            have GE105 := Aside0.mk (gs hg : w.heap.size ≤ gb105)
            replace HB := Aside0.mk (below_step bh hb)
            clear hb hbox hg
            refine hK.out _ _ ⟨(hc HB hw101_0), (hc HB hw101_1)⟩ (fun hHeld => ?_)
            clear hK K
            refine nm 6 ?_
            exact norm_ pa (hJ8 (gb105) _ ⟨hHeld, bk BK105, GW105.out, GE105.out, bh⟩)
          ·skip
           rintro gb105 w7 ⟨hS_, h0_, h1_, h2_, h3_⟩
           have BK105 := Aside0.mk h0_
           have GW105 := Aside0.mk h1_
           have GE105 := Aside0.mk h2_
           replace HB := Aside0.mk h3_
           clear h0_ h1_ h2_ h3_
           have hHeld := hS_
           refine nn ?_
           refine two_ (i := 6) (j := 7) (Ni := some 19) (Nj := some 5) #[T,T,T,T,T,T,T,N,T,N,N] #[T,T,T,T,T,T,N,T,T,N,N] rfl rfl rfl rfl (on2 HT_) (by decide) (by decide) (fun K hK => ?_) (fun K hK => ?_)
           ·skip
            refine goes_ Try.func64 (by kernel_rfl) rfl #[.slice (some ad101) l0.length c0, .int .i64 x4_1] (by rfl) rfl rfl sg ?_
            with_reducible refine (cracknelref04_next.calls _ _ l0 x4_1 t102 t103 _ ?side1 ?side2 A4.out).mono ?_
            (case side1 => exact cs (Kd.C_below HR0.out HB.out))
            (case side2 => exact HC0.out)
            rintro e w8 ⟨rfl, hb⟩
            refine ⟨_, rfl, ?_⟩
            replace BK105 := kb BK105 hb
            replace HB := Aside0.mk (below_step bh hb)
            (try clear hb); (try clear hb2); (try clear hk); (try clear hi)
            refine hK.out _ _ ⟨(hc HB hw101_0), (hc HB hw101_1)⟩ (fun hHeld => ?_)
            clear hK K
            refine nm 19 ?_
            exact norm_ pa (hJ6_8 (gb105) _ ⟨hHeld, bk BK105, GW105.out, GE105.out, bh⟩)
           ·skip
            refine bxs 5 #[.int .i64 0, .int .i64 0] 29 ?_
            intro gb104 hg w8 hbox hb
            have BK104 := Aside0.mk (hbox)
            have GW104 := Aside0.mk (gs hg : w.heap.size ≤ gb104)
            have GE104 := Aside0.mk (gs hg : w.heap.size ≤ gb104)
            have NB105_104 := Aside0.mk ((by rw [hg]; exact Nat.ne_of_lt (kl BK105) : gb105 ≠ gb104))
            have NB104_105 := Aside0.mk ((by rw [hg]; exact Nat.ne_of_gt (kl BK105) : gb104 ≠ gb105))
            replace BK105 := kb BK105 hb
            replace HB := Aside0.mk (below_step bh hb)
            clear hb hbox hg
            refine hK.out _ _ ⟨(hc HB hw101_0), (hc HB hw101_1)⟩ (fun hHeld => ?_)
            clear hK K
            refine nm 5 ?_
            exact norm_ pa (hJ7_8 (gb104, gb105) _ ⟨hHeld, bk BK104, bk BK105, GW104.out, GE104.out, NB105_104.out, NB104_105.out, GW105.out, GE105.out, bh⟩)
         ·skip
          rintro gb104 w7 ⟨hS_, h0_, h1_, h2_, h3_⟩
          have BK104 := Aside0.mk h0_
          have GW104 := Aside0.mk h1_
          have GE104 := Aside0.mk h2_
          replace HB := Aside0.mk h3_
          clear h0_ h1_ h2_ h3_
          have hHeld := hS_
          refine nn ?_
          refine two_ (i := 6) (j := 8) (Ni := some 19) (Nj := some 6) #[T,T,T,T,T,T,T,T,N,N,N] #[T,T,T,T,T,T,N,T,T,N,N] rfl rfl rfl rfl (on2 HT_) (by decide) (by decide) (fun K hK => ?_) (fun K hK => ?_)
          ·skip
           refine goes_ Try.func64 (by kernel_rfl) rfl #[.slice (some ad101) l0.length c0, .int .i64 x4_1] (by rfl) rfl rfl sg ?_
           with_reducible refine (cracknelref04_next.calls _ _ l0 x4_1 t102 t103 _ ?side1 ?side2 A4.out).mono ?_
           (case side1 => exact cs (Kd.C_below HR0.out HB.out))
           (case side2 => exact HC0.out)
           rintro e w8 ⟨rfl, hb⟩
           refine ⟨_, rfl, ?_⟩
           replace BK104 := kb BK104 hb
           replace HB := Aside0.mk (below_step bh hb)
           (try clear hb); (try clear hb2); (try clear hk); (try clear hi)
           refine hK.out _ _ ⟨(hc HB hw101_0), (hc HB hw101_1)⟩ (fun hHeld => ?_)
           clear hK K
           refine nm 19 ?_
           exact norm_ pa (hJ6_7 (gb104) _ ⟨hHeld, bk BK104, GW104.out, GE104.out, bh⟩)
          ·skip
           refine bxs 6 #[.int .i64 0, .int .i64 0] 29 ?_
           intro gb105 hg w8 hbox hb
           have BK105 := Aside0.mk (hbox)
           have GW105 := Aside0.mk (gs hg : w.heap.size ≤ gb105)
           have GE105 := Aside0.mk (gs hg : w.heap.size ≤ gb105)
           have NB104_105 := Aside0.mk ((by rw [hg]; exact Nat.ne_of_lt (kl BK104) : gb104 ≠ gb105))
           have NB105_104 := Aside0.mk ((by rw [hg]; exact Nat.ne_of_gt (kl BK104) : gb105 ≠ gb104))
           replace BK104 := kb BK104 hb
           replace HB := Aside0.mk (below_step bh hb)
           clear hb hbox hg
           refine hK.out _ _ ⟨(hc HB hw101_0), (hc HB hw101_1)⟩ (fun hHeld => ?_)
           clear hK K
           refine nm 6 ?_
           exact norm_ pa (hJ7_8 (gb104, gb105) _ ⟨hHeld, bk BK104, bk BK105, GW104.out, GE104.out, NB105_104.out, NB104_105.out, GW105.out, GE105.out, bh⟩)
        ·skip
         rintro _ w7 ⟨hS_, h0_⟩
         replace HB := Aside0.mk h0_
         clear h0_
         have hHeld := hS_
         refine nn ?_
         refine two_ (i := 7) (j := 8) (Ni := some 5) (Nj := some 6) #[T,T,T,T,T,T,T,T,N,N,N] #[T,T,T,T,T,T,T,N,T,N,N] rfl rfl rfl rfl (on2 HT_) (by decide) (by decide) (fun K hK => ?_) (fun K hK => ?_)
         ·skip
          refine bxs 5 #[.int .i64 0, .int .i64 0] 29 ?_
          intro gb104 hg w8 hbox hb
          have BK104 := Aside0.mk (hbox)
          have GW104 := Aside0.mk (gs hg : w.heap.size ≤ gb104)
          have GE104 := Aside0.mk (gs hg : w.heap.size ≤ gb104)
          replace HB := Aside0.mk (below_step bh hb)
          clear hb hbox hg
          refine hK.out _ _ ⟨(hc HB hw101_0), (hc HB hw101_1)⟩ (fun hHeld => ?_)
          clear hK K
          refine nm 5 ?_
          exact norm_ pa (hJ6_7 (gb104) _ ⟨hHeld, bk BK104, GW104.out, GE104.out, bh⟩)
         ·skip
          refine bxs 6 #[.int .i64 0, .int .i64 0] 29 ?_
          intro gb105 hg w8 hbox hb
          have BK105 := Aside0.mk (hbox)
          have GW105 := Aside0.mk (gs hg : w.heap.size ≤ gb105)
          have GE105 := Aside0.mk (gs hg : w.heap.size ≤ gb105)
          replace HB := Aside0.mk (below_step bh hb)
          clear hb hbox hg
          refine hK.out _ _ ⟨(hc HB hw101_0), (hc HB hw101_1)⟩ (fun hHeld => ?_)
          clear hK K
          refine nm 6 ?_
          exact norm_ pa (hJ6_8 (gb105) _ ⟨hHeld, bk BK105, GW105.out, GE105.out, bh⟩)
       ·skip
        rintro ⟨gb104, gb105⟩ w8 ⟨hS_, h0_, h1_, h2_, h3_, h4_, h5_, h6_, h7_, h8_⟩
        have BK104 := Aside0.mk h0_
        have BK105 := Aside0.mk h1_
        have GW104 := Aside0.mk h2_
        have GE104 := Aside0.mk h3_
        have NB105_104 := Aside0.mk h4_
        have NB104_105 := Aside0.mk h5_
        have GW105 := Aside0.mk h6_
        have GE105 := Aside0.mk h7_
        replace HB := Aside0.mk h8_
        clear h0_ h1_ h2_ h3_ h4_ h5_ h6_ h7_ h8_
        have hHeld := hS_
        refine nn ?_
        refine one_ (i := 6) (N := some 19) #[T,T,T,T,T,T,T,T,T,N,N] rfl rfl (on1 HT_) (by decide) (fun K hK => ?_)
        refine goes_ Try.func64 (by kernel_rfl) rfl #[.slice (some ad101) l0.length c0, .int .i64 x4_1] (by rfl) rfl rfl sg ?_
        with_reducible refine (cracknelref04_next.calls _ _ l0 x4_1 t102 t103 _ ?side1 ?side2 A4.out).mono ?_
        (case side1 => exact cs (Kd.C_below HR0.out HB.out))
        (case side2 => exact HC0.out)
        rintro e w9 ⟨rfl, hb⟩
        refine ⟨_, rfl, ?_⟩
        replace BK104 := kb BK104 hb
        replace BK105 := kb BK105 hb
        replace HB := Aside0.mk (below_step bh hb)
        (try clear hb); (try clear hb2); (try clear hk); (try clear hi)
        refine hK.out _ _ ⟨(hc HB hw101_0), (hc HB hw101_1)⟩ (fun hHeld => ?_)
        clear hK K
        refine nm 19 ?_
        exact norm_ pa (hJ6_7_8 (gb104, gb105) _ ⟨hHeld, bk BK104, bk BK105, GW104.out, GE104.out, NB105_104.out, NB104_105.out, GW105.out, GE105.out, bh⟩)
      ·skip
       rintro gb105 w8 ⟨hS_, h0_, h1_, h2_, h3_⟩
       have BK105 := Aside0.mk h0_
       have GW105 := Aside0.mk h1_
       have GE105 := Aside0.mk h2_
       replace HB := Aside0.mk h3_
       clear h0_ h1_ h2_ h3_
       have hHeld := hS_
       refine nn ?_
       refine one_ (i := 7) (N := some 5) #[T,T,T,T,T,T,T,T,T,N,N] rfl rfl (on1 HT_) (by decide) (fun K hK => ?_)
       refine bxs 5 #[.int .i64 0, .int .i64 0] 29 ?_
       intro gb104 hg w9 hbox hb
       have BK104 := Aside0.mk (hbox)
       have GW104 := Aside0.mk (gs hg : w.heap.size ≤ gb104)
       have GE104 := Aside0.mk (gs hg : w.heap.size ≤ gb104)
       have NB105_104 := Aside0.mk ((by rw [hg]; exact Nat.ne_of_lt (kl BK105) : gb105 ≠ gb104))
       have NB104_105 := Aside0.mk ((by rw [hg]; exact Nat.ne_of_gt (kl BK105) : gb104 ≠ gb105))
       replace BK105 := kb BK105 hb
       replace HB := Aside0.mk (below_step bh hb)
       clear hb hbox hg
       refine hK.out _ _ ⟨(hc HB hw101_0), (hc HB hw101_1)⟩ (fun hHeld => ?_)
       clear hK K
       refine nm 5 ?_
       exact norm_ pa (hJ6_7_8 (gb104, gb105) _ ⟨hHeld, bk BK104, bk BK105, GW104.out, GE104.out, NB105_104.out, NB104_105.out, GW105.out, GE105.out, bh⟩)
     ·skip
      rintro gb104 w8 ⟨hS_, h0_, h1_, h2_, h3_⟩
      have BK104 := Aside0.mk h0_
      have GW104 := Aside0.mk h1_
      have GE104 := Aside0.mk h2_
      replace HB := Aside0.mk h3_
      clear h0_ h1_ h2_ h3_
      have hHeld := hS_
      refine nn ?_
      refine one_ (i := 8) (N := some 6) #[T,T,T,T,T,T,T,T,T,N,N] rfl rfl (on1 HT_) (by decide) (fun K hK => ?_)
      refine bxs 6 #[.int .i64 0, .int .i64 0] 29 ?_
      intro gb105 hg w9 hbox hb
      have BK105 := Aside0.mk (hbox)
      have GW105 := Aside0.mk (gs hg : w.heap.size ≤ gb105)
      have GE105 := Aside0.mk (gs hg : w.heap.size ≤ gb105)
      have NB104_105 := Aside0.mk ((by rw [hg]; exact Nat.ne_of_lt (kl BK104) : gb104 ≠ gb105))
      have NB105_104 := Aside0.mk ((by rw [hg]; exact Nat.ne_of_gt (kl BK104) : gb105 ≠ gb104))
      replace BK104 := kb BK104 hb
      replace HB := Aside0.mk (below_step bh hb)
      clear hb hbox hg
      refine hK.out _ _ ⟨(hc HB hw101_0), (hc HB hw101_1)⟩ (fun hHeld => ?_)
      clear hK K
      refine nm 6 ?_
      exact norm_ pa (hJ6_7_8 (gb104, gb105) _ ⟨hHeld, bk BK104, bk BK105, GW104.out, GE104.out, NB105_104.out, NB104_105.out, GW105.out, GE105.out, bh⟩)
    rintro ⟨gb104, gb105⟩ w9 ⟨hS_, h0_, h1_, h2_, h3_, h4_, h5_, h6_, h7_, h8_⟩
    have BK104 := Aside0.mk h0_
    have BK105 := Aside0.mk h1_
    have GW104 := Aside0.mk h2_
    have GE104 := Aside0.mk h3_
    have NB105_104 := Aside0.mk h4_
    have NB104_105 := Aside0.mk h5_
    have GW105 := Aside0.mk h6_
    have GE105 := Aside0.mk h7_
    replace HB := Aside0.mk h8_
    clear h0_ h1_ h2_ h3_ h4_ h5_ h6_ h7_ h8_
    have hHeld := hS_
    refine nn ?_
    refine one_ (i := 9) (N := none) #[T,T,T,T,T,T,T,T,T,T,N] rfl rfl (on1 HT_) (by decide) (fun K hK => ?_)
    have hs10 : w9.cell? ⟨gb104, 0, none⟩ = some (.int .i64 0) := bc BK104 0
    have hfs10 := blk_frozen BK104.out 0
    have hns10_1 := NB105_104.out
    have hms10_1 := NB104_105.out
    have hs11 : w9.cell? ⟨gb104, 1, none⟩ = some (.int .i64 0) := bc BK104 1
    have hfs11 := blk_frozen BK104.out 1
    have hns11_1 := NB105_104.out
    have hms11_1 := NB104_105.out
    refine skip_ (w1 := ?_) (by rfl) rfl ?_ ?_
    rotate_left
    ·go_simp
     rfl
    refine hK.out _ _ ⟨((cell_far (p := ⟨gb104, _, none⟩) (fr hw101_0 GW104) _).trans (((cell_far (p := ⟨gb104, _, none⟩) (fr hw101_0 GW104) _).trans (hHeld.1)))), ((cell_far (p := ⟨gb104, _, none⟩) (fr hw101_1 GW104) _).trans (((cell_far (p := ⟨gb104, _, none⟩) (fr hw101_1 GW104) _).trans (hHeld.2))))⟩ (fun hHeld => ?_)
    clear hK K
    refine one_ (i := 10) (N := none) #[T,T,T,T,T,T,T,T,T,T,T] rfl rfl (on1 HT_) (by decide) (fun K hK => ?_)
    have hs12 : w9.cell? ⟨gb105, 0, none⟩ = some (.int .i64 0) := bc BK105 0
    have hfs12 := blk_frozen BK105.out 0
    have hns12_0 := NB104_105.out
    have hms12_0 := NB105_104.out
    have hs13 : w9.cell? ⟨gb105, 1, none⟩ = some (.int .i64 0) := bc BK105 1
    have hfs13 := blk_frozen BK105.out 1
    have hns13_0 := NB104_105.out
    have hms13_0 := NB105_104.out
    refine skip_ (w1 := ?_) (by rfl) rfl ?_ ?_
    rotate_left
    ·go_simp
     rfl
    refine hK.out _ _ ⟨((cell_far (p := ⟨gb105, _, none⟩) (fr hw101_0 GW105) _).trans (((cell_far (p := ⟨gb105, _, none⟩) (fr hw101_0 GW105) _).trans (hHeld.1)))), ((cell_far (p := ⟨gb105, _, none⟩) (fr hw101_1 GW105) _).trans (((cell_far (p := ⟨gb105, _, none⟩) (fr hw101_1 GW105) _).trans (hHeld.2))))⟩ (fun hHeld => ?_)
    clear hK K
    refine done_ (done_of HT_.out (by kernel_rfl)) ?_
    have hnb14 := NB104_105.out
    have hnc14 := NB105_104.out
    obtain ⟨hcz15_0, hcz15_1, hfz15_0, hfz15_1⟩ := b2 BK104
    obtain ⟨hcz16_0, hcz16_1, hfz16_0, hfz16_1⟩ := b2 BK105
    try go_wp2
    go_roundg k1
    case measure => have := HK1.out; omega
    case rel => exact ⟨(wrap64 (x3_1 + (wrap64 ((wrap64 (((rd_T29 l0 x4_1).f0) * t103)) - (wrap64 (t102 * ((rd_T29 l0 x4_1).f1))))))), (wrap64 (x4_1 + 1)), sd, sd, H', ⟨by have := HK1.out; omega⟩, ⟨bh⟩⟩
   ·rw [if_neg c2] at H
    have c2b0 := decide_eq_false c2
    clear c2
    obtain rfl := Option.some.inj H
    go_wp2
    go_ret
    exact ⟨by exact er, bh⟩
end Go.Proofs.Ytoffmpkgickfhaa.PG
end
section
namespace Go.Proofs.Ytoffmpkgickfhaa.M
open Go.RowKit Go.Proofs.Ytoffmpkgickfhaa.PG Go.Proofs.YtoffmpkgickfhaaW.PrintMore Go.Proofs.YtoffmpkgickfhaaW.PrintWords
theorem cut_f (l : List Pt) (m : Nat) (hm : m ≤ 32) : ∃ r, cracknellaw04_cut.f l (m : Int) = some r ∧ r.length ≤ 33 := by
 unfold cracknellaw04_cut.f
 by_cases h : (l.length : Int) > 32
 ·rw [if_pos h, mn_eq, Option.bind_some, if_pos (by omega), if_pos (by omega), Option.bind_some, if_pos (by simp only [List.length_nil, List.length_take]; omega)]
  refine ⟨_, rfl, ?_⟩
  simp only [List.nil_append, List.length_take]; omega
 ·rw [if_neg h, mn_eq, Option.bind_some, if_pos (by omega), if_pos (by omega), Option.bind_some, if_pos (by simp only [List.length_nil, List.length_take]; omega)]
  refine ⟨_, rfl, ?_⟩
  simp only [List.nil_append, List.length_take]; omega
theorem valid_f (p : Pt) (m : Int) (h0 : 0 ≤ m) (h1 : m ≤ 1000000) : cracknelref04_Valid.f p.f0 p.f1 m = some (decide (In m p)) := by
 unfold cracknelref04_Valid.f
 rw [wz _ (by omega) (by omega), in_f, Option.bind_some, in_f]
 by_cases h : -m ≤ p.f0 ∧ p.f0 ≤ m
 ·rw [if_pos (by simpa using h), Option.bind_some]
  congr 1; rw [decide_eq_decide]; unfold In; omega
 ·rw [if_neg (by simpa using h)]
  congr 1; symm; rw [decide_eq_false_iff_not]; unfold In; omega
theorem refPolygon_l0 (l : List Pt) (hN : l.length ≤ 1000000) : ∀ d i, l.length = i + d → ∃ b, Rt (fun k => cracknelref04_Polygon.l0 k l (i : Int)) b ∧ (b = true ↔ ((∀ i', i ≤ i' → i' < l.length → In 10000 (at_ l i')) ∧ 3 ≤ l.length ∧ l.length ≤ 32)) := by
 intro d
 induction d with
 | zero =>
  intro i hi
  refine ⟨decide (3 ≤ l.length ∧ l.length ≤ 32), ⟨0 + 1, fun k hk => ?_⟩, ?_⟩
  ·obtain ⟨k, rfl⟩ := fuel1 hk
   dsimp only; rw [cracknelref04_Polygon.l0, if_neg (by omega), in_f, Option.bind_some]
   congr 1; rw [decide_eq_decide]; omega
  ·rw [decide_eq_true_eq]
   exact ⟨fun h => ⟨fun i' h1 h2 => by omega, by omega⟩, fun h => by omega⟩
 | succ d ih =>
  intro i hi
  have hlt : i < l.length := by omega
  obtain ⟨b, ⟨K, hK⟩, hb⟩ := ih (i + 1) (by omega)
  rw [from_split hlt]
  by_cases h : In 10000 (at_ l i)
  ·refine ⟨b, ⟨K + 1, fun k hk => ?_⟩, ?_⟩
   ·obtain ⟨k, rfl⟩ := fuel1 hk
    dsimp only; rw [cracknelref04_Polygon.l0, if_pos (by omega), if_pos (by omega), rd_at, valid_f _ _ (by omega) (by omega), Option.bind_some, if_pos (by simpa using h), wrap_succ i (by omega)]
    exact hK k (by omega)
   ·rw [hb]
    exact ⟨fun h1 => ⟨⟨h, h1.1⟩, h1.2⟩, fun h1 => ⟨h1.1.2, h1.2⟩⟩
  ·refine ⟨false, ⟨0 + 1, fun k hk => ?_⟩, ⟨fun h1 => by simp at h1, fun h1 => absurd h1.1.1 h⟩⟩
   obtain ⟨k, rfl⟩ := fuel1 hk
   dsimp only; rw [cracknelref04_Polygon.l0, if_pos (by omega), if_pos (by omega), rd_at, valid_f _ _ (by omega) (by omega), Option.bind_some, if_neg (by simpa using h)]
theorem refPolygon_run (l : List Pt) (hN : l.length ≤ 1000000) : Rt (fun k => cracknelref04_Polygon.f k l) (decide (Poly l)) := by
 obtain ⟨b, ⟨K, hK⟩, hb⟩ := refPolygon_l0 l hN l.length 0 (by omega)
 refine ⟨K, fun k hk => ?_⟩
 have := hK k hk
 unfold cracknelref04_Polygon.f
 dsimp only at this ⊢
 rw [show (0 : Int) = ((0 : Nat) : Int) from rfl, this]
 congr 1; rw [Bool.eq_iff_iff, hb, decide_eq_true_eq]
 unfold Poly
 constructor
 ·rintro ⟨h1, h2, h3⟩
  refine ⟨h2, h3, fun p hp => ?_⟩
  obtain ⟨j, hj, rfl⟩ := List.mem_iff_getElem.mp hp
  rw [← at_eq hj]; exact h1 j (Nat.zero_le _) hj
 ·rintro ⟨h1, h2, h3⟩
  exact ⟨fun i _ hi => h3 _ (at_mem hi), h1, h2⟩
end Go.Proofs.Ytoffmpkgickfhaa.M
end
section
namespace Go.Proofs.Ytoffmpkgickfhaa.M
open Go.RowKit Go.Proofs.Ytoffmpkgickfhaa.PG Go.Proofs.YtoffmpkgickfhaaW.PrintMore Go.Proofs.YtoffmpkgickfhaaW.PrintWords
theorem sort5 : slices_SortFunc_xy.f [(⟨0, 0⟩ : S29), (⟨1, 0⟩ : S29), (⟨2, 0⟩ : S29), (⟨0, 2⟩ : S29), (⟨1, 1⟩ : S29)] = some [(⟨0, 0⟩ : S29), (⟨0, 2⟩ : S29), (⟨1, 0⟩ : S29), (⟨1, 1⟩ : S29), (⟨2, 0⟩ : S29)] := by
 simp [slices_SortFunc_xy.f, List.mergeSort, List.MergeSort.Internal.splitInTwo, xyLt]
theorem area_ok (k : Nat) : shape_Area2.f (k + 60) [(⟨0, 0⟩ : S29), (⟨2, 0⟩ : S29), (⟨2, 2⟩ : S29), (⟨0, 2⟩ : S29)] = some (8, 0) := by kernel_rfl
theorem simple_ok (k : Nat) : shape_simple.f (k + 60) [(⟨0, 0⟩ : S29), (⟨2, 0⟩ : S29), (⟨2, 2⟩ : S29), (⟨0, 2⟩ : S29)] = some true := by kernel_rfl
theorem lattice_l0 (k : Nat) : shape_Lattice.l0 (k + 60) [(⟨0, 0⟩ : S29), (⟨2, 0⟩ : S29), (⟨2, 2⟩ : S29), (⟨0, 2⟩ : S29)] 0 4 0 = some (1, 8, 0) := by kernel_rfl
theorem lattice_ok (k : Nat) : shape_Lattice.f (k + 60) [(⟨0, 0⟩ : S29), (⟨2, 0⟩ : S29), (⟨2, 2⟩ : S29), (⟨0, 2⟩ : S29)] = some (1, 8, 0) := by
 unfold shape_Lattice.f shape_refused_simple.f
 rw [simple_ok, show shape_polygon.f [(⟨0, 0⟩ : S29), (⟨2, 0⟩ : S29), (⟨2, 2⟩ : S29), (⟨0, 2⟩ : S29)] = some true by decide +kernel, Option.bind_some, if_pos rfl, Option.bind_some, if_pos rfl, Option.bind_some, if_pos rfl]
 exact lattice_l0 k
theorem same_ok (k : Nat) : cracknelref04_Same.f (k + 60) [(⟨0, 0⟩ : S29), (⟨2, 0⟩ : S29), (⟨0, 2⟩ : S29)] [(⟨0, 0⟩ : S29), (⟨2, 0⟩ : S29), (⟨0, 2⟩ : S29)] = some true := by kernel_rfl
theorem hull_rest (k : Nat) : shape_Hull.j0 (k + 60) [(⟨0, 0⟩ : S29), (⟨1, 0⟩ : S29), (⟨2, 0⟩ : S29), (⟨0, 2⟩ : S29), (⟨1, 1⟩ : S29)] false = some ([(⟨0, 0⟩ : S29), (⟨2, 0⟩ : S29), (⟨0, 2⟩ : S29)], 0) := by
 rw [show k + 60 = (k + 59) + 1 from rfl, shape_Hull.j0, if_neg (by simp), show slices_Clone.f [(⟨0, 0⟩ : S29), (⟨1, 0⟩ : S29), (⟨2, 0⟩ : S29), (⟨0, 2⟩ : S29), (⟨1, 1⟩ : S29)] = some [(⟨0, 0⟩ : S29), (⟨1, 0⟩ : S29), (⟨2, 0⟩ : S29), (⟨0, 2⟩ : S29), (⟨1, 1⟩ : S29)] by decide +kernel, Option.bind_some, sort5, Option.bind_some]
 kernel_rfl
theorem hull_pre (k : Nat) : shape_Hull.f k [(⟨0, 0⟩ : S29), (⟨1, 0⟩ : S29), (⟨2, 0⟩ : S29), (⟨0, 2⟩ : S29), (⟨1, 1⟩ : S29)] = shape_Hull.j0 k [(⟨0, 0⟩ : S29), (⟨1, 0⟩ : S29), (⟨2, 0⟩ : S29), (⟨0, 2⟩ : S29), (⟨1, 1⟩ : S29)] false := by
 unfold shape_Hull.f
 rw [show shape_within.f [(⟨0, 0⟩ : S29), (⟨1, 0⟩ : S29), (⟨2, 0⟩ : S29), (⟨0, 2⟩ : S29), (⟨1, 1⟩ : S29)] 10000 = some true by decide +kernel, Option.bind_some]
 simp only [List.length_cons, List.length_nil]
 rw [if_neg (by omega), if_neg (by omega)]
 rfl
theorem lives_ok (k : Nat) (hk : 60 ≤ k) : cracknellaw04_lives.f k = some true := by
 obtain ⟨d, rfl⟩ : ∃ d, k = d + 60 := ⟨k - 60, by omega⟩
 unfold cracknellaw04_lives.f
 rw [hull_pre, hull_rest, Option.bind_some, area_ok, lattice_ok]
 simp only [Option.bind_some, if_true, same_ok]
end Go.Proofs.Ytoffmpkgickfhaa.M
end
section
namespace Go.Proofs.Ytoffmpkgickfhaa.M
open Go.RowKit Go.Proofs.Ytoffmpkgickfhaa.PG Go.Proofs.YtoffmpkgickfhaaW.PrintMore Go.Proofs.YtoffmpkgickfhaaW.PrintWords
theorem against_convex (r : List Pt) (hl : r.length ≤ 1000000) : ∃ c : Int, Rt (fun k => shape_refused_normal.f k r) c ∧ Rt (fun k => cracknellaw04_convex.f k r) c ∧ (c = 0 ↔ Poly r ∧ Convex r) := by
 obtain ⟨K1, h1⟩ := refPolygon_run r hl
 by_cases hp : Poly r
 ·have hb : ∀ p ∈ r, Bd p := fun p h => in_bd (hp.2.2 p h)
  obtain ⟨b4, ⟨K4, h4⟩, i4⟩ := normal_run hb hp.1 hl
  obtain ⟨b5, ⟨K5, h5⟩, i5⟩ := refConvex_run hb hp.1 hl
  have e1 : b4 = b5 := by rw [Bool.eq_iff_iff, i4, i5]
  subst e1
  refine ⟨if b4 = true then 0 else 2, ⟨K4, fun k hk => ?_⟩, ⟨K1 + K5, fun k hk => ?_⟩, ?_⟩
  ·have a4 := h4 k hk
   dsimp only at a4 ⊢
   unfold shape_refused_normal.f
   rw [polygon_f, Option.bind_some, if_pos (by simpa using hp), a4, Option.bind_some]
   cases b4 <;> rfl
  ·have a1 := h1 k (by omega)
   have a5 := h5 k (by omega)
   dsimp only at a1 a5 ⊢
   unfold cracknellaw04_convex.f
   rw [a1, Option.bind_some, if_pos (by simpa using hp), a5, Option.bind_some]
   cases b4 <;> rfl
  ·rw [← i4]; cases b4 <;> simp [hp]
 ·refine ⟨1, ⟨0, fun k hk => ?_⟩, ⟨K1, fun k hk => ?_⟩, ?_⟩
  ·dsimp only
   unfold shape_refused_normal.f
   rw [polygon_f, Option.bind_some, if_neg (by simpa using hp)]
  ·have a1 := h1 k (by omega)
   dsimp only at a1 ⊢
   unfold cracknellaw04_convex.f
   rw [a1, Option.bind_some, if_neg (by simpa using hp)]
  ·simp [hp]
theorem pairs_of {R : Pt → Pt → Prop} : ∀ (l : List Pt), (∀ i, i + 1 < l.length → R (at_ l i) (at_ l (i + 1))) → Pairs R l := by
 intro l
 induction l with
 | nil => intro _; trivial
 | cons a r ih =>
  intro h
  cases r with
  | nil => trivial
  | cons b r =>
   refine ⟨h 0 (by simp), ih (fun i hi => ?_)⟩
   exact h (i + 1) (by simp only [List.length_cons] at *; omega)
theorem strong_ring {l : List Pt} (h3 : 3 ≤ l.length) (h : Strong l) : Ring l l := by
 match l, h3, h with
 | a :: t, h3, h =>
  have hn : ∀ i, i < (a :: t).length → HE (a :: t) (at_ (a :: t) i) (at_ (a :: t) ((i + 1) % (a :: t).length)) := by
   intro i hi
   refine ⟨h.1 i hi, at_mem hi, at_mem (Nat.mod_lt _ (by omega)), fun p hp => ?_⟩
   obtain ⟨k, hk, e⟩ := List.mem_iff_getElem.mp hp
   rw [← at_eq hk] at e
   subst e
   obtain ⟨s1, s2⟩ := h.2.2 i k hi hk
   refine ⟨s1, fun h0 => ?_⟩
   rcases s2 h0 with e | e
   ·rw [e]; exact btw_start _ _
   ·rw [e]; exact btw_end _ _
  refine ⟨a, t, rfl, fun hm => ?_, pairs_of _ (fun i hi => ?_)⟩
  ·obtain ⟨k, hk, e⟩ := List.mem_iff_getElem.mp hm
   have := h.2.1 0 (k + 1) (by omega) (by simp only [List.length_cons]; omega) (by
    have e1 : at_ (a :: t) 0 = a := rfl
    have e2 : at_ (a :: t) (k + 1) = at_ t k := rfl
    rw [e1, e2, at_eq hk, e])
   omega
  ·have hl : (a :: (t ++ [a])).length = (a :: t).length + 1 := by simp
   have hi' : i < (a :: t).length := by omega
   have e1 : at_ (a :: (t ++ [a])) i = at_ (a :: t) i := by
    show at_ ((a :: t) ++ [a]) i = _
    unfold at_; rw [List.getD_eq_getElem?_getD, List.getElem?_append_left hi', ← List.getD_eq_getElem?_getD]
   have e2 : at_ (a :: (t ++ [a])) (i + 1) = at_ (a :: t) ((i + 1) % (a :: t).length) := by
    show at_ ((a :: t) ++ [a]) (i + 1) = _
    by_cases hl2 : i + 1 < (a :: t).length
    ·rw [Nat.mod_eq_of_lt hl2]; unfold at_; rw [List.getD_eq_getElem?_getD, List.getElem?_append_left hl2, ← List.getD_eq_getElem?_getD]
    ·have : i + 1 = (a :: t).length := by omega
     rw [this, Nat.mod_self]; exact snoc_last (a :: t) a
   rw [e1, e2]; exact hn i hi'
theorem convex_nf {l : List Pt} (hp : Poly l) (hc : Convex l) : Nf 10000 l := by
 obtain ⟨h3, h32, hin⟩ := hp
 obtain ⟨hs, ht⟩ := hc
 have hin' : ∀ i, i < l.length → In 10000 (at_ l i) := fun i hi => hin _ (at_mem hi)
 have eP : ∀ i, P l (i + 1) = at_ l ((i + 1) % l.length) := fun i => rfl
 have dist : ∀ i j, i < j → j < l.length → at_ l i ≠ at_ l j := by
  intro i j hij hj e
  by_cases h1 : j = i + 1
  ·have := hs.1 i (by omega)
   rw [Nat.mod_eq_of_lt (by omega)] at this
   subst h1; exact this e
  ·by_cases h2 : i = 0 ∧ j + 1 = l.length
   ·have := hs.1 j hj
    rw [h2.2, Nat.mod_self] at this
    rw [h2.1] at e; exact this e.symm
   ·have := (hs.2 i (by omega)).2.2 j (by omega) hj (by
     by_cases h3 : j + 1 = l.length
     ·rw [h3, Nat.mod_self]; omega
     ·rw [Nat.mod_eq_of_lt (by omega)]; omega)
    apply this
    left
    rw [← e]
    exact ⟨cr_self1 _ _, btw_start _ _⟩
 have lev : ∀ u v : Pt, In 10000 u → In 10000 v → u ≠ v → ph 1 10000000 (vec u v) ≠ 0 := by
  intro u v hu hv hne e
  apply hne
  unfold In at hu hv
  unfold ph vec at e
  dsimp only at e
  apply pt_ext <;> omega
 have free : Free 1 10000000 l := by
  refine ⟨h3, fun i j hij hj hn => ?_, fun i j h1 h2 h4 => ?_⟩
  ·unfold F
   by_cases e : j = l.length
   ·rw [e, P_len, P_lt (by omega), P_lt (by omega)]
    exact lev _ _ (hin' _ (by omega)) (hin' _ (by omega)) (fun h => dist 0 i (by omega) (by omega) h.symm)
   ·rw [P_lt (by omega), P_lt (by omega)]
    exact lev _ _ (hin' _ (by omega)) (hin' _ (by omega)) (dist i j hij (by omega))
  ·have := (hs.2 i (by omega)).2.2 j h1 h2 (by
    by_cases h3 : j + 1 = l.length
    ·rw [h3, Nat.mod_self]; omega
    ·rw [Nat.mod_eq_of_lt (by omega)]; omega)
   rw [eP, eP, P_lt (by omega), P_lt h2]; exact this
 have low : ∀ j, 0 < j → j < l.length → 0 < ph 1 10000000 (F l 0 j) := by
  intro j h0 hj
  have := (fn_first (in_bd (hin' 0 (by omega))) (in_bd (hin' j hj))).mp ((ht j hj).2 h0)
  unfold F; rw [P_lt (by omega), P_lt hj]; exact this
 have left : ∀ i, 0 < cx (ed l i) (ed l (i + 1)) := by
  intro i
  have n0 : 0 < l.length := by omega
  have t := (ht (i % l.length) (Nat.mod_lt _ n0)).1
  have e1 : at_ l ((i % l.length + 1) % l.length) = P l (i + 1) := by unfold P; rw [Nat.mod_add_mod]
  have e2 : at_ l ((i % l.length + 1 + 1) % l.length) = P l (i + 1 + 1) := by unfold P; rw [show i % l.length + 1 + 1 = i % l.length + 2 by omega, Nat.mod_add_mod]
  have e0 : at_ l (i % l.length) = P l i := rfl
  rw [e0, e1, e2] at t
  unfold cr at t; unfold ed cx vec; dsimp only; grind
 have st := sorted_strong h3 (fun i hi => turn_sorted free low left i hi)
 refine ⟨strong_ring h3 st, fun hf => ?_, fun p hp => ?_, hin⟩
 ·have := strong_turn h3 st 0 (by omega)
  rw [hf _ (at_mem (by omega)) _ (at_mem (Nat.mod_lt _ (by omega))) _ (at_mem (Nat.mod_lt _ (by omega)))] at this; omega
 ·obtain ⟨k, hk, e⟩ := List.mem_iff_getElem.mp hp
  rw [← at_eq hk] at e
  subst e
  by_cases h0 : k = 0
  ·subst h0; exact Or.inl rfl
  ·exact Or.inr ((ht k hk).2 (by omega))
theorem refNegative_run {a h : List Pt} (hb : ∀ p ∈ a, In 10000 p) (hl : a.length ≤ 1000) {b : Bool} (hh : Rt (fun k => cracknelref04_Hull.f k (negs a)) (h, b)) : Rt (fun k => cracknelref04_Negative.f k a) h := by
 have H : ∀ d i (x : List Pt), i + d = a.length → x.length = i → x ++ negs (a.drop i) = negs a → Rt (fun k => cracknelref04_Negative.l0 k a x (i : Int)) h := by
  intro d
  induction d with
  | zero =>
   intro i x hi hx e
   have e1 : x = negs a := by rw [← e, List.drop_of_length_le (by omega)]; simp [negs]
   obtain ⟨K, hK⟩ := hh
   refine ⟨K + 1, fun k hk => ?_⟩
   obtain ⟨k, rfl⟩ := fuel1 hk
   have a1 := hK k (by omega)
   dsimp only at a1 ⊢
   rw [cracknelref04_Negative.l0, if_neg (by omega), e1, a1, Option.bind_some]
  | succ d ih =>
   intro i x hi hx e
   obtain ⟨b0, b1, b2, b3⟩ := hb _ (at_mem (show i < a.length by omega))
   refine rt_step (fun k => ?_) (ih (i + 1) (x ++ [neg (at_ a i)]) (by omega) (by simp [hx]) (by
    rw [← e, drop_at (show i < a.length by omega)]; simp [negs]))
   rw [cracknelref04_Negative.l0, if_pos (by omega), if_pos (by omega), if_pos (by omega), rd_at, wz _ (by omega) (by omega), wz _ (by omega) (by omega), wrap_succ i (by omega)]; rfl
 obtain ⟨K, hK⟩ := H a.length 0 [] (by omega) rfl (by simp)
 exact ⟨K, fun k hk => hK k hk⟩
theorem sums_length (a b : List Pt) : (sums a b).length = a.length * b.length := by
 induction a with
 | nil => simp [sums]
 | cons x a ih =>
  have e : sums (x :: a) b = b.map (plus x) ++ sums a b := rfl
  rw [e, List.length_append, ih, List.length_map, List.length_cons, Nat.succ_mul, Nat.add_comm]
theorem refSum_run {a b h : List Pt} (ha : ∀ p ∈ a, In 10000 p) (hb : ∀ p ∈ b, In 10000 p) (la : a.length ≤ 100) (lb : b.length ≤ 100) {c : Bool} (hh : Rt (fun k => cracknelref04_Hull.f k (sums a b)) (h, c)) : Rt (fun k => cracknelref04_Sum.f k a b) h := by
 have H : ∀ d i (x : List Pt), i + d = a.length → x.length ≤ i * 100 → x ++ sums (a.drop i) b = sums a b → Rt (fun k => cracknelref04_Sum.l0 k a b x (i : Int)) h := by
  intro d
  induction d with
  | zero =>
   intro i x hi hx e
   have e1 : x = sums a b := by rw [← e, List.drop_of_length_le (by omega)]; simp [sums]
   obtain ⟨K, hK⟩ := hh
   refine ⟨K + 1, fun k hk => ?_⟩
   obtain ⟨k, rfl⟩ := fuel1 hk
   have a1 := hK k (by omega)
   dsimp only at a1 ⊢
   rw [cracknelref04_Sum.l0, if_neg (by omega), e1, a1, Option.bind_some]
  | succ d ih =>
   intro i x hi hx e
   obtain ⟨a0, a1, a2, a3⟩ := ha _ (at_mem (show i < a.length by omega))
   have I : ∀ d' j (y : List Pt), j + d' = b.length → y.length ≤ i * 100 + j → y ++ (b.drop j).map (plus (at_ a i)) ++ sums (a.drop (i + 1)) b = sums a b → Rt (fun k => cracknelref04_Sum.l1 k a b y (i : Int) (j : Int)) h := by
    intro d'
    induction d' with
    | zero =>
     intro j y hj hy e2
     refine rt_step (fun k => ?_) (ih (i + 1) y (by omega) (by omega) (by
      rw [← e2, List.drop_of_length_le (show b.length ≤ j by omega)]; simp))
     rw [cracknelref04_Sum.l1, if_neg (by omega), wrap_succ i (by omega)]
    | succ d' ih' =>
     intro j y hj hy e2
     obtain ⟨b0, b1, b2, b3⟩ := hb _ (at_mem (show j < b.length by omega))
     refine rt_step (fun k => ?_) (ih' (j + 1) (y ++ [plus (at_ a i) (at_ b j)]) (by omega) (by simp; omega) (by
      rw [← e2, drop_at (show j < b.length by omega)]; simp))
     rw [cracknelref04_Sum.l1, if_pos (by omega), if_pos (by omega), if_pos (by omega), if_pos (by omega), if_pos (by omega), rd_at, rd_at, wz _ (by omega) (by omega), wz _ (by omega) (by omega), wrap_succ j (by omega)]; rfl
   refine rt_step (fun k => ?_) (I b.length 0 x (by omega) (by omega) (by
    rw [← e, drop_at (show i < a.length by omega)]; simp [sums]))
   rw [cracknelref04_Sum.l0, if_pos (by omega)]; rfl
 obtain ⟨K, hK⟩ := H a.length 0 [] (by omega) (by simp) (by simp)
 exact ⟨K, fun k hk => hK k hk⟩
theorem Sum_bad1 {a b : List Pt} {c : Int} (h : Rt (fun k => shape_refused_normal.f k a) c) (hc : c ≠ 0) : Rt (fun k => shape_Sum.f k a b) ([], c) := by
 obtain ⟨K, hK⟩ := h
 refine ⟨K + 1, fun k hk => ?_⟩
 obtain ⟨k, rfl⟩ := fuel1 hk
 have a1 := hK k (by omega)
 have ln : (([a, b] : List (List S29)).length : Int) = 2 := rfl
 have r0 : rd_L2 [a, b] 0 = a := rfl
 dsimp only at a1 ⊢
 unfold shape_Sum.f
 rw [Option.bind_some, ln, shape_Sum.l0, ln, if_pos (by omega), if_pos (by omega), if_pos (by omega), r0, a1, Option.bind_some, if_neg hc]
theorem Sum_bad2 {a b : List Pt} {c : Int} (h0 : Rt (fun k => shape_refused_normal.f k a) 0) (h : Rt (fun k => shape_refused_normal.f k b) c) (hc : c ≠ 0) : Rt (fun k => shape_Sum.f k a b) ([], c) := by
 obtain ⟨K, hK⟩ := h
 obtain ⟨K0, hK0⟩ := h0
 refine ⟨K + K0 + 2, fun k hk => ?_⟩
 obtain ⟨k, rfl⟩ := fuel2 hk
 have a0 := hK0 (k + 1) (by omega)
 have a1 := hK k (by omega)
 have ln : (([a, b] : List (List S29)).length : Int) = 2 := rfl
 have r0 : rd_L2 [a, b] 0 = a := rfl
 have r1 : rd_L2 [a, b] 1 = b := rfl
 have w1 : wrap64 (0 + 1) = 1 := by unfold wrap64; omega
 dsimp only at a1 a0 ⊢
 unfold shape_Sum.f
 rw [Option.bind_some, ln, shape_Sum.l0, ln, if_pos (by omega), if_pos (by omega), if_pos (by omega), r0, a0, Option.bind_some, if_pos rfl, w1, shape_Sum.l0, ln, if_pos (by omega), if_pos (by omega), if_pos (by omega), r1, a1, Option.bind_some, if_neg hc]
theorem Negative_bad {a : List Pt} {c : Int} (h : Rt (fun k => shape_refused_normal.f k a) c) (hc : c ≠ 0) : Rt (fun k => shape_Negative.f k a) ([], c) := by
 obtain ⟨K, hK⟩ := h
 refine ⟨K, fun k hk => ?_⟩
 have a1 := hK k (by omega)
 dsimp only at a1 ⊢
 unfold shape_Negative.f
 rw [a1, Option.bind_some, if_neg hc]
theorem same_eq {a b : List Pt} (hN : a.length ≤ 1000000) (e : a = b) : Rt (fun k => cracknelref04_Same.f k a b) true := by
 obtain ⟨c, h, i⟩ := same_run a b hN
 rw [i.mpr e] at h; exact h
theorem sums_plain (x y : List S29) : ∃ k, cracknellaw04_ShapeSums.f k x y = some true := by
 obtain ⟨a, ha, la⟩ := cut_f x 12 (by omega)
 obtain ⟨b, hb, lb⟩ := cut_f y 12 (by omega)
 obtain ⟨c1, r1, ⟨K1, h1⟩, i1⟩ := against_convex a (by omega)
 obtain ⟨c2, r2, ⟨K2, h2⟩, i2⟩ := against_convex b (by omega)
 by_cases h0 : c1 = 0
 ·obtain ⟨pa, ca⟩ := i1.mp h0
  have na := convex_nf pa ca
  have la' := pa.2.1
  rw [h0] at r1 h1
  obtain ⟨n, ⟨K3, h3⟩, rn, nn, ln⟩ := Negative_run na (by omega) la'
  have fn_ : ¬ Flat (negs a) := fun h => na.flat (neg_flat h)
  have lna : (negs a).length = a.length := by unfold negs; rw [List.length_map]
  have inN : ∀ p ∈ negs a, In 10000 p := fun p hp => by
   have := na.inb _ (negs_mem.mp hp); unfold In neg at *; dsimp only at *; omega
  obtain ⟨n', hn', rn', mn'⟩ := (refHull_run (l := negs a) (fun p hp => in_bd (inN p hp)) (by omega) (by have := pa.1; omega)).2 fn_
  obtain ⟨K4, h4⟩ := refNegative_run na.inb (by omega) hn'
  have en : n = n' := rings_one fn_ rn rn' nn.first_k mn'
  obtain ⟨K5, h5⟩ := same_eq (show n.length ≤ 1000000 by omega) en
  have start : ∀ (s : List Pt) (e : Int), Rt (fun k => shape_Sum.f k a b) (s, e) → Rt (fun k => cracknellaw04_ShapeSums.j0 k a b s e false) true → ∃ k, cracknellaw04_ShapeSums.f k x y = some true := by
   rintro s e ⟨K6, h6⟩ ⟨K7, h7⟩
   refine ⟨K1 + K3 + K4 + K5 + K6 + K7 + 60, ?_⟩
   generalize hk : K1 + K3 + K4 + K5 + K6 + K7 + 60 = k
   have a1 := h1 k (by omega)
   have a3 := h3 k (by omega)
   have a4 := h4 k (by omega)
   have a5 := h5 k (by omega)
   have a6 := h6 k (by omega)
   have a7 := h7 k (by omega)
   have a8 := lives_ok k (by omega)
   dsimp only at a1 a3 a4 a5 a6 a7
   unfold cracknellaw04_ShapeSums.f
   rw [show (12 : Int) = ((12 : Nat) : Int) from rfl, ha, Option.bind_some, hb, Option.bind_some, a6, Option.bind_some, a3, Option.bind_some, a1, Option.bind_some, if_pos rfl, a4, Option.bind_some, a5, Option.bind_some, if_pos rfl, if_pos rfl, a8, Option.bind_some]
   exact a7
  by_cases h00 : c2 = 0
  ·obtain ⟨pb, cb⟩ := i2.mp h00
   have nb := convex_nf pb cb
   have lb' := pb.2.1
   rw [h00] at r2 h2
   obtain ⟨s, g1, g2, g3, g4⟩ := Sum_run (na.cvx (by omega)) (nb.cvx (by omega)) (sums_ok a b) (na.bd (by omega)) (nb.bd (by omega)) (by omega) (by omega) r1 r2
   have bS : ∀ s ∈ sums a b, Bd s := by
    intro s hs
    obtain ⟨x, hx, y, hy, rfl⟩ := sums_mem.mp hs
    have i1 := na.inb x hx
    have i2 := nb.inb y hy
    unfold In at i1 i2; unfold Bd plus; dsimp only; omega
   have lS : (sums a b).length ≤ 1000000 ∧ 0 < (sums a b).length := by
    rw [sums_length a b]
    have h1 := pa.1
    have h2 := pb.1
    exact ⟨Nat.le_trans (Nat.mul_le_mul la' lb') (by omega), Nat.mul_pos (by omega) (by omega)⟩
   have fS : ¬ Flat (sums a b) := fun h => na.flat (sums_flat (by have := nb.three; omega) h)
   have s3 := ring_three g2 fS
   have m0 := ring_sub g2 _ (at_mem (show 0 < s.length by omega))
   have lo : ∀ p ∈ sums a b, p = at_ s 0 ∨ first (at_ s 0) p := fun p hp => (g3 p hp).imp id (fun e => (fn_first (bS _ m0) (bS p hp)).mpr e)
   obtain ⟨s', hs', rs', ms'⟩ := (refHull_run (l := sums a b) bS lS.1 lS.2).2 fS
   have es : s = s' := rings_one fS g2 rs' (first_at g2 (by omega) lo) ms'
   obtain ⟨K8, h8⟩ := refSum_run na.inb nb.inb (by omega) (by omega) hs'
   obtain ⟨K9, h9⟩ := same_eq (show s.length ≤ 1000000 by omega) es
   refine start s 0 g1 ⟨K2 + K8 + K9 + 1, fun k hk => ?_⟩
   obtain ⟨k, rfl⟩ := fuel1 hk
   have a2 := h2 k (by omega)
   have a8 := h8 k (by omega)
   have a9 := h9 k (by omega)
   dsimp only at a2 a8 a9 ⊢
   rw [cracknellaw04_ShapeSums.j0, if_neg (by simp), a2, Option.bind_some, if_pos rfl, a8, Option.bind_some, a9, Option.bind_some, if_pos rfl]; rfl
  ·refine start [] c2 (Sum_bad2 r1 r2 h00) ⟨K2 + 1, fun k hk => ?_⟩
   obtain ⟨k, rfl⟩ := fuel1 hk
   have a2 := h2 k (by omega)
   dsimp only at a2 ⊢
   rw [cracknellaw04_ShapeSums.j0, if_neg (by simp), a2, Option.bind_some, if_neg h00, if_pos (by simp)]; simp
 ·obtain ⟨K3, h3⟩ := Sum_bad1 (b := b) r1 h0
  obtain ⟨K4, h4⟩ := Negative_bad r1 h0
  refine ⟨K1 + K3 + K4 + 60, ?_⟩
  have a1 := h1 (K1 + K3 + K4 + 60) (by omega)
  have a3 := h3 (K1 + K3 + K4 + 60) (by omega)
  have a4 := h4 (K1 + K3 + K4 + 60) (by omega)
  have a8 := lives_ok (K1 + K3 + K4 + 60) (by omega)
  dsimp only at a1 a3 a4
  unfold cracknellaw04_ShapeSums.f
  rw [show (12 : Int) = ((12 : Nat) : Int) from rfl, ha, Option.bind_some, hb, Option.bind_some, a3, Option.bind_some, a4, Option.bind_some, a1, Option.bind_some, if_neg h0]
  dsimp only
  rw [if_pos (by simp [wrap64]), if_pos rfl, if_pos rfl, a8, Option.bind_some]
end Go.Proofs.Ytoffmpkgickfhaa.M
end
