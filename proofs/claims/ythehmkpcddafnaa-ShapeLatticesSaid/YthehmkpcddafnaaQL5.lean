/- Parts of the proof of YthehmkpcddafnaaLawShapeLattices: printed walks, their words, and plain laws. -/
import Derived.Test.YthehmkpcddafnaaQL4
import Derived.Test.YthehmkpcddafnaaQL2
import Derived.Test.YthehmkpcddafnaaQL3
import Derived.Test.YthehmkpcddafnaaQL1
import Derived.KernelRfl
section
namespace Go.Proofs.Ythehmkpcddafnaa.M
open Go.Proofs.Ythehmkpcddafnaa.PG
theorem near_gen (E : List (Pt × Pt)) (ne : ∀ e ∈ E, e.1 ≠ e.2) (p : Pt) : ∃ (K : Int) (q q' : Pt), 0 < K ∧ ∀ e ∈ E, cS (sc K e.1) (sc K e.2) q.f0 q.f1 = cS e.1 e.2 p.f0 p.f1 ∧ cS (sc K e.1) (sc K e.2) q'.f0 q'.f1 = cT e.1 e.2 p.f0 p.f1 ∧ cr (sc K e.1) (sc K e.2) q ≠ 0 ∧ cr (sc K e.1) (sc K e.2) q' ≠ 0 := by
 obtain ⟨D, D0, hD⟩ := bnd (fun e : Pt × Pt => max (e.2.f0 - e.1.f0) (e.1.f0 - e.2.f0)) E
 obtain ⟨K, K0, hK⟩ := bnd (fun e : Pt × Pt => max ((e.2.f0 - e.1.f0) - (e.2.f1 - e.1.f1) * D) (-((e.2.f0 - e.1.f0) - (e.2.f1 - e.1.f1) * D))) E
 refine ⟨K + 1, nr (K + 1) p ⟨D, 1⟩, nr (K + 1) p ⟨-D, -1⟩, by omega, fun e he => ?_⟩
 have h1 := hD e he
 have h2 := hK e he
 have e2 : (e.1.f0 - e.2.f0) - (e.1.f1 - e.2.f1) * D = -((e.2.f0 - e.1.f0) - (e.2.f1 - e.1.f1) * D) := by grind
 have n0 := ne e he
 have nz : (K + 1) * cr e.1 e.2 p + ((e.2.f0 - e.1.f0) - (e.2.f1 - e.1.f1) * D) ≠ 0 ∧ (K + 1) * cr e.1 e.2 p + -((e.2.f0 - e.1.f0) - (e.2.f1 - e.1.f1) * D) ≠ 0 := by
  have r0 : (e.2.f0 - e.1.f0) - (e.2.f1 - e.1.f1) * D ≠ 0 := by
   rcases Int.lt_trichotomy (e.2.f1 - e.1.f1) 0 with k | k | k
   ·have := Int.mul_le_mul_of_nonneg_right (show e.2.f1 - e.1.f1 ≤ -1 by omega) (Int.le_of_lt D0); omega
   ·rw [k, Int.zero_mul]; intro z; exact n0 (pt_ext (by omega) (by omega))
   ·have := Int.mul_le_mul_of_nonneg_right (show 1 ≤ e.2.f1 - e.1.f1 by omega) (Int.le_of_lt D0); omega
  generalize (e.2.f0 - e.1.f0) - (e.2.f1 - e.1.f1) * D = r at *
  have l1 := lex_sg (K := K + 1) (c := cr e.1 e.2 p) (r := r) (by omega)
  have l2 := lex_sg (K := K + 1) (c := cr e.1 e.2 p) (r := -r) (by omega)
  rcases Int.lt_trichotomy (cr e.1 e.2 p) 0 with k | k | k
  ·have := l1.2 k; have := l2.2 k; omega
  ·rw [k, Int.mul_zero]; omega
  ·have := l1.1 k; have := l2.1 k; omega
 refine ⟨?_, ?_, ?_, ?_⟩
 ·show cS (sc (K + 1) e.1) (sc (K + 1) e.2) ((K + 1) * p.f0 + D) ((K + 1) * p.f1 + 1) = _
  unfold cS
  rw [upS_nr (by omega) (by omega) (by omega), upS_nr (by omega) (by omega) (by omega)]
 ·show cS (sc (K + 1) e.1) (sc (K + 1) e.2) ((K + 1) * p.f0 + -D) ((K + 1) * p.f1 + -1) = _
  unfold cS cT
  rw [show (K + 1) * p.f0 + -D = (K + 1) * p.f0 - D by omega, show (K + 1) * p.f1 + -1 = (K + 1) * p.f1 - 1 by omega]
  rw [upT_nr (by omega) (by omega) (by omega), upT_nr (by omega) (by omega) (by omega)]
 ·rw [cr_nr]
  intro z
  rcases Int.mul_eq_zero.mp z with k | k
  ·omega
  ·dsimp only at k; rw [Int.mul_one] at k; exact nz.1 k
 ·rw [cr_nr]
  intro z
  rcases Int.mul_eq_zero.mp z with k | k
  ·omega
  ·dsimp only at k; exact nz.2 (by rw [← k]; grind)
theorem sc_sc (j k : Int) (p : Pt) : sc j (sc k p) = sc (j * k) p := by unfold sc; dsimp only; rw [Int.mul_assoc, Int.mul_assoc]
theorem scE_scE (j k : Int) (E : List (Pt × Pt)) : (E.map (scE k)).map (scE j) = E.map (scE (j * k)) := by
 rw [List.map_map]; refine List.map_congr_left (fun e _ => ?_)
 show (sc j (sc k e.1), sc j (sc k e.2)) = _; rw [sc_sc, sc_sc]; rfl
theorem sc_one (p : Pt) : sc 1 p = p := by unfold sc; rw [Int.one_mul, Int.one_mul]
theorem scE_one (E : List (Pt × Pt)) : E.map (scE 1) = E := by
 have : scE 1 = id := by funext e; show (sc 1 e.1, sc 1 e.2) = e; rw [sc_one, sc_one]
 rw [this, List.map_id]
theorem wE_near {E : List (Pt × Pt)} {K : Int} {q p : Pt} (h : ∀ e ∈ E, cS (sc K e.1) (sc K e.2) q.f0 q.f1 = cS e.1 e.2 p.f0 p.f1) : wE (E.map (scE K)) q = wE E p := by
 unfold wE; rw [eS_map]; exact eS_congr E h
theorem wF_near {E : List (Pt × Pt)} {K : Int} {q p : Pt} (h : ∀ e ∈ E, cS (sc K e.1) (sc K e.2) q.f0 q.f1 = cT e.1 e.2 p.f0 p.f1) : wE (E.map (scE K)) q = wF E p := by
 unfold wE wF; rw [eS_map]; exact eS_congr E h
def J (m : List Pt) (s : Int) : Prop := (s = 1 ∨ s = -1) ∧ ∀ k : Int, 0 < k → ∀ p, wE ((loop m).map (scE k)) p = 0 ∨ wE ((loop m).map (scE k)) p = s
theorem J.one {m : List Pt} {s : Int} (h : J m s) (p : Pt) : wE (loop m) p = 0 ∨ wE (loop m) p = s := by
 have := h.2 1 (by omega) p; rw [scE_one] at this; exact this
theorem J.two {m : List Pt} {s : Int} (h : J m s) (ne : ∀ e ∈ loop m, e.1 ≠ e.2) (p : Pt) : wF (loop m) p = 0 ∨ wF (loop m) p = s := by
 obtain ⟨K, q, q', K0, hq⟩ := near_gen (loop m) ne p
 rw [← wF_near (fun e he => (hq e he).2.1)]
 exact h.2 K K0 q'
theorem J_of_gen {m : List Pt} {s : Int} (hs : s = 1 ∨ s = -1) (X : List (Pt × Pt)) (ne : ∀ e ∈ loop m ++ X, e.1 ≠ e.2)
  (H : ∀ k : Int, 0 < k → ∀ q, (∀ e ∈ loop m ++ X, cr (sc k e.1) (sc k e.2) q ≠ 0) → wE ((loop m).map (scE k)) q = 0 ∨ wE ((loop m).map (scE k)) q = s) : J m s := by
 refine ⟨hs, fun k hk p => ?_⟩
 obtain ⟨K, q, q', K0, hq⟩ := near_gen ((loop m ++ X).map (scE k)) (fun e he => by
  obtain ⟨f, f1, rfl⟩ := List.mem_map.mp he
  exact fun x => ne f f1 (sc_inj hk x)) p
 have := H (K * k) (Int.mul_pos K0 hk) q (fun e he => by
  have := (hq (scE k e) (List.mem_map.mpr ⟨e, he, rfl⟩)).2.2.1
  unfold scE at this; dsimp only at this; rw [sc_sc, sc_sc] at this; exact this)
 rw [← scE_scE, wE_near (p := p) (fun e he => (hq e (by rw [List.map_append]; exact List.mem_append_left _ he)).1)] at this
 exact this
theorem cut_J {v z : Pt} {C1 C2 : List Pt} (h : Cut v C1 z C2) {s1 s2 : Int} (j1 : J (v :: (C1 ++ [z])) s1) (j2 : J (z :: (C2 ++ [v])) s2) : J (v :: (C1 ++ z :: C2)) s1 ∧ s1 = s2 := by
 obtain ⟨nvz, np1, np2, _⟩ := nodup_parts h.sp.nd
 have e1 : ∀ k : Int, (loop (v :: (C1 ++ [z]))).map (scE k) = loop (sc k v :: (C1.map (sc k) ++ [sc k z])) := fun k => by rw [← loop_sc]; simp
 have e2 : ∀ k : Int, (loop (z :: (C2 ++ [v]))).map (scE k) = loop (sc k z :: (C2.map (sc k) ++ [sc k v])) := fun k => by rw [← loop_sc]; simp
 have e3 : ∀ k : Int, (loop (v :: (C1 ++ z :: C2))).map (scE k) = loop (sc k v :: (C1.map (sc k) ++ sc k z :: C2.map (sc k))) := fun k => by rw [← loop_sc, map_cut]
 have sum : ∀ (k : Int) (p : Pt), wE ((loop (v :: (C1 ++ [z]))).map (scE k)) p + wE ((loop (z :: (C2 ++ [v]))).map (scE k)) p = wE ((loop (v :: (C1 ++ z :: C2))).map (scE k)) p := by
  intro k p
  rw [e1, e2, e3]
  exact part_sum (fun a b => cS_neg a b _ _) _ _ _ _
 have disj : ∀ k : Int, 0 < k → ∀ q, (∀ e ∈ loop (v :: (C1 ++ z :: C2)) ++ [(v, z)], cr (sc k e.1) (sc k e.2) q ≠ 0) → wE ((loop (v :: (C1 ++ [z]))).map (scE k)) q = 0 ∨ wE ((loop (z :: (C2 ++ [v]))).map (scE k)) q = 0 := by
  intro k hk q hq
  rw [e1, e2]
  refine (h.sc hk).disj (fun f hf => ?_) (hq (v, z) (List.mem_append_right _ (List.mem_cons_self ..)))
  rw [← e3] at hf
  obtain ⟨f', f1, rfl⟩ := List.mem_map.mp hf
  exact hq f' (List.mem_append_left _ f1)
 have ne : ∀ e ∈ loop (v :: (C1 ++ z :: C2)) ++ [(v, z)], e.1 ≠ e.2 := by
  intro e he
  rcases List.mem_append.mp he with k | k
  ·exact h.sp.ne e k
  ·rw [List.mem_singleton.mp k]; exact nvz
 have ss : s1 = s2 := by
  obtain ⟨p, ep⟩ : ∃ p : Pt, p = ⟨v.f0 + z.f0, v.f1 + z.f1⟩ := ⟨_, rfl⟩
  obtain ⟨K, q, q', K0, hq⟩ := near_gen ((loop (v :: (C1 ++ z :: C2)) ++ [(v, z)]).map (scE 2)) (fun e he => by
   obtain ⟨f, f1, rfl⟩ := List.mem_map.mp he
   exact fun x => ne f f1 (sc_inj (by omega) x)) p
  have ov : On (sc 2 v) (sc 2 z) p := par_on (s := 1) (t := 1) (by omega) (by omega) (by omega) (by rw [ep]; unfold sc; dsimp only; omega) (by rw [ep]; unfold sc; dsimp only; omega)
  have pv : p ≠ sc 2 v := by
   intro x; apply nvz
   have x0 : p.f0 = 2 * v.f0 := by rw [x]; rfl
   have x1 : p.f1 = 2 * v.f1 := by rw [x]; rfl
   rw [ep] at x0 x1; dsimp only at x0 x1; exact pt_ext (by omega) (by omega)
  have pz : p ≠ sc 2 z := by
   intro x; apply nvz
   have x0 : p.f0 = 2 * z.f0 := by rw [x]; rfl
   have x1 : p.f1 = 2 * z.f1 := by rw [x]; rfl
   rw [ep] at x0 x1; dsimp only at x0 x1; exact pt_ext (by omega) (by omega)
  have h2 := h.sc (k := 2) (by omega)
  have off : ∀ e ∈ loop (sc 2 v :: (C1.map (sc 2) ++ sc 2 z :: C2.map (sc 2))), ¬ On e.1 e.2 p := fun e he o => by
   have := ((h2.ch e he).on ov o).1
   rcases this with x | x
   ·exact pv x
   ·exact pz x
  have w0 := wE_wF off
  have jump : wE (loop (sc 2 v :: (C1.map (sc 2) ++ [sc 2 z]))) p - wF (loop (sc 2 v :: (C1.map (sc 2) ++ [sc 2 z]))) p = 1 ∨ wE (loop (sc 2 v :: (C1.map (sc 2) ++ [sc 2 z]))) p - wF (loop (sc 2 v :: (C1.map (sc 2) ++ [sc 2 z]))) p = -1 := by
   have r1 : wE (loop (sc 2 v :: (C1.map (sc 2) ++ [sc 2 z]))) p = wE (loop (sc 2 z :: sc 2 v :: C1.map (sc 2))) p := (eS_rot _ (sc 2 v) (C1.map (sc 2)) (sc 2 z) []).symm
   have r2 : wF (loop (sc 2 v :: (C1.map (sc 2) ++ [sc 2 z]))) p = wF (loop (sc 2 z :: sc 2 v :: C1.map (sc 2))) p := (eS_rot _ (sc 2 v) (C1.map (sc 2)) (sc 2 z) []).symm
   rw [r1, r2]
   exact wE_wF_on (on_sw ov) pz pv (fun e he => off e (by rw [loop_at]; exact List.mem_append_left _ he))
  have s0 := part_sum (f := fun a b => cS a b p.f0 p.f1) (fun a b => cS_neg a b _ _) (sc 2 v) (sc 2 z) (C1.map (sc 2)) (C2.map (sc 2))
  have s1' := part_sum (f := fun a b => cT a b p.f0 p.f1) (fun a b => cT_neg a b _ _) (sc 2 v) (sc 2 z) (C1.map (sc 2)) (C2.map (sc 2))
  change wE _ p + wE _ p = wE _ p at s0
  change wF _ p + wF _ p = wF _ p at s1'
  have in1 : ∀ e ∈ loop (v :: (C1 ++ [z])), cS (sc K (sc 2 e.1)) (sc K (sc 2 e.2)) q.f0 q.f1 = cS (sc 2 e.1) (sc 2 e.2) p.f0 p.f1 ∧ cS (sc K (sc 2 e.1)) (sc K (sc 2 e.2)) q'.f0 q'.f1 = cT (sc 2 e.1) (sc 2 e.2) p.f0 p.f1 := by
   intro e he
   rw [loop_part] at he
   rcases List.mem_append.mp he with k | k
   ·have := hq (scE 2 e) (List.mem_map.mpr ⟨e, List.mem_append_left _ (by rw [loop_at]; exact List.mem_append_left _ k), rfl⟩)
    exact ⟨this.1, this.2.1⟩
   ·have := hq (scE 2 (v, z)) (List.mem_map.mpr ⟨(v, z), List.mem_append_right _ (List.mem_cons_self ..), rfl⟩)
    rw [List.mem_singleton.mp k]
    dsimp only
    rw [cS_neg, cS_neg (sc 2 v), cS_neg (sc K (sc 2 v)) _ q'.f0, cT_neg (sc 2 v)]
    have t1 := this.1
    have t2 := this.2.1
    unfold scE at t1 t2; dsimp only at t1 t2
    rw [t1, t2]; exact ⟨rfl, rfl⟩
  have in2 : ∀ e ∈ loop (z :: (C2 ++ [v])), cS (sc K (sc 2 e.1)) (sc K (sc 2 e.2)) q.f0 q.f1 = cS (sc 2 e.1) (sc 2 e.2) p.f0 p.f1 ∧ cS (sc K (sc 2 e.1)) (sc K (sc 2 e.2)) q'.f0 q'.f1 = cT (sc 2 e.1) (sc 2 e.2) p.f0 p.f1 := by
   intro e he
   rw [loop_part] at he
   rcases List.mem_append.mp he with k | k
   ·have := hq (scE 2 e) (List.mem_map.mpr ⟨e, List.mem_append_left _ (by rw [loop_at]; exact List.mem_append_right _ k), rfl⟩)
    exact ⟨this.1, this.2.1⟩
   ·have := hq (scE 2 (v, z)) (List.mem_map.mpr ⟨(v, z), List.mem_append_right _ (List.mem_cons_self ..), rfl⟩)
    rw [List.mem_singleton.mp k]
    exact ⟨this.1, this.2.1⟩
  have gq : ∀ e ∈ loop (v :: (C1 ++ z :: C2)) ++ [(v, z)], cr (sc (K * 2) e.1) (sc (K * 2) e.2) q ≠ 0 ∧ cr (sc (K * 2) e.1) (sc (K * 2) e.2) q' ≠ 0 := by
   intro e he
   have := (hq (scE 2 e) (List.mem_map.mpr ⟨e, he, rfl⟩)).2.2
   unfold scE at this; dsimp only at this; rw [sc_sc, sc_sc] at this; exact this
  have K2 : 0 < K * 2 := by omega
  have a1 : wE ((loop (v :: (C1 ++ [z]))).map (scE (K * 2))) q = wE (loop (sc 2 v :: (C1.map (sc 2) ++ [sc 2 z]))) p := by
   rw [← e1 2, ← scE_scE]
   exact wE_near (fun e he => by obtain ⟨f, f1, rfl⟩ := List.mem_map.mp he; exact (in1 f f1).1)
  have a1' : wE ((loop (v :: (C1 ++ [z]))).map (scE (K * 2))) q' = wF (loop (sc 2 v :: (C1.map (sc 2) ++ [sc 2 z]))) p := by
   rw [← e1 2, ← scE_scE]
   exact wF_near (fun e he => by obtain ⟨f, f1, rfl⟩ := List.mem_map.mp he; exact (in1 f f1).2)
  have b1 : wE ((loop (z :: (C2 ++ [v]))).map (scE (K * 2))) q = wE (loop (sc 2 z :: (C2.map (sc 2) ++ [sc 2 v]))) p := by
   rw [← e2 2, ← scE_scE]
   exact wE_near (fun e he => by obtain ⟨f, f1, rfl⟩ := List.mem_map.mp he; exact (in2 f f1).1)
  have b1' : wE ((loop (z :: (C2 ++ [v]))).map (scE (K * 2))) q' = wF (loop (sc 2 z :: (C2.map (sc 2) ++ [sc 2 v]))) p := by
   rw [← e2 2, ← scE_scE]
   exact wF_near (fun e he => by obtain ⟨f, f1, rfl⟩ := List.mem_map.mp he; exact (in2 f f1).2)
  have d1 := disj (K * 2) K2 q (fun e he => (gq e he).1)
  have d2 := disj (K * 2) K2 q' (fun e he => (gq e he).2)
  have v1 := j1.2 (K * 2) K2 q
  have v2 := j1.2 (K * 2) K2 q'
  have v3 := j2.2 (K * 2) K2 q
  have v4 := j2.2 (K * 2) K2 q'
  have h1 := j1.1
  have h2 := j2.1
  omega
 refine ⟨J_of_gen j1.1 [(v, z)] ne (fun k hk q hq => ?_), ss⟩
 have d := disj k hk q hq
 have v1 := j1.2 k hk q
 have v2 := j2.2 k hk q
 rw [← sum]
 omega
theorem tri_J {a b c : Pt} (T : 0 < cr a b c) : J [a, b, c] 1 := by
 have Tb : 0 < cr b c a := by rw [cr_rot]; exact T
 have Tc : 0 < cr c a b := by rw [cr_rot, cr_rot]; exact T
 refine J_of_gen (Or.inl rfl) [] (fun e he => ?_) (fun k hk q hq => ?_)
 ·rw [List.append_nil] at he
  have : e = (a, b) ∨ e = (b, c) ∨ e = (c, a) := by simpa [loop, pth] using he
  rcases this with x | x | x <;> subst x <;> intro y <;> dsimp only at y <;> subst y
  ·rw [cr_self2] at Tc; omega
  ·rw [cr_self2] at T; omega
  ·rw [cr_self1] at T; omega
 ·have q1 := hq (a, b) (by simp [loop, pth])
  have q2 := hq (b, c) (by simp [loop, pth])
  have q3 := hq (c, a) (by simp [loop, pth])
  dsimp only at q1 q2 q3
  have kk := Int.mul_pos hk hk
  have ta : 0 < cr (sc k a) (sc k b) (sc k c) := by rw [cr_sc]; exact Int.mul_pos kk T
  have tb : 0 < cr (sc k b) (sc k c) (sc k a) := by rw [cr_sc]; exact Int.mul_pos kk Tb
  have tc : 0 < cr (sc k c) (sc k a) (sc k b) := by rw [cr_sc]; exact Int.mul_pos kk Tc
  have e : (loop [a, b, c]).map (scE k) = loop [sc k a, sc k b, sc k c] := rfl
  rw [e]
  generalize sc k a = a at *
  generalize sc k b = b at *
  generalize sc k c = c at *
  by_cases w1 : cr a b q < 0
  ·left; refine wE_out w1 (fun x hx => ?_)
   have : x = a ∨ x = b ∨ x = c := by simpa using hx
   rcases this with r | r | r <;> subst r
   ·rw [cr_self1]; omega
   ·rw [cr_self2]; omega
   ·omega
  by_cases w2 : cr b c q < 0
  ·left; refine wE_out w2 (fun x hx => ?_)
   have : x = a ∨ x = b ∨ x = c := by simpa using hx
   rcases this with r | r | r <;> subst r
   ·omega
   ·rw [cr_self1]; omega
   ·rw [cr_self2]; omega
  by_cases w3 : cr c a q < 0
  ·left; refine wE_out w3 (fun x hx => ?_)
   have : x = a ∨ x = b ∨ x = c := by simpa using hx
   rcases this with r | r | r <;> subst r
   ·rw [cr_self2]; omega
   ·omega
   ·rw [cr_self1]; omega
  right; exact tri_in ⟨by omega, by omega, by omega⟩
theorem tri_J' {a b c : Pt} (T : 0 < cr c b a) : J [a, b, c] (-1) := by
 have j := tri_J T
 refine ⟨Or.inr rfl, fun k hk p => ?_⟩
 have e1 : (loop [a, b, c]).map (scE k) = loop [sc k a, sc k b, sc k c] := rfl
 have e2 : (loop [c, b, a]).map (scE k) = loop [sc k c, sc k b, sc k a] := rfl
 have := j.2 k hk p
 rw [e2] at this; rw [e1]
 have n1 := cS_neg (sc k a) (sc k b) p.f0 p.f1
 have n2 := cS_neg (sc k b) (sc k c) p.f0 p.f1
 have n3 := cS_neg (sc k c) (sc k a) p.f0 p.f1
 have a1 : wE (loop [sc k c, sc k b, sc k a]) p = cS (sc k c) (sc k b) p.f0 p.f1 + (cS (sc k b) (sc k a) p.f0 p.f1 + (cS (sc k a) (sc k c) p.f0 p.f1 + 0)) := rfl
 have a2 : wE (loop [sc k a, sc k b, sc k c]) p = cS (sc k a) (sc k b) p.f0 p.f1 + (cS (sc k b) (sc k c) p.f0 p.f1 + (cS (sc k c) (sc k a) p.f0 p.f1 + 0)) := rfl
 omega
end Go.Proofs.Ythehmkpcddafnaa.M
end
section
namespace Go.Proofs.Ythehmkpcddafnaa.M
open Go.Proofs.Ythehmkpcddafnaa.PG
def Bot (v c : Pt) : Prop := v.f1 < c.f1 ∨ (c.f1 = v.f1 ∧ c.f0 < v.f0)
theorem Bot.trans {a b c : Pt} (h : Bot a b) (k : Bot b c) : Bot a c := by unfold Bot at *; omega
theorem bot_tri (a b : Pt) : a = b ∨ Bot a b ∨ Bot b a := by
 unfold Bot
 by_cases h1 : a.f1 = b.f1
 ·by_cases h0 : a.f0 = b.f0
  ·exact Or.inl (pt_ext h0 h1)
  ·omega
 ·omega
theorem bot_min : ∀ m : List Pt, m ≠ [] → ∃ v ∈ m, ∀ c ∈ m, c = v ∨ Bot v c
 | [], h => absurd rfl h
 | a :: l, _ => by
  by_cases hl : l = []
  ·subst hl; exact ⟨a, List.mem_cons_self .., fun c hc => Or.inl (List.mem_singleton.mp hc)⟩
  obtain ⟨v, hv, mn⟩ := bot_min l hl
  rcases bot_tri a v with k | k | k
  ·subst k
   refine ⟨a, List.mem_cons_self .., fun c hc => ?_⟩
   rcases List.mem_cons.mp hc with q | q
   ·exact Or.inl q
   ·exact mn c q
  ·refine ⟨a, List.mem_cons_self .., fun c hc => ?_⟩
   rcases List.mem_cons.mp hc with q | q
   ·exact Or.inl q
   ·rcases mn c q with r | r
    ·subst r; exact Or.inr k
    ·exact Or.inr (k.trans r)
  ·refine ⟨v, List.mem_cons_of_mem _ hv, fun c hc => ?_⟩
   rcases List.mem_cons.mp hc with q | q
   ·subst q; exact Or.inr k
   ·exact mn c q
theorem rot_to {m : List Pt} (h : SP m) {v : Pt} (hv : v ∈ m) : ∃ l, SP (v :: l) ∧ (v :: l).length = m.length ∧ (∀ e, e ∈ loop (v :: l) ↔ e ∈ loop m) ∧ (∀ x, x ∈ v :: l ↔ x ∈ m) ∧ ∀ f, eS f (loop (v :: l)) = eS f (loop m) := by
 obtain ⟨l1, l2, e⟩ := List.append_of_mem hv
 subst e
 cases l1 with
 | nil => exact ⟨l2, h, rfl, fun _ => Iff.rfl, fun _ => Iff.rfl, fun _ => rfl⟩
 | cons a l1 =>
  refine ⟨l2 ++ a :: l1, h.rot, ?_, fun e => loop_rot, fun x => (List.perm_append_comm (l₁ := v :: l2) (l₂ := a :: l1)).mem_iff, fun f => eS_rot f a l1 v l2⟩
  simp only [List.length_cons, List.length_append]; omega
theorem J_congr {m m' : List Pt} {s : Int} (h : ∀ f, eS f (loop m') = eS f (loop m)) (j : J m' s) : J m s := by
 refine ⟨j.1, fun k hk p => ?_⟩
 have := j.2 k hk p
 unfold wE at *
 rw [eS_map, h] at this
 rw [eS_map]; exact this
theorem cS_away {v x y d : Pt} {K : Int} (bx : Bot v x) (by_ : Bot v y) (h0 : 0 ≤ d.f1) (h1 : d.f1 < K) (hr : -K < (y.f0 - x.f0) * d.f1 - (y.f1 - x.f1) * d.f0 ∧ (y.f0 - x.f0) * d.f1 - (y.f1 - x.f1) * d.f0 < K) :
  cS (sc K x) (sc K y) (K * v.f0 + d.f0) (K * v.f1 + d.f1) = 0 := by
 have K0 : 0 < K := by omega
 have go : ∀ x y : Pt, Bot v x → Bot v y → (-K < (y.f0 - x.f0) * d.f1 - (y.f1 - x.f1) * d.f0 ∧ (y.f0 - x.f0) * d.f1 - (y.f1 - x.f1) * d.f0 < K) → upS (sc K x) (sc K y) (K * v.f0 + d.f0) (K * v.f1 + d.f1) = 0 := by
  intro x y bx by_ hr
  unfold upS
  refine if_neg (fun h => ?_)
  obtain ⟨⟨k1, k2⟩, k3⟩ := h
  change K * x.f1 ≤ K * v.f1 + d.f1 at k1
  change K * v.f1 + d.f1 < K * y.f1 at k2
  have e : cr (sc K x) (sc K y) ⟨K * v.f0 + d.f0, K * v.f1 + d.f1⟩ = K * (K * cr x y v + ((y.f0 - x.f0) * d.f1 - (y.f1 - x.f1) * d.f0)) := cr_nr K x y v d
  rw [e] at k3
  have k3 := pos_of_mul K0 k3
  have l1 := (sc_le (a := v.f1 + 1) (b := x.f1) K0).1
  rw [Int.mul_add, Int.mul_one] at l1
  have x1 : x.f1 = v.f1 := by unfold Bot at bx; omega
  have l2 := (sc_le (a := y.f1) (b := v.f1) K0).1
  have y1 : v.f1 < y.f1 := by omega
  have x0 : x.f0 < v.f0 := by unfold Bot at bx; omega
  have c : cr x y v = -((v.f0 - x.f0) * (y.f1 - x.f1)) := cr_lev1 x1
  have := Int.mul_pos (show 0 < v.f0 - x.f0 by omega) (show 0 < y.f1 - x.f1 by omega)
  have := (lex_sg hr).2 (show cr x y v < 0 by omega)
  omega
 unfold cS
 rw [go x y bx by_ hr, go y x by_ bx (by have e : (x.f0 - y.f0) * d.f1 - (x.f1 - y.f1) * d.f0 = -((y.f0 - x.f0) * d.f1 - (y.f1 - x.f1) * d.f0) := (by grind); omega)]
 rfl
theorem cS_at {v x d : Pt} {K : Int} (_bx : Bot v x) (h0 : 0 ≤ d.f1) (h1 : d.f1 < K) : cS (sc K v) (sc K x) (K * v.f0 + d.f0) (K * v.f1 + d.f1) = if v.f1 < x.f1 ∧ 0 < (x.f0 - v.f0) * d.f1 - (x.f1 - v.f1) * d.f0 then 1 else 0 := by
 have K0 : 0 < K := by omega
 unfold cS
 have e : cr (sc K v) (sc K x) ⟨K * v.f0 + d.f0, K * v.f1 + d.f1⟩ = K * (K * cr v x v + ((x.f0 - v.f0) * d.f1 - (x.f1 - v.f1) * d.f0)) := cr_nr K v x v d
 rw [cr_self1, Int.mul_zero, Int.zero_add] at e
 have z : upS (sc K x) (sc K v) (K * v.f0 + d.f0) (K * v.f1 + d.f1) = 0 := by
  unfold upS
  refine if_neg (fun h => ?_)
  have := h.1.2
  change K * v.f1 + d.f1 < K * v.f1 at this
  omega
 rw [z]
 unfold upS
 rw [e]
 have m := (mul_sg (c := (x.f0 - v.f0) * d.f1 - (x.f1 - v.f1) * d.f0) K0).1
 have l1 := (sc_le (a := v.f1 + 1) (b := x.f1) K0).1
 rw [Int.mul_add, Int.mul_one] at l1
 have l2 := (sc_le (a := x.f1) (b := v.f1) K0).1
 show (if (K * v.f1 ≤ K * v.f1 + d.f1 ∧ K * v.f1 + d.f1 < K * x.f1) ∧ _ then (1 : Int) else 0) - 0 = _
 have A : ((K * v.f1 ≤ K * v.f1 + d.f1 ∧ K * v.f1 + d.f1 < K * x.f1) ∧ 0 < K * ((x.f0 - v.f0) * d.f1 - (x.f1 - v.f1) * d.f0)) ↔ (v.f1 < x.f1 ∧ 0 < (x.f0 - v.f0) * d.f1 - (x.f1 - v.f1) * d.f0) :=
  ⟨fun q => ⟨by omega, m.mp q.2⟩, fun q => ⟨⟨by omega, by omega⟩, m.mpr q.2⟩⟩
 simp only [A, Int.sub_zero]
theorem corner_zero {v x1 x2 y : Pt} {L : List Pt} (b1 : Bot v x1) (b2 : Bot v x2) (bL : ∀ c ∈ L, Bot v c) (by_ : Bot v y)
  (side : (0 < cr v x1 y ∧ 0 < cr v x2 y) ∨ (cr v x1 y < 0 ∧ cr v x2 y < 0)) (en : ∀ f ∈ loop (v :: x1 :: (L ++ [x2])), Ends y v f.1 f.2) (ny : y ∉ v :: x1 :: (L ++ [x2])) : wE (loop (v :: x1 :: (L ++ [x2]))) y = 0 := by
 obtain ⟨d, ed⟩ : ∃ d : Pt, d = ⟨y.f0 - v.f0, y.f1 - v.f1⟩ := ⟨_, rfl⟩
 have d0 : d.f0 = y.f0 - v.f0 := by rw [ed]
 have d1 : d.f1 = y.f1 - v.f1 := by rw [ed]
 have hd : 0 ≤ d.f1 := by unfold Bot at by_; omega
 have eloop : loop (v :: x1 :: (L ++ [x2])) = (v, x1) :: (pth x1 L x2 ++ [(x2, v)]) := by
  show (v, x1) :: pth x1 (L ++ [x2]) v = _
  rw [pth_app]; rfl
 obtain ⟨K', K0, hK⟩ := bnd (fun e : Pt × Pt => max ((e.2.f0 - e.1.f0) * d.f1 - (e.2.f1 - e.1.f1) * d.f0) (-((e.2.f0 - e.1.f0) * d.f1 - (e.2.f1 - e.1.f1) * d.f0))) (pth x1 L x2)
 obtain ⟨K, eK⟩ : ∃ K, K = K' + d.f1 + 2 := ⟨_, rfl⟩
 have inL : ∀ e ∈ pth x1 L x2, Bot v e.1 ∧ Bot v e.2 := by
  intro e he
  obtain ⟨m1, m2⟩ := pth_mem L x1 x2 e he
  refine ⟨?_, ?_⟩
  ·rcases List.mem_cons.mp m1 with k | k
   ·rw [k]; exact b1
   ·exact bL _ k
  ·rcases List.mem_append.mp m2 with k | k
   ·exact bL _ k
   ·rw [List.mem_singleton.mp k]; exact b2
 have near : wE ((loop (v :: x1 :: (L ++ [x2]))).map (scE K)) ⟨K * v.f0 + d.f0, K * v.f1 + d.f1⟩ = 0 := by
  have inner : eS (fun a b => cS (sc K a) (sc K b) (K * v.f0 + d.f0) (K * v.f1 + d.f1)) (pth x1 L x2) = 0 := by
   refine eS_zero _ (fun e he => ?_)
   have := hK e he
   exact cS_away (inL e he).1 (inL e he).2 hd (by omega) (by omega)
  unfold wE
  rw [eS_map, eloop]
  show cS (sc K v) (sc K x1) (K * v.f0 + d.f0) (K * v.f1 + d.f1) + eS (fun a b => cS (sc K a) (sc K b) (K * v.f0 + d.f0) (K * v.f1 + d.f1)) (pth x1 L x2 ++ [(x2, v)]) = 0
  rw [eS_app, inner]
  show _ + (0 + (cS (sc K x2) (sc K v) (K * v.f0 + d.f0) (K * v.f1 + d.f1) + 0)) = 0
  rw [cS_neg (sc K v) (sc K x2), cS_at b1 hd (by omega), cS_at b2 hd (by omega), d0, d1]
  have c1 : (x1.f0 - v.f0) * (y.f1 - v.f1) - (x1.f1 - v.f1) * (y.f0 - v.f0) = cr v x1 y := by unfold cr; grind
  have c2 : (x2.f0 - v.f0) * (y.f1 - v.f1) - (x2.f1 - v.f1) * (y.f0 - v.f0) = cr v x2 y := by unfold cr; grind
  rw [c1, c2]
  rcases side with ⟨s1, s2⟩ | ⟨s1, s2⟩
  ·have up : ∀ x, Bot v x → 0 < cr v x y → v.f1 < x.f1 := by
    intro x hx hc
    rcases hx with k | ⟨k1, k2⟩
    ·exact k
    ·exfalso
     have : cr v x y = -((v.f0 - x.f0) * (y.f1 - v.f1)) := by unfold cr; rw [k1]; grind
     have := Int.mul_nonneg (show 0 ≤ v.f0 - x.f0 by omega) (show 0 ≤ y.f1 - v.f1 by omega)
     omega
   rw [if_pos ⟨up x1 b1 s1, s1⟩, if_pos ⟨up x2 b2 s2, s2⟩]; rfl
  ·rw [if_neg (fun k => by omega), if_neg (fun k => by omega)]; rfl
 rw [← wE_sc (show 0 < K by omega) (loop (v :: x1 :: (L ++ [x2]))) y, ← near, ← loop_sc]
 refine wE_const (fun f' hf' T => ?_)
 rw [loop_sc] at hf'
 obtain ⟨f, hf, rfl⟩ := List.mem_map.mp hf'
 obtain ⟨s, t, u, w, k⟩ := touch_com.mp T
 have kk : Com (sc K y) (sc K v) (sc K f.1) (sc K f.2) (s * K + t) (t * (K - 1)) u w := by
  have m1 := Int.mul_nonneg k.hs (show 0 ≤ K by omega)
  have m2 := Int.mul_nonneg k.ht (show 0 ≤ K - 1 by omega)
  have sm : s * K + t + t * (K - 1) = (s + t) * K := by grind
  have go : ∀ y v f1 f2 d : Int, d = y - v → (u + w) * (s * (K * y) + t * (K * v + d)) = (s + t) * (u * (K * f1) + w * (K * f2)) → (u + w) * ((s * K + t) * (K * y) + t * (K - 1) * (K * v)) = (s + t) * K * (u * (K * f1) + w * (K * f2)) := by
   intro y v f1 f2 d hd h
   have e1 : (s * K + t) * (K * y) + t * (K - 1) * (K * v) = K * (s * (K * y) + t * (K * v + d)) := by rw [hd]; clear h sm; grind
   have e2 : (u + w) * (K * (s * (K * y) + t * (K * v + d))) = K * ((u + w) * (s * (K * y) + t * (K * v + d))) := by rw [Int.mul_left_comm]
   rw [e1, e2, h]; clear h e1 e2 sm; grind
  refine ⟨by have := k.ht; omega, m2, k.hu, k.hv, by rw [sm]; exact Int.mul_pos k.st (by omega), k.uv, ?_, ?_⟩
  ·rw [sm]; exact go _ _ _ _ _ d0 k.e0
  ·rw [sm]; exact go _ _ _ _ _ d1 k.e1
 have kk := (com_sc (show 0 < K by omega)).mp kk
 obtain ⟨j1, j2⟩ := en f hf _ _ _ _ kk
 have hs := k.hs
 have ht := k.ht
 have st := k.st
 have m1 := Int.mul_nonneg hs (show 0 ≤ K by omega)
 have t0 : t = 0 ∨ s * K + t = 0 := by
  rcases j1 with q | q
  ·exact Or.inr q
  ·exact Or.inl ((Int.mul_eq_zero.mp q).resolve_right (by omega))
 have nz : s * K + t ≠ 0 := by
  intro z
  have : s * K = 0 := by omega
  have := (Int.mul_eq_zero.mp this).resolve_right (by omega)
  omega
 obtain ⟨mf1, mf2⟩ := loop_mem hf
 rcases kk.ends j1 j2 with q | q | q | q
 ·exact ny (by rw [q.2.2]; exact mf1)
 ·exact ny (by rw [q.2.2]; exact mf2)
 ·exact nz q.1
 ·exact nz q.1
theorem spread {P : Pt → Prop} {b : Pt} : ∀ (l : List Pt) (a : Pt), b ∉ l → (∀ e ∈ pth a l b, e.2 ≠ b → (P e.1 ↔ P e.2)) → (∃ x ∈ a :: l, P x) → ∀ x ∈ a :: l, P x
 | [], a, _, _, ⟨x, hx, px⟩, y, hy => by rw [List.mem_singleton.mp hy, ← List.mem_singleton.mp hx]; exact px
 | c :: l, a, hb, h, ⟨x, hx, px⟩, y, hy => by
  have e1 := h (a, c) (List.mem_cons_self ..) (fun e => hb (by rw [← show c = b from e]; exact List.mem_cons_self ..))
  have ih := spread l c (fun k => hb (List.mem_cons_of_mem _ k)) (fun e he => h e (List.mem_cons_of_mem _ he))
  have all : ∀ x ∈ c :: l, P x := by
   rcases List.mem_cons.mp hx with k | k
   ·subst k; exact ih ⟨c, List.mem_cons_self .., e1.mp px⟩
   ·exact ih ⟨x, k, px⟩
  rcases List.mem_cons.mp hy with k | k
  ·subst k; exact e1.mpr (all c (List.mem_cons_self ..))
  ·exact all y k
theorem part_out {v z : Pt} {C1 C2 : List Pt} (h : SP (v :: (C1 ++ z :: C2))) (ch : ∀ e ∈ loop (v :: (C1 ++ z :: C2)), Ends v z e.1 e.2) (one : ∃ x ∈ C2, wE (loop (v :: (C1 ++ [z]))) x = 0) : ∀ x ∈ C2, wE (loop (v :: (C1 ++ [z]))) x = 0 := by
 obtain ⟨nvz, np1, np2, _⟩ := nodup_parts h.nd
 cases C2 with
 | nil => intro x hx; cases hx
 | cons c D =>
  refine spread (b := v) D c (fun k => (np2 v (List.mem_cons_of_mem _ k)).1 rfl) (fun e he ne => ?_) one
  have he' : e ∈ pth z (c :: D) v := List.mem_cons_of_mem _ he
  have inn : e ∈ loop (v :: (C1 ++ z :: c :: D)) := by rw [loop_at]; exact List.mem_append_right _ he'
  obtain ⟨m1, m2⟩ := pth_mem D c v e he
  have m2 : e.2 ∈ c :: D := by
   rcases List.mem_append.mp m2 with k | k
   ·exact List.mem_cons_of_mem _ k
   ·exact absurd (List.mem_singleton.mp k) ne
  have out : ∀ y ∈ v :: (C1 ++ [z]), y ∉ c :: D := by
   intro y hy k
   obtain ⟨k1, k2, k3⟩ := np2 y k
   rcases List.mem_cons.mp hy with q | q
   ·exact k1 q
   ·rcases List.mem_append.mp q with q | q
    ·exact k3 q
    ·exact k2 (List.mem_singleton.mp q)
  rw [wE_const (m := v :: (C1 ++ [z])) (x := e.1) (y := e.2) (fun f hf T => ?_)]
  obtain ⟨mf1, mf2⟩ := loop_mem hf
  have E : Ends e.1 e.2 f.1 f.2 := by
   rw [loop_part] at hf
   rcases List.mem_append.mp hf with k | k
   ·refine h.sep e inn f (by rw [loop_at]; exact List.mem_append_left _ k) (fun q => ?_)
    exact out f.1 mf1 (by rw [← q]; exact m1)
   ·rw [List.mem_singleton.mp k]; exact (ch e inn).symm.swap2
  rcases E.share T with k | k | k | k
  ·exact out f.1 mf1 (by rw [← k]; exact m1)
  ·exact out f.2 mf2 (by rw [← k]; exact m1)
  ·exact out f.1 mf1 (by rw [← k]; exact m2)
  ·exact out f.2 mf2 (by rw [← k]; exact m2)
end Go.Proofs.Ythehmkpcddafnaa.M
end
section
namespace Go.Proofs.Ythehmkpcddafnaa.M
open Go.Proofs.Ythehmkpcddafnaa.PG
theorem max_by {α : Type} (f : α → Int) : ∀ L : List α, L ≠ [] → ∃ z ∈ L, ∀ x ∈ L, f x ≤ f z
 | [], h => absurd rfl h
 | a :: l, _ => by
  by_cases hl : l = []
  ·subst hl; exact ⟨a, List.mem_cons_self .., fun c hc => by rw [List.mem_singleton.mp hc]; omega⟩
  obtain ⟨z, hz, mx⟩ := max_by f l hl
  by_cases k : f a ≤ f z
  ·refine ⟨z, List.mem_cons_of_mem _ hz, fun x hx => ?_⟩
   rcases List.mem_cons.mp hx with q | q
   ·subst q; exact k
   ·exact mx x q
  ·refine ⟨a, List.mem_cons_self .., fun x hx => ?_⟩
   rcases List.mem_cons.mp hx with q | q
   ·subst q; omega
   ·have := mx x q; omega
theorem empty_or_chord {m : List Pt} {a b c : Pt} (h : SP m) (k : Turn m a b c) (T : 0 < cr a b c) :
  (∀ x ∈ m, Cl a b c x → x = a ∨ x = b ∨ x = c) ∨ ∃ z ∈ m, (z ≠ a ∧ z ≠ b ∧ z ≠ c) ∧ (0 < cr a b z ∧ 0 < cr b c z) ∧ ∀ e ∈ loop m, Ends b z e.1 e.2 := by
 by_cases em : ∀ x ∈ m, Cl a b c x → x = a ∨ x = b ∨ x = c
 ·exact Or.inl em
 ·right
  have cl : ∀ x : Pt, Decidable (Cl a b c x ∧ x ≠ a ∧ x ≠ b ∧ x ≠ c) := fun x => Classical.propDecidable _
  have ex : ∃ x ∈ m, Cl a b c x ∧ x ≠ a ∧ x ≠ b ∧ x ≠ c := by
   apply Classical.byContradiction; intro q; apply em; intro x hx hc
   apply Classical.byContradiction; intro r
   exact q ⟨x, hx, hc, fun e => r (Or.inl e), fun e => r (Or.inr (Or.inl e)), fun e => r (Or.inr (Or.inr e))⟩
  obtain ⟨x0, hx0, px0⟩ := ex
  obtain ⟨z, hz, mx⟩ := max_by (fun x => cr c a x) (m.filter (fun x => @decide _ (cl x))) (fun q => by
   have : x0 ∈ m.filter (fun x => @decide _ (cl x)) := List.mem_filter.mpr ⟨hx0, by simpa using px0⟩
   rw [q] at this; cases this)
  obtain ⟨mz, pz⟩ := List.mem_filter.mp hz
  have pz : Cl a b c z ∧ z ≠ a ∧ z ≠ b ∧ z ≠ c := by simpa using pz
  have fc := far_chord h k T mz pz.1 pz.2 (fun x hx hc n1 n2 n3 => mx x (List.mem_filter.mpr ⟨hx, by simpa using ⟨hc, n1, n2, n3⟩⟩))
  exact ⟨z, mz, pz.2, fc.1, fc.2⟩
theorem bot_turn {v w u : Pt} {l : List Pt} (h : SP (v :: w :: (l ++ [u]))) (bw : Bot v w) (bu : Bot v u) : cr u v w ≠ 0 := by
 intro z
 have uv : (u, v) ∈ loop (v :: w :: (l ++ [u])) := by
  show _ ∈ pth v (w :: (l ++ [u])) v
  exact List.mem_cons_of_mem _ (by rw [pth_app]; exact List.mem_append_right _ (List.mem_cons_self ..))
 have vw : (v, w) ∈ loop (v :: w :: (l ++ [u])) := List.mem_cons_self ..
 have mu : u ∈ v :: w :: (l ++ [u]) := List.mem_cons_of_mem _ (List.mem_cons_of_mem _ (List.mem_append_right _ (List.mem_cons_self ..)))
 have mw : w ∈ v :: w :: (l ++ [u]) := List.mem_cons_of_mem _ (List.mem_cons_self ..)
 obtain ⟨n1, n2⟩ := List.nodup_cons.mp h.nd
 obtain ⟨n3, n4⟩ := List.nodup_cons.mp n2
 have nvw : v ≠ w := fun e => n1 (by rw [e]; exact List.mem_cons_self ..)
 have nuv : u ≠ v := fun e => n1 (by rw [← e]; exact List.mem_cons_of_mem _ (List.mem_append_right _ (List.mem_cons_self ..)))
 have nuw : u ≠ w := fun e => n3 (by rw [← e]; exact List.mem_append_right _ (List.mem_cons_self ..))
 have e : (v.f0 - u.f0) * (w.f1 - u.f1) = (w.f0 - u.f0) * (v.f1 - u.f1) := by unfold cr at z; omega
 rcases on_line z with k | k | k
 ·-- v between u and w: not the lowest
  unfold btw at k
  unfold Bot at bw bu
  rcases bw with b | ⟨b1, b2⟩ <;> rcases bu with d | ⟨d1, d2⟩
  ·omega
  ·rw [d1, Int.sub_self, Int.mul_zero] at e
   rcases Int.mul_eq_zero.mp e with q | q <;> omega
  ·have : (v.f0 - w.f0) * (v.f1 - u.f1) = 0 := by rw [b1] at e; grind
   rcases Int.mul_eq_zero.mp this with q | q <;> omega
  ·omega
 ·rcases h.corner mw uv ⟨z, k⟩ with q | q
  ·exact nuw q.symm
  ·exact nvw q.symm
 ·have : cr v w u = 0 := by rw [cr_rot]; exact z
  rcases h.corner mu vw ⟨this, k⟩ with q | q
  ·exact nuv q
  ·exact nuw q
theorem tri_out {a b c x : Pt} (T : 0 < cr a b c) (h : ¬ Cl a b c x) {m : List Pt} (hm : ∀ y ∈ m, y = a ∨ y = b ∨ y = c) : wE (loop m) x = 0 := by
 have Tb : 0 < cr b c a := by rw [cr_rot]; exact T
 have Tc : 0 < cr c a b := by rw [cr_rot, cr_rot]; exact T
 by_cases w1 : cr a b x < 0
 ·refine wE_out w1 (fun y hy => ?_)
  rcases hm y hy with r | r | r <;> subst r
  ·rw [cr_self1]; omega
  ·rw [cr_self2]; omega
  ·omega
 by_cases w2 : cr b c x < 0
 ·refine wE_out w2 (fun y hy => ?_)
  rcases hm y hy with r | r | r <;> subst r
  ·omega
  ·rw [cr_self1]; omega
  ·rw [cr_self2]; omega
 by_cases w3 : cr c a x < 0
 ·refine wE_out w3 (fun y hy => ?_)
  rcases hm y hy with r | r | r <;> subst r
  ·rw [cr_self2]; omega
  ·omega
  ·rw [cr_self1]; omega
 exact absurd ⟨by omega, by omega, by omega⟩ h
theorem cut_ear {v w u x : Pt} {l : List Pt} (h : SP (v :: w :: (x :: l ++ [u]))) (bl : ∀ c ∈ w :: (x :: l ++ [u]), Bot v c)
  (T : (0 < cr u v w ∧ ∀ y ∈ v :: w :: (x :: l ++ [u]), Cl u v w y → y = u ∨ y = v ∨ y = w) ∨ (0 < cr w v u ∧ ∀ y ∈ v :: w :: (x :: l ++ [u]), Cl w v u y → y = w ∨ y = v ∨ y = u)) : Cut w (x :: l) u [v] := by
 have uv : (u, v) ∈ loop (v :: w :: (x :: l ++ [u])) := by
  show _ ∈ pth v (w :: (x :: l ++ [u])) v
  exact List.mem_cons_of_mem _ (by rw [pth_app]; exact List.mem_append_right _ (List.mem_cons_self ..))
 have vw : (v, w) ∈ loop (v :: w :: (x :: l ++ [u])) := List.mem_cons_self ..
 have wx : (w, x) ∈ loop (v :: w :: (x :: l ++ [u])) := List.mem_cons_of_mem _ (List.mem_cons_self ..)
 have sp : SP (w :: (x :: l ++ u :: [v])) := by
  have := SP.rot (a := v) (l1 := []) (b := w) (l2 := x :: l ++ [u]) h
  rw [List.append_assoc] at this; exact this
 have mem : ∀ e, e ∈ loop (w :: (x :: l ++ u :: [v])) ↔ e ∈ loop (v :: w :: (x :: l ++ [u])) := by
  intro e
  have := loop_rot (a := v) (l1 := []) (b := w) (l2 := x :: l ++ [u]) (e := e)
  rw [List.append_assoc] at this; exact this.symm
 obtain ⟨nwu, np1, np2, _⟩ := nodup_parts sp.nd
 have na : (u, w) ∉ loop (v :: w :: (x :: l ++ [u])) ∧ (w, u) ∉ loop (v :: w :: (x :: l ++ [u])) := by
  refine ⟨fun k => ?_, fun k => ?_⟩
  ·have := congrArg Prod.snd (loop_fst h.nd _ k _ uv rfl)
   exact (np2 v (List.mem_cons_self ..)).1 this.symm
  ·have := congrArg Prod.snd (loop_fst h.nd _ k _ wx rfl)
   exact (np1 x (List.mem_cons_self ..)).2.1 this.symm
 have sub : ∀ y ∈ x :: l, y ∈ v :: w :: (x :: l ++ [u]) := fun y hy => List.mem_cons_of_mem _ (List.mem_cons_of_mem _ (List.mem_append_left _ hy))
 have ny : ∀ y ∈ x :: l, y ≠ v := fun y hy e => (np1 y hy).2.2 (by rw [e]; exact List.mem_cons_self ..)
 refine ⟨sp, List.cons_ne_nil _ _, List.cons_ne_nil _ _, fun e he => ?_, fun y hy => ?_, fun y hy => ?_⟩
 ·rw [mem] at he
  rcases T with ⟨T, em⟩ | ⟨T, em⟩
  ·exact (ear_chord h (Or.inl ⟨uv, vw⟩) T em na e he).swap
  ·exact ear_chord h (Or.inr ⟨vw, uv⟩) T em ⟨na.2, na.1⟩ e he
 ·have mm : ∀ q ∈ u :: ([v] ++ [w]), q = u ∨ q = v ∨ q = w := fun q hq => by simpa using hq
  rcases T with ⟨T, em⟩ | ⟨T, em⟩
  ·refine tri_out T (fun c => ?_) mm
   rcases em y (sub y hy) c with r | r | r
   ·exact (np1 y hy).2.1 r
   ·exact ny y hy r
   ·exact (np1 y hy).1 r
  ·refine tri_out T (fun c => ?_) (fun q hq => by rcases mm q hq with r | r | r; exact Or.inr (Or.inr r); exact Or.inr (Or.inl r); exact Or.inl r)
   rcases em y (sub y hy) c with r | r | r
   ·exact (np1 y hy).1 r
   ·exact ny y hy r
   ·exact (np1 y hy).2.1 r
 ·rw [List.mem_singleton.mp hy]
  refine eS_zero _ (fun e he => ?_)
  obtain ⟨m1, m2⟩ := loop_mem he
  have := cS_away (K := 1) (d := ⟨0, 0⟩) (bl _ m1) (bl _ m2) (by dsimp only; omega) (by dsimp only; omega) (by dsimp only; omega)
  rw [sc_one, sc_one] at this
  simpa using this
theorem cut_chord {v w u z : Pt} {l1 l2 : List Pt} (h : SP (v :: (w :: l1 ++ z :: (l2 ++ [u])))) (bl : ∀ c ∈ w :: l1 ++ z :: (l2 ++ [u]), Bot v c) (ch : ∀ e ∈ loop (v :: (w :: l1 ++ z :: (l2 ++ [u]))), Ends v z e.1 e.2)
  (T : ((0 < cr v w u ∧ 0 < cr v z u) ∧ (cr v z w < 0 ∧ cr v u w < 0)) ∨ ((cr v w u < 0 ∧ cr v z u < 0) ∧ (0 < cr v z w ∧ 0 < cr v u w))) : Cut v (w :: l1) z (l2 ++ [u]) := by
 obtain ⟨nvz, np1, np2, nd1⟩ := nodup_parts h.nd
 have mu : u ∈ l2 ++ [u] := List.mem_append_right _ (List.mem_cons_self ..)
 have inn1 : ∀ e ∈ pth v (w :: l1) z, e ∈ loop (v :: (w :: l1 ++ z :: (l2 ++ [u]))) := fun e he => by rw [loop_at]; exact List.mem_append_left _ he
 have inn2 : ∀ e ∈ pth z (l2 ++ [u]) v, e ∈ loop (v :: (w :: l1 ++ z :: (l2 ++ [u]))) := fun e he => by rw [loop_at]; exact List.mem_append_right _ he
 have uv : (u, v) ∈ pth z (l2 ++ [u]) v := by rw [pth_app]; exact List.mem_append_right _ (List.mem_cons_self ..)
 have vw : (v, w) ∈ pth v (w :: l1) z := List.mem_cons_self ..
 have bz : Bot v z := bl z (List.mem_append_right _ (List.mem_cons_self ..))
 have bw : Bot v w := bl w (List.mem_cons_self ..)
 have bu : Bot v u := bl u (List.mem_append_right _ (List.mem_cons_of_mem _ mu))
 have b1 : ∀ c ∈ l1, Bot v c := fun c hc => bl c (List.mem_cons_of_mem _ (List.mem_append_left _ hc))
 have b2 : ∀ c ∈ l2, Bot v c := fun c hc => bl c (List.mem_append_right _ (List.mem_cons_of_mem _ (List.mem_append_left _ hc)))
 have u_out : u ∉ v :: (w :: l1 ++ [z]) := by
  intro k
  obtain ⟨q1, q2, q3⟩ := np2 u mu
  rcases List.mem_cons.mp k with r | r
  ·exact q1 r
  ·rcases List.mem_append.mp r with r | r
   ·exact q3 r
   ·exact q2 (List.mem_singleton.mp r)
 have w_out : w ∉ z :: (l2 ++ [u] ++ [v]) := by
  intro k
  obtain ⟨q1, q2, q3⟩ := np1 w (List.mem_cons_self ..)
  rcases List.mem_cons.mp k with r | r
  ·exact q2 r
  ·rcases List.mem_append.mp r with r | r
   ·exact q3 r
   ·exact q1 (List.mem_singleton.mp r)
 refine ⟨h, List.cons_ne_nil _ _, (fun k => by rw [k] at mu; cases mu), ch, ?_, ?_⟩
 ·refine part_out h.rot (fun e he => (ch e (loop_rot.mpr he)).swap) ⟨w, List.mem_cons_self .., ?_⟩
  have r : wE (loop (z :: (l2 ++ [u] ++ [v]))) w = wE (loop (v :: z :: (l2 ++ [u]))) w := (eS_rot _ z (l2 ++ [u]) v []).symm
  rw [r]
  refine corner_zero bz bu b2 bw (T.elim (fun t => Or.inr t.2) (fun t => Or.inl t.2)) (fun f hf => ?_) (fun k => w_out ?_)
  ·rcases List.mem_cons.mp hf with q | q
   ·rw [q]; exact (ch _ (inn1 _ vw)).symm.swap
   ·refine (h.sep _ (inn1 _ vw) f (inn2 f q) (fun e => ?_)).swap
    have := (pth_mem _ _ _ f q).2
    rw [← e] at this
    rcases List.mem_append.mp this with r | r
    ·exact (np1 w (List.mem_cons_self ..)).2.2 r
    ·exact (np1 w (List.mem_cons_self ..)).1 (List.mem_singleton.mp r)
  ·rcases List.mem_cons.mp k with r | r
   ·exact List.mem_cons_of_mem _ (List.mem_append_right _ (List.mem_singleton.mpr r))
   ·rcases List.mem_cons.mp r with r | r
    ·rw [r]; exact List.mem_cons_self ..
    ·exact List.mem_cons_of_mem _ (List.mem_append_left _ r)
 ·refine part_out h ch ⟨u, mu, ?_⟩
  refine corner_zero bw bz b1 bu (T.elim (fun t => Or.inl t.1) (fun t => Or.inr t.1)) (fun f hf => ?_) u_out
  have hf' : f ∈ loop (v :: (w :: l1 ++ [z])) := hf
  rw [loop_part] at hf'
  rcases List.mem_append.mp hf' with q | q
  ·refine h.sep _ (inn2 _ uv) f (inn1 f q) (fun e => ?_)
   have := (pth_mem _ _ _ f q).1
   rw [← e] at this
   exact u_out (by
    rcases List.mem_cons.mp this with r | r
    ·exact List.mem_cons.mpr (Or.inl r)
    ·exact List.mem_cons_of_mem _ (List.mem_append_left _ r))
  ·rw [List.mem_singleton.mp q]; exact (ch _ (inn2 _ uv)).symm.swap2
end Go.Proofs.Ythehmkpcddafnaa.M
end
section
namespace Go.Proofs.Ythehmkpcddafnaa.M
open Go.Proofs.Ythehmkpcddafnaa.PG
theorem edge_point {a b : Pt} {l : List Pt} (h : SP (a :: b :: l)) {k : Int} (hk : 0 < k) {p : Pt} (o : On (sc k a) (sc k b) p) (na : p ≠ sc k a) (nb : p ≠ sc k b) :
  wE ((loop (a :: b :: l)).map (scE k)) p - wF ((loop (a :: b :: l)).map (scE k)) p = 1 ∨ wE ((loop (a :: b :: l)).map (scE k)) p - wF ((loop (a :: b :: l)).map (scE k)) p = -1 := by
 rw [← loop_sc]
 refine wE_wF_on (l := l.map (sc k)) o na nb (fun e he oe => ?_)
 rw [pth_sc] at he
 obtain ⟨f, hf, rfl⟩ := List.mem_map.mp he
 have ab : (a, b) ∈ loop (a :: b :: l) := List.mem_cons_self ..
 have inn : f ∈ loop (a :: b :: l) := List.mem_cons_of_mem _ hf
 have ne : (a, b) ≠ f := by
  intro e
  have := (pth_mem l b a f hf).1
  rw [← e] at this
  exact (List.nodup_cons.mp h.nd).1 this
 rcases (((h.sep _ ab f inn ne).sc hk).on o oe).1 with q | q
 ·exact na q
 ·exact nb q
theorem flat_par {a b c : Pt} {R : List Pt} (h : SP (b :: c :: (R ++ [a]))) (z : cr a b c = 0) : ∃ be ga : Int, 0 < be ∧ 0 < ga ∧ (be + ga) * b.f0 = be * a.f0 + ga * c.f0 ∧ (be + ga) * b.f1 = be * a.f1 + ga * c.f1 := by
 have ab : (a, b) ∈ loop (b :: c :: (R ++ [a])) := by
  show _ ∈ pth b (c :: (R ++ [a])) b
  exact List.mem_cons_of_mem _ (by rw [pth_app]; exact List.mem_append_right _ (List.mem_cons_self ..))
 have bc : (b, c) ∈ loop (b :: c :: (R ++ [a])) := List.mem_cons_self ..
 obtain ⟨n1, n2⟩ := List.nodup_cons.mp h.nd
 obtain ⟨n3, n4⟩ := List.nodup_cons.mp n2
 have nbc : b ≠ c := fun e => n1 (by rw [e]; exact List.mem_cons_self ..)
 have nba : b ≠ a := fun e => n1 (by rw [e]; exact List.mem_cons_of_mem _ (List.mem_append_right _ (List.mem_cons_self ..)))
 have nca : c ≠ a := fun e => n3 (by rw [e]; exact List.mem_append_right _ (List.mem_cons_self ..))
 have ma : a ∈ b :: c :: (R ++ [a]) := List.mem_cons_of_mem _ (List.mem_cons_of_mem _ (List.mem_append_right _ (List.mem_cons_self ..)))
 have mc : c ∈ b :: c :: (R ++ [a]) := List.mem_cons_of_mem _ (List.mem_cons_self ..)
 rcases on_line z with k | k | k
 ·obtain ⟨s, t, h1, h2, h3, h4, h5⟩ := on_par (a := a) (b := c) (p := b) ⟨by rw [cr_swap]; omega, k⟩
  have i := end_eq h3 h4 h5
  refine ⟨s, t, ?_, ?_, h4, h5⟩
  ·rcases Int.lt_or_eq_of_le h1 with q | q
   ·exact q
   ·exact absurd (i.2 q.symm) nbc
  ·rcases Int.lt_or_eq_of_le h2 with q | q
   ·exact q
   ·exact absurd (i.1 q.symm) nba
 ·rcases h.corner mc ab ⟨z, k⟩ with q | q
  ·exact absurd q nca
  ·exact absurd q.symm nbc
 ·rcases h.corner ma bc ⟨by rw [cr_rot]; exact z, k⟩ with q | q
  ·exact absurd q.symm nba
  ·exact absurd q.symm nca
end Go.Proofs.Ythehmkpcddafnaa.M
end
section
namespace Go.Proofs.Ythehmkpcddafnaa.M
open Go.Proofs.Ythehmkpcddafnaa.PG
end Go.Proofs.Ythehmkpcddafnaa.M
end
section
namespace Go.Proofs.Ythehmkpcddafnaa.M
open Go.Proofs.Ythehmkpcddafnaa.PG
end Go.Proofs.Ythehmkpcddafnaa.M
end
section
namespace Go.Proofs.Ythehmkpcddafnaa.M
open Go.RowKit Go.Proofs.Ythehmkpcddafnaa.PG Go.Proofs.YthehmkpcddafnaaW.PrintMore Go.Proofs.YthehmkpcddafnaaW.PrintWords
end Go.Proofs.Ythehmkpcddafnaa.M
end
section
namespace Go.Proofs.Ythehmkpcddafnaa.M
open Go.RowKit Go.Proofs.Ythehmkpcddafnaa.PG Go.Proofs.YthehmkpcddafnaaW.PrintMore Go.Proofs.YthehmkpcddafnaaW.PrintWords
def In (m : Int) (p : Pt) : Prop := -m ≤ p.f0 ∧ p.f0 ≤ m ∧ -m ≤ p.f1 ∧ p.f1 ≤ m
instance (m : Int) (p : Pt) : Decidable (In m p) := by unfold In; infer_instance
def Poly (l : List Pt) : Prop := 3 ≤ l.length ∧ l.length ≤ 32 ∧ ∀ p ∈ l, In 10000 p
instance (l : List Pt) : Decidable (Poly l) := by unfold Poly; infer_instance
theorem beyond_f (m : Int) (h0 : 0 ≤ m) (h1 : m ≤ 1000000) (p : Pt) : beyond m p = !decide (In m p) := by
 unfold beyond
 rw [wz _ (by omega) (by omega), Bool.eq_iff_iff]
 simp only [Bool.or_eq_true, decide_eq_true_eq, Bool.not_eq_true']
 rw [decide_eq_false_iff_not]
 unfold In
 omega
theorem within_f (l : List Pt) (m : Int) (h0 : 0 ≤ m) (h1 : m ≤ 1000000) : shape_within.f l m = some (decide (∀ p ∈ l, In m p)) := by
 unfold shape_within.f
 congr 1
 rw [Bool.eq_iff_iff]
 simp only [Bool.not_eq_true', List.any_eq_false, beyond_f m h0 h1, decide_eq_true_eq, Bool.not_eq_true', decide_eq_false_iff_not, Decidable.not_not]
theorem polygon_f (l : List Pt) : shape_polygon.f l = some (decide (Poly l)) := by
 unfold shape_polygon.f
 by_cases h : (l.length : Int) ≥ 3
 ·rw [if_pos h]
  by_cases h2 : (l.length : Int) ≤ 32
  ·rw [if_pos h2, within_f _ _ (by omega) (by omega), Option.bind_some]
   congr 1; rw [decide_eq_decide]
   exact ⟨fun h3 => ⟨by omega, by omega, h3⟩, fun h3 => h3.2.2⟩
  ·rw [if_neg h2]
   congr 1; symm; rw [decide_eq_false_iff_not]
   intro h3; have := h3.2.1; omega
 ·rw [if_neg h]
  congr 1; symm; rw [decide_eq_false_iff_not]
  intro h3; have := h3.1; omega
theorem in_bd {p : Pt} (h : In 10000 p) : Bd p := by unfold In at h; unfold Bd; omega
def term (l : List Pt) (i : Nat) : Int := (at_ l i).f0 * (at_ l ((i + 1) % l.length)).f1 - (at_ l i).f1 * (at_ l ((i + 1) % l.length)).f0
def areaTo (l : List Pt) : Nat → Int
 | 0 => 0
 | i + 1 => areaTo l i + term l i
def area (l : List Pt) : Int := areaTo l l.length
theorem prod_bd {a b : Pt} (ha : Bd a) (hb : Bd b) : (-4000000000000 ≤ a.f0 * b.f1 ∧ a.f0 * b.f1 ≤ 4000000000000) ∧ (-4000000000000 ≤ a.f1 * b.f0 ∧ a.f1 * b.f0 ≤ 4000000000000) := by
 obtain ⟨a0, a1, a2, a3⟩ := ha; obtain ⟨b0, b1, b2, b3⟩ := hb
 exact ⟨mulb (by omega) (by omega) (by omega) (by omega), mulb (by omega) (by omega) (by omega) (by omega)⟩
theorem areaTo_bd {l : List Pt} (hb : ∀ p ∈ l, Bd p) : ∀ i, i ≤ l.length → -8000000000000 * (i : Int) ≤ areaTo l i ∧ areaTo l i ≤ 8000000000000 * (i : Int) := by
 intro i
 induction i with
 | zero => intro _; unfold areaTo; omega
 | succ i ih =>
  intro hi
  have h := ih (by omega)
  have h2 := prod_bd (at_bd hb (show i < l.length by omega)) (at_bd hb (show (i + 1) % l.length < l.length from Nat.mod_lt _ (by omega)))
  unfold areaTo term; omega
theorem area_l0 {l : List Pt} (hb : ∀ p ∈ l, Bd p) (hN : l.length ≤ 1000000) : ∀ d i, l.length = i + d → Rt (fun k => shape_area2.l0 k l (areaTo l i) (l.length : Int) (i : Int)) (area l) := by
 intro d
 induction d with
 | zero =>
  intro i hi
  refine ⟨0 + 1, fun k hk => ?_⟩
  obtain ⟨k, rfl⟩ := fuel1 hk
  dsimp only; rw [shape_area2.l0, if_neg (by omega)]
  rw [show i = l.length by omega]; rfl
 | succ d ih =>
  intro i hi
  have hlt : i < l.length := by omega
  obtain ⟨K, hK⟩ := ih (i + 1) (by omega)
  refine ⟨K + 1, fun k hk => ?_⟩
  obtain ⟨k, rfl⟩ := fuel1 hk
  have t1 := tmod_in (i + 1) l.length (by omega)
  have h2 := prod_bd (at_bd hb hlt) (at_bd hb (show (i + 1) % l.length < l.length from Nat.mod_lt _ (by omega)))
  have h3 := areaTo_bd hb (i + 1) (by omega)
  have h4 := areaTo_bd hb i (by omega)
  have e : areaTo l (i + 1) = areaTo l i + term l i := rfl
  unfold term at e
  dsimp only
  rw [shape_area2.l0, if_pos (by omega), if_pos (by omega), if_pos (by omega), if_neg (by omega), tmod_nat i _ (by omega), if_pos (by omega), if_pos (by omega), rd_at, rd_at]
  unfold shape_cross.f
  rw [Option.bind_some, wz ((at_ l i).f0 * _) (by omega) (by omega), wz ((at_ l i).f1 * _) (by omega) (by omega), wz (_ - _) (by omega) (by omega), wz (areaTo l i + _) (by omega) (by omega), ← e, wrap_succ i (by omega)]
  exact hK k (by omega)
theorem area_run {l : List Pt} (hb : ∀ p ∈ l, Bd p) (hN : l.length ≤ 1000000) : Rt (fun k => shape_area2.f k l) (area l) := by
 obtain ⟨K, hK⟩ := area_l0 hb hN l.length 0 (by omega)
 exact ⟨K, fun k hk => hK k hk⟩
end Go.Proofs.Ythehmkpcddafnaa.M
end
section
namespace Go.Proofs.Ythehmkpcddafnaa.M
def wnS (m : List Pt) (x y : Int) : Int := sumN (fun i => cS (at_ m i) (at_ m ((i + 1) % m.length)) x y) m.length
def wnT (m : List Pt) (x y : Int) : Int := sumN (fun i => cT (at_ m i) (at_ m ((i + 1) % m.length)) x y) m.length
theorem over_sum {g : Nat → Int → Int → Int} {x0 y0 : Int} {n h : Nat} (k : Nat) : over (fun x y => sumN (fun i => g i x y) k) x0 y0 n h = sumN (fun i => over (g i) x0 y0 n h) k := by
 unfold over
 rw [sumN_congr h (fun j _ => sumN_swap n k), sumN_swap h k]
theorem edges_sum {m : List Pt} (c : Int) : ∀ k, k ≤ m.length → sumN (fun i => ((at_ m ((i + 1) % m.length)).f1 - (at_ m i).f1) * ((at_ m i).f0 + (at_ m ((i + 1) % m.length)).f0 + c)) k =
  areaTo m k + ((at_ m (k % m.length)).f0 * (at_ m (k % m.length)).f1 - (at_ m 0).f0 * (at_ m 0).f1) + c * ((at_ m (k % m.length)).f1 - (at_ m 0).f1)
 | 0, _ => by
  rw [Nat.zero_mod]
  show (0 : Int) = 0 + _ + _
  rw [Int.sub_self, Int.sub_self, Int.mul_zero]; rfl
 | k + 1, hk => by
  have hm : k % m.length = k := Nat.mod_eq_of_lt (by omega)
  rw [sumN_succ, edges_sum c k (by omega), hm]
  have e : areaTo m (k + 1) = areaTo m k + term m k := rfl
  rw [e]
  unfold term
  grind
theorem over_poly {m : List Pt} {x0 y0 : Int} {n h : Nat} (hx : ∀ p ∈ m, x0 ≤ p.f0 ∧ p.f0 < x0 + n) (hy : ∀ p ∈ m, y0 ≤ p.f1 ∧ p.f1 < y0 + h) : over (wnS m) x0 y0 n h + over (wnT m) x0 y0 n h = area m := by
 have e1 : over (wnS m) x0 y0 n h = sumN (fun i => over (cS (at_ m i) (at_ m ((i + 1) % m.length))) x0 y0 n h) m.length := over_sum (g := fun i => cS (at_ m i) (at_ m ((i + 1) % m.length))) m.length
 have e2 : over (wnT m) x0 y0 n h = sumN (fun i => over (cT (at_ m i) (at_ m ((i + 1) % m.length))) x0 y0 n h) m.length := over_sum (g := fun i => cT (at_ m i) (at_ m ((i + 1) % m.length))) m.length
 rw [e1, e2, ← sumN_add]
 rw [sumN_congr m.length (g := fun i => ((at_ m ((i + 1) % m.length)).f1 - (at_ m i).f1) * ((at_ m i).f0 + (at_ m ((i + 1) % m.length)).f0 + (1 - 2 * x0))) (fun i hi => by
  have m1 := at_mem (h := m) hi
  have m2 := at_mem (h := m) (Nat.mod_lt (i + 1) (show 0 < m.length by omega))
  rw [over_edge (hx _ m1).1 (hx _ m1).2 (hx _ m2).1 (hx _ m2).2 (hy _ m1).1 (hy _ m1).2 (hy _ m2).1 (hy _ m2).2]
  congr 1; omega)]
 rw [edges_sum _ m.length (Nat.le_refl _), Nat.mod_self, Int.sub_self, Int.sub_self, Int.mul_zero]
 unfold area; omega
end Go.Proofs.Ythehmkpcddafnaa.M
end
section
namespace Go.Proofs.Ythehmkpcddafnaa.M
open Go.RowKit Go.Proofs.Ythehmkpcddafnaa.PG Go.Proofs.YthehmkpcddafnaaW.PrintMore Go.Proofs.YthehmkpcddafnaaW.PrintWords
def Hit (a b p : Pt) : Prop := (a.f1 ≤ p.f1 ∧ p.f1 < b.f1 ∧ 0 < cr a b p) ∨ (b.f1 ≤ p.f1 ∧ p.f1 < a.f1 ∧ 0 < cr b a p)
instance (a b p : Pt) : Decidable (Hit a b p) := by unfold Hit; infer_instance
def wh (l : List Pt) (p : Pt) : Nat → Nat → Bool → Int
 | 0, _, s => if s = true then 1 else -1
 | d + 1, i, s => if On (at_ l i) (at_ l ((i + 1) % l.length)) p then 0 else wh l p d (i + 1) (s != decide (Hit (at_ l i) (at_ l ((i + 1) % l.length)) p))
def whereOf (l : List Pt) (p : Pt) : Int := wh l p l.length 0 false
end Go.Proofs.Ythehmkpcddafnaa.M
end
section
namespace Go.Proofs.Ythehmkpcddafnaa.M
open Go.RowKit Go.Proofs.Ythehmkpcddafnaa.PG Go.Proofs.YthehmkpcddafnaaW.PrintMore Go.Proofs.YthehmkpcddafnaaW.PrintWords
end Go.Proofs.Ythehmkpcddafnaa.M
end
section
namespace Go.Proofs.Ythehmkpcddafnaa.M
open Go.RowKit Go.Proofs.Ythehmkpcddafnaa.PG Go.Proofs.YthehmkpcddafnaaW.PrintMore Go.Proofs.YthehmkpcddafnaaW.PrintWords
def nx (h : List Pt) (i : Nat) : Nat := (i + 1) % h.length
end Go.Proofs.Ythehmkpcddafnaa.M
end
section
namespace Go.Proofs.Ythehmkpcddafnaa.M
open Go.RowKit Go.Proofs.Ythehmkpcddafnaa.PG Go.Proofs.YthehmkpcddafnaaW.PrintMore Go.Proofs.YthehmkpcddafnaaW.PrintWords
theorem refused_simple {r : List Pt} (hl : r.length ≤ 1000000) (hp : Poly r) (hs : Simple r) : Rt (fun k => shape_refused_simple.f k r) 0 := by
 obtain ⟨b, ⟨K, h⟩, i⟩ := simple_run (fun p h => in_bd (hp.2.2 p h)) hp.1 hl
 refine ⟨K, fun k hk => ?_⟩
 have a := h k hk
 dsimp only at a ⊢
 unfold shape_refused_simple.f
 rw [polygon_f, Option.bind_some, if_pos (by simpa using hp), a, Option.bind_some, if_pos (i.mpr hs)]
end Go.Proofs.Ythehmkpcddafnaa.M
end
section
namespace Go.Proofs.Ythehmkpcddafnaa.M
open Go.Proofs.Ythehmkpcddafnaa.PG
section
variable {p q : Int} {a b : List Pt} {S : List Pt}
def Sums (a b S : List Pt) : Prop := ∀ s, s ∈ S ↔ ∃ k l, k < a.length ∧ l < b.length ∧ s = plus (at_ a k) (at_ b l)
def V (a b : List Pt) (i j : Nat) : Pt := plus (P a i) (P b j)
end
end Go.Proofs.Ythehmkpcddafnaa.M
end
section
namespace Go.Proofs.Ythehmkpcddafnaa.M
open Go.Proofs.Ythehmkpcddafnaa.PG
end Go.Proofs.Ythehmkpcddafnaa.M
end
section
namespace Go.Proofs.Ythehmkpcddafnaa.M
open Go.RowKit Go.Proofs.Ythehmkpcddafnaa.PG Go.Proofs.YthehmkpcddafnaaW.PrintMore Go.Proofs.YthehmkpcddafnaaW.PrintWords
end Go.Proofs.Ythehmkpcddafnaa.M
end
section
namespace Go.Proofs.Ythehmkpcddafnaa.M
open Go.RowKit Go.Proofs.Ythehmkpcddafnaa.PG Go.Proofs.YthehmkpcddafnaaW.PrintMore Go.Proofs.YthehmkpcddafnaaW.PrintWords
theorem tmod_bd (a b : Int) (hb : 0 < b) : -b < Int.tmod a b ∧ Int.tmod a b < b := by
 have h : (Int.tmod a b).natAbs = a.natAbs % b.natAbs := Int.natAbs_tmod a b
 have h2 : a.natAbs % b.natAbs < b.natAbs := Nat.mod_lt _ (by omega)
 omega
end Go.Proofs.Ythehmkpcddafnaa.M
end
section
namespace Go.Proofs.Ythehmkpcddafnaa.M
open Go.RowKit Go.Proofs.Ythehmkpcddafnaa.PG Go.Proofs.YthehmkpcddafnaaW.PrintMore Go.Proofs.YthehmkpcddafnaaW.PrintWords
structure Nf (m : Int) (h : List Pt) : Prop where
 ring : Ring h h
 flat : ¬ Flat h
 fst : ∀ p ∈ h, p = at_ h 0 ∨ first (at_ h 0) p
 inb : ∀ p ∈ h, In m p
def sums (a b : List Pt) : List Pt := a.flatMap fun x => b.map (plus x)
end Go.Proofs.Ythehmkpcddafnaa.M
end
section
namespace Go.Proofs.Ythehmkpcddafnaa.M
open Go.RowKit Go.Proofs.Ythehmkpcddafnaa.PG Go.Proofs.YthehmkpcddafnaaW.PrintMore Go.Proofs.YthehmkpcddafnaaW.PrintWords
end Go.Proofs.Ythehmkpcddafnaa.M
end
section
namespace Go.Proofs.Ythehmkpcddafnaa.M
open Go.RowKit Go.Proofs.Ythehmkpcddafnaa.PG Go.Proofs.YthehmkpcddafnaaW.PrintMore Go.Proofs.YthehmkpcddafnaaW.PrintWords
end Go.Proofs.Ythehmkpcddafnaa.M
end
section
namespace Go.Proofs.Ythehmkpcddafnaa.M
open Go.RowKit Go.Proofs.Ythehmkpcddafnaa.PG Go.Proofs.YthehmkpcddafnaaW.PrintMore Go.Proofs.YthehmkpcddafnaaW.PrintWords
def odd (l : List Pt) (p : Pt) : Nat → Nat → Bool
 | 0, _ => false
 | d + 1, i => decide (Hit (at_ l i) (at_ l ((i + 1) % l.length)) p) != odd l p d (i + 1)
theorem wh_odd {l : List Pt} {p : Pt} : ∀ d i s, (∀ j, i ≤ j → j < i + d → ¬ On (at_ l j) (at_ l ((j + 1) % l.length)) p) → wh l p d i s = if (s != odd l p d i) = true then 1 else -1 := by
 intro d
 induction d with
 | zero => intro i s _; unfold wh odd; cases s <;> rfl
 | succ d ih =>
  intro i s hon
  unfold wh odd
  rw [if_neg (hon i (Nat.le_refl _) (by omega)), ih (i + 1) _ (fun j h1 h2 => hon j (by omega) (by omega))]
  cases s <;> cases decide (Hit (at_ l i) (at_ l ((i + 1) % l.length)) p) <;> cases odd l p d (i + 1) <;> rfl
end Go.Proofs.Ythehmkpcddafnaa.M
end
section
namespace Go.Proofs.Ythehmkpcddafnaa.M
open Go.RowKit Go.Proofs.Ythehmkpcddafnaa.PG Go.Proofs.YthehmkpcddafnaaW.PrintMore Go.Proofs.YthehmkpcddafnaaW.PrintWords
end Go.Proofs.Ythehmkpcddafnaa.M
end
section
namespace Go.Proofs.Ythehmkpcddafnaa.M
open Go.RowKit Go.Proofs.Ythehmkpcddafnaa.PG Go.Proofs.YthehmkpcddafnaaW.PrintMore Go.Proofs.YthehmkpcddafnaaW.PrintWords
theorem refsign_f (n : Int) : cracknelref04_sign.f n = some (sg n) := by
 unfold cracknelref04_sign.f sg; split <;> (try split) <;> rfl
theorem refMeet_f {a b c d : Pt} (ha : Bd a) (hb : Bd b) (hc : Bd c) (hd : Bd d) (k : Nat) : cracknelref04_Meet.f (k + 1) a.f0 a.f1 b.f0 b.f1 c.f0 c.f1 d.f0 d.f1 = some (decide (Meet a b c d)) := by
 unfold cracknelref04_Meet.f
 simp only [cracknelref04_Meet.j0, On_f ha hb hc, On_f ha hb hd, On_f hc hd ha, On_f hc hd hb, Cross_f ha hb hc, Cross_f ha hb hd, Cross_f hc hd ha, Cross_f hc hd hb, refsign_f, Option.bind_some, sg_neg, decide_eq_true_eq]
 unfold Meet
 split
 ·simp_all
 ·split
  ·simp_all
  ·split
   ·simp_all
   ·split
    ·simp_all
    ·split <;> simp_all <;> omega
theorem next_f {l : List Pt} {i : Nat} (hl : 0 < l.length) (hi : (i : Int) ≤ 9223372036854775806) : cracknelref04_next.f l (i : Int) = some ((at_ l ((i + 1) % l.length)).f0, (at_ l ((i + 1) % l.length)).f1) := by
 have h2 : (i + 1) % l.length < l.length := Nat.mod_lt _ hl
 unfold cracknelref04_next.f
 rw [tmod_nat i l.length hi, if_neg (by omega), if_pos (by omega), if_pos (by omega), rd_at]
end Go.Proofs.Ythehmkpcddafnaa.M
end
section
namespace Go.Proofs.Ythehmkpcddafnaa.M
open Go.RowKit Go.Proofs.Ythehmkpcddafnaa.PG Go.Proofs.YthehmkpcddafnaaW.PrintMore Go.Proofs.YthehmkpcddafnaaW.PrintWords
theorem ref_l2 {l : List Pt} (hb : ∀ p ∈ l, Bd p) (hn : 3 ≤ l.length) (hN : l.length ≤ 1000000) {i : Nat} (hi : i < l.length) {b' : Bool} (hnext : Rt (fun k => cracknelref04_Simple.l1 k l (l.length : Int) ((i + 1 : Nat) : Int)) b') :
  ∀ d j, l.length + 1 = j + d → ∃ b, Rt (fun k => cracknelref04_Simple.l2 k l (l.length : Int) (i : Int) (j : Int) (at_ l i).f0 (at_ l i).f1 (at_ l ((i + 1) % l.length)).f0 (at_ l ((i + 1) % l.length)).f1) b ∧ (b = true ↔ (∀ j', j ≤ j' → j' < l.length → (j' + 1) % l.length ≠ i → ¬ Meet (at_ l i) (at_ l ((i + 1) % l.length)) (at_ l j') (at_ l ((j' + 1) % l.length))) ∧ b' = true) := by
 intro d
 induction d with
 | zero =>
  intro j hj
  obtain ⟨K, hK⟩ := hnext
  refine ⟨b', ⟨K + 1, fun k hk => ?_⟩, ⟨fun h => ⟨fun j' h1 h2 => by omega, h⟩, fun h => h.2⟩⟩
  obtain ⟨k, rfl⟩ := fuel1 hk
  dsimp only; rw [cracknelref04_Simple.l2, if_neg (by omega), wrap_succ i (by omega)]
  exact hK k (by omega)
 | succ d ih =>
  intro j hj
  by_cases hlt : j < l.length
  rotate_left
  ·obtain ⟨K, hK⟩ := hnext
   refine ⟨b', ⟨K + 1, fun k hk => ?_⟩, ⟨fun h => ⟨fun j' h1 h2 => by omega, h⟩, fun h => h.2⟩⟩
   obtain ⟨k, rfl⟩ := fuel1 hk
   dsimp only; rw [cracknelref04_Simple.l2, if_neg (by omega), wrap_succ i (by omega)]
   exact hK k (by omega)
  obtain ⟨b1, ⟨K, hK⟩, hb1⟩ := ih (j + 1) (by omega)
  have hBi := at_bd hb hi
  have hBn := at_bd hb (show (i + 1) % l.length < l.length from Nat.mod_lt _ (by omega))
  have hBj := at_bd hb hlt
  have hBk := at_bd hb (show (j + 1) % l.length < l.length from Nat.mod_lt _ (by omega))
  rw [from_split hlt]
  by_cases h1 : (j + 1) % l.length = i
  ·refine ⟨b1, ⟨K + 1, fun k hk => ?_⟩, ?_⟩
   ·obtain ⟨k, rfl⟩ := fuel1 hk
    dsimp only; rw [cracknelref04_Simple.l2, if_pos (by omega), if_neg (by omega), wrap_succ j (by omega), tmod_nat' j _ (by omega), if_pos (by omega)]
    exact hK k (by omega)
   ·rw [hb1]; exact ⟨fun h => ⟨⟨fun h2 => absurd h1 h2, h.1⟩, h.2⟩, fun h => ⟨h.1.2, h.2⟩⟩
  ·by_cases hm : Meet (at_ l i) (at_ l ((i + 1) % l.length)) (at_ l j) (at_ l ((j + 1) % l.length))
   ·refine ⟨false, ⟨0 + 2, fun k hk => ?_⟩, ⟨fun h => by simp at h, fun h => absurd hm (h.1.1 h1)⟩⟩
    obtain ⟨k, rfl⟩ := fuel2 hk
    dsimp only; rw [cracknelref04_Simple.l2, if_pos (by omega), if_neg (by omega), wrap_succ j (by omega), tmod_nat' j _ (by omega), if_neg (by omega), if_pos (by omega), if_pos (by omega), next_f (by omega) (by omega), Option.bind_some, rd_at, refMeet_f hBi hBn hBj hBk, Option.bind_some, if_pos (by simpa using hm)]
   ·refine ⟨b1, ⟨K + 2, fun k hk => ?_⟩, ?_⟩
    ·obtain ⟨k, rfl⟩ := fuel2 hk
     dsimp only; rw [cracknelref04_Simple.l2, if_pos (by omega), if_neg (by omega), wrap_succ j (by omega), tmod_nat' j _ (by omega), if_neg (by omega), if_pos (by omega), if_pos (by omega), next_f (by omega) (by omega), Option.bind_some, rd_at, refMeet_f hBi hBn hBj hBk, Option.bind_some, if_neg (by simpa using hm)]
     exact hK _ (by omega)
    ·rw [hb1]; exact ⟨fun h => ⟨⟨fun _ => hm, h.1⟩, h.2⟩, fun h => ⟨h.1.2, h.2⟩⟩
theorem ref_l1 {l : List Pt} (hb : ∀ p ∈ l, Bd p) (hn : 3 ≤ l.length) (hN : l.length ≤ 1000000) :
  ∀ d i, l.length = i + d → ∃ b, Rt (fun k => cracknelref04_Simple.l1 k l (l.length : Int) (i : Int)) b ∧ (b = true ↔ ∀ i', i ≤ i' → i' < l.length →
   ¬ On (at_ l i') (at_ l ((i' + 1) % l.length)) (at_ l ((i' + 1 + 1) % l.length)) ∧
   ¬ On (at_ l ((i' + 1) % l.length)) (at_ l ((i' + 1 + 1) % l.length)) (at_ l i') ∧
   ∀ k, i' + 2 ≤ k → k < l.length → (k + 1) % l.length ≠ i' → ¬ Meet (at_ l i') (at_ l ((i' + 1) % l.length)) (at_ l k) (at_ l ((k + 1) % l.length))) := by
 intro d
 induction d with
 | zero =>
  intro i hi
  refine ⟨true, ⟨0 + 1, fun k hk => ?_⟩, ⟨fun _ i' h1 h2 => by omega, fun _ => rfl⟩⟩
  obtain ⟨k, rfl⟩ := fuel1 hk
  dsimp only; rw [cracknelref04_Simple.l1, if_neg (by omega)]
 | succ d ih =>
  intro i hi
  have hlt : i < l.length := by omega
  obtain ⟨b1, hR1, hb1⟩ := ih (i + 1) (by omega)
  obtain ⟨b2, ⟨K, hK⟩, hb2⟩ := ref_l2 hb hn hN hlt hR1 (l.length + 1 - (i + 2)) (i + 2) (by omega)
  have hBi := at_bd hb hlt
  have hBn := at_bd hb (show (i + 1) % l.length < l.length from Nat.mod_lt _ (by omega))
  have hBm := at_bd hb (show (i + 1 + 1) % l.length < l.length from Nat.mod_lt _ (by omega))
  rw [from_split hlt]
  by_cases h1 : On (at_ l i) (at_ l ((i + 1) % l.length)) (at_ l ((i + 1 + 1) % l.length))
  ·refine ⟨false, ⟨0 + 2, fun k hk => ?_⟩, ⟨fun h => by simp at h, fun h => absurd h1 h.1.1⟩⟩
   obtain ⟨k, rfl⟩ := fuel2 hk
   dsimp only; rw [cracknelref04_Simple.l1, if_pos (by omega), if_pos (by omega), if_pos (by omega), next_f (by omega) (by omega), Option.bind_some, wrap_succ i (by omega), next_f (by omega) (by omega), Option.bind_some, rd_at, On_f hBi hBn hBm, Option.bind_some, if_pos (by simpa using h1), cracknelref04_Simple.j2, if_pos rfl]
  ·by_cases h2 : On (at_ l ((i + 1) % l.length)) (at_ l ((i + 1 + 1) % l.length)) (at_ l i)
   ·refine ⟨false, ⟨0 + 2, fun k hk => ?_⟩, ⟨fun h => by simp at h, fun h => absurd h2 h.1.2.1⟩⟩
    obtain ⟨k, rfl⟩ := fuel2 hk
    dsimp only; rw [cracknelref04_Simple.l1, if_pos (by omega), if_pos (by omega), if_pos (by omega), next_f (by omega) (by omega), Option.bind_some, wrap_succ i (by omega), next_f (by omega) (by omega), Option.bind_some, rd_at, On_f hBi hBn hBm, Option.bind_some, if_neg (by simpa using h1), On_f hBn hBm hBi, Option.bind_some, cracknelref04_Simple.j2, if_pos (by simpa using h2)]
   ·refine ⟨b2, ⟨K + 2, fun k hk => ?_⟩, ?_⟩
    ·obtain ⟨k, rfl⟩ := fuel2 hk
     dsimp only; rw [cracknelref04_Simple.l1, if_pos (by omega), if_pos (by omega), if_pos (by omega), next_f (by omega) (by omega), Option.bind_some, wrap_succ i (by omega), next_f (by omega) (by omega), Option.bind_some, rd_at, On_f hBi hBn hBm, Option.bind_some, if_neg (by simpa using h1), On_f hBn hBm hBi, Option.bind_some, cracknelref04_Simple.j2, if_neg (by simpa using h2), wrap_succ2 i (by omega)]
     exact hK _ (by omega)
    ·rw [hb2, hb1]
     exact ⟨fun h => ⟨⟨h1, h2, fun k h3 h4 h5 => h.1 k h3 h4 h5⟩, h.2⟩, fun h => ⟨fun k h3 h4 h5 => h.1.2.2 k h3 h4 h5, h.2⟩⟩
theorem ref_l0 {l : List Pt} (hn : 3 ≤ l.length) (hN : l.length ≤ 1000000) {b' : Bool} (hnext : Rt (fun k => cracknelref04_Simple.l1 k l (l.length : Int) 0) b') :
  ∀ d i, l.length = i + d → ∃ b, Rt (fun k => cracknelref04_Simple.l0 k l (l.length : Int) (i : Int)) b ∧ (b = true ↔ (∀ i', i ≤ i' → i' < l.length → at_ l i' ≠ at_ l ((i' + 1) % l.length)) ∧ b' = true) := by
 intro d
 induction d with
 | zero =>
  intro i hi
  obtain ⟨K, hK⟩ := hnext
  refine ⟨b', ⟨K + 1, fun k hk => ?_⟩, ⟨fun h => ⟨fun i' h1 h2 => by omega, h⟩, fun h => h.2⟩⟩
  obtain ⟨k, rfl⟩ := fuel1 hk
  dsimp only; rw [cracknelref04_Simple.l0, if_neg (by omega)]
  exact hK k (by omega)
 | succ d ih =>
  intro i hi
  have hlt : i < l.length := by omega
  obtain ⟨b1, ⟨K, hK⟩, hb1⟩ := ih (i + 1) (by omega)
  rw [from_split hlt]
  by_cases h1 : at_ l i = at_ l ((i + 1) % l.length)
  ·refine ⟨false, ⟨0 + 1, fun k hk => ?_⟩, ⟨fun h => by simp at h, fun h => absurd h1 h.1.1⟩⟩
   obtain ⟨k, rfl⟩ := fuel1 hk
   dsimp only; rw [cracknelref04_Simple.l0, if_pos (by omega), if_pos (by omega), if_pos (by omega), next_f (by omega) (by omega), Option.bind_some, rd_at, pt_beq, if_pos (by simpa using h1)]
  ·refine ⟨b1, ⟨K + 1, fun k hk => ?_⟩, ?_⟩
   ·obtain ⟨k, rfl⟩ := fuel1 hk
    dsimp only; rw [cracknelref04_Simple.l0, if_pos (by omega), if_pos (by omega), if_pos (by omega), next_f (by omega) (by omega), Option.bind_some, rd_at, pt_beq, if_neg (by simpa using h1), wrap_succ i (by omega)]
    exact hK k (by omega)
   ·rw [hb1]; exact ⟨fun h => ⟨⟨h1, h.1⟩, h.2⟩, fun h => ⟨h.1.2, h.2⟩⟩
theorem refSimple_run {l : List Pt} (hb : ∀ p ∈ l, Bd p) (hn : 3 ≤ l.length) (hN : l.length ≤ 1000000) : ∃ b, Rt (fun k => cracknelref04_Simple.f k l) b ∧ (b = true ↔ Simple l) := by
 obtain ⟨b1, hR1, h1⟩ := ref_l1 hb hn hN l.length 0 (by omega)
 obtain ⟨b, hR, h⟩ := ref_l0 hn hN hR1 l.length 0 (by omega)
 refine ⟨b, hR, ?_⟩
 rw [h, h1]
 exact ⟨fun h => ⟨fun i hi => h.1 i (Nat.zero_le _) hi, fun i hi => h.2 i (Nat.zero_le _) hi⟩, fun h => ⟨fun i _ hi => h.1 i hi, fun i _ hi => h.2 i hi⟩⟩
end Go.Proofs.Ythehmkpcddafnaa.M
end
section
namespace Go.Proofs.Ythehmkpcddafnaa.M
open Go.RowKit Go.Proofs.Ythehmkpcddafnaa.PG Go.Proofs.YthehmkpcddafnaaW.PrintMore Go.Proofs.YthehmkpcddafnaaW.PrintWords
end Go.Proofs.Ythehmkpcddafnaa.M
end
section
namespace Go.Proofs.Ythehmkpcddafnaa.M
open Go.RowKit Go.Proofs.Ythehmkpcddafnaa.PG Go.Proofs.YthehmkpcddafnaaW.PrintMore Go.Proofs.YthehmkpcddafnaaW.PrintWords
theorem cut_f (l : List Pt) (m : Nat) (hm : m ≤ 32) : ∃ r, cracknellaw04_cut.f l (m : Int) = some r ∧ r.length ≤ 33 := by
 unfold cracknellaw04_cut.f
 by_cases h : (l.length : Int) > 32
 ·rw [if_pos h, mn_eq, Option.bind_some, if_pos (by omega), if_pos (by omega), Option.bind_some, if_pos (by simp only [List.length_nil, List.length_take]; omega)]
  refine ⟨_, rfl, ?_⟩
  simp only [List.nil_append, List.length_take]; omega
 ·rw [if_neg h, mn_eq, Option.bind_some, if_pos (by omega), if_pos (by omega), Option.bind_some, if_pos (by simp only [List.length_nil, List.length_take]; omega)]
  refine ⟨_, rfl, ?_⟩
  simp only [List.nil_append, List.length_take]; omega
theorem valid_f (p : Pt) (m : Int) (h0 : 0 ≤ m) (h1 : m ≤ 1000000) : cracknelref04_Valid.f p.f0 p.f1 m = some (decide (In m p)) := by
 unfold cracknelref04_Valid.f
 rw [wz _ (by omega) (by omega), in_f, Option.bind_some, in_f]
 by_cases h : -m ≤ p.f0 ∧ p.f0 ≤ m
 ·rw [if_pos (by simpa using h), Option.bind_some]
  congr 1; rw [decide_eq_decide]; unfold In; omega
 ·rw [if_neg (by simpa using h)]
  congr 1; symm; rw [decide_eq_false_iff_not]; unfold In; omega
theorem refPolygon_l0 (l : List Pt) (hN : l.length ≤ 1000000) : ∀ d i, l.length = i + d → ∃ b, Rt (fun k => cracknelref04_Polygon.l0 k l (i : Int)) b ∧ (b = true ↔ ((∀ i', i ≤ i' → i' < l.length → In 10000 (at_ l i')) ∧ 3 ≤ l.length ∧ l.length ≤ 32)) := by
 intro d
 induction d with
 | zero =>
  intro i hi
  refine ⟨decide (3 ≤ l.length ∧ l.length ≤ 32), ⟨0 + 1, fun k hk => ?_⟩, ?_⟩
  ·obtain ⟨k, rfl⟩ := fuel1 hk
   dsimp only; rw [cracknelref04_Polygon.l0, if_neg (by omega), in_f, Option.bind_some]
   congr 1; rw [decide_eq_decide]; omega
  ·rw [decide_eq_true_eq]
   exact ⟨fun h => ⟨fun i' h1 h2 => by omega, by omega⟩, fun h => by omega⟩
 | succ d ih =>
  intro i hi
  have hlt : i < l.length := by omega
  obtain ⟨b, ⟨K, hK⟩, hb⟩ := ih (i + 1) (by omega)
  rw [from_split hlt]
  by_cases h : In 10000 (at_ l i)
  ·refine ⟨b, ⟨K + 1, fun k hk => ?_⟩, ?_⟩
   ·obtain ⟨k, rfl⟩ := fuel1 hk
    dsimp only; rw [cracknelref04_Polygon.l0, if_pos (by omega), if_pos (by omega), rd_at, valid_f _ _ (by omega) (by omega), Option.bind_some, if_pos (by simpa using h), wrap_succ i (by omega)]
    exact hK k (by omega)
   ·rw [hb]
    exact ⟨fun h1 => ⟨⟨h, h1.1⟩, h1.2⟩, fun h1 => ⟨h1.1.2, h1.2⟩⟩
  ·refine ⟨false, ⟨0 + 1, fun k hk => ?_⟩, ⟨fun h1 => by simp at h1, fun h1 => absurd h1.1.1 h⟩⟩
   obtain ⟨k, rfl⟩ := fuel1 hk
   dsimp only; rw [cracknelref04_Polygon.l0, if_pos (by omega), if_pos (by omega), rd_at, valid_f _ _ (by omega) (by omega), Option.bind_some, if_neg (by simpa using h)]
theorem refPolygon_run (l : List Pt) (hN : l.length ≤ 1000000) : Rt (fun k => cracknelref04_Polygon.f k l) (decide (Poly l)) := by
 obtain ⟨b, ⟨K, hK⟩, hb⟩ := refPolygon_l0 l hN l.length 0 (by omega)
 refine ⟨K, fun k hk => ?_⟩
 have := hK k hk
 unfold cracknelref04_Polygon.f
 dsimp only at this ⊢
 rw [show (0 : Int) = ((0 : Nat) : Int) from rfl, this]
 congr 1; rw [Bool.eq_iff_iff, hb, decide_eq_true_eq]
 unfold Poly
 constructor
 ·rintro ⟨h1, h2, h3⟩
  refine ⟨h2, h3, fun p hp => ?_⟩
  obtain ⟨j, hj, rfl⟩ := List.mem_iff_getElem.mp hp
  rw [← at_eq hj]; exact h1 j (Nat.zero_le _) hj
 ·rintro ⟨h1, h2, h3⟩
  exact ⟨fun i _ hi => h3 _ (at_mem hi), h1, h2⟩
end Go.Proofs.Ythehmkpcddafnaa.M
end
section
namespace Go.Proofs.Ythehmkpcddafnaa.M
open Go.RowKit Go.Proofs.Ythehmkpcddafnaa.PG Go.Proofs.YthehmkpcddafnaaW.PrintMore Go.Proofs.YthehmkpcddafnaaW.PrintWords
end Go.Proofs.Ythehmkpcddafnaa.M
end
section
namespace Go.Proofs.Ythehmkpcddafnaa.M
open Go.RowKit Go.Proofs.Ythehmkpcddafnaa.PG Go.Proofs.YthehmkpcddafnaaW.PrintMore Go.Proofs.YthehmkpcddafnaaW.PrintWords
end Go.Proofs.Ythehmkpcddafnaa.M
end
section
namespace Go.Proofs.Ythehmkpcddafnaa.M
open Go.RowKit Go.Proofs.Ythehmkpcddafnaa.PG Go.Proofs.YthehmkpcddafnaaW.PrintMore Go.Proofs.YthehmkpcddafnaaW.PrintWords
end Go.Proofs.Ythehmkpcddafnaa.M
end
section
namespace Go.Proofs.Ythehmkpcddafnaa.M
open Go.RowKit Go.Proofs.Ythehmkpcddafnaa.PG Go.Proofs.YthehmkpcddafnaaW.PrintMore Go.Proofs.YthehmkpcddafnaaW.PrintWords
end Go.Proofs.Ythehmkpcddafnaa.M
end
section
namespace Go.Proofs.Ythehmkpcddafnaa.M
open Go.RowKit Go.Proofs.Ythehmkpcddafnaa.PG Go.Proofs.YthehmkpcddafnaaW.PrintMore Go.Proofs.YthehmkpcddafnaaW.PrintWords
end Go.Proofs.Ythehmkpcddafnaa.M
end
section
namespace Go.Proofs.Ythehmkpcddafnaa.M
open Go.RowKit Go.Proofs.Ythehmkpcddafnaa.PG Go.Proofs.YthehmkpcddafnaaW.PrintMore Go.Proofs.YthehmkpcddafnaaW.PrintWords
theorem sort5 : slices_SortFunc_xy.f [(⟨0, 0⟩ : S41), (⟨1, 0⟩ : S41), (⟨2, 0⟩ : S41), (⟨0, 2⟩ : S41), (⟨1, 1⟩ : S41)] = some [(⟨0, 0⟩ : S41), (⟨0, 2⟩ : S41), (⟨1, 0⟩ : S41), (⟨1, 1⟩ : S41), (⟨2, 0⟩ : S41)] := by
 simp [slices_SortFunc_xy.f, List.mergeSort, List.MergeSort.Internal.splitInTwo, xyLt]
theorem area_ok (k : Nat) : shape_Area2.f (k + 60) [(⟨0, 0⟩ : S41), (⟨2, 0⟩ : S41), (⟨2, 2⟩ : S41), (⟨0, 2⟩ : S41)] = some (8, 0) := by kernel_rfl
theorem simple_ok (k : Nat) : shape_simple.f (k + 60) [(⟨0, 0⟩ : S41), (⟨2, 0⟩ : S41), (⟨2, 2⟩ : S41), (⟨0, 2⟩ : S41)] = some true := by kernel_rfl
theorem lattice_l0 (k : Nat) : shape_Lattice.l0 (k + 60) [(⟨0, 0⟩ : S41), (⟨2, 0⟩ : S41), (⟨2, 2⟩ : S41), (⟨0, 2⟩ : S41)] 0 4 0 = some (1, 8, 0) := by kernel_rfl
theorem lattice_ok (k : Nat) : shape_Lattice.f (k + 60) [(⟨0, 0⟩ : S41), (⟨2, 0⟩ : S41), (⟨2, 2⟩ : S41), (⟨0, 2⟩ : S41)] = some (1, 8, 0) := by
 unfold shape_Lattice.f shape_refused_simple.f
 rw [simple_ok, show shape_polygon.f [(⟨0, 0⟩ : S41), (⟨2, 0⟩ : S41), (⟨2, 2⟩ : S41), (⟨0, 2⟩ : S41)] = some true by decide +kernel, Option.bind_some, if_pos rfl, Option.bind_some, if_pos rfl, Option.bind_some, if_pos rfl]
 exact lattice_l0 k
theorem same_ok (k : Nat) : cracknelref04_Same.f (k + 60) [(⟨0, 0⟩ : S41), (⟨2, 0⟩ : S41), (⟨0, 2⟩ : S41)] [(⟨0, 0⟩ : S41), (⟨2, 0⟩ : S41), (⟨0, 2⟩ : S41)] = some true := by kernel_rfl
theorem hull_rest (k : Nat) : shape_Hull.j0 (k + 60) [(⟨0, 0⟩ : S41), (⟨1, 0⟩ : S41), (⟨2, 0⟩ : S41), (⟨0, 2⟩ : S41), (⟨1, 1⟩ : S41)] false = some ([(⟨0, 0⟩ : S41), (⟨2, 0⟩ : S41), (⟨0, 2⟩ : S41)], 0) := by
 rw [show k + 60 = (k + 59) + 1 from rfl, shape_Hull.j0, if_neg (by simp), show slices_Clone.f [(⟨0, 0⟩ : S41), (⟨1, 0⟩ : S41), (⟨2, 0⟩ : S41), (⟨0, 2⟩ : S41), (⟨1, 1⟩ : S41)] = some [(⟨0, 0⟩ : S41), (⟨1, 0⟩ : S41), (⟨2, 0⟩ : S41), (⟨0, 2⟩ : S41), (⟨1, 1⟩ : S41)] by decide +kernel, Option.bind_some, sort5, Option.bind_some]
 kernel_rfl
theorem hull_pre (k : Nat) : shape_Hull.f k [(⟨0, 0⟩ : S41), (⟨1, 0⟩ : S41), (⟨2, 0⟩ : S41), (⟨0, 2⟩ : S41), (⟨1, 1⟩ : S41)] = shape_Hull.j0 k [(⟨0, 0⟩ : S41), (⟨1, 0⟩ : S41), (⟨2, 0⟩ : S41), (⟨0, 2⟩ : S41), (⟨1, 1⟩ : S41)] false := by
 unfold shape_Hull.f
 rw [show shape_within.f [(⟨0, 0⟩ : S41), (⟨1, 0⟩ : S41), (⟨2, 0⟩ : S41), (⟨0, 2⟩ : S41), (⟨1, 1⟩ : S41)] 10000 = some true by decide +kernel, Option.bind_some]
 simp only [List.length_cons, List.length_nil]
 rw [if_neg (by omega), if_neg (by omega)]
 rfl
theorem lives_ok (k : Nat) (hk : 60 ≤ k) : cracknellaw04_lives.f k = some true := by
 obtain ⟨d, rfl⟩ : ∃ d, k = d + 60 := ⟨k - 60, by omega⟩
 unfold cracknellaw04_lives.f
 rw [hull_pre, hull_rest, Option.bind_some, area_ok, lattice_ok]
 simp only [Option.bind_some, if_true, same_ok]
end Go.Proofs.Ythehmkpcddafnaa.M
end
section
namespace Go.Proofs.Ythehmkpcddafnaa.M
open Go.RowKit Go.Proofs.Ythehmkpcddafnaa.PG Go.Proofs.YthehmkpcddafnaaW.PrintMore Go.Proofs.YthehmkpcddafnaaW.PrintWords
end Go.Proofs.Ythehmkpcddafnaa.M
end
section
namespace Go.Proofs.Ythehmkpcddafnaa.M
open Go.RowKit Go.Proofs.Ythehmkpcddafnaa.PG Go.Proofs.YthehmkpcddafnaaW.PrintMore Go.Proofs.YthehmkpcddafnaaW.PrintWords
theorem rt_bind {α β : Type} {f : Nat → Option α} {g : α → Nat → Option β} {h : Nat → Option β} {v : α} {r : β} (rf : Rt f v) (rg : Rt (g v) r) (e : ∀ k, h (k + 1) = (f k).bind fun x => g x k) : Rt h r := by
 obtain ⟨K1, h1⟩ := rf
 obtain ⟨K2, h2⟩ := rg
 refine ⟨K1 + K2 + 1, fun k hk => ?_⟩
 obtain ⟨k, rfl⟩ : ∃ m, k = m + 1 := ⟨k - 1, by omega⟩
 rw [e, h1 k (by omega), Option.bind_some, h2 k (by omega)]
theorem rt_bind0 {α β : Type} {f : Nat → Option α} {g : α → Nat → Option β} {h : Nat → Option β} {v : α} {r : β} (rf : Rt f v) (rg : Rt (g v) r) (e : ∀ k, h k = (f k).bind fun x => g x k) : Rt h r := by
 obtain ⟨K1, h1⟩ := rf
 obtain ⟨K2, h2⟩ := rg
 refine ⟨K1 + K2, fun k hk => ?_⟩
 rw [e, h1 k (by omega), Option.bind_some, h2 k (by omega)]
def bstep (s : Int × Int × Int × Int) (p : Pt) : Int × Int × Int × Int := (min s.1 p.f0, min s.2.1 p.f1, max s.2.2.1 p.f0, max s.2.2.2 p.f1)
def box (l : List Pt) : Int × Int × Int × Int := l.foldl bstep ((at_ l 0).f0, (at_ l 0).f1, (at_ l 0).f0, (at_ l 0).f1)
theorem drop_cons_at {l : List Pt} {i : Nat} (h : i < l.length) : l.drop i = at_ l i :: l.drop (i + 1) := by
 rw [at_eq h]; exact List.drop_eq_getElem_cons h
theorem box_run {l : List Pt} (h0 : 0 < l.length) (hN : l.length ≤ 1000000) : Rt (fun k => cracknelref04_box.f k l) (box l) := by
 have H : ∀ d i s, l.length = i + d → Rt (fun k => cracknelref04_box.l0 k l (i : Int) s.1 s.2.1 s.2.2.1 s.2.2.2) ((l.drop i).foldl bstep s) := by
  intro d
  induction d with
  | zero =>
   intro i s hi
   refine rt_ret fun k => ?_
   rw [cracknelref04_box.l0, if_neg (by omega), List.drop_of_length_le (by omega)]; rfl
  | succ d ih =>
   intro i s hi
   refine rt_step (fun k => ?_) (by rw [drop_cons_at (show i < l.length by omega)]; exact ih (i + 1) (bstep s (at_ l i)) (by omega))
   rw [cracknelref04_box.l0, if_pos (by omega), if_pos (by omega), wrap_succ i (by omega), rd_at, mn_eq, mn_eq, mx_eq, mx_eq]; rfl
 obtain ⟨K, hK⟩ := H l.length 0 ((at_ l 0).f0, (at_ l 0).f1, (at_ l 0).f0, (at_ l 0).f1) (by omega)
 refine ⟨K, fun k hk => ?_⟩
 have a := hK k hk
 dsimp only at a ⊢
 unfold cracknelref04_box.f
 rw [if_pos (by omega), show (0 : Int) = ((0 : Nat) : Int) from rfl, rd_at]; exact a
theorem fold_box : ∀ (l : List Pt) (s : Int × Int × Int × Int), ((l.foldl bstep s).1 ≤ s.1 ∧ (l.foldl bstep s).2.1 ≤ s.2.1 ∧ s.2.2.1 ≤ (l.foldl bstep s).2.2.1 ∧ s.2.2.2 ≤ (l.foldl bstep s).2.2.2) ∧
  (∀ p ∈ l, (l.foldl bstep s).1 ≤ p.f0 ∧ (l.foldl bstep s).2.1 ≤ p.f1 ∧ p.f0 ≤ (l.foldl bstep s).2.2.1 ∧ p.f1 ≤ (l.foldl bstep s).2.2.2) ∧
  ((l.foldl bstep s).1 = s.1 ∨ ∃ p ∈ l, p.f0 = (l.foldl bstep s).1) ∧ ((l.foldl bstep s).2.1 = s.2.1 ∨ ∃ p ∈ l, p.f1 = (l.foldl bstep s).2.1) ∧
  ((l.foldl bstep s).2.2.1 = s.2.2.1 ∨ ∃ p ∈ l, p.f0 = (l.foldl bstep s).2.2.1) ∧ ((l.foldl bstep s).2.2.2 = s.2.2.2 ∨ ∃ p ∈ l, p.f1 = (l.foldl bstep s).2.2.2) := by
 intro l
 induction l with
 | nil => intro s; exact ⟨⟨Int.le_refl _, Int.le_refl _, Int.le_refl _, Int.le_refl _⟩, fun p hp => absurd hp (by simp), Or.inl rfl, Or.inl rfl, Or.inl rfl, Or.inl rfl⟩
 | cons a l ih =>
  intro s
  obtain ⟨⟨a1, a2, a3, a4⟩, hm, e1, e2, e3, e4⟩ := ih (bstep s a)
  rw [List.foldl_cons]
  generalize hr : l.foldl bstep (bstep s a) = r at *
  have d1 : (bstep s a).1 = min s.1 a.f0 := rfl
  have d2 : (bstep s a).2.1 = min s.2.1 a.f1 := rfl
  have d3 : (bstep s a).2.2.1 = max s.2.2.1 a.f0 := rfl
  have d4 : (bstep s a).2.2.2 = max s.2.2.2 a.f1 := rfl
  refine ⟨⟨by omega, by omega, by omega, by omega⟩, fun p hp => ?_, ?_, ?_, ?_, ?_⟩
  ·rcases List.mem_cons.mp hp with e | e
   ·subst e; exact ⟨by omega, by omega, by omega, by omega⟩
   ·exact hm p e
  ·rcases e1 with e | ⟨p, hp, e⟩
   ·by_cases h : s.1 ≤ a.f0
    ·left; omega
    ·right; exact ⟨a, by simp, by omega⟩
   ·right; exact ⟨p, by simp [hp], e⟩
  ·rcases e2 with e | ⟨p, hp, e⟩
   ·by_cases h : s.2.1 ≤ a.f1
    ·left; omega
    ·right; exact ⟨a, by simp, by omega⟩
   ·right; exact ⟨p, by simp [hp], e⟩
  ·rcases e3 with e | ⟨p, hp, e⟩
   ·by_cases h : a.f0 ≤ s.2.2.1
    ·left; omega
    ·right; exact ⟨a, by simp, by omega⟩
   ·right; exact ⟨p, by simp [hp], e⟩
  ·rcases e4 with e | ⟨p, hp, e⟩
   ·by_cases h : a.f1 ≤ s.2.2.2
    ·left; omega
    ·right; exact ⟨a, by simp, by omega⟩
   ·right; exact ⟨p, by simp [hp], e⟩
theorem box_in {l : List Pt} : ∀ p ∈ l, (box l).1 ≤ p.f0 ∧ (box l).2.1 ≤ p.f1 ∧ p.f0 ≤ (box l).2.2.1 ∧ p.f1 ≤ (box l).2.2.2 := (fold_box l _).2.1
theorem box_at {l : List Pt} (h0 : 0 < l.length) : (∃ p ∈ l, p.f0 = (box l).1) ∧ (∃ p ∈ l, p.f1 = (box l).2.1) ∧ (∃ p ∈ l, p.f0 = (box l).2.2.1) ∧ (∃ p ∈ l, p.f1 = (box l).2.2.2) := by
 obtain ⟨_, _, e1, e2, e3, e4⟩ := fold_box l ((at_ l 0).f0, (at_ l 0).f1, (at_ l 0).f0, (at_ l 0).f1)
 have hm := at_mem h0
 exact ⟨e1.elim (fun e => ⟨_, hm, e.symm⟩) id, e2.elim (fun e => ⟨_, hm, e.symm⟩) id, e3.elim (fun e => ⟨_, hm, e.symm⟩) id, e4.elim (fun e => ⟨_, hm, e.symm⟩) id⟩
end Go.Proofs.Ythehmkpcddafnaa.M
end
section
namespace Go.Proofs.Ythehmkpcddafnaa.M
open Go.RowKit Go.Proofs.Ythehmkpcddafnaa.PG Go.Proofs.YthehmkpcddafnaaW.PrintMore Go.Proofs.YthehmkpcddafnaaW.PrintWords
def ends (t : List Pt) (a b : Pt) : List (Int × Int) := [(cr (at_ t 0) (at_ t 1) a, cr (at_ t 0) (at_ t 1) b), (cr (at_ t 1) (at_ t 2) a, cr (at_ t 1) (at_ t 2) b), (cr (at_ t 2) (at_ t 0) a, cr (at_ t 2) (at_ t 0) b)]
end Go.Proofs.Ythehmkpcddafnaa.M
end
section
namespace Go.Proofs.Ythehmkpcddafnaa.M
open Go.RowKit Go.Proofs.Ythehmkpcddafnaa.PG Go.Proofs.YthehmkpcddafnaaW.PrintMore Go.Proofs.YthehmkpcddafnaaW.PrintWords
theorem refWhere_l0 {l : List Pt} {p : Pt} (hb : ∀ p ∈ l, Bd p) (hp : Bd p) (hN : l.length ≤ 1000000) : ∀ d i s, l.length = i + d → Rt (fun k => cracknelref04_Where.l0 k l s (i : Int) p.f0 p.f1) (wh l p d i s) := by
 intro d
 induction d with
 | zero =>
  intro i s hi
  refine ⟨0 + 1, fun k hk => ?_⟩
  obtain ⟨k, rfl⟩ := fuel1 hk
  dsimp only; rw [cracknelref04_Where.l0, if_neg (by omega)]; cases s <;> rfl
 | succ d ih =>
  intro i s hi
  have hlt : i < l.length := by omega
  have hBi := at_bd hb hlt
  have hBn := at_bd hb (show (i + 1) % l.length < l.length from Nat.mod_lt _ (by omega))
  obtain ⟨K, hK⟩ := ih (i + 1) (s != decide (Hit (at_ l i) (at_ l ((i + 1) % l.length)) p)) (by omega)
  have hcr := cr_bd hBi hBn hp
  have hneg : cr (at_ l ((i + 1) % l.length)) (at_ l i) p = - cr (at_ l i) (at_ l ((i + 1) % l.length)) p := by rw [cr_eq, cr_eq]; grind
  refine ⟨K + 3, fun k hk => ?_⟩
  obtain ⟨k, rfl⟩ : ∃ m, k = m + 1 := ⟨k - 1, by omega⟩
  dsimp only
  rw [cracknelref04_Where.l0, if_pos (by omega), if_pos (by omega), next_f (by omega) (by omega), Option.bind_some, rd_at, On_f hBi hBn hp, Option.bind_some]
  dsimp only
  unfold wh
  have fin : ∀ x : Int, (0 < x ↔ Hit (at_ l i) (at_ l ((i + 1) % l.length)) p) → cracknelref04_Where.j1 k l s (i : Int) x p.f0 p.f1 = some (wh l p d (i + 1) (s != decide (Hit (at_ l i) (at_ l ((i + 1) % l.length)) p))) := by
   intro x hx
   obtain ⟨k, rfl⟩ : ∃ m, k = m + 1 := ⟨k - 1, by omega⟩
   have := hK k (by omega)
   dsimp only at this
   rw [cracknelref04_Where.j1, wrap_succ i (by omega)]
   by_cases h : 0 < x
   ·rw [if_pos h, ← this, decide_eq_true (hx.mp h)]; simp
   ·rw [if_neg h, ← this, decide_eq_false (fun h2 => h (hx.mpr h2))]; simp
  by_cases h1 : On (at_ l i) (at_ l ((i + 1) % l.length)) p
  ·rw [if_pos (by simpa using h1), if_pos h1]
  ·rw [if_neg (by simpa using h1), if_neg h1]
   by_cases h2 : ((decide ((at_ l i).f1 > p.f1)) != (decide ((at_ l ((i + 1) % l.length)).f1 > p.f1))) = true
   ·rw [if_pos h2, Cross_f hBi hBn hp, Option.bind_some]
    have h2' : ¬ ((at_ l i).f1 > p.f1 ↔ (at_ l ((i + 1) % l.length)).f1 > p.f1) := by
     intro e; simp only [e, bne_self_eq_false, Bool.false_eq_true] at h2
    by_cases h3 : (at_ l ((i + 1) % l.length)).f1 < (at_ l i).f1
    ·rw [if_pos h3, wz _ (by omega) (by omega)]
     apply fin; unfold Hit; rw [hneg]; omega
    ·rw [if_neg h3]
     apply fin; unfold Hit; rw [hneg]; omega
   ·rw [if_neg h2, wrap_succ i (by omega)]
    have := hK k (by omega)
    dsimp only at this
    have h2' : ((at_ l i).f1 > p.f1 ↔ (at_ l ((i + 1) % l.length)).f1 > p.f1) := by
     simp only [bne_iff_ne, ne_eq, Decidable.not_not, decide_eq_decide] at h2; exact h2
    rw [← this, decide_eq_false (by unfold Hit; omega)]; simp
theorem refWhere_run {l : List Pt} {p : Pt} (hb : ∀ p ∈ l, Bd p) (hp : Bd p) (hN : l.length ≤ 1000000) : Rt (fun k => cracknelref04_Where.f k l p.f0 p.f1) (whereOf l p) := by
 obtain ⟨K, hK⟩ := refWhere_l0 hb hp hN l.length 0 false (by omega)
 exact ⟨K, fun k hk => hK k hk⟩
end Go.Proofs.Ythehmkpcddafnaa.M
end
section
namespace Go.Proofs.Ythehmkpcddafnaa.M
open Go.RowKit Go.Proofs.Ythehmkpcddafnaa.PG Go.Proofs.YthehmkpcddafnaaW.PrintMore Go.Proofs.YthehmkpcddafnaaW.PrintWords
theorem wh_on2 {l : List Pt} {p : Pt} : ∀ d i s, (∃ j, i ≤ j ∧ j < i + d ∧ On (at_ l j) (at_ l ((j + 1) % l.length)) p) → wh l p d i s = 0 := by
 intro d
 induction d with
 | zero => rintro i s ⟨j, h1, h2, _⟩; omega
 | succ d ih =>
  rintro i s ⟨j, h1, h2, h3⟩
  unfold wh
  by_cases c : On (at_ l i) (at_ l ((i + 1) % l.length)) p
  ·rw [if_pos c]
  ·rw [if_neg c]
   refine ih (i + 1) _ ⟨j, ?_, by omega, h3⟩
   rcases Nat.eq_or_lt_of_le h1 with e | e
   ·subst e; exact absurd h3 c
   ·exact e
end Go.Proofs.Ythehmkpcddafnaa.M
end
section
namespace Go.Proofs.Ythehmkpcddafnaa.M
open Go.Proofs.Ythehmkpcddafnaa.PG
theorem at_succ (a : Pt) (l : List Pt) (i : Nat) : at_ (a :: l) (i + 1) = at_ l i := rfl
theorem at_left {l r : List Pt} : ∀ {i : Nat}, i < l.length → at_ (l ++ r) i = at_ l i := by
 intro i hi; unfold at_; rw [List.getD_eq_getElem?_getD, List.getD_eq_getElem?_getD, List.getElem?_append_left hi]
theorem at_end (l : List Pt) (b : Pt) : at_ (l ++ [b]) l.length = b := by
 unfold at_; rw [List.getD_eq_getElem?_getD, List.getElem?_append_right (Nat.le_refl _)]; simp
theorem cyc_at {a : Pt} {l : List Pt} {i : Nat} (hi : i ≤ l.length) : at_ (a :: (l ++ [a])) i = at_ (a :: l) i ∧ at_ (a :: (l ++ [a])) (i + 1) = at_ (a :: l) ((i + 1) % (a :: l).length) := by
 constructor
 ·exact at_left (l := a :: l) (r := [a]) (by simp only [List.length_cons]; omega)
 ·rw [at_succ]
  rcases Nat.lt_or_eq_of_le hi with k | k
  ·rw [Nat.mod_eq_of_lt (by simp only [List.length_cons]; omega), at_succ]; exact at_left k
  ·rw [k, at_end, List.length_cons, Nat.mod_self]; rfl
theorem pth_idx : ∀ (l : List Pt) (a b : Pt) (e : Pt × Pt), e ∈ pth a l b ↔ ∃ i, i ≤ l.length ∧ e = (at_ (a :: (l ++ [b])) i, at_ (a :: (l ++ [b])) (i + 1))
 | [], a, b, e => by
  constructor
  ·intro h; exact ⟨0, Nat.le_refl _, List.mem_singleton.mp h⟩
  ·rintro ⟨i, hi, rfl⟩
   have : i = 0 := Nat.le_zero.mp hi
   subst this; exact List.mem_cons_self ..
 | c :: l, a, b, e => by
  constructor
  ·intro h
   rcases List.mem_cons.mp h with k | k
   ·exact ⟨0, Nat.zero_le _, k⟩
   ·obtain ⟨i, hi, he⟩ := (pth_idx l c b e).mp k
    exact ⟨i + 1, by simp only [List.length_cons]; omega, he⟩
  ·rintro ⟨i, hi, rfl⟩
   cases i with
   | zero => exact List.mem_cons_self ..
   | succ i => exact List.mem_cons_of_mem _ ((pth_idx l c b _).mpr ⟨i, by simp only [List.length_cons] at hi; omega, rfl⟩)
theorem loop_idx {m : List Pt} {e : Pt × Pt} : e ∈ loop m ↔ ∃ i, i < m.length ∧ e = (at_ m i, at_ m ((i + 1) % m.length)) := by
 cases m with
 | nil => exact ⟨fun h => absurd h (List.not_mem_nil), fun ⟨i, hi, _⟩ => absurd hi (by simp)⟩
 | cons a l =>
  show e ∈ pth a l a ↔ _
  rw [pth_idx]
  constructor
  ·rintro ⟨i, hi, rfl⟩
   exact ⟨i, by simp only [List.length_cons]; omega, by rw [(cyc_at hi).1, (cyc_at hi).2]⟩
  ·rintro ⟨i, hi, rfl⟩
   have hi : i ≤ l.length := by simp only [List.length_cons] at hi; omega
   exact ⟨i, hi, by rw [(cyc_at hi).1, (cyc_at hi).2]⟩
theorem eS_pth (f : Pt → Pt → Int) : ∀ (l : List Pt) (a b : Pt), eS f (pth a l b) = sumN (fun i => f (at_ (a :: (l ++ [b])) i) (at_ (a :: (l ++ [b])) (i + 1))) (l.length + 1)
 | [], a, b => by show f a b + 0 = 0 + f a b; omega
 | c :: l, a, b => by
  show f a c + eS f (pth c l b) = _
  rw [eS_pth f l c b, List.length_cons, sumN_front (l.length + 1)]; rfl
theorem eS_idx (f : Pt → Pt → Int) (m : List Pt) : eS f (loop m) = sumN (fun i => f (at_ m i) (at_ m ((i + 1) % m.length))) m.length := by
 cases m with
 | nil => rfl
 | cons a l =>
  show eS f (pth a l a) = _
  rw [eS_pth, List.length_cons]
  exact sumN_congr _ (fun i hi => by rw [(cyc_at (a := a) (l := l) (by omega)).1, (cyc_at (a := a) (l := l) (by omega)).2, List.length_cons])
theorem ends_flat {a b c : Pt} (hab : a ≠ b) (hbc : b ≠ c) (n1 : ¬ On a b c) (n2 : ¬ On b c a) : Ends a b b c := by
 by_cases z : cr a b c = 0
 ·rcases on_line z with k | k | k
  ·obtain ⟨be, ga, h1, h2, h3, h4, h5⟩ := on_par (a := a) (b := c) (p := b) ⟨by rw [cr_swap]; omega, k⟩
   have i := end_eq h3 h4 h5
   have hb : 0 < be := by
    rcases Int.lt_or_eq_of_le h1 with q | q
    ·exact q
    ·exact absurd (i.2 q.symm) hbc
   have hg : 0 < ga := by
    rcases Int.lt_or_eq_of_le h2 with q | q
    ·exact q
    ·exact absurd (i.1 q.symm).symm hab
   intro s t u v k
   obtain ⟨hs, ht, hu, hv, st, uv, e0, e1⟩ := k
   have go : ∀ a b c : Int, (be + ga) * b = be * a + ga * c → (u + v) * (s * a + t * b) = (s + t) * (u * b + v * c) → (ga * ((u + v) * s) + be * ((s + t) * v)) * (a - b) = 0 := by
    intro a b c h1 h2
    have x1 : be * (a - b) = - (ga * (c - b)) := by grind
    have x2 : (u + v) * s * (a - b) = (s + t) * v * (c - b) := by grind
    have x3 : ga * ((u + v) * s * (a - b)) = ga * ((s + t) * v * (c - b)) := by rw [x2]
    have x4 : (s + t) * v * (be * (a - b)) = (s + t) * v * (- (ga * (c - b))) := by rw [x1]
    clear h1 h2 x1 x2; grind
   have z0 := go _ _ _ h4 e0
   have z1 := go _ _ _ h5 e1
   have m1 := Int.mul_nonneg (Int.le_of_lt hg) (Int.mul_nonneg (Int.le_of_lt uv) hs)
   have m2 := Int.mul_nonneg (Int.le_of_lt hb) (Int.mul_nonneg (Int.le_of_lt st) hv)
   have zz : ga * ((u + v) * s) + be * ((s + t) * v) = 0 := by
    rcases Int.mul_eq_zero.mp z0 with q | q
    ·exact q
    ·rcases Int.mul_eq_zero.mp z1 with r | r
     ·exact r
     ·exact absurd (pt_ext (by omega) (by omega)) hab
   have w1 := (Int.mul_eq_zero.mp (show ga * ((u + v) * s) = 0 by omega)).resolve_left (by omega)
   have w2 := (Int.mul_eq_zero.mp (show be * ((s + t) * v) = 0 by omega)).resolve_left (by omega)
   exact ⟨Or.inl ((Int.mul_eq_zero.mp w1).resolve_left (by omega)), Or.inr ((Int.mul_eq_zero.mp w2).resolve_left (by omega))⟩
  ·exact absurd ⟨z, k⟩ n1
  ·exact absurd ⟨by rw [cr_rot]; exact z, k⟩ n2
 ·exact ends_tri z
theorem SP_of_simple {l : List Pt} (h3 : 3 ≤ l.length) (h : Simple l) : SP l := by
 obtain ⟨h1, h2⟩ := h
 have md : ∀ i, i + 1 < l.length → (i + 1) % l.length = i + 1 := fun i hi => Nat.mod_eq_of_lt hi
 have m0 : (l.length - 1 + 1) % l.length = 0 := by rw [show l.length - 1 + 1 = l.length by omega, Nat.mod_self]
 have m1 : (l.length - 1 + 1 + 1) % l.length = 1 := by rw [show l.length - 1 + 1 + 1 = 1 + l.length by omega, Nat.add_mod_right, Nat.mod_eq_of_lt (by omega)]
 have adj : ∀ i, i < l.length → Ends (at_ l i) (at_ l ((i + 1) % l.length)) (at_ l ((i + 1) % l.length)) (at_ l ((i + 1 + 1) % l.length)) := by
  intro i hi
  obtain ⟨o1, o2, _⟩ := h2 i hi
  have hj : (i + 1) % l.length < l.length := Nat.mod_lt _ (by omega)
  refine ends_flat (h1 i hi) ?_ o1 o2
  have := h1 _ hj
  rwa [Nat.mod_add_mod] at this
 have key : ∀ i j, i < j → j < l.length → Ends (at_ l i) (at_ l ((i + 1) % l.length)) (at_ l j) (at_ l ((j + 1) % l.length)) := by
  intro i j hij hj
  by_cases a1 : j = i + 1
  ·have := adj i (by omega)
   subst a1
   rw [md i hj] at this ⊢; exact this
  ·by_cases a2 : (j + 1) % l.length = i
   ·have := adj j hj
    rw [a2] at this ⊢
    have e : (j + 1 + 1) % l.length = (i + 1) % l.length := by rw [← a2, Nat.mod_add_mod]
    rw [e] at this; exact this.symm
   ·have nm := (h2 i (by omega)).2.2 j (by omega) hj a2
    intro s t u v k
    exact absurd (meet_of_touch (touch_com.mpr ⟨s, t, u, v, k⟩)) nm
 have ne : ∀ i j, i < j → j < l.length → at_ l i ≠ at_ l j := by
  intro i j hij hj
  by_cases a1 : j = i + 1
  ·have := h1 i (by omega)
   rw [md i (by omega)] at this; rw [a1]; exact this
  ·by_cases a2 : (j + 1) % l.length = i
   ·have := h1 j hj
    rw [a2] at this; exact this.symm
   ·intro e
    have nm := (h2 i (by omega)).2.2 j (by omega) hj a2
    exact nm (Or.inl (by rw [← e]; exact ⟨cr_self1 _ _, btw_start _ _⟩))
 refine ⟨h3, ?_, fun e he f hf hne => ?_⟩
 ·refine List.pairwise_iff_getElem.mpr (fun i j hi hj hij => ?_)
  rw [← at_eq hi, ← at_eq hj]; exact ne i j hij hj
 ·obtain ⟨i, hi, rfl⟩ := loop_idx.mp he
  obtain ⟨j, hj, rfl⟩ := loop_idx.mp hf
  rcases Nat.lt_trichotomy i j with k | k | k
  ·exact key i j k hj
  ·subst k; exact absurd rfl hne
  ·exact (key j i k hi).symm
theorem where_wE {l : List Pt} {x : Pt} (off : ∀ e ∈ loop l, ¬ On e.1 e.2 x) : whereOf l x = if wE (loop l) x % 2 = 1 then 1 else -1 := by
 have hit : ∀ a b : Pt, (Hit a b x ∧ cS a b x.f0 x.f1 % 2 = 1) ∨ (¬ Hit a b x ∧ cS a b x.f0 x.f1 = 0) := by
  intro a b
  have c2 : cr b a x = - cr a b x := by unfold cr; grind
  unfold Hit cS upS
  have e1 : cr a b ⟨x.f0, x.f1⟩ = cr a b x := rfl
  have e2 : cr b a ⟨x.f0, x.f1⟩ = cr b a x := rfl
  rw [e1, e2, c2]
  generalize cr a b x = C
  repeat' split
  all_goals omega
 have H : ∀ d i, i + d = l.length → ∃ s : Int, wE (loop l) x = sumN (fun i => cS (at_ l i) (at_ l ((i + 1) % l.length)) x.f0 x.f1) i + s ∧ (odd l x d i = true ↔ s % 2 = 1) := by
  have e0 : wE (loop l) x = sumN (fun i => cS (at_ l i) (at_ l ((i + 1) % l.length)) x.f0 x.f1) l.length := eS_idx _ l
  intro d
  induction d with
  | zero => intro i hi; exact ⟨0, by rw [e0, show i = l.length by omega]; omega, by unfold odd; simp⟩
  | succ d ih =>
   intro i hi
   obtain ⟨s, k1, k2⟩ := ih (i + 1) (by omega)
   rw [sumN_succ] at k1
   refine ⟨cS (at_ l i) (at_ l ((i + 1) % l.length)) x.f0 x.f1 + s, by omega, ?_⟩
   unfold odd
   rcases hit (at_ l i) (at_ l ((i + 1) % l.length)) with ⟨q1, q2⟩ | ⟨q1, q2⟩
   ·rw [decide_eq_true q1]
    cases hod : odd l x d (i + 1)
    ·rw [hod] at k2
     have : ¬ s % 2 = 1 := fun h => by have := k2.mpr h; simp at this
     simp; omega
    ·have := k2.mp hod
     simp; omega
   ·rw [decide_eq_false q1, q2, Int.zero_add]; simpa using k2
 obtain ⟨s, k1, k2⟩ := H l.length 0 (by omega)
 have e : wE (loop l) x = s := by rw [k1]; show 0 + s = s; omega
 unfold whereOf
 rw [wh_odd l.length 0 false (fun j _ hj => off _ (loop_idx.mpr ⟨j, by omega, rfl⟩)), e]
 by_cases hs : s % 2 = 1
 ·rw [if_pos hs, k2.mpr hs]; rfl
 ·have : odd l x l.length 0 = false := by
   cases hod : odd l x l.length 0
   ·rfl
   ·exact absurd (k2.mp hod) hs
  rw [if_neg hs, this]; rfl
theorem where_on {l : List Pt} {x : Pt} (e : Pt × Pt) (he : e ∈ loop l) (o : On e.1 e.2 x) : whereOf l x = 0 := by
 obtain ⟨i, hi, rfl⟩ := loop_idx.mp he
 unfold whereOf
 exact wh_on2 _ _ _ ⟨i, Nat.zero_le _, by omega, o⟩
end Go.Proofs.Ythehmkpcddafnaa.M
end
section
namespace Go.Proofs.Ythehmkpcddafnaa.M
open Go.Proofs.Ythehmkpcddafnaa.PG
theorem cut_ind {Q : List Pt → Prop} (tri : ∀ a b c, SP [a, b, c] → Q [a, b, c]) (cut : ∀ v C1 z C2, Cut v C1 z C2 → Q (v :: (C1 ++ [z])) → Q (z :: (C2 ++ [v])) → Q (v :: (C1 ++ z :: C2)))
  (rot : ∀ a l1 b l2, SP (a :: (l1 ++ b :: l2)) → Q (a :: (l1 ++ b :: l2)) → Q (b :: (l2 ++ a :: l1))) : ∀ (n : Nat) (m : List Pt), m.length ≤ n → SP m → Q m
 | 0, m, hl, h => by have := h.three; omega
 | n + 1, m, hl, h => by
  have h3 := h.three
  obtain ⟨v, hv, mn⟩ := bot_min m (fun e => by rw [e] at h3; simp at h3)
  obtain ⟨l, hs, hlen, hm, back⟩ : ∃ l, SP (v :: l) ∧ (v :: l).length = m.length ∧ (∀ x, x ∈ v :: l ↔ x ∈ m) ∧ (Q (v :: l) → Q m) := by
   obtain ⟨l1, l2, e⟩ := List.append_of_mem hv
   subst e
   cases l1 with
   | nil => exact ⟨l2, h, rfl, fun _ => Iff.rfl, id⟩
   | cons a l1 =>
    refine ⟨l2 ++ a :: l1, h.rot, ?_, fun x => (List.perm_append_comm (l₁ := v :: l2) (l₂ := a :: l1)).mem_iff, rot v l2 a l1 h.rot⟩
    simp only [List.length_cons, List.length_append]; omega
  refine back ?_
  have n1 := (List.nodup_cons.mp hs.nd).1
  have bl : ∀ c ∈ l, Bot v c := by
   intro c hc
   rcases mn c ((hm c).mp (List.mem_cons_of_mem _ hc)) with q | q
   ·rw [q] at hc; exact absurd hc n1
   ·exact q
  clear back hm
  match l, hs, hlen, bl, n1 with
  | [], hs, hlen, _, _ => simp only [List.length_cons, List.length_nil] at hlen; omega
  | w :: l, hs, hlen, bl, n1 =>
   rcases List.eq_nil_or_concat l with e | ⟨l', u, e⟩
   ·subst e; simp only [List.length_cons, List.length_nil] at hlen; omega
   ·rw [List.concat_eq_append] at e
    subst e
    have bw : Bot v w := bl w (List.mem_cons_self ..)
    have bu : Bot v u := bl u (List.mem_cons_of_mem _ (List.mem_append_right _ (List.mem_cons_self ..)))
    have tn := bot_turn hs bw bu
    have sw : cr w v u = - cr u v w := by unfold cr; grind
    have r1 : cr v w u = cr u v w := cr_rot u v w
    cases l' with
    | nil => exact tri v w u hs
    | cons x l' =>
     have uv : (u, v) ∈ loop (v :: w :: (x :: l' ++ [u])) := by
      show _ ∈ pth v (w :: (x :: l' ++ [u])) v
      exact List.mem_cons_of_mem _ (by rw [pth_app]; exact List.mem_append_right _ (List.mem_cons_self ..))
     have vw : (v, w) ∈ loop (v :: w :: (x :: l' ++ [u])) := List.mem_cons_self ..
     have ear : ((0 < cr u v w ∧ ∀ y ∈ v :: w :: (x :: l' ++ [u]), Cl u v w y → y = u ∨ y = v ∨ y = w) ∨ (0 < cr w v u ∧ ∀ y ∈ v :: w :: (x :: l' ++ [u]), Cl w v u y → y = w ∨ y = v ∨ y = u)) → Q (v :: w :: (x :: l' ++ [u])) := by
      intro T
      have C := cut_ear hs bl T
      have q1 := cut_ind tri cut rot n _ (by simp only [List.length_cons, List.length_append, List.length_nil] at *; omega) C.part1
      have q2 : Q (u :: ([v] ++ [w])) := tri u v w C.part2
      have q3 := rot u [v] w (x :: l') C.symm.sp (rot w (x :: l') u [v] C.sp (cut w (x :: l') u [v] C q1 q2))
      have q4 := rot w (x :: l' ++ [u]) v [] (by rw [List.append_assoc]; exact C.sp) (by rw [List.append_assoc]; exact q3)
      exact q4
     have chd : ∀ z ∈ v :: w :: (x :: l' ++ [u]), z ≠ u → z ≠ v → z ≠ w → (∀ e ∈ loop (v :: w :: (x :: l' ++ [u])), Ends v z e.1 e.2) → (((0 < cr v w u ∧ 0 < cr v z u) ∧ (cr v z w < 0 ∧ cr v u w < 0)) ∨ ((cr v w u < 0 ∧ cr v z u < 0) ∧ (0 < cr v z w ∧ 0 < cr v u w))) → Q (v :: w :: (x :: l' ++ [u])) := by
      intro z hz z1 z2 z3 ch T
      have hz : z ∈ x :: l' := by
       rcases List.mem_cons.mp hz with q | q
       ·exact absurd q z2
       ·rcases List.mem_cons.mp q with q | q
        ·exact absurd q z3
        ·rcases List.mem_append.mp q with q | q
         ·exact q
         ·exact absurd (List.mem_singleton.mp q) z1
      obtain ⟨l1, l2, e⟩ := List.append_of_mem hz
      have e' : v :: w :: (x :: l' ++ [u]) = v :: (w :: l1 ++ z :: (l2 ++ [u])) := by rw [e]; simp
      rw [e'] at ch ⊢
      have C := cut_chord (by rw [← e']; exact hs) (fun c hc => bl c (by rw [show w :: (x :: l' ++ [u]) = w :: l1 ++ z :: (l2 ++ [u]) by rw [e]; simp]; exact hc)) ch T
      have hlen' : (v :: (w :: l1 ++ z :: (l2 ++ [u]))).length = m.length := by rw [← e']; exact hlen
      have q1 := cut_ind tri cut rot n _ (by simp only [List.length_cons, List.length_append, List.length_nil] at *; omega) C.part1
      have q2 := cut_ind tri cut rot n _ (by simp only [List.length_cons, List.length_append, List.length_nil] at *; omega) C.part2
      exact cut _ _ _ _ C q1 q2
     rcases Int.lt_or_gt_of_ne tn with k | k
     ·rcases empty_or_chord hs (a := w) (b := v) (c := u) (Or.inr ⟨vw, uv⟩) (by omega) with em | ⟨z, hz, ⟨z1, z2, z3⟩, ⟨p1, p2⟩, ch⟩
      ·exact ear (Or.inr ⟨by omega, em⟩)
      ·have i1 : cr v z u = - cr v u z := cr_swap v u z
       have i2 : cr v z w = cr w v z := cr_rot w v z
       have i3 : cr v u w = cr w v u := cr_rot w v u
       exact chd z hz z3 z2 z1 ch (Or.inr ⟨⟨by omega, by omega⟩, by omega, by omega⟩)
     ·rcases empty_or_chord hs (a := u) (b := v) (c := w) (Or.inl ⟨uv, vw⟩) (by omega) with em | ⟨z, hz, ⟨z1, z2, z3⟩, ⟨p1, p2⟩, ch⟩
      ·exact ear (Or.inl ⟨by omega, em⟩)
      ·have i1 : cr v z u = cr u v z := cr_rot u v z
       have i2 : cr v z w = - cr v w z := cr_swap v w z
       have i3 : cr v u w = - cr v w u := cr_swap v w u
       exact chd z hz z1 z2 z3 ch (Or.inl ⟨⟨by omega, by omega⟩, by omega, by omega⟩)
def lsum (f : Pt → Int) : List Pt → Int
 | [] => 0
 | x :: l => f x + lsum f l
theorem lsum_app (f : Pt → Int) : ∀ l m, lsum f (l ++ m) = lsum f l + lsum f m
 | [], m => by show lsum f m = 0 + _; omega
 | x :: l, m => by show f x + lsum f (l ++ m) = f x + lsum f l + lsum f m; rw [lsum_app f l m]; omega
theorem lsum_congr {f g : Pt → Int} : ∀ l, (∀ x ∈ l, f x = g x) → lsum f l = lsum g l
 | [], _ => rfl
 | x :: l, h => by show f x + lsum f l = g x + lsum g l; rw [h x (List.mem_cons_self ..), lsum_congr l (fun y hy => h y (List.mem_cons_of_mem _ hy))]
theorem lsum_add (f g : Pt → Int) : ∀ l, lsum (fun x => f x + g x) l = lsum f l + lsum g l
 | [] => rfl
 | x :: l => by show f x + g x + lsum (fun x => f x + g x) l = f x + lsum f l + (g x + lsum g l); rw [lsum_add f g l]; omega
theorem lsum_zero {f : Pt → Int} : ∀ l, (∀ x ∈ l, f x = 0) → lsum f l = 0
 | [], _ => rfl
 | x :: l, h => by show f x + lsum f l = 0; rw [h x (List.mem_cons_self ..), lsum_zero l (fun y hy => h y (List.mem_cons_of_mem _ hy))]; rfl
def both (m : List Pt) (x : Pt) : Int := wE (loop m) x + wF (loop m) x
theorem Cut.off {v z : Pt} {C1 C2 : List Pt} (C : Cut v C1 z C2) {x : Pt} (hx : x ∈ C1) : ∀ f ∈ loop (z :: (C2 ++ [v])), ¬ On f.1 f.2 x := by
 obtain ⟨nvz, np1, np2, _⟩ := nodup_parts C.sp.nd
 have xm : x ∈ v :: (C1 ++ z :: C2) := List.mem_cons_of_mem _ (List.mem_append_left _ hx)
 have x2 : x ∉ z :: (C2 ++ [v]) := by
  intro k
  obtain ⟨q1, q2, q3⟩ := np1 x hx
  rcases List.mem_cons.mp k with r | r
  ·exact q2 r
  ·rcases List.mem_append.mp r with r | r
   ·exact q3 r
   ·exact q1 (List.mem_singleton.mp r)
 intro f hf ox
 obtain ⟨mf1, mf2⟩ := loop_mem hf
 have : x = f.1 ∨ x = f.2 := by
  have hf' := hf
  rw [loop_part] at hf'
  rcases List.mem_append.mp hf' with q | q
  ·exact C.sp.corner xm (by rw [loop_at]; exact List.mem_append_right _ q) ox
  ·rw [List.mem_singleton.mp q] at ox ⊢
   obtain ⟨e, e1, e2⟩ := loop_has_fst xm
   exact ((C.ch e e1).on ox (by rw [← e2]; exact ⟨cr_self1 _ _, btw_start _ _⟩)).1
 rcases this with q | q
 ·exact x2 (by rw [q]; exact mf1)
 ·exact x2 (by rw [q]; exact mf2)
theorem Cut.both0 {v z : Pt} {C1 C2 : List Pt} (C : Cut v C1 z C2) {x : Pt} (hx : x ∈ C1) : both (z :: (C2 ++ [v])) x = 0 := by
 unfold both
 rw [← wE_wF (C.off hx), C.o1 x hx]; rfl
theorem cut_both {v z : Pt} {C1 C2 : List Pt} (C : Cut v C1 z C2) : lsum (both (v :: (C1 ++ z :: C2))) (v :: (C1 ++ z :: C2)) = lsum (both (v :: (C1 ++ [z]))) (v :: (C1 ++ [z])) + lsum (both (z :: (C2 ++ [v]))) (z :: (C2 ++ [v])) := by
 have sum : ∀ x, both (v :: (C1 ++ z :: C2)) x = both (v :: (C1 ++ [z])) x + both (z :: (C2 ++ [v])) x := by
  intro x
  have a := part_sum (f := fun a b => cS a b x.f0 x.f1) (fun a b => cS_neg a b _ _) v z C1 C2
  have b := part_sum (f := fun a b => cT a b x.f0 x.f1) (fun a b => cT_neg a b _ _) v z C1 C2
  unfold both wE wF
  omega
 have z1 := lsum_zero (f := both (z :: (C2 ++ [v]))) C1 (fun x hx => C.both0 hx)
 have z2 := lsum_zero (f := both (v :: (C1 ++ [z]))) C2 (fun x hx => C.symm.both0 hx)
 rw [lsum_congr _ (fun x _ => sum x), lsum_add]
 generalize both (v :: (C1 ++ [z])) = f at *
 generalize both (z :: (C2 ++ [v])) = g at *
 show f v + lsum f (C1 ++ z :: C2) + (g v + lsum g (C1 ++ z :: C2)) = f v + lsum f (C1 ++ [z]) + (g z + lsum g (C2 ++ [v]))
 rw [lsum_app, lsum_app, lsum_app, lsum_app]
 show f v + (lsum f C1 + (f z + lsum f C2)) + (g v + (lsum g C1 + (g z + lsum g C2))) = f v + (lsum f C1 + (f z + 0)) + (g z + (lsum g C2 + (g v + 0)))
 omega
def hv (a b c : Int) : Int := if b < a then (if a < c then 1 else 0) else if b = a then (if a = c then 0 else 1) else (if c < a then 1 else 0)
theorem hv_eq (a b c : Int) : (if b ≤ a ∧ a < c then (1 : Int) else 0) + (if b < a ∧ a ≤ c then 1 else 0) - (if b < a then 1 else 0) + (if c < a then 1 else 0) = hv a b c := by
 unfold hv
 rcases Int.lt_trichotomy b a with k | k | k
 ·simp only [k, Int.le_of_lt k, true_and, if_true]
  (repeat' split) <;> omega
 ·simp only [k, Int.le_refl, Int.lt_irrefl, true_and, false_and, if_true, if_false]
  (repeat' split) <;> omega
 ·simp only [show ¬ b ≤ a by omega, show ¬ b < a by omega, show ¬ b = a by omega, false_and, if_false]
  (repeat' split) <;> omega
theorem hv_sum {a b c : Int} (h : ¬ (a = b ∧ b = c)) : hv a b c + (hv b c a + (hv c a b + 0)) = 1 := by
 unfold hv
 rcases Int.lt_trichotomy b a with k | k | k
 ·simp only [k, show ¬ a < b by omega, show ¬ b = a by omega, if_true, if_false]
  (repeat' split) <;> omega
 ·simp only [k, Int.lt_irrefl, if_true, if_false]
  (repeat' split) <;> omega
 ·simp only [show ¬ b < a by omega, show ¬ b = a by omega, k, if_true, if_false]
  (repeat' split) <;> omega
theorem at_corner {x y z : Pt} (h : 0 < cr y z x) : cS x y x.f0 x.f1 + (cS y z x.f0 x.f1 + (cS z x x.f0 x.f1 + 0)) + (cT x y x.f0 x.f1 + (cT y z x.f0 x.f1 + (cT z x x.f0 x.f1 + 0))) = hv x.f1 y.f1 z.f1 := by
 have e1 : cr x y ⟨x.f0, x.f1⟩ = 0 := cr_self1 x y
 have e2 : cr y x ⟨x.f0, x.f1⟩ = 0 := cr_self2 y x
 have e3 : cr z x ⟨x.f0, x.f1⟩ = 0 := cr_self2 z x
 have e4 : cr x z ⟨x.f0, x.f1⟩ = 0 := cr_self1 x z
 have e5 : cr y z ⟨x.f0, x.f1⟩ = cr y z x := rfl
 have e6 : cr z y ⟨x.f0, x.f1⟩ = - cr y z x := by unfold cr; grind
 rw [← hv_eq]
 unfold cS cT upS upT
 rw [e1, e2, e3, e4, e5, e6]
 simp only [show ¬ (0 : Int) < 0 by omega, and_false, if_false, h, and_true, show ¬ 0 < - cr y z x by omega, show ¬ 0 ≤ - cr y z x by omega, show 0 ≤ cr y z x by omega, Int.lt_irrefl, false_and, Int.le_refl]
 omega
theorem tri_both {a b c : Pt} (T : 0 < cr a b c) : lsum (both [a, b, c]) [a, b, c] = 1 := by
 have Tb : cr b c a = cr a b c := cr_rot a b c
 have Tc : cr c a b = cr a b c := by rw [cr_rot, cr_rot]
 have ha := at_corner (x := a) (y := b) (z := c) (by rw [Tb]; exact T)
 have hb := at_corner (x := b) (y := c) (z := a) (by rw [Tc]; exact T)
 have hc := at_corner (x := c) (y := a) (z := b) T
 have ra : both [a, b, c] a = cS a b a.f0 a.f1 + (cS b c a.f0 a.f1 + (cS c a a.f0 a.f1 + 0)) + (cT a b a.f0 a.f1 + (cT b c a.f0 a.f1 + (cT c a a.f0 a.f1 + 0))) := rfl
 have rb : both [a, b, c] b = cS a b b.f0 b.f1 + (cS b c b.f0 b.f1 + (cS c a b.f0 b.f1 + 0)) + (cT a b b.f0 b.f1 + (cT b c b.f0 b.f1 + (cT c a b.f0 b.f1 + 0))) := rfl
 have rc : both [a, b, c] c = cS a b c.f0 c.f1 + (cS b c c.f0 c.f1 + (cS c a c.f0 c.f1 + 0)) + (cT a b c.f0 c.f1 + (cT b c c.f0 c.f1 + (cT c a c.f0 c.f1 + 0))) := rfl
 have nz : ¬ (a.f1 = b.f1 ∧ b.f1 = c.f1) := by
  intro ⟨h1, h2⟩
  have : cr a b c = 0 := by unfold cr; rw [h1, h2]; grind
  omega
 have s := hv_sum nz
 show both [a, b, c] a + (both [a, b, c] b + (both [a, b, c] c + 0)) = 1
 omega
theorem tri_neg (a b c x : Pt) : both [c, b, a] x = - both [a, b, c] x := by
 have n1 := cS_neg a b x.f0 x.f1
 have n2 := cS_neg b c x.f0 x.f1
 have n3 := cS_neg c a x.f0 x.f1
 have m1 := cT_neg a b x.f0 x.f1
 have m2 := cT_neg b c x.f0 x.f1
 have m3 := cT_neg c a x.f0 x.f1
 have r1 : both [c, b, a] x = cS c b x.f0 x.f1 + (cS b a x.f0 x.f1 + (cS a c x.f0 x.f1 + 0)) + (cT c b x.f0 x.f1 + (cT b a x.f0 x.f1 + (cT a c x.f0 x.f1 + 0))) := rfl
 have r2 : both [a, b, c] x = cS a b x.f0 x.f1 + (cS b c x.f0 x.f1 + (cS c a x.f0 x.f1 + 0)) + (cT a b x.f0 x.f1 + (cT b c x.f0 x.f1 + (cT c a x.f0 x.f1 + 0))) := rfl
 omega
theorem SP.turns {a b c : Pt} (h : SP [a, b, c]) : cr a b c ≠ 0 := by
 intro z
 obtain ⟨be, ga, h1, h2, h3, h4⟩ := flat_par (a := a) (b := b) (c := c) (R := []) (by
  have := SP.rot (a := a) (l1 := []) (b := b) (l2 := [c]) h; exact this) z
 have o : On a c b := par_on (s := be) (t := ga) (by omega) (by omega) (by omega) h3 h4
 have := h.corner (x := b) (by simp) (e := (c, a)) (by simp [loop, pth]) (on_sw o)
 have nd := h.nd
 simp only [List.nodup_cons, List.mem_cons, List.not_mem_nil, or_false, not_or] at nd
 rcases this with q | q
 ·exact nd.2.1 q
 ·exact nd.1.1 q.symm
theorem corners_both {m : List Pt} (h : SP m) : ∃ s, J m s ∧ lsum (both m) m = ((m.length : Int) - 2) * s := by
 refine cut_ind (Q := fun m => ∃ s, J m s ∧ lsum (both m) m = ((m.length : Int) - 2) * s) ?_ ?_ ?_ m.length m (Nat.le_refl _) h
 ·intro a b c h
  have t := h.turns
  rcases Int.lt_or_gt_of_ne t with k | k
  ·have T : 0 < cr c b a := by have : cr c b a = - cr a b c := (by unfold cr; grind); omega
   refine ⟨-1, tri_J' T, ?_⟩
   have e := tri_both T
   have e1 : lsum (both [c, b, a]) [c, b, a] = both [c, b, a] c + (both [c, b, a] b + (both [c, b, a] a + 0)) := rfl
   have e2 : lsum (both [a, b, c]) [a, b, c] = both [a, b, c] a + (both [a, b, c] b + (both [a, b, c] c + 0)) := rfl
   have n1 := tri_neg a b c a
   have n2 := tri_neg a b c b
   have n3 := tri_neg a b c c
   simp only [List.length_cons, List.length_nil]
   omega
  ·refine ⟨1, tri_J k, ?_⟩
   rw [tri_both k]; simp only [List.length_cons, List.length_nil]; omega
 ·intro v C1 z C2 C ⟨s1, j1, e1⟩ ⟨s2, j2, e2⟩
  obtain ⟨jw, es⟩ := cut_J C j1 j2
  refine ⟨s1, jw, ?_⟩
  rw [cut_both C, e1, e2, ← es, ← Int.add_mul]
  congr 1
  simp only [List.length_cons, List.length_append, List.length_nil]; omega
 ·intro a l1 b l2 hs ⟨s, j, e⟩
  have r : ∀ f, eS f (loop (b :: (l2 ++ a :: l1))) = eS f (loop (a :: (l1 ++ b :: l2))) := fun f => eS_rot f a l1 b l2
  refine ⟨s, J_congr (fun f => (r f).symm) j, ?_⟩
  have g : ∀ x, both (b :: (l2 ++ a :: l1)) x = both (a :: (l1 ++ b :: l2)) x := by
   intro x; unfold both wE wF; rw [r, r]
  rw [lsum_congr _ (fun x _ => g x)]
  have len : (b :: (l2 ++ a :: l1)).length = (a :: (l1 ++ b :: l2)).length := by simp only [List.length_cons, List.length_append]; omega
  rw [len, ← e]
  have s1 : lsum (both (a :: (l1 ++ b :: l2))) ((b :: l2) ++ (a :: l1)) = lsum (both (a :: (l1 ++ b :: l2))) ((a :: l1) ++ (b :: l2)) := by rw [lsum_app, lsum_app]; omega
  exact s1
end Go.Proofs.Ythehmkpcddafnaa.M
end
section
namespace Go.Proofs.Ythehmkpcddafnaa.M
theorem sumN_le_one {f : Nat → Int} : ∀ n, (∀ i, i < n → f i = 0 ∨ f i = 1) → (∀ i j, i < n → j < n → f i = 1 → f j = 1 → i = j) → sumN f n = 0 ∨ (sumN f n = 1 ∧ ∃ i, i < n ∧ f i = 1)
 | 0, _, _ => Or.inl rfl
 | n + 1, h, u => by
  rw [sumN_succ]
  rcases sumN_le_one n (fun i hi => h i (by omega)) (fun i j hi hj => u i j (by omega) (by omega)) with e | ⟨e, i, hi, e1⟩
  ·rcases h n (by omega) with k | k
   ·exact Or.inl (by omega)
   ·exact Or.inr ⟨by omega, n, by omega, k⟩
  ·rcases h n (by omega) with k | k
   ·exact Or.inr ⟨by omega, i, by omega, e1⟩
   ·have := u i n (by omega) (by omega) e1 k; omega
end Go.Proofs.Ythehmkpcddafnaa.M
end
section
namespace Go.Proofs.Ythehmkpcddafnaa.M
open Go.RowKit Go.Proofs.Ythehmkpcddafnaa.PG Go.Proofs.YthehmkpcddafnaaW.PrintMore Go.Proofs.YthehmkpcddafnaaW.PrintWords
def sumTo (w : Pt → Pt → Int) (l : List Pt) : Nat → Int
 | 0 => 0
 | i + 1 => sumTo w l i + w (at_ l i) (at_ l ((i + 1) % l.length))
def edges (w : Pt → Pt → Int) (l : List Pt) : Int := sumTo w l l.length
def gw (a b : Pt) : Int := (Int.gcd (b.f0 - a.f0) (b.f1 - a.f1) : Int)
theorem gcd_run (x y : Int) (hx : -1000000 ≤ x ∧ x ≤ 1000000) (hy : -1000000 ≤ y ∧ y ≤ 1000000) : Rt (fun k => shape_gcd.f k x y) (Int.gcd x y : Int) := by
 have H : ∀ (b a : Nat), Rt (fun k => shape_gcd.l0 k (a : Int) (b : Int)) ((Nat.gcd a b : Nat) : Int) := by
  intro b
  induction b using Nat.strongRecOn with
  | _ b ih =>
   intro a
   by_cases h : b = 0
   ·subst h
    refine rt_ret (fun k => ?_)
    rw [shape_gcd.l0, if_neg (by omega), Nat.gcd_zero_right]
   ·have e : Nat.gcd a b = Nat.gcd b (a % b) := by rw [Nat.gcd_comm, Nat.gcd_rec, Nat.gcd_comm]
    rw [e]
    refine rt_step (fun k => ?_) (ih (a % b) (Nat.mod_lt _ (by omega)) b)
    rw [shape_gcd.l0, if_pos (by omega), if_neg (by omega)]; rfl
 have m : ∀ z : Int, -1000000 ≤ z ∧ z ≤ 1000000 → mx z (wrap64 (-z)) = (z.natAbs : Int) := by
  intro z hz
  rw [wz _ (by omega) (by omega)]; unfold mx; split <;> omega
 obtain ⟨K, hK⟩ := H y.natAbs x.natAbs
 refine ⟨K, fun k hk => ?_⟩
 have a := hK k hk
 dsimp only at a ⊢
 unfold shape_gcd.f
 rw [m x hx, m y hy]; exact a
theorem gw_bd {a b : Pt} (ha : In 10000 a) (hb : In 10000 b) : 0 ≤ gw a b ∧ gw a b ≤ 40000 := by
 unfold gw In at *
 refine ⟨by omega, ?_⟩
 by_cases h : b.f0 - a.f0 = 0
 ·rw [h, Int.gcd_zero_left]; omega
 ·have := Int.gcd_le_natAbs_left (b.f1 - a.f1) h
  omega
theorem lattice_run {l : List Pt} (hp : Poly l) (hs : Simple l) : Rt (fun k => shape_Lattice.f k l) (Int.tdiv (mx (area l) (-(area l)) - edges gw l + 2) 2, edges gw l, 0) := by
 obtain ⟨h3, h32, hin⟩ := hp
 have hb : ∀ p ∈ l, Bd p := fun p h => in_bd (hin p h)
 obtain ⟨K0, hK0⟩ := area_run hb (by omega : l.length ≤ 1000000)
 have ab := areaTo_bd hb l.length (Nat.le_refl _)
 have ea : area l = areaTo l l.length := rfl
 have bb : ∀ i, i ≤ l.length → 0 ≤ sumTo gw l i ∧ sumTo gw l i ≤ 40000 * i := by
  intro i
  induction i with
  | zero => intro _; simp [sumTo]
  | succ i ih =>
   intro hi
   have a := ih (by omega)
   have b := gw_bd (hin _ (at_mem (show i < l.length by omega))) (hin _ (at_mem (show (i + 1) % l.length < l.length from Nat.mod_lt _ (by omega))))
   rw [sumTo]; omega
 have H : ∀ d i, l.length = i + d → Rt (fun k => shape_Lattice.l0 k l (sumTo gw l i) (l.length : Int) (i : Int)) (Int.tdiv (mx (area l) (-(area l)) - edges gw l + 2) 2, edges gw l, 0) := by
  intro d
  induction d with
  | zero =>
   intro i hi
   have ei : i = l.length := by omega
   subst ei
   refine ⟨K0 + 1, fun k hk => ?_⟩
   obtain ⟨k, rfl⟩ := fuel1 hk
   have a0 := hK0 k (by omega)
   have b := bb l.length (Nat.le_refl _)
   have m1 : -300000000000000000 ≤ mx (area l) (-(area l)) ∧ mx (area l) (-(area l)) ≤ 300000000000000000 := by unfold mx; split <;> omega
   have eb : edges gw l = sumTo gw l l.length := rfl
   have td : -400000000000000000 ≤ Int.tdiv (mx (area l) (-(area l)) - edges gw l + 2) 2 ∧ Int.tdiv (mx (area l) (-(area l)) - edges gw l + 2) 2 ≤ 400000000000000000 := by
    have a1 := Int.mul_tdiv_add_tmod (mx (area l) (-(area l)) - edges gw l + 2) 2
    have a2 := tmod_bd (mx (area l) (-(area l)) - edges gw l + 2) 2 (by omega)
    omega
   dsimp only at a0 ⊢
   rw [shape_Lattice.l0, if_neg (by omega), a0, Option.bind_some, wz (-(area l)) (by omega) (by omega), ← eb, wz (mx (area l) (-(area l)) - edges gw l) (by omega) (by omega), wz (mx (area l) (-(area l)) - edges gw l + 2) (by omega) (by omega), wz _ (by omega) (by omega)]
  | succ d ih =>
   intro i hi
   have b := bb (i + 1) (by omega)
   obtain ⟨p0, p1, p2, p3⟩ := hin _ (at_mem (show i < l.length by omega))
   obtain ⟨q0, q1, q2, q3⟩ := hin _ (at_mem (show (i + 1) % l.length < l.length from Nat.mod_lt _ (by omega)))
   obtain ⟨K1, h1⟩ := gcd_run ((at_ l ((i + 1) % l.length)).f0 - (at_ l i).f0) ((at_ l ((i + 1) % l.length)).f1 - (at_ l i).f1) (by omega) (by omega)
   obtain ⟨K2, h2⟩ := ih (i + 1) (by omega)
   refine ⟨K1 + K2 + 1, fun k hk => ?_⟩
   obtain ⟨k, rfl⟩ := fuel1 (show (K1 + K2) + 1 ≤ k by omega)
   have a1 := h1 k (by omega)
   have a2 := h2 k (by omega)
   have tm := tmod_nat i l.length (by omega)
   have tl := tmod_in (i + 1) l.length (by omega)
   dsimp only at a1 a2 ⊢
   rw [shape_Lattice.l0, if_pos (by omega), if_neg (by omega), tm, if_pos tl.1, if_pos tl.2, if_pos (by omega), if_pos (by omega), rd_at, rd_at, sub_f (hb _ (at_mem (Nat.mod_lt _ (by omega)))) (hb _ (at_mem (by omega))), Option.bind_some]
   dsimp only
   have e : sumTo gw l (i + 1) = sumTo gw l i + (Int.gcd ((at_ l ((i + 1) % l.length)).f0 - (at_ l i).f0) ((at_ l ((i + 1) % l.length)).f1 - (at_ l i).f1) : Int) := rfl
   rw [a1, Option.bind_some, ← e, wz _ (by omega) (by omega), wrap_succ i (by omega), a2]
 obtain ⟨K1, h1⟩ := refused_simple (by omega : l.length ≤ 1000000) ⟨h3, h32, hin⟩ hs
 obtain ⟨K2, h2⟩ := H l.length 0 (by omega)
 refine ⟨K1 + K2, fun k hk => ?_⟩
 have a1 := h1 k (by omega)
 have a2 := h2 k (by omega)
 dsimp only at a1 a2 ⊢
 unfold shape_Lattice.f
 rw [a1, Option.bind_some, if_pos rfl]; exact a2
end Go.Proofs.Ythehmkpcddafnaa.M
end
section
namespace Go.Proofs.Ythehmkpcddafnaa.M
open Go.Proofs.Ythehmkpcddafnaa.PG
theorem lsum_pick (f : Pt → Int) (p : Pt) : ∀ m : List Pt, m.Nodup → lsum (fun v => if v = p then f v else 0) m = if p ∈ m then f p else 0
 | [], _ => rfl
 | a :: l, h => by
  obtain ⟨n1, n2⟩ := List.nodup_cons.mp h
  have ih := lsum_pick f p l n2
  show (if a = p then f a else 0) + lsum _ l = _
  rw [ih]
  by_cases k : a = p
  ·subst k
   rw [if_pos rfl, if_neg n1, if_pos (List.mem_cons_self ..)]; omega
  ·rw [if_neg k]
   by_cases q : p ∈ l
   ·rw [if_pos q, if_pos (List.mem_cons_of_mem _ q)]; omega
   ·rw [if_neg q, if_neg (fun x => by
     rcases List.mem_cons.mp x with r | r
     ·exact k r.symm
     ·exact q r)]; rfl
theorem over_congr {f g : Int → Int → Int} {x0 y0 : Int} {n h : Nat} (e : ∀ x y, f x y = g x y) : over f x0 y0 n h = over g x0 y0 n h := by
 unfold over; exact sumN_congr h (fun j _ => sumN_congr n (fun i _ => e _ _))
theorem over_add {f g : Int → Int → Int} {x0 y0 : Int} {n h : Nat} : over (fun x y => f x y + g x y) x0 y0 n h = over f x0 y0 n h + over g x0 y0 n h := by
 unfold over
 rw [← sumN_add]; exact sumN_congr h (fun j _ => sumN_add n)
theorem sumN_mul (c : Int) (f : Nat → Int) : ∀ n, sumN (fun i => c * f i) n = c * sumN f n
 | 0 => by unfold sumN; rw [Int.mul_zero]
 | n + 1 => by rw [sumN_succ, sumN_succ, sumN_mul c f n, Int.mul_add]
theorem over_mul (c : Int) {f : Int → Int → Int} {x0 y0 : Int} {n h : Nat} : over (fun x y => c * f x y) x0 y0 n h = c * over f x0 y0 n h := by
 unfold over
 rw [← sumN_mul]; exact sumN_congr h (fun j _ => sumN_mul c _ n)
theorem over_zero {x0 y0 : Int} {n h : Nat} : over (fun _ _ => 0) x0 y0 n h = 0 := by
 unfold over
 rw [sumN_congr h (g := fun _ => 0) (fun j _ => sumN_zero n), sumN_zero]
theorem over_lsum {g : Pt → Int → Int → Int} {x0 y0 : Int} {n h : Nat} : ∀ m : List Pt, over (fun x y => lsum (fun v => g v x y) m) x0 y0 n h = lsum (fun v => over (g v) x0 y0 n h) m
 | [] => over_zero
 | a :: l => by
  show over (fun x y => g a x y + lsum (fun v => g v x y) l) x0 y0 n h = over (g a) x0 y0 n h + _
  rw [over_add, over_lsum l]
theorem sumN_pick {c : Int} {k : Nat} : ∀ n, sumN (fun i => if i = k then c else 0) n = if k < n then c else 0
 | 0 => by rw [if_neg (by omega)]; rfl
 | n + 1 => by
  rw [sumN_succ, sumN_pick n]
  by_cases h : n = k
  ·rw [if_neg (by omega), if_pos h, if_pos (by omega)]; omega
  ·rw [if_neg h]
   by_cases h2 : k < n
   ·rw [if_pos h2, if_pos (by omega)]; omega
   ·rw [if_neg h2, if_neg (by omega)]; rfl
theorem over_point {v : Pt} {c x0 y0 : Int} {n h : Nat} (hx : x0 ≤ v.f0 ∧ v.f0 < x0 + n) (hy : y0 ≤ v.f1 ∧ v.f1 < y0 + h) : over (fun x y => if v = ⟨x, y⟩ then c else 0) x0 y0 n h = c := by
 unfold over
 have e : ∀ i j : Nat, (v = (⟨x0 + i, y0 + j⟩ : Pt)) ↔ (i = (v.f0 - x0).toNat ∧ j = (v.f1 - y0).toNat) := by
  intro i j
  constructor
  ·intro h
   have h0 : v.f0 = x0 + i := by rw [h]
   have h1 : v.f1 = y0 + j := by rw [h]
   omega
  ·rintro ⟨h0, h1⟩
   exact pt_ext (by dsimp only; omega) (by dsimp only; omega)
 rw [sumN_congr h (g := fun j => if j = (v.f1 - y0).toNat then c else 0) (fun j _ => ?_), sumN_pick, if_pos (by omega)]
 by_cases k : j = (v.f1 - y0).toNat
 ·rw [if_pos k, sumN_congr n (g := fun i => if i = (v.f0 - x0).toNat then c else 0) (fun i _ => ?_), sumN_pick, if_pos (by omega)]
  show (if v = (⟨x0 + i, y0 + j⟩ : Pt) then c else 0) = _
  by_cases q : i = (v.f0 - x0).toNat
  ·rw [if_pos ((e i j).mpr ⟨q, k⟩), if_pos q]
  ·rw [if_neg (fun r => q ((e i j).mp r).1), if_neg q]
 ·rw [if_neg k, sumN_congr n (g := fun _ => 0) (fun i _ => if_neg (fun r => k ((e i j).mp r).2)), sumN_zero]
theorem point_both {m : List Pt} (h : SP m) {s : Int} (j : J m s) (p : Pt) : s * both m p = 2 * (if whereOf m p = 1 then 1 else 0) + (if whereOf m p = 0 then 1 else 0) + lsum (fun v => if v = p then s * both m v - 1 else 0) m := by
 rw [lsum_pick (fun v => s * both m v - 1) p m h.nd]
 have hs := j.1
 by_cases hp : p ∈ m
 ·obtain ⟨e, he, e1⟩ := loop_has_fst hp
  have w : whereOf m p = 0 := where_on e he (by rw [← e1]; exact ⟨cr_self1 _ _, btw_start _ _⟩)
  rw [w, if_neg (by omega), if_pos rfl, if_pos hp]; omega
 ·rw [if_neg hp]
  by_cases off : ∀ e ∈ loop m, ¬ On e.1 e.2 p
  ·have w := where_wE off
   have a := j.one p
   have b := wE_wF off
   unfold both
   rw [← b, w]
   rcases hs with hs | hs <;> subst hs <;> rcases a with a | a <;> rw [a] <;> decide
  ·have : ∃ e ∈ loop m, On e.1 e.2 p := Classical.byContradiction (fun k => off (fun e he o => k ⟨e, he, o⟩))
   obtain ⟨e, he, o⟩ := this
   rw [where_on e he o, if_neg (by omega), if_pos rfl]
   have a := j.one p
   have b := j.two h.ne p
   obtain ⟨me1, me2⟩ := loop_mem he
   obtain ⟨l, hsp, hlen, hmem, hm, hsum⟩ := rot_to h me1
   have : wE (loop m) p - wF (loop m) p = 1 ∨ wE (loop m) p - wF (loop m) p = -1 := by
    match l, hsp, hlen, hmem, hsum with
    | [], hsp, _, _, _ => have := hsp.three; simp at this
    | b' :: l, hsp, hlen, hmem, hsum =>
     have i1 : (e.1, b') ∈ loop (e.1 :: b' :: l) := List.mem_cons_self ..
     have j1 := loop_fst h.nd _ ((hmem _).mp i1) _ he rfl
     have j2 : b' = e.2 := congrArg Prod.snd j1
     subst j2
     have w := edge_point hsp (k := 1) (by omega) (p := p) (by rw [sc_one, sc_one]; exact o) (by rw [sc_one]; intro x; exact hp (by rw [x]; exact me1)) (by rw [sc_one]; intro x; exact hp (by rw [x]; exact me2))
     rw [scE_one] at w
     have c1 : wE (loop (e.1 :: e.2 :: l)) p = wE (loop m) p := hsum _
     have c2 : wF (loop (e.1 :: e.2 :: l)) p = wF (loop m) p := hsum _
     omega
   unfold both
   rcases hs with hs | hs <;> subst hs <;> omega
def inN (m : List Pt) (x0 y0 : Int) (n h : Nat) : Int := over (fun x y => if whereOf m ⟨x, y⟩ = 1 then 1 else 0) x0 y0 n h
def onN (m : List Pt) (x0 y0 : Int) (n h : Nat) : Int := over (fun x y => if whereOf m ⟨x, y⟩ = 0 then 1 else 0) x0 y0 n h
theorem lsum_sub1 (f : Pt → Int) (s : Int) : ∀ m, lsum (fun v => s * f v - 1) m = s * lsum f m - m.length
 | [] => by show (0 : Int) = s * 0 - 0; omega
 | a :: l => by
  show s * f a - 1 + lsum (fun v => s * f v - 1) l = s * (f a + lsum f l) - _
  rw [lsum_sub1 f s l, Int.mul_add, List.length_cons]; omega
theorem pick_count {m : List Pt} (h : SP m) {x0 y0 : Int} {n k : Nat} (hx : ∀ p ∈ m, x0 ≤ p.f0 ∧ p.f0 < x0 + n) (hy : ∀ p ∈ m, y0 ≤ p.f1 ∧ p.f1 < y0 + k) :
  ∃ s : Int, (s = 1 ∨ s = -1) ∧ J m s ∧ s * area m = 2 * inN m x0 y0 n k + onN m x0 y0 n k - 2 := by
 obtain ⟨s, j, e⟩ := corners_both h
 refine ⟨s, j.1, j, ?_⟩
 have ov := over_poly hx hy
 have eS' : ∀ x y, wnS m x y + wnT m x y = both m ⟨x, y⟩ := by
  intro x y
  unfold both wE wF wnS wnT
  rw [eS_idx, eS_idx]
 have e1 : over (fun x y => both m ⟨x, y⟩) x0 y0 n k = area m := by
  rw [← ov, ← over_add]; exact over_congr (fun x y => (eS' x y).symm)
 rw [← e1, ← over_mul, over_congr (fun x y => point_both h j ⟨x, y⟩), over_add, over_add, over_mul, over_lsum]
 have e2 : lsum (fun v => over (fun x y => if v = ⟨x, y⟩ then s * both m v - 1 else 0) x0 y0 n k) m = lsum (fun v => s * both m v - 1) m :=
  lsum_congr m (fun v hv => over_point (hx v hv) (hy v hv))
 rw [e2, lsum_sub1, e]
 unfold inN onN
 have hs := j.1
 have : s * (((m.length : Int) - 2) * s) = (m.length : Int) - 2 := by rcases hs with q | q <;> subst q <;> omega
 rw [this]; omega
theorem euclid {u v x y : Int} (g : Int.gcd u v = 1) (e : x * v = y * u) : ∃ t, x = t * u ∧ y = t * v := by
 by_cases hu : u = 0
 ·subst hu
  have hv : v = 1 ∨ v = -1 := by rw [Int.gcd_zero_left] at g; omega
  have hx : x = 0 := by
   rw [Int.mul_zero] at e
   exact (Int.mul_eq_zero.mp e).resolve_right (by omega)
  rcases hv with hv | hv <;> subst hv
  ·exact ⟨y, by omega, by omega⟩
  ·exact ⟨-y, by omega, by omega⟩
 ·have d : u.natAbs ∣ v.natAbs * x.natAbs := by
   rw [← Int.natAbs_mul, Int.mul_comm, e]
   rw [Int.natAbs_mul]; exact Nat.dvd_mul_left _ _
  have d := Nat.Coprime.dvd_of_dvd_mul_left (show Nat.Coprime u.natAbs v.natAbs from g) d
  obtain ⟨t, ht⟩ := Int.natAbs_dvd_natAbs.mp d
  refine ⟨t, by rw [ht, Int.mul_comm], ?_⟩
  have : u * (t * v) = u * y := by rw [ht] at e; grind
  exact (Int.eq_of_mul_eq_mul_left hu this).symm
def stepP (a b : Pt) (t : Nat) : Pt := ⟨a.f0 + t * ((b.f0 - a.f0) / (Int.gcd (b.f0 - a.f0) (b.f1 - a.f1) : Int)), a.f1 + t * ((b.f1 - a.f1) / (Int.gcd (b.f0 - a.f0) (b.f1 - a.f1) : Int))⟩
theorem gcd_split {a b : Pt} (ne : a ≠ b) : ∃ (g : Nat) (u v : Int), 0 < g ∧ Int.gcd u v = 1 ∧ b.f0 - a.f0 = g * u ∧ b.f1 - a.f1 = g * v ∧ Int.gcd (b.f0 - a.f0) (b.f1 - a.f1) = g ∧ ∀ t : Nat, stepP a b t = ⟨a.f0 + t * u, a.f1 + t * v⟩ := by
 have h0 : b.f0 - a.f0 ≠ 0 ∨ b.f1 - a.f1 ≠ 0 := by
  by_cases k : b.f0 - a.f0 = 0
  ·right; intro q; exact ne (pt_ext (by omega) (by omega))
  ·exact Or.inl k
 have gp := Int.gcd_pos_iff.mpr h0
 refine ⟨Int.gcd (b.f0 - a.f0) (b.f1 - a.f1), (b.f0 - a.f0) / (Int.gcd (b.f0 - a.f0) (b.f1 - a.f1) : Int), (b.f1 - a.f1) / (Int.gcd (b.f0 - a.f0) (b.f1 - a.f1) : Int), gp, Int.gcd_ediv_gcd_ediv_gcd gp, ?_, ?_, rfl, fun t => rfl⟩
 ·rw [Int.mul_ediv_cancel' (Int.gcd_dvd_left ..)]
 ·rw [Int.mul_ediv_cancel' (Int.gcd_dvd_right ..)]
theorem seg_pts {a b p : Pt} (ne : a ≠ b) : (On a b p ∧ p ≠ b) ↔ ∃ t, t < Int.gcd (b.f0 - a.f0) (b.f1 - a.f1) ∧ stepP a b t = p := by
 obtain ⟨g, u, v, g0, cop, e0, e1, eg, es⟩ := gcd_split ne
 rw [eg]
 have gi : 0 < (g : Int) := by omega
 have uv : u ≠ 0 ∨ v ≠ 0 := by
  by_cases k : u = 0
  ·right; intro q; rw [k, q] at cop; simp at cop
  ·exact Or.inl k
 constructor
 ·rintro ⟨⟨c, bt⟩, nb⟩
  have c' : (b.f0 - a.f0) * (p.f1 - a.f1) = (p.f0 - a.f0) * (b.f1 - a.f1) := by unfold cr at c; omega
  rw [e0, e1] at c'
  have c'' : (p.f0 - a.f0) * v = (p.f1 - a.f1) * u := by
   have : (g : Int) * ((p.f0 - a.f0) * v) = g * ((p.f1 - a.f1) * u) := by grind
   exact scaled_eq gi this
  obtain ⟨t, h0, h1⟩ := euclid cop c''
  have rng : ∀ w x0 y0 z0 : Int, w ≠ 0 → y0 - x0 = g * w → z0 - x0 = t * w → min x0 y0 ≤ z0 → z0 ≤ max x0 y0 → 0 ≤ t ∧ t ≤ g := by
   intro w x0 y0 z0 hw h1 h2 h3 h4
   rcases Int.lt_or_gt_of_ne hw with q | q
   ·have n1 := Int.mul_neg_of_pos_of_neg gi q
    have k1 : 0 ≤ (-w) * t := by rw [Int.neg_mul, Int.mul_comm]; omega
    have k2 : 0 ≤ (-w) * (g - t) := by rw [Int.mul_sub, Int.neg_mul, Int.neg_mul, Int.mul_comm w, Int.mul_comm w]; omega
    have := nonneg_of_mul (show 0 < -w by omega) k1
    have := nonneg_of_mul (show 0 < -w by omega) k2
    omega
   ·have n1 := Int.mul_pos gi q
    have k1 : 0 ≤ w * t := by rw [Int.mul_comm]; omega
    have k2 : 0 ≤ w * (g - t) := by rw [Int.mul_sub, Int.mul_comm w, Int.mul_comm w]; omega
    have := nonneg_of_mul q k1
    have := nonneg_of_mul q k2
    omega
  unfold btw at bt
  have r : 0 ≤ t ∧ t ≤ g := by
   rcases uv with q | q
   ·exact rng u a.f0 b.f0 p.f0 q e0 h0 bt.1 bt.2.1
   ·exact rng v a.f1 b.f1 p.f1 q e1 h1 bt.2.2.1 bt.2.2.2
  have tg : t ≠ g := fun q => nb (by subst q; exact pt_ext (by omega) (by omega))
  refine ⟨t.toNat, by omega, ?_⟩
  rw [es]
  exact pt_ext (by dsimp only; rw [Int.toNat_of_nonneg r.1]; omega) (by dsimp only; rw [Int.toNat_of_nonneg r.1]; omega)
 ·rintro ⟨t, ht, rfl⟩
  rw [es]
  refine ⟨par_on (s := (g : Int) - t) (t := t) (by omega) (by omega) (by omega) ?_ ?_, fun q => ?_⟩
  ·dsimp only; rw [show b.f0 = a.f0 + g * u by omega]; grind
  ·dsimp only; rw [show b.f1 = a.f1 + g * v by omega]; grind
  ·have q0 : a.f0 + t * u = b.f0 := congrArg S41.f0 q
   have q1 : a.f1 + t * v = b.f1 := congrArg S41.f1 q
   have z0 : ((g : Int) - t) * u = 0 := by rw [Int.sub_mul]; omega
   have z1 : ((g : Int) - t) * v = 0 := by rw [Int.sub_mul]; omega
   rcases uv with r | r
   ·have := (Int.mul_eq_zero.mp z0).resolve_right r; omega
   ·have := (Int.mul_eq_zero.mp z1).resolve_right r; omega
theorem step_inj {a b : Pt} (ne : a ≠ b) {t t' : Nat} (h : stepP a b t = stepP a b t') : t = t' := by
 obtain ⟨g, u, v, g0, cop, e0, e1, eg, es⟩ := gcd_split ne
 rw [es, es] at h
 have q0 : a.f0 + t * u = a.f0 + t' * u := congrArg S41.f0 h
 have q1 : a.f1 + t * v = a.f1 + t' * v := congrArg S41.f1 h
 have z0 : ((t : Int) - t') * u = 0 := by rw [Int.sub_mul]; omega
 have z1 : ((t : Int) - t') * v = 0 := by rw [Int.sub_mul]; omega
 by_cases k : u = 0
 ·have : v ≠ 0 := by intro q; rw [k, q] at cop; simp at cop
  have := (Int.mul_eq_zero.mp z1).resolve_right this; omega
 ·have := (Int.mul_eq_zero.mp z0).resolve_right k; omega
def cntE (a b p : Pt) : Int := sumN (fun t => if stepP a b t = p then 1 else 0) (Int.gcd (b.f0 - a.f0) (b.f1 - a.f1))
theorem cntE_eq {a b p : Pt} (ne : a ≠ b) : cntE a b p = if On a b p ∧ p ≠ b then 1 else 0 := by
 unfold cntE
 by_cases k : On a b p ∧ p ≠ b
 ·rw [if_pos k]
  obtain ⟨t0, h0, h1⟩ := (seg_pts ne).mp k
  rw [sumN_congr _ (g := fun t => if t = t0 then 1 else 0) (fun t _ => ?_), sumN_pick, if_pos h0]
  by_cases q : t = t0
  ·rw [if_pos q, q, if_pos h1]
  ·rw [if_neg q, if_neg (fun r => q (step_inj ne (r.trans h1.symm)))]
 ·rw [if_neg k, sumN_congr _ (g := fun _ => 0) (fun t ht => if_neg (fun r => k ((seg_pts ne).mpr ⟨t, ht, r⟩))), sumN_zero]
theorem nodup_at {m : List Pt} (h : m.Nodup) {i j : Nat} (hi : i < m.length) (hj : j < m.length) (e : at_ m i = at_ m j) : i = j := by
 rw [at_eq hi, at_eq hj] at e
 rcases Nat.lt_trichotomy i j with k | k | k
 ·exact absurd e (List.pairwise_iff_getElem.mp h i j hi hj k)
 ·exact k
 ·exact absurd e.symm (List.pairwise_iff_getElem.mp h j i hj hi k)
theorem point_edges {m : List Pt} (h : SP m) (p : Pt) : (if whereOf m p = 0 then 1 else 0) = eS (fun a b => cntE a b p) (loop m) := by
 have each : ∀ e ∈ loop m, cntE e.1 e.2 p = if On e.1 e.2 p ∧ p ≠ e.2 then 1 else 0 := fun e he => cntE_eq (h.ne e he)
 rw [eS_congr (g := fun a b => if On a b p ∧ p ≠ b then 1 else 0) (loop m) each]
 by_cases off : ∀ e ∈ loop m, ¬ On e.1 e.2 p
 ·rw [eS_zero (loop m) (fun e he => if_neg (fun k => off e he k.1))]
  rw [where_wE off]
  split <;> rfl
 ·have : ∃ e ∈ loop m, On e.1 e.2 p := Classical.byContradiction (fun k => off (fun e he o => k ⟨e, he, o⟩))
  obtain ⟨e, he, o⟩ := this
  rw [where_on e he o, if_pos rfl]
  obtain ⟨f, hf, fo, fn⟩ : ∃ f ∈ loop m, On f.1 f.2 p ∧ p ≠ f.2 := by
   by_cases q : p = e.2
   ·obtain ⟨f, hf, f1⟩ := loop_has_fst (loop_mem he).2
    refine ⟨f, hf, ?_, ?_⟩
    ·rw [q, ← f1]; exact ⟨cr_self1 _ _, btw_start _ _⟩
    ·rw [q, ← f1]; exact h.ne f hf
   ·exact ⟨e, he, o, q⟩
  rw [eS_idx]
  obtain ⟨i0, hi0, ef⟩ := loop_idx.mp hf
  have one := sumN_le_one (f := fun i => if On (at_ m i) (at_ m ((i + 1) % m.length)) p ∧ p ≠ at_ m ((i + 1) % m.length) then 1 else 0) m.length (fun i _ => by split <;> omega) (fun i j hi hj e1 e2 => by
   have k1 : On (at_ m i) (at_ m ((i + 1) % m.length)) p ∧ p ≠ at_ m ((i + 1) % m.length) := by
    apply Classical.byContradiction; intro q; rw [if_neg q] at e1; omega
   have k2 : On (at_ m j) (at_ m ((j + 1) % m.length)) p ∧ p ≠ at_ m ((j + 1) % m.length) := by
    apply Classical.byContradiction; intro q; rw [if_neg q] at e2; omega
   refine nodup_at h.nd hi hj ?_
   by_cases q : (at_ m i, at_ m ((i + 1) % m.length)) = (at_ m j, at_ m ((j + 1) % m.length))
   ·exact congrArg Prod.fst q
   ·have := (h.sep _ (loop_idx.mpr ⟨i, hi, rfl⟩) _ (loop_idx.mpr ⟨j, hj, rfl⟩) q).on k1.1 k2.1
    exact (this.1.resolve_right k1.2).symm.trans (this.2.resolve_right k2.2))
  rcases one with z | ⟨z, _⟩
  ·exfalso
   have pos : ∀ n, (∃ i, i < n ∧ (if On (at_ m i) (at_ m ((i + 1) % m.length)) p ∧ p ≠ at_ m ((i + 1) % m.length) then (1 : Int) else 0) = 1) → 0 < sumN (fun i => if On (at_ m i) (at_ m ((i + 1) % m.length)) p ∧ p ≠ at_ m ((i + 1) % m.length) then 1 else 0) n := by
    have nn : ∀ n, 0 ≤ sumN (fun i => if On (at_ m i) (at_ m ((i + 1) % m.length)) p ∧ p ≠ at_ m ((i + 1) % m.length) then (1 : Int) else 0) n := by
     intro n
     induction n with
     | zero => exact Int.le_refl _
     | succ n ih => rw [sumN_succ]; have : (0 : Int) ≤ (if On (at_ m n) (at_ m ((n + 1) % m.length)) p ∧ p ≠ at_ m ((n + 1) % m.length) then 1 else 0) := (by split <;> omega); omega
    intro n
    induction n with
    | zero => rintro ⟨i, hi, _⟩; omega
    | succ n ih =>
     rintro ⟨i, hi, e⟩
     rw [sumN_succ]
     by_cases q : i = n
     ·subst q; have := nn i; omega
     ·have := ih ⟨i, by omega, e⟩
      have : (0 : Int) ≤ (if On (at_ m n) (at_ m ((n + 1) % m.length)) p ∧ p ≠ at_ m ((n + 1) % m.length) then 1 else 0) := by split <;> omega
      omega
   have := pos m.length ⟨i0, hi0, if_pos (by rw [ef] at fo fn; exact ⟨fo, fn⟩)⟩
   omega
  ·exact z.symm
theorem over_eS {g : Pt → Pt → Int → Int → Int} {x0 y0 : Int} {n h : Nat} : ∀ E : List (Pt × Pt), over (fun x y => eS (fun a b => g a b x y) E) x0 y0 n h = eS (fun a b => over (g a b) x0 y0 n h) E
 | [] => over_zero
 | e :: E => by
  show over (fun x y => g e.1 e.2 x y + eS (fun a b => g a b x y) E) x0 y0 n h = over (g e.1 e.2) x0 y0 n h + _
  rw [over_add, over_eS E]
theorem border_count {m : List Pt} (h : SP m) {x0 y0 : Int} {n k : Nat} (hx : ∀ p ∈ m, x0 ≤ p.f0 ∧ p.f0 < x0 + n) (hy : ∀ p ∈ m, y0 ≤ p.f1 ∧ p.f1 < y0 + k) : onN m x0 y0 n k = edges gw m := by
 unfold onN
 rw [over_congr (fun x y => point_edges h ⟨x, y⟩), over_eS]
 have e1 : eS (fun a b => over (fun x y => cntE a b ⟨x, y⟩) x0 y0 n k) (loop m) = eS gw (loop m) := by
  refine eS_congr _ (fun e he => ?_)
  obtain ⟨m1, m2⟩ := loop_mem he
  have b1 := hx _ m1; have b2 := hx _ m2; have b3 := hy _ m1; have b4 := hy _ m2
  have ne := h.ne e he
  unfold cntE
  rw [over_sum]
  rw [sumN_congr _ (g := fun _ => 1) (fun t ht => ?_), sumN_const, Int.mul_one]; rfl
  have o := ((seg_pts ne).mpr ⟨t, ht, rfl⟩).1.2
  unfold btw at o
  exact over_point ⟨by omega, by omega⟩ ⟨by omega, by omega⟩
 rw [e1, eS_idx]
 have go : ∀ i, sumTo gw m i = sumN (fun i => gw (at_ m i) (at_ m ((i + 1) % m.length))) i := by
  intro i
  induction i with
  | zero => rfl
  | succ i ih => rw [sumN_succ, ← ih]; rfl
 exact (go _).symm
end Go.Proofs.Ythehmkpcddafnaa.M
end
section
namespace Go.Proofs.Ythehmkpcddafnaa.M
open Go.RowKit Go.Proofs.Ythehmkpcddafnaa.PG Go.Proofs.YthehmkpcddafnaaW.PrintMore Go.Proofs.YthehmkpcddafnaaW.PrintWords
theorem bad_simple (r : List Pt) (hl : r.length ≤ 1000000) : ∃ c : Int, Rt (fun k => shape_refused_simple.f k r) c ∧ Rt (fun k => cracknellaw04_simple.f k r) c ∧ (c = 0 ↔ Poly r ∧ Simple r) ∧ (c = 0 ∨ c = 1 ∨ c = 2) := by
 obtain ⟨K1, h1⟩ := refPolygon_run r hl
 by_cases hp : Poly r
 ·have hb : ∀ p ∈ r, Bd p := fun p h => in_bd (hp.2.2 p h)
  obtain ⟨b4, ⟨K4, h4⟩, i4⟩ := simple_run hb hp.1 hl
  obtain ⟨b5, ⟨K5, h5⟩, i5⟩ := refSimple_run hb hp.1 hl
  have e1 : b4 = b5 := by rw [Bool.eq_iff_iff, i4, i5]
  subst e1
  refine ⟨if b4 = true then 0 else 2, ⟨K4, fun k hk => ?_⟩, ⟨K1 + K5, fun k hk => ?_⟩, ?_, ?_⟩
  ·have a4 := h4 k hk
   dsimp only at a4 ⊢
   unfold shape_refused_simple.f
   rw [polygon_f, Option.bind_some, if_pos (by simpa using hp), a4, Option.bind_some]
   cases b4 <;> rfl
  ·have a1 := h1 k (by omega)
   have a5 := h5 k (by omega)
   dsimp only at a1 a5 ⊢
   unfold cracknellaw04_simple.f
   rw [a1, Option.bind_some, if_pos (by simpa using hp), a5, Option.bind_some]
   cases b4 <;> rfl
  ·rw [← i4]; cases b4 <;> simp [hp]
  ·cases b4 <;> simp
 ·refine ⟨1, ⟨0, fun k hk => ?_⟩, ⟨K1, fun k hk => ?_⟩, ?_, ?_⟩
  ·dsimp only
   unfold shape_refused_simple.f
   rw [polygon_f, Option.bind_some, if_neg (by simpa using hp)]
  ·have a1 := h1 k (by omega)
   dsimp only at a1 ⊢
   unfold cracknellaw04_simple.f
   rw [a1, Option.bind_some, if_neg (by simpa using hp)]
  ·simp [hp]
  ·simp
end Go.Proofs.Ythehmkpcddafnaa.M
end
section
namespace Go.Proofs.Ythehmkpcddafnaa.M
open Go.RowKit Go.Proofs.Ythehmkpcddafnaa.PG Go.Proofs.YthehmkpcddafnaaW.PrintMore Go.Proofs.YthehmkpcddafnaaW.PrintWords
def rowI (l : List Pt) (v y : Int) (x : Int) (d : Nat) : Int := sumN (fun i => if whereOf l ⟨x + i, y⟩ = v then 1 else 0) d
theorem rowI_front (l : List Pt) (v y x : Int) (d : Nat) : rowI l v y x (d + 1) = (if whereOf l ⟨x, y⟩ = v then 1 else 0) + rowI l v y (x + 1) d := by
 unfold rowI
 rw [sumN_front]
 congr 1
 ·show (if whereOf l ⟨x + ((0 : Nat) : Int), y⟩ = v then (1 : Int) else 0) = _
  rw [show x + ((0 : Nat) : Int) = x by omega]
 ·exact sumN_congr d (fun i _ => by rw [show x + ((i + 1 : Nat) : Int) = x + 1 + (i : Int) by omega])
theorem rowI_bd (l : List Pt) (v y x : Int) : ∀ d : Nat, 0 ≤ rowI l v y x d ∧ rowI l v y x d ≤ d
 | 0 => ⟨Int.le_refl _, Int.le_refl _⟩
 | d + 1 => by
  have := rowI_bd l v y x d
  unfold rowI at *
  rw [sumN_succ]
  have : (0 : Int) ≤ (if whereOf l ⟨x + d, y⟩ = v then 1 else 0) ∧ (if whereOf l ⟨x + d, y⟩ = v then (1 : Int) else 0) ≤ 1 := by split <;> omega
  omega
section
variable {l : List Pt} {x0 y0 x1 y1 : Int}
theorem lat_l1 (hb : ∀ p ∈ l, Bd p) (hN : l.length ≤ 1000000) (bx : -20000 ≤ x0 ∧ x1 ≤ 20000) (y : Int) (by_ : -20000 ≤ y ∧ y ≤ 20000) {r : Int × Int} {I B : Int} {n : Nat} (hn : x0 + n = x1 + 1) (_hI : 0 ≤ I ∧ I ≤ 1000000000000) (_hB : 0 ≤ B ∧ B ≤ 1000000000000)
  (next : Rt (fun k => cracknelref04_Lattice.l0 k l (I + rowI l 1 y x0 n) (B + rowI l 0 y x0 n) (wrap64 (y + 1)) x0 y0 x1 y1) r) :
  ∀ (d : Nat) (x I' B' : Int), x0 ≤ x → x + d = x1 + 1 → 0 ≤ I' → I' ≤ 1000000000000 + (x - x0) → 0 ≤ B' → B' ≤ 1000000000000 + (x - x0) → I' + rowI l 1 y x d = I + rowI l 1 y x0 n → B' + rowI l 0 y x d = B + rowI l 0 y x0 n →
   Rt (fun k => cracknelref04_Lattice.l1 k l I' B' y x x0 y0 x1 y1) r := by
 intro d
 induction d with
 | zero =>
  intro x I' B' h0 h1 _ _ _ _ e1 e2
  refine rt_step (fun k => by rw [cracknelref04_Lattice.l1, if_neg (by omega)]) ?_
  have z1 : rowI l 1 y x 0 = 0 := rfl
  have z2 : rowI l 0 y x 0 = 0 := rfl
  rw [show I' = I + rowI l 1 y x0 n by omega, show B' = B + rowI l 0 y x0 n by omega]
  exact next
 | succ d ih =>
  intro x I' B' h0 h1 a1 a2 a3 a4 e1 e2
  rw [rowI_front] at e1 e2
  have W := refWhere_run (l := l) (p := ⟨x, y⟩) hb (by unfold Bd; dsimp only; omega) hN
  have wx : wrap64 (x + 1) = x + 1 := wz _ (by omega) (by omega)
  have wi : wrap64 (I' + 1) = I' + 1 := wz _ (by omega) (by omega)
  have wb : wrap64 (B' + 1) = B' + 1 := wz _ (by omega) (by omega)
  refine rt_bind W (g := fun t107 k => if t107 = 1 then cracknelref04_Lattice.l1 k l (I' + 1) B' y (x + 1) x0 y0 x1 y1 else if t107 = 0 then cracknelref04_Lattice.l1 k l I' (B' + 1) y (x + 1) x0 y0 x1 y1 else cracknelref04_Lattice.l1 k l I' B' y (x + 1) x0 y0 x1 y1) ?_ (fun k => by
   rw [cracknelref04_Lattice.l1, if_pos (by omega), wx, wi, wb])
  by_cases w1 : whereOf l ⟨x, y⟩ = 1
  ·simp only [if_pos w1]
   rw [if_pos w1] at e1; rw [if_neg (by omega)] at e2
   exact ih (x + 1) (I' + 1) B' (by omega) (by omega) (by omega) (by omega) (by omega) (by omega) (by omega) (by omega)
  ·simp only [if_neg w1]
   rw [if_neg w1] at e1
   by_cases w0 : whereOf l ⟨x, y⟩ = 0
   ·simp only [if_pos w0]
    rw [if_pos w0] at e2
    exact ih (x + 1) I' (B' + 1) (by omega) (by omega) (by omega) (by omega) (by omega) (by omega) (by omega) (by omega)
   ·simp only [if_neg w0]
    rw [if_neg w0] at e2
    exact ih (x + 1) I' B' (by omega) (by omega) (by omega) (by omega) (by omega) (by omega) (by omega) (by omega)
theorem lat_l0 (hb : ∀ p ∈ l, Bd p) (hN : l.length ≤ 1000000) (bx : -20000 ≤ x0 ∧ x1 ≤ 20000) (by_ : -20000 ≤ y0 ∧ y1 ≤ 20000) {n : Nat} (hn : x0 + n = x1 + 1) :
  ∀ (d : Nat) (y I B : Int), y0 ≤ y → y + d = y1 + 1 → 0 ≤ I → I ≤ 40001 * (y - y0) → 0 ≤ B → B ≤ 40001 * (y - y0) →
   Rt (fun k => cracknelref04_Lattice.l0 k l I B y x0 y0 x1 y1) (I + sumN (fun j => rowI l 1 (y + j) x0 n) d, B + sumN (fun j => rowI l 0 (y + j) x0 n) d) := by
 intro d
 induction d with
 | zero =>
  intro y I B h0 h1 _ _ _ _
  refine rt_ret (fun k => ?_)
  rw [cracknelref04_Lattice.l0, if_neg (by omega)]
  have : ∀ f, sumN f 0 = 0 := fun f => rfl
  rw [this, this, Int.add_zero, Int.add_zero]
 | succ d ih =>
  intro y I B h0 h1 a1 a2 a3 a4
  have b1 := rowI_bd l 1 y x0 n
  have b0 := rowI_bd l 0 y x0 n
  have wy : wrap64 (y + 1) = y + 1 := wz _ (by omega) (by omega)
  have nx := ih (y + 1) (I + rowI l 1 y x0 n) (B + rowI l 0 y x0 n) (by omega) (by omega) (by omega) (by omega) (by omega) (by omega)
  have e : ∀ v, sumN (fun j => rowI l v (y + j) x0 n) (d + 1) = rowI l v y x0 n + sumN (fun j => rowI l v (y + 1 + j) x0 n) d := by
   intro v
   rw [sumN_front]
   congr 1
   ·show rowI l v (y + ((0 : Nat) : Int)) x0 n = _
    rw [show y + ((0 : Nat) : Int) = y by omega]
   ·exact sumN_congr d (fun i _ => by rw [show y + ((i + 1 : Nat) : Int) = y + 1 + (i : Int) by omega])
  rw [e, e, ← Int.add_assoc, ← Int.add_assoc]
  refine rt_step (fun k => by rw [cracknelref04_Lattice.l0, if_pos (by omega)]) ?_
  exact lat_l1 hb hN bx y (by omega) hn ⟨a1, by omega⟩ ⟨a3, by omega⟩ (by rw [wy]; exact nx) n x0 I B (Int.le_refl _) hn a1 (by omega) a3 (by omega) rfl rfl
end
theorem box_lt {l : List Pt} (h0 : 0 < l.length) (hb : ∀ p ∈ l, In 10000 p) : -10000 ≤ (box l).1 ∧ (box l).1 ≤ (box l).2.2.1 ∧ (box l).2.2.1 ≤ 10000 ∧ -10000 ≤ (box l).2.1 ∧ (box l).2.1 ≤ (box l).2.2.2 ∧ (box l).2.2.2 ≤ 10000 := by
 obtain ⟨⟨p1, m1, e1⟩, ⟨p2, m2, e2⟩, ⟨p3, m3, e3⟩, ⟨p4, m4, e4⟩⟩ := box_at h0
 have i1 := hb _ m1; have i2 := hb _ m2; have i3 := hb _ m3; have i4 := hb _ m4
 have b1 := box_in (l := l) _ m1
 have b2 := box_in (l := l) _ m2
 unfold In at i1 i2 i3 i4
 omega
theorem refLattice_run {l : List Pt} (h0 : 0 < l.length) (hN : l.length ≤ 1000000) (hb : ∀ p ∈ l, In 10000 p) {n h : Nat} (hn : (box l).1 + n = (box l).2.2.1 + 1) (hh : (box l).2.1 + h = (box l).2.2.2 + 1) :
  Rt (fun k => cracknelref04_Lattice.f k l) (inN l (box l).1 (box l).2.1 n h, onN l (box l).1 (box l).2.1 n h) := by
 obtain ⟨b1, b2, b3, b4, b5, b6⟩ := box_lt h0 hb
 have R := lat_l0 (l := l) (fun p hp => in_bd (hb p hp)) hN (x0 := (box l).1) (x1 := (box l).2.2.1) (y0 := (box l).2.1) (y1 := (box l).2.2.2) (by omega) (by omega) hn h (box l).2.1 0 0 (Int.le_refl _) hh (Int.le_refl _) (by omega) (Int.le_refl _) (by omega)
 rw [Int.zero_add, Int.zero_add] at R
 exact rt_bind0 (box_run h0 hN) (g := fun b k => cracknelref04_Lattice.l0 k l 0 0 b.2.1 b.1 b.2.1 b.2.2.1 b.2.2.2) R (fun k => rfl)
theorem small_some {l : List Pt} (h0 : 0 < l.length) (hN : l.length ≤ 1000000) : ∃ b, Rt (fun k => cracknellaw04_small.f k l) b := by
 have r := box_run h0 hN
 exact ⟨decide ((wrap64 ((wrap64 ((wrap64 ((box l).2.2.1 - (box l).1)) + 1)) * (wrap64 ((wrap64 ((box l).2.2.2 - (box l).2.1)) + 1)))) ≤ 2500), rt_bind0 r (g := fun bt101 _ => some (decide ((wrap64 ((wrap64 ((wrap64 (bt101.2.2.1 - bt101.1)) + 1)) * (wrap64 ((wrap64 (bt101.2.2.2 - bt101.2.1)) + 1)))) ≤ 2500))) ⟨0, fun _ _ => rfl⟩ (fun k => by
  unfold cracknellaw04_small.f cracknelref04_Box.f
  cases cracknelref04_box.f k l <;> rfl)⟩
theorem lattice_same {l : List Pt} (hp : Poly l) (hs : Simple l) : ∃ i b : Int, Rt (fun k => shape_Lattice.f k l) (i, b, 0) ∧ Rt (fun k => cracknelref04_Lattice.f k l) (i, b) := by
 have L := lattice_run hp hs
 obtain ⟨h3, h32, hb⟩ := hp
 have sp := SP_of_simple h3 hs
 obtain ⟨b1, b2, b3, b4, b5, b6⟩ := box_lt (by omega) hb
 obtain ⟨n, hn⟩ : ∃ n : Nat, (box l).1 + n = (box l).2.2.1 + 1 := ⟨((box l).2.2.1 + 1 - (box l).1).toNat, by omega⟩
 obtain ⟨h, hh⟩ : ∃ h : Nat, (box l).2.1 + h = (box l).2.2.2 + 1 := ⟨((box l).2.2.2 + 1 - (box l).2.1).toNat, by omega⟩
 have hx : ∀ p ∈ l, (box l).1 ≤ p.f0 ∧ p.f0 < (box l).1 + n := fun p hp => by have := box_in p hp; omega
 have hy : ∀ p ∈ l, (box l).2.1 ≤ p.f1 ∧ p.f1 < (box l).2.1 + h := fun p hp => by have := box_in p hp; omega
 have R := refLattice_run (by omega) (by omega) hb hn hh
 obtain ⟨s, s1, j, pk⟩ := pick_count sp hx hy
 have bc := border_count sp hx hy
 have iN : 0 ≤ inN l (box l).1 (box l).2.1 n h := by
  have nn : ∀ (f : Nat → Int) (k : Nat), (∀ i, 0 ≤ f i) → 0 ≤ sumN f k := by
   intro f k hf
   induction k with
   | zero => exact Int.le_refl _
   | succ k ih => rw [sumN_succ]; have := hf k; omega
  exact nn _ _ (fun j => nn _ _ (fun i => by dsimp only; split <;> omega))
 have bN : 2 ≤ edges gw l := by
  have one : ∀ i, i < l.length → 1 ≤ gw (at_ l i) (at_ l ((i + 1) % l.length)) := by
   intro i hi
   have ne := sp.ne _ (loop_idx.mpr ⟨i, hi, rfl⟩)
   dsimp only at ne
   unfold gw
   have : 0 < Int.gcd ((at_ l ((i + 1) % l.length)).f0 - (at_ l i).f0) ((at_ l ((i + 1) % l.length)).f1 - (at_ l i).f1) := by
    refine Int.gcd_pos_iff.mpr ?_
    by_cases k : (at_ l ((i + 1) % l.length)).f0 - (at_ l i).f0 = 0
    ·right; intro q; exact ne (pt_ext (by omega) (by omega))
    ·exact Or.inl k
   omega
  have go : ∀ i, i ≤ l.length → (i : Int) ≤ sumTo gw l i := by
   intro i
   induction i with
   | zero => intro _; exact Int.le_refl _
   | succ i ih => intro hi; have := ih (by omega); have := one i (by omega); rw [sumTo]; omega
  have := go l.length (Nat.le_refl _)
  unfold edges; omega
 rw [bc] at R pk
 refine ⟨inN l (box l).1 (box l).2.1 n h, edges gw l, ?_, R⟩
 have e : Int.tdiv (mx (area l) (-(area l)) - edges gw l + 2) 2 = inN l (box l).1 (box l).2.1 n h := by
  have : mx (area l) (-(area l)) - edges gw l + 2 = 2 * inN l (box l).1 (box l).2.1 n h := by
   rw [mx_eq]
   rcases s1 with q | q <;> subst q <;> omega
  rw [this, Int.mul_tdiv_cancel_left _ (by omega)]
 rw [e] at L
 exact L
theorem lives_rt3 : Rt (fun k => cracknellaw04_lives.f k) true := ⟨60, fun k hk => lives_ok k hk⟩
theorem lattices_plain (x : List S41) : ∃ k, cracknellaw04_ShapeLattices.f k x = some true := by
 obtain ⟨l, hl, hll⟩ := cut_f x 12 (by omega)
 have e12 : ((12 : Nat) : Int) = 12 := rfl
 rw [e12] at hl
 obtain ⟨c, ⟨K1, r1⟩, ⟨K2, r2⟩, ic, _⟩ := bad_simple l (by omega)
 obtain ⟨K3, r3⟩ := lives_rt3
 have go : ∀ k, cracknellaw04_ShapeLattices.f k x = ((shape_Lattice.f k l).bind fun bt104 => ((cracknellaw04_simple.f k l).bind fun t107 => (if t107 = 0 then ((cracknellaw04_small.f k l).bind fun t109 => (if t109 = true then ((cracknelref04_Lattice.f k l).bind fun bt111 => (if bt104.1 = bt111.1 then (if bt104.2.1 = bt111.2 then (if bt104.2.2 = 0 then ((cracknellaw04_lives.f k).bind fun t113 => (some t113)) else (some false)) else (some false)) else (some false))) else (if bt104.2.2 = 0 then ((cracknellaw04_lives.f k).bind fun t110 => (some t110)) else (some false)))) else (if bt104.1 = 0 then (if bt104.2.1 = 0 then (if bt104.2.2 = t107 then ((cracknellaw04_lives.f k).bind fun t108 => (some t108)) else (some false)) else (some false)) else (some false))))) := by
  intro k
  unfold cracknellaw04_ShapeLattices.f
  rw [hl, Option.bind_some]
 by_cases hc : c = 0
 ·subst hc
  obtain ⟨hp, hs⟩ := ic.mp rfl
  obtain ⟨i, b, ⟨K4, r4⟩, ⟨K5, r5⟩⟩ := lattice_same hp hs
  obtain ⟨sm, ⟨K6, r6⟩⟩ := small_some (l := l) (by have := hp.1; omega) (by omega)
  refine ⟨K1 + K2 + K3 + K4 + K5 + K6, ?_⟩
  rw [go]
  have a2 := r2 (K1 + K2 + K3 + K4 + K5 + K6) (by omega)
  have a3 := r3 (K1 + K2 + K3 + K4 + K5 + K6) (by omega)
  have a4 := r4 (K1 + K2 + K3 + K4 + K5 + K6) (by omega)
  have a5 := r5 (K1 + K2 + K3 + K4 + K5 + K6) (by omega)
  have a6 := r6 (K1 + K2 + K3 + K4 + K5 + K6) (by omega)
  dsimp only at a2 a3 a4 a5 a6
  rw [a4, Option.bind_some, a2, Option.bind_some, if_pos rfl, a6, Option.bind_some]
  cases sm with
  | false => rw [if_neg (by simp), if_pos rfl, a3]; rfl
  | true => rw [if_pos rfl, a5, Option.bind_some, if_pos rfl, if_pos rfl, if_pos rfl, a3]; rfl
 ·refine ⟨K1 + K2 + K3, ?_⟩
  rw [go]
  have a1 := r1 (K1 + K2 + K3) (by omega)
  have a2 := r2 (K1 + K2 + K3) (by omega)
  have a3 := r3 (K1 + K2 + K3) (by omega)
  dsimp only at a1 a2 a3
  unfold shape_Lattice.f
  rw [a1, Option.bind_some, if_neg hc, Option.bind_some, a2, Option.bind_some, if_neg hc, if_pos rfl, if_pos rfl, if_pos rfl, a3]; rfl
end Go.Proofs.Ythehmkpcddafnaa.M
end
