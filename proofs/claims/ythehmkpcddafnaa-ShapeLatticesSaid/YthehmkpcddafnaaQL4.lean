/- Parts of the proof of YthehmkpcddafnaaLawShapeLattices: printed walks, their words, and plain laws. -/
import Derived.Test.YthehmkpcddafnaaQL1
import Derived.WalkSpells
import Derived.Test.YthehmkpcddafnaaQL3
import Derived.IntWalk
import Derived.Lib.SliceRun
import Derived.Shelf.GgSortFunc.InsertionK
import Derived.Shelf.SlicesQ.Reverse
import Derived.Shelf.SlSortCmp.NoneTotal
import Derived.Ground.SlgnProg
import Derived.Ground.SlsfProg
import Derived.Shelf.SlGeneric
import Derived.Test.YthehmkpcddafnaaProg
import Derived.Test.YthehmkpcddafnaaQL2
section
namespace Go.Proofs.Ythehmkpcddafnaa.PG
open Go.RowKit Go.Proofs.YthehmkpcddafnaaW.PrintWords Go.Proofs.YthehmkpcddafnaaW.PrintLast Go.Proofs.YthehmkpcddafnaaW.PrintMore
def slices_Clone.f (l0 : List (S41)) : Option (List S41) := if l0.length < 8796093022208 then some l0 else none
set_option maxHeartbeats 2000000 in
theorem slices_Clone.calls (A0 : Option Addr) (c0 : Nat) (l0 : List (S41)) (r : List S41) (w : World) (hr0 : Kd.C k41 w A0 l0.length l0) (_hc0 : l0.length ≤ c0) (h : slices_Clone.f l0 = some r) :
  Calls Try.prog 87 #[.slice A0 l0.length c0] w fun e w' => ∃ v0_ : Value, e = .returned (v0_) ∧ Kd.R k41 41 w' w.heap.size (fun _ => True) v0_ r ∧ Below w.heap.size w w' := by
 unfold slices_Clone.f at h
 by_cases hl : l0.length < 8796093022208
 ·rw [if_pos hl] at h
  obtain rfl := Option.some.inj h
  clear h
  have q22 : ∀ (w : World) (a : Option Addr) (n c n' c' : Nat), (binOp .eql 22 (.slice a n c) (.slice none n' c')).run Try.prog w = .ok (.bool a.isNone) w := fun w a n c n' c' => Lib.run_eql_slice_nil w _ _ a n c n' c' Try.underlying22
  cases A0 with
  | none =>
   have h0 : l0 = [] := by
    cases l0 with
    | nil => rfl
    | cons x t => obtain ⟨ad, e, _⟩ := at_T41 hr0 0 (by omega) (by simp); cases e
   subst h0
   clear hr0
   go_enter Try.func87, Try.ntmps87
   go_wp2
   go_ret
   exact ⟨_, rfl, ⟨fun k hk => by simp [Value.ownBlock] at hk, [], own_nil _ _ _ _, Reps.none _ _⟩, Below.refl _ _⟩
  | some a0 =>
   have HR := Aside0.mk hr0
   have HB := Aside0.mk (Below.refl w.heap.size w)
   clear hr0
   have HL := Aside0.mk hl
   clear hl
   go_enter Try.func87, Try.ntmps87
   go_wp2_with (first | ((with_reducible refine gate_dst (N := 5) rfl ?_); refine Kd.R_lit k41 _ 41 ?hg (N := 5) ?hd (xs := ([] : List (S41))) (inner := []) (ok := fun _ => True) (okp := fun _ => True) ?hr ?hp (fun _ hk => hk) trivial (Below.refl _ _) (Nat.le_refl _) (by simp) ?_; (case hd => rfl); (case hg => rfl); (case hr => first | (go_simp; done) | (go_simp; rfl)); (case hp => exact (Reps.none _ _)); intro v5 w5 ho5 hb hg_ hnew_; clear hg_ hnew_; have HO := Aside0.mk (Kd.R_lower ho5 HB.out.size); have n1_ := Aside0.mk (below_step HB.out hb); clear HB; have HB := n1_; clear n1_; clear hb ho5) | ((with_reducible refine gate_builtin (b := .append) (xs := #[.tmp 5, .tmp 6]) rfl ?_); at_builtin; refine Kd.R_append_rows k41 (w0 := w) w.heap.size rfl (.tmp 5) (.tmp 6) 22 41 (.agg #[(.int .i64 0), (.int .i64 0)]) 16 rfl Try.underlying22 info41 rfl (by decide) (by omega) v5 ([] : List S41) l0 _ _ _ (fun _ => True) (fun _ => False) rfl rfl ?aO ?aR (fun _ _ h => h) (fun _ h => h.elim) ?aF ?aB ?aS ?aL ?_; (case aR => exact (Kd.C_below HR.out HB.out)); (case aB => exact HB.out); (case aF => exact (fun _ _ => trivial)); (case aO => exact HO.out); (case aS => exact HB.out.size); (case aL => have := HL.out; simp; omega); intro v7 w7 ho hb hg hat; clear HB; have HB := Aside0.mk hb; have HO7 := Aside0.mk ho; clear HO ho hb hg hat))
   go_ret
   exact ⟨_, rfl, by rw [List.nil_append] at HO7; exact HO7.out, HB.out⟩
 ·rw [if_neg hl] at h; cases h
end Go.Proofs.Ythehmkpcddafnaa.PG
end
section
namespace Go.Proofs.Ythehmkpcddafnaa.PG
open Go.RowKit Go.Proofs.YthehmkpcddafnaaW.PrintWords Go.Proofs.YthehmkpcddafnaaW.PrintLast Go.Proofs.YthehmkpcddafnaaW.PrintMore
attribute [local go_sem high] eqA41
def slices_Compact.g : List S41 → List S41
 | [] => []
 | [a] => [a]
 | a :: b :: l => if a.f0 = b.f0 ∧ a.f1 = b.f1 then slices_Compact.g (b :: l) else a :: slices_Compact.g (b :: l)
def slices_Compact.f (l0 : List (S41)) : Option (List S41) := some (slices_Compact.g l0)
def cg := slices_Compact.g
theorem cg_snoc (a b : S41) : ∀ q : List S41, cg (q ++ [a] ++ [b]) = if a.f0 = b.f0 ∧ a.f1 = b.f1 then cg (q ++ [a]) else cg (q ++ [a]) ++ [b] := by
 intro q
 induction q with
 | nil =>
  simp only [List.nil_append, List.cons_append, cg, slices_Compact.g]
  split
  ·rename_i h; cases a; cases b; simp at h; simp [h]
  ·rfl
 | cons c q ih =>
  cases q with
  | nil =>
   simp only [List.nil_append, List.cons_append, cg, slices_Compact.g] at ih ⊢
   by_cases h1 : c.f0 = a.f0 ∧ c.f1 = a.f1 <;> by_cases h2 : a.f0 = b.f0 ∧ a.f1 = b.f1 <;> simp [h1, h2] at ih ⊢
   all_goals (cases a; cases b; simp_all)
  | cons d q =>
   simp only [List.cons_append, cg, slices_Compact.g] at ih ⊢
   rw [ih]
   by_cases h1 : c.f0 = d.f0 ∧ c.f1 = d.f1 <;> by_cases h2 : a.f0 = b.f0 ∧ a.f1 = b.f1 <;> simp [h1, h2]
theorem cg_take (l : List S41) (m : Nat) (h1 : 1 ≤ m) (h : m < l.length) : cg (l.take (m + 1)) = if (rd_T41 l ((m : Int) - 1)).f0 = (rd_T41 l m).f0 ∧ (rd_T41 l ((m : Int) - 1)).f1 = (rd_T41 l m).f1 then cg (l.take m) else cg (l.take m) ++ [rd_T41 l m] := by
 have e1 : rd_T41 l m = l[m] := by simp [rd_T41, List.getD_eq_getElem?_getD, h]
 have e0 : rd_T41 l ((m : Int) - 1) = l[m - 1] := by
  unfold rd_T41
  rw [show ((m : Int) - 1).toNat = m - 1 by omega, List.getD_eq_getElem?_getD, List.getElem?_eq_getElem (by omega)]; rfl
 have e2 : l.take m = l.take (m - 1) ++ [l[m - 1]] := by
  have := List.take_succ_eq_append_getElem (l := l) (i := m - 1) (by omega)
  rw [show m - 1 + 1 = m by omega] at this; exact this
 rw [e0, e1, List.take_succ_eq_append_getElem h, e2, cg_snoc]
theorem cg_all (l : List S41) (m : Nat) (h1 : 1 ≤ m) (h : m ≤ l.length) (hd : ∀ j, 1 ≤ j → j < m → ¬ ((rd_T41 l ((j : Int) - 1)).f0 = (rd_T41 l j).f0 ∧ (rd_T41 l ((j : Int) - 1)).f1 = (rd_T41 l j).f1)) : cg (l.take m) = l.take m := by
 induction m with
 | zero => omega
 | succ m ih =>
  rcases Nat.eq_zero_or_pos m with rfl | hm
  ·cases l with
   | nil => simp at h
   | cons a l => simp [cg, slices_Compact.g]
  ·rw [cg_take l m hm (by omega), if_neg (hd m hm (by omega)), ih hm (by omega) (fun j h1 h2 => hd j h1 (by omega)), List.take_succ_eq_append_getElem (by omega)]
   have e1 : rd_T41 l m = l[m] := by simp [rd_T41, List.getD_eq_getElem?_getD, show m < l.length by omega]
   rw [e1]
theorem setCells_row {w : World} {g : Nat} : ∀ (vs : List Value) (o : Nat) (wr : World) (cur : Array Value), w.grownBy wr (some g) → wr.heap[g]? = some (.cells cur 41 (0, 0)) →
  w.grownBy (wr.setCells g o vs) (some g) ∧ ∃ cur', (wr.setCells g o vs).heap[g]? = some (.cells cur' 41 (0, 0)) ∧ cur'.size = cur.size ∧ ∀ i, i < o → cur'[i]? = cur[i]?
 | [], o, wr, cur, hg, hh => ⟨hg, cur, hh, rfl, fun _ _ => rfl⟩
 | v :: r, o, wr, cur, hg, hh => by
  obtain ⟨h1, cur', h2, h3, h4⟩ := setCells_row r (o + 1) (wr.setCell ⟨g, o, none⟩ v) _ (grown_set hg o v) (blk_set hh o v)
  refine ⟨h1, cur', h2, by rw [h3]; simp, fun i hi => ?_⟩
  rw [h4 i (by omega), Array.getElem?_setIfInBounds_ne (by omega)]
theorem clear_run (wr : World) (g o m c : Nat) (cur : Array Value) (ty : TypeId) (hh : wr.heap[g]? = some (.cells cur 41 (0, 0))) (hm : 0 < m) (hs : o + m * 2 ≤ cur.size) :
  (Builtin.clear_ #[22] ty #[.slice (some ⟨g, o, none⟩) m c]).run Try.prog wr = .ok (.tuple #[]) (wr.setCells g o (List.replicate (m * 2) (.int .i64 0))) := by
 have hv : ∀ w, (zeroValue 41).run Try.prog w = .ok (.agg #[.int .i64 0, .int .i64 0]) w := fun w => by kernel_rfl
 have hz : (Value.agg #[.int .i64 0, .int .i64 0]).cells = #[.int .i64 0, .int .i64 0] := by kernel_rfl
 have hzc : (Builtin.zeroCells #[Value.int .i64 0, .int .i64 0] m).toList = List.replicate (m * 2) (.int .i64 0) := by
  simp [Builtin.zeroCells]
  apply List.ext_getElem
  ·simp
  ·intro i h1 h2
   simp
   have : i % 2 = 0 ∨ i % 2 = 1 := by omega
   rcases this with e | e <;> simp [e]
 have hst := run_storeCells_cells (P := Try.prog) g o (List.replicate (m * 2) (.int .i64 0)) 0 wr (by
   intro j hj
   simp at hj
   rw [blk_cell hh, Array.getElem?_eq_getElem (by omega)]; rfl) (by intro j _; exact blk_frozen hh _) (by intro v hv'; rw [List.eq_of_mem_replicate hv']; rfl)
 simp only [Nat.add_zero] at hst
 obtain ⟨m', rfl⟩ : ∃ m', m = m' + 1 := ⟨m - 1, by omega⟩
 simp [Builtin.clear_, run_underlying Try.underlying22, hv, hz, hzc, hst]
set_option maxHeartbeats 4000000 in
set_option maxRecDepth 100000 in
theorem slices_Compact.calls (P0_ : Nat → Prop) (u9000_ : Value) (l0 : List (S41)) (r : List (S41)) (w0 w : World) (hB : Below w0.heap.size w0 w) (ho0 : Kd.R k41 41 w w0.heap.size P0_ u9000_ l0) (h : slices_Compact.f l0 = some r) :
  Calls Try.prog 92 #[u9000_] w fun e w' => ∃ v0_ : Value, e = .returned (v0_) ∧ Kd.R k41 41 w' w0.heap.size (fun k_ => (P0_ k_ ∨ w.heap.size ≤ k_)) v0_ r ∧ Below w0.heap.size w0 w' ∧ Kept w w' (fun k_ => P0_ k_) := by
 obtain rfl := Option.some.inj h
 clear h
 by_cases hn : l0.length < 2
 ·have e : slices_Compact.g l0 = l0 := by
   match l0, hn with
   | [], _ => rfl
   | [a], _ => rfl
  rw [e]
  obtain ⟨A, c, rfl⟩ := Kd.R_slice ho0
  have HO := Aside0.mk ho0
  have HB := Aside0.mk hB
  clear ho0 e hB
  have hlt : decide (l0.length < 2) = true := decide_eq_true hn
  have hlt' : decide ((l0.length : Int) < 2) = true := decide_eq_true (by omega)
  generalize hn' : l0.length = n at *
  clear hn
  go_enter Try.func92, Try.ntmps92
  go_wp2
  go_ret
  exact ⟨_, rfl, by first | exact Kd.R_mono HO.out (fun k hk => .inl hk), HB.out, ⟨Nat.le_refl _, fun _ _ _ => rfl⟩⟩
 ·obtain ⟨g, cap, cur, rfl, hb, hh, hnc, hcm, hsz, hPg, hp⟩ := row_open ho0 (by omega)
  clear ho0
  have HP := Aside0.mk hp
  have HB := Aside0.mk hB
  have HPg := Aside0.mk hPg
  have HH := Aside0.mk hh
  have HS := Aside0.mk hsz
  have hcap : cap ≤ 9223372036854775807 := by unfold maxLen at hcm; exact hcm
  have HCM := Aside0.mk hcm
  have HBG := Aside0.mk hb
  clear hp hB hPg hh hsz hcm hb
  have HR := Aside0.mk (show slices_Compact.g l0 = cg l0 from rfl)
  obtain ⟨n, hn'⟩ : ∃ n, l0.length = n := ⟨_, rfl⟩
  rw [hn'] at hn hnc ⊢
  have HN := Aside0.mk hn'
  clear hn'
  have hu29 := Try.underlying41
  have hge : ¬ ((n : Int) < 2) := by omega
  go_enter Try.func92, Try.ntmps92
  go_wp2
  go_loopg [3, 4, 5] n (fun gg s3 s4 s5 wr => ∃ kk : Nat, 1 ≤ kk ∧ kk ≤ n ∧ n - kk ≤ gg ∧ s3 = .int .i64 kk ∧ (∃ q, Aside0 (wr = w.drewN q)) ∧ Aside0 (∀ j, 1 ≤ j → j < kk → ¬ ((rd_T41 l0 ((j : Int) - 1)).f0 = (rd_T41 l0 j).f0 ∧ (rd_T41 l0 ((j : Int) - 1)).f1 = (rd_T41 l0 j).f1)))
  case atStart => exact ⟨1, by omega, by omega, by omega, by go_num, ⟨0, ⟨rfl⟩⟩, ⟨fun j h1 h2 => by omega⟩⟩
  case round =>
   obtain ⟨kk, hk1, hkn, hg, rfl, ⟨q, HW⟩, HD⟩ := hrel
   obtain ⟨wr', HW'⟩ : ∃ w', w' = wr := ⟨_, rfl⟩
   have hhr : wr.heap[g]? = some (.cells cur 41 (0, 0)) := by rw [HW.out]; exact HH.out
   by_cases hlt : kk < n
   ·have hltz : (kk : Int) < (n : Int) := by omega
    have ea := (HP.out kk (by rw [HN.out]; exact hlt))
    have eb := (HP.out (kk - 1) (by rw [HN.out]; omega))
    have hx0 : wr.cell? ⟨g, kk * 2, none⟩ = some (.int .i64 (rd_T41 l0 kk).f0) := by
     rw [blk_cell hhr, Nat.mul_comm, ea.1]; simp [rd_T41, List.getD_eq_getElem?_getD, HN.out, hlt]
    have hx1 : wr.cell? ⟨g, kk * 2 + 1, none⟩ = some (.int .i64 (rd_T41 l0 kk).f1) := by
     rw [blk_cell hhr, Nat.mul_comm, ea.2]; simp [rd_T41, List.getD_eq_getElem?_getD, HN.out, hlt]
    have hz : ((kk : Int) - 1).toNat = kk - 1 := by omega
    have hy0 : wr.cell? ⟨g, (kk - 1) * 2, none⟩ = some (.int .i64 (rd_T41 l0 ((kk : Int) - 1)).f0) := by
     rw [blk_cell hhr, Nat.mul_comm, eb.1]; simp [rd_T41, List.getD_eq_getElem?_getD, hz, HN.out, show kk - 1 < n by omega]
    have hy1 : wr.cell? ⟨g, (kk - 1) * 2 + 1, none⟩ = some (.int .i64 (rd_T41 l0 ((kk : Int) - 1)).f1) := by
     rw [blk_cell hhr, Nat.mul_comm, eb.2]; simp [rd_T41, List.getD_eq_getElem?_getD, hz, HN.out, show kk - 1 < n by omega]
    have HHR := Aside0.mk hhr
    clear ea eb hhr
    generalize hqa : rd_T41 l0 kk = qa at hx0 hx1
    generalize hqb : rd_T41 l0 ((kk : Int) - 1) = qb at hy0 hy1
    have QA := Aside0.mk hqa
    have QB := Aside0.mk hqb
    clear hqa hqb
    have hw1 : IntKind.i64.wrap ((kk : Int) - 1) = (kk : Int) - 1 := IntWalk.i64_in _ (by omega)
    have hw0 : 0 ≤ (kk : Int) - 1 := by omega
    by_cases heq : qa.f0 = qb.f0 ∧ qa.f1 = qb.f1
    ·have hb1 : (qa.f0 == qb.f0 && qa.f1 == qb.f1) = true := by simp [heq.1, heq.2]
     clear heq
     go_wp2
     repeat (go_quiet (fail); try go_wp2)
     have HK := Aside0.mk (show cg (l0.take (kk + 1)) = l0.take kk by
      rw [cg_take l0 kk hk1 (by rw [HN.out]; exact hlt), if_pos, cg_all l0 kk hk1 (by rw [HN.out]; omega) HD.out]
      rw [QA.out, QB.out]; simp at hb1; exact ⟨hb1.1.symm, hb1.2.symm⟩)
     clear hx0 hx1 hy0 hy1 hb1
     obtain ⟨wo, rfl⟩ : ∃ wo : World, wo = wr := ⟨_, rfl⟩
     go_loopg [3, 5] (n - kk) (fun gg s3 s5 wr => ∃ (k2 kw : Nat) (cur2 : Array Value) (L : List S41), 1 ≤ k2 ∧ kk + k2 ≤ n ∧ n - kk - k2 ≤ gg ∧ s5 = .int .i64 k2 ∧ s3 = .int .i64 kw ∧ kw < kk + k2 ∧ 1 ≤ kw ∧ Aside0 (L.take kw = cg (l0.take (kk + k2))) ∧ Aside0 (L.length = n) ∧ Aside0 (∀ j : Nat, kk + k2 ≤ j + 1 → j < n → rd_T41 L j = rd_T41 l0 j) ∧ Aside0 (cur2.size = cap * 2) ∧ Aside0 (Pts cur2 L) ∧ Aside0 (w.grownBy wr (some g)) ∧ Aside0 (wr.heap[g]? = some (.cells cur2 41 (0, 0))))
     case atStart =>
      refine ⟨1, kk, cur, l0, by omega, by omega, by omega, by go_num, rfl, by omega, hk1, ⟨HK.out.symm⟩, ⟨HN.out⟩, ⟨fun _ _ _ => rfl⟩, ⟨HS.out⟩, ⟨HP.out⟩, ⟨?_⟩, ⟨HHR.out⟩⟩
      rw [HW.out]
      (repeat refine grown_drewN ?_ _)
      exact ⟨rfl, rfl, rfl, Nat.le_refl _, fun _ _ _ => rfl⟩
     case round =>
      obtain ⟨k2, kw, cur2, L, h21, h2n, hg2, rfl, rfl, hkw, hkw1, HL, HLN, HLR, HS2, HP2, HG2, HH2⟩ := hrel
      by_cases hlt2 : kk + k2 < n
      ·have hltz2 : (k2 : Int) < ((n - kk : Nat) : Int) := by omega
       have elen : L.length = n := HLN.out
       have ea := (HP2.out (kk + k2) (by omega))
       have eb := (HP2.out (kk + k2 - 1) (by omega))
       have ga : rd_T41 L ((kk + k2 : Nat) : Int) = L[kk + k2]'(by omega) := rd_nat _ _ _
       have gb : rd_T41 L ((kk + k2 - 1 : Nat) : Int) = L[kk + k2 - 1]'(by omega) := rd_nat _ _ _
       have ra := HLR.out (kk + k2) (by omega) (by omega)
       have rb := HLR.out (kk + k2 - 1) (by omega) (by omega)
       rw [← ga] at ea
       rw [← gb] at eb
       rw [ra] at ea
       rw [rb] at eb
       have hx0 : wr.cell? ⟨g, kk * 2 + k2 * 2, none⟩ = some (.int .i64 (rd_T41 l0 ((kk + k2 : Nat) : Int)).f0) := by
        rw [blk_cell HH2.out, show kk * 2 + k2 * 2 = 2 * (kk + k2) by omega]; exact ea.1
       have hx1 : wr.cell? ⟨g, kk * 2 + k2 * 2 + 1, none⟩ = some (.int .i64 (rd_T41 l0 ((kk + k2 : Nat) : Int)).f1) := by
        rw [blk_cell HH2.out, show kk * 2 + k2 * 2 + 1 = 2 * (kk + k2) + 1 by omega]; exact ea.2
       have hy0 : wr.cell? ⟨g, kk * 2 + (k2 - 1) * 2, none⟩ = some (.int .i64 (rd_T41 l0 ((kk + k2 - 1 : Nat) : Int)).f0) := by
        rw [blk_cell HH2.out, show kk * 2 + (k2 - 1) * 2 = 2 * (kk + k2 - 1) by omega]; exact eb.1
       have hy1 : wr.cell? ⟨g, kk * 2 + (k2 - 1) * 2 + 1, none⟩ = some (.int .i64 (rd_T41 l0 ((kk + k2 - 1 : Nat) : Int)).f1) := by
        rw [blk_cell HH2.out, show kk * 2 + (k2 - 1) * 2 + 1 = 2 * (kk + k2 - 1) + 1 by omega]; exact eb.2
       clear ea eb ga gb ra rb
       have hw1 : IntKind.i64.wrap ((k2 : Int) - 1) = (k2 : Int) - 1 := IntWalk.i64_in _ (by omega)
       have hw0 : 0 ≤ (k2 : Int) - 1 := by omega
       have hz2 : ((k2 : Int) - 1).toNat = k2 - 1 := by omega
       have ct := cg_take l0 (kk + k2) (by omega) (by rw [HN.out]; exact hlt2)
       rw [show ((kk + k2 : Nat) : Int) - 1 = ((kk + k2 - 1 : Nat) : Int) by omega] at ct
       generalize hqa : rd_T41 l0 ((kk + k2 : Nat) : Int) = ya at hx0 hx1 ct
       generalize hqb : rd_T41 l0 ((kk + k2 - 1 : Nat) : Int) = yb at hy0 hy1 ct
       have CT := Aside0.mk ct
       have YA := Aside0.mk hqa
       clear hqa hqb ct elen
       by_cases heq : ya.f0 = yb.f0 ∧ ya.f1 = yb.f1
       ·have hb2 : (!(ya.f0 == yb.f0) || !(ya.f1 == yb.f1)) = false := by simp [heq.1, heq.2]
        have CE := Aside0.mk heq
        clear heq
        go_wp2
        repeat (go_quiet (fail); try go_wp2)
        go_roundg (n - kk - (k2 + 1))
        case measure => omega
        case rel =>
         refine ⟨k2 + 1, kw, cur2, L, by omega, by omega, Nat.le_refl _, by go_num, rfl, by omega, hkw1, ⟨?_⟩, HLN, ⟨fun j h1 h2 => HLR.out j (by omega) h2⟩, HS2, HP2, ⟨by (repeat refine grown_drewN ?_ _); exact HG2.out⟩, ⟨HH2.out⟩⟩
         rw [HL.out, show kk + (k2 + 1) = kk + k2 + 1 by omega, CT.out, if_pos ⟨CE.out.1.symm, CE.out.2.symm⟩]
       ·have hb2 : (!(ya.f0 == yb.f0) || !(ya.f1 == yb.f1)) = true := by simp; by_cases h : ya.f0 = yb.f0; (exact .inr fun h' => heq ⟨h, h'⟩); (exact .inl h)
        have CE := Aside0.mk heq
        clear heq
        have hkwn : kw < n := by omega
        have hv0 := blk_cell HH2.out (kw * 2)
        have hv1 := blk_cell HH2.out (kw * 2 + 1)
        rw [Array.getElem?_eq_getElem (by rw [HS2.out]; omega)] at hv0 hv1
        have hf0 := blk_frozen HH2.out (kw * 2)
        have hf1 := blk_frozen HH2.out (kw * 2 + 1)
        generalize cur2[kw * 2]'(by rw [HS2.out]; omega) = o0 at hv0
        generalize cur2[kw * 2 + 1]'(by rw [HS2.out]; omega) = o1 at hv1
        go_wp2
        repeat (go_quiet (fail); try go_wp2)
        go_roundg (n - kk - (k2 + 1))
        case measure => omega
        case rel =>
         have elen : L.length = n := HLN.out
         refine ⟨k2 + 1, kw + 1, _, L.set kw ya, by omega, by omega, Nat.le_refl _, by go_num, by go_num, by omega, by omega, ⟨?_⟩, ⟨by rw [List.length_set]; exact elen⟩, ⟨fun j h1 h2 => ?_⟩, ⟨?_⟩, ⟨pts_set ya HP2.out (by rw [HS2.out]; omega) (by omega)⟩, ⟨?_⟩, ⟨?_⟩⟩
         ·rw [show kk + (k2 + 1) = kk + k2 + 1 by omega, CT.out, if_neg (fun h => CE.out ⟨h.1.symm, h.2.symm⟩), List.take_succ_eq_append_getElem (by rw [List.length_set]; omega), List.getElem_set_self, List.take_set_of_le (Nat.le_refl _), HL.out]
         ·rw [rd_nat _ _ (by rw [List.length_set]; omega), List.getElem_set_ne (by omega), ← rd_nat L j (by omega)]
          exact HLR.out j (by omega) h2
         ·rw [Array.size_setIfInBounds, Array.size_setIfInBounds]; exact HS2.out
         ·refine grown_set ?_ _ _
          refine grown_set ?_ _ _
          (repeat refine grown_drewN ?_ _)
          exact HG2.out
         ·exact blk_set (blk_set HH2.out _ _) _ _
      ·have hend : kk + k2 = n := by omega
       have hnl : ¬ (k2 : Int) < ((n - kk : Nat) : Int) := by omega
       have hcl : ∀ ty, (Builtin.clear_ #[22] ty #[.slice (some ⟨g, kw * 2, none⟩) (n - kw) (cap - kw)]).run Try.prog wr = .ok (.tuple #[]) (wr.setCells g (kw * 2) (List.replicate ((n - kw) * 2) (.int .i64 0))) :=
        fun ty => clear_run wr g (kw * 2) (n - kw) (cap - kw) cur2 ty HH2.out (by omega) (by rw [HS2.out]; omega)
       have hlw : kw ≤ n := by omega
       go_wp2
       go_ret
       obtain ⟨sg, cur3, sh, ss, sp⟩ := setCells_row (List.replicate ((n - kw) * 2) (.int .i64 0)) (kw * 2) wr cur2 HG2.out HH2.out
       have e1 : L.take kw = slices_Compact.g l0 := by
        rw [HL.out, hend, HR.out, List.take_of_length_le (by rw [HN.out]; omega)]
       have e2 : kw = (slices_Compact.g l0).length := by
        rw [← e1, List.length_take, HLN.out]; omega
       refine ⟨_, rfl, ?_, grown_below HB.out sg HBG.out, grown_kept sg HPg.out⟩
       have hpt : Pts cur3 (slices_Compact.g l0) := by
        intro j hj
        have h1 := pts_take kw HP2.out
        rw [e1] at h1
        have h2 := h1 j hj
        rw [sp (2 * j) (by omega), sp (2 * j + 1) (by omega)]
        exact h2
       have := row_shut (P := fun k_ => (P0_ k_ ∨ w.heap.size ≤ k_)) HBG.out sh (l := slices_Compact.g l0) (cap := cap) (by omega) HCM.out (by rw [ss]; exact HS2.out) (.inl HPg.out) hpt
       rw [← e2] at this
       exact this
    ·have hb1 : (qa.f0 == qb.f0 && qa.f1 == qb.f1) = false := by simpa using heq
     have HNE := Aside0.mk heq
     clear heq
     go_wp2
     repeat (go_quiet (fail); try go_wp2)
     go_roundg (n - (kk + 1))
     case measure => omega
     case rel =>
      refine ⟨kk + 1, by omega, by omega, Nat.le_refl _, by go_num, ?_, ⟨fun j h1 h2 => ?_⟩⟩
      ·rw [HW.out]
       refine ⟨_, ⟨World.drewN_drewN _ _ _⟩⟩
      ·by_cases e : j = kk
       ·subst e
        rw [QA.out, QB.out]
        exact fun h => HNE.out ⟨h.1.symm, h.2.symm⟩
       ·exact HD.out j h1 (by omega)
   ·have hnl : ¬ (kk : Int) < (n : Int) := by omega
    have hkk : kk = n := by omega
    subst hkk
    have e1 : slices_Compact.g l0 = l0 := by
     have := cg_all l0 kk hk1 (by rw [HN.out]; omega) HD.out
     rw [List.take_of_length_le (by rw [HN.out]; omega)] at this
     exact this
    have E1 := Aside0.mk e1
    clear hlt e1
    go_wp2
    go_ret
    have hgr : w.grownBy wr (some g) := by rw [HW.out]; exact ⟨rfl, rfl, rfl, Nat.le_refl _, fun _ _ _ => rfl⟩
    rw [E1.out]
    refine ⟨_, rfl, ?_, grown_below HB.out hgr HBG.out, grown_kept hgr HPg.out⟩
    have := row_shut (P := fun k_ => (P0_ k_ ∨ w.heap.size ≤ k_)) HBG.out hhr (l := l0) (cap := cap) (by rw [HN.out]; omega) HCM.out HS.out (.inl HPg.out) HP.out
    rw [HN.out] at this
    exact this
end Go.Proofs.Ythehmkpcddafnaa.PG
end
section
namespace Go.Proofs.Ythehmkpcddafnaa.PG
open Go.RowKit Go.Proofs.YthehmkpcddafnaaW.PrintWords Go.Proofs.YthehmkpcddafnaaW.PrintLast Go.Proofs.YthehmkpcddafnaaW.PrintMore
instance : Inhabited S41 := ⟨z41⟩
def enc29 (x : S41) : List Value := [.int .i64 x.f0, .int .i64 x.f1]
theorem enc29_one (x : S41) : ∀ v ∈ enc29 x, v.oneCell' = true := by
 intro v hv; simp [enc29] at hv; rcases hv with rfl | rfl <;> rfl
theorem flat29 (d : Array S41) (j : Nat) (h : j < d.size) : (Go.Sort.flatK enc29 2 d)[2 * j]! = .int .i64 d[j].f0 ∧ (Go.Sort.flatK enc29 2 d)[2 * j + 1]! = .int .i64 d[j].f1 := by
 rw [Go.Sort.get_flatK _ _ _ _ (by omega), Go.Sort.get_flatK _ _ _ _ (by omega)]
 rw [show 2 * j / 2 = j by omega, show 2 * j % 2 = 0 by omega, show (2 * j + 1) / 2 = j by omega, show (2 * j + 1) % 2 = 1 by omega, getElem!_pos d j h]
 exact ⟨rfl, rfl⟩
theorem holds_of {w : World} {g : Nat} {cur : Array Value} {l : List S41} (hh : w.heap[g]? = some (.cells cur 41 (0, 0))) (hp : Pts cur l) : Go.Sort.HoldsK enc29 2 w g 0 l.toArray := by
 intro j hj
 rw [Go.Sort.size_flatK] at hj
 simp only [List.size_toArray] at hj
 refine ⟨?_, blk_frozen hh _⟩
 rw [blk_cell hh, Nat.zero_add]
 have hf := flat29 l.toArray (j / 2) (by simp; omega)
 have hc := hp (j / 2) (by omega)
 rcases Nat.mod_two_eq_zero_or_one j with e | e
 ·rw [show j = 2 * (j / 2) by omega]
  rw [hc.1]; simp only [id]; rw [hf.1]; simp
 ·rw [show j = 2 * (j / 2) + 1 by omega]
  rw [hc.2]; simp only [id]; rw [hf.2]; simp
theorem put_at {w : World} {g : Nat} {cur : Array Value} (m : Nat) (d : Array S41) (os : Array Obj) (hh : w.heap[g]? = some (.cells cur 41 (0, 0))) (hs : d.size * 2 ≤ cur.size) :
  ∃ cur', (sortWorldK enc29 2 w g 0 m d os).heap[g]? = some (.cells cur' 41 (0, 0)) ∧ cur'.size = cur.size ∧ Pts cur' d.toList ∧ w.grownBy (sortWorldK enc29 2 w g 0 m d os) (some g) := by
 have hlt : g < w.heap.size := blk_lt hh
 have e1 : (sortWorldK enc29 2 w g 0 m d os).heap = w.heap.modify g (Go.Sort.onCells (Go.Sort.putCells id 0 (Go.Sort.flatK enc29 2 d))) ++ os := rfl
 refine ⟨Go.Sort.putCells id 0 (Go.Sort.flatK enc29 2 d) cur, ?_, ?_, ?_, ?_⟩
 ·rw [e1, Array.getElem?_append_left (by simpa using hlt), Array.getElem?_modify, if_pos rfl, hh]; rfl
 ·simp [Go.Sort.putCells]
 ·intro j hj
  simp only [Array.length_toList] at hj
  have hf := flat29 d j hj
  unfold Go.Sort.putCells
  rw [Array.getElem?_mapIdx, Array.getElem?_mapIdx, Array.getElem?_eq_getElem (by omega), Array.getElem?_eq_getElem (by omega)]
  simp only [Option.map_some, Go.Sort.size_flatK, id]
  rw [if_pos (by omega), if_pos (by omega), Nat.sub_zero, Nat.sub_zero, hf.1, hf.2]
  simp
 ·refine ⟨rfl, rfl, rfl, ?_, fun k hk hne => ?_⟩
  ·rw [e1]; simp
  ·rw [e1, Array.getElem?_append_left (by simpa using hk), Array.getElem?_modify, if_neg (fun e => hne (by rw [e]))]
end Go.Proofs.Ythehmkpcddafnaa.PG
end
section
namespace Go.Proofs
open Go.Shelf
def Try.reversePt_ren : Go.Shelf.Ren := ⟨fun | 35 => 94 | n => n, fun | 22 => 22 | 23 => 41 | 3 => 3 | 4 => 4 | 0 => 0 | n => n, fun | n => n⟩
theorem Try.reversePt : Go.Proofs.SlLaysE0.n35 Try.prog Try.reversePt_ren := {
 mixed := by kernel_rfl
 f35 := ⟨Try.f94.name, by decide, Try.func94.trans (congrArg some (by kernel_rfl))⟩
 t0 := Try.underlying0
 a0 := Try.isAgg0
 z0 := Try.sizeOf0
 v0 := Try.zeroValue0
 t3 := Try.underlying3
 a3 := Try.isAgg3
 z3 := Try.sizeOf3
 v3 := Try.zeroValue3
 t4 := Try.underlying4
 a4 := Try.isAgg4
 z4 := Try.sizeOf4
 v4 := Try.zeroValue4
 t22 := Try.underlying22
 a22 := Try.isAgg22
 z22 := Try.sizeOf22
 v22 := Try.zeroValue22 }
def Try.sortPt_ren : Go.Shelf.Ren := ⟨fun | 6 => 88 | 15 => 116 | 14 => 115 | 28 => 133 | 29 => 134 | 20 => 125 | 21 => 126 | 22 => 127 | 23 => 128 | 24 => 129 | 25 => 130 | 26 => 131 | 27 => 132 | 46 => 144 | 47 => 145 | 48 => 146 | 49 => 147 | 50 => 148 | 57 => 152 | n => n, fun | 22 => 22 | 24 => 41 | 25 => 97 | 3 => 3 | 39 => 115 | 0 => 0 | 53 => 127 | 55 => 129 | 4 => 4 | 46 => 120 | 45 => 119 | 50 => 124 | 5 => 5 | 9 => 9 | 66 => 136 | 70 => 140 | 76 => 144 | 77 => 53 | n => n, fun | n => n⟩
theorem Try.sortPt : Go.Proofs.SlLaysF0.n6 Try.prog Try.sortPt_ren := {
 mixed := by kernel_rfl
 f6 := ⟨Try.f88.name, by decide, Try.func88.trans (congrArg some (by kernel_rfl))⟩
 f14 := ⟨Try.f115.name, by decide, Try.func115.trans (congrArg some (by kernel_rfl))⟩
 f15 := Try.func116.trans (congrArg some (by kernel_rfl))
 f20 := ⟨Try.f125.name, by decide, Try.func125.trans (congrArg some (by kernel_rfl))⟩
 f21 := ⟨Try.f126.name, by decide, Try.func126.trans (congrArg some (by kernel_rfl))⟩
 f22 := ⟨Try.f127.name, by decide, Try.func127.trans (congrArg some (by kernel_rfl))⟩
 f23 := ⟨Try.f128.name, by decide, Try.func128.trans (congrArg some (by kernel_rfl))⟩
 f24 := ⟨Try.f129.name, by decide, Try.func129.trans (congrArg some (by kernel_rfl))⟩
 f25 := ⟨Try.f130.name, by decide, Try.func130.trans (congrArg some (by kernel_rfl))⟩
 f26 := ⟨Try.f131.name, by decide, Try.func131.trans (congrArg some (by kernel_rfl))⟩
 f27 := ⟨Try.f132.name, by decide, Try.func132.trans (congrArg some (by kernel_rfl))⟩
 f28 := Try.func133.trans (congrArg some (by kernel_rfl))
 f29 := Try.func134.trans (congrArg some (by kernel_rfl))
 f46 := ⟨Try.f144.name, by decide, Try.func144.trans (congrArg some (by kernel_rfl))⟩
 f47 := Try.func145.trans (congrArg some (by kernel_rfl))
 f48 := Try.func146.trans (congrArg some (by kernel_rfl))
 f49 := ⟨Try.f147.name, by decide, Try.func147.trans (congrArg some (by kernel_rfl))⟩
 f50 := ⟨Try.f148.name, by decide, Try.func148.trans (congrArg some (by kernel_rfl))⟩
 f57 := ⟨Try.f152.name, by decide, Try.func152.trans (congrArg some (by kernel_rfl))⟩
 t0 := Try.underlying0
 a0 := Try.isAgg0
 z0 := Try.sizeOf0
 v0 := Try.zeroValue0
 t3 := Try.underlying3
 a3 := Try.isAgg3
 z3 := Try.sizeOf3
 v3 := Try.zeroValue3
 t4 := Try.underlying4
 a4 := Try.isAgg4
 z4 := Try.sizeOf4
 v4 := Try.zeroValue4
 t5 := Try.underlying5
 a5 := Try.isAgg5
 z5 := Try.sizeOf5
 v5 := Try.zeroValue5
 t9 := Try.underlying9
 a9 := Try.isAgg9
 z9 := Try.sizeOf9
 v9 := Try.zeroValue9
 t22 := Try.underlying22
 a22 := Try.isAgg22
 z22 := Try.sizeOf22
 v22 := Try.zeroValue22
 t25 := Try.underlying97
 a25 := Try.isAgg97
 z25 := Try.sizeOf97
 v25 := Try.zeroValue97
 t39 := Try.underlying115
 a39 := Try.isAgg115
 z39 := Try.sizeOf115
 v39 := Try.zeroValue115
 t45 := Try.underlying119
 a45 := Try.isAgg119
 z45 := Try.sizeOf119
 v45 := Try.zeroValue119
 t46 := Try.underlying120
 a46 := Try.isAgg120
 z46 := Try.sizeOf120
 v46 := Try.zeroValue120
 t50 := Try.underlying124
 a50 := Try.isAgg124
 z50 := Try.sizeOf124
 v50 := Try.zeroValue124
 t53 := Try.underlying127
 a53 := Try.isAgg127
 z53 := Try.sizeOf127
 v53 := Try.zeroValue127
 t55 := Try.underlying129
 a55 := Try.isAgg129
 z55 := Try.sizeOf129
 v55 := Try.zeroValue129
 t66 := Try.underlying136
 a66 := Try.isAgg136
 z66 := Try.sizeOf136
 v66 := Try.zeroValue136
 t70 := Try.underlying140
 a70 := Try.isAgg140
 z70 := Try.sizeOf140
 v70 := Try.zeroValue140
 t76 := Try.underlying144
 a76 := Try.isAgg144
 z76 := Try.sizeOf144
 v76 := Try.zeroValue144
 t77 := Try.underlying53
 a77 := Try.isAgg53
 z77 := Try.sizeOf53
 v77 := Try.zeroValue53 }
end Go.Proofs
end
section
namespace Go.Proofs.Ythehmkpcddafnaa.PG
open Go.RowKit Go.Proofs.YthehmkpcddafnaaW.PrintWords Go.Proofs.YthehmkpcddafnaaW.PrintLast Go.Proofs.YthehmkpcddafnaaW.PrintMore
def slices_Reverse.f (l0 : List (S41)) : Option (List S41) := some l0.reverse
theorem slices_Reverse.calls (P0_ : Nat → Prop) (u9000_ : Value) (l0 : List (S41)) (r : List (S41)) (w0 w : World) (hB : Below w0.heap.size w0 w) (ho0 : Kd.R k41 41 w w0.heap.size P0_ u9000_ l0) (h : slices_Reverse.f l0 = some r) :
  Calls Try.prog 94 #[u9000_] w fun e w' => e = .returned (.tuple #[]) ∧ Kd.R k41 41 w' w0.heap.size (fun k_ => (P0_ k_ ∨ w.heap.size ≤ k_)) u9000_ r ∧ Below w0.heap.size w0 w' ∧ Kept w w' (fun k_ => P0_ k_) := by
 obtain rfl := Option.some.inj h
 clear h
 by_cases hl : l0.length = 0
 ·obtain ⟨A, c, rfl⟩ := Kd.R_slice ho0
  have e0 : l0 = [] := List.eq_nil_of_length_eq_zero hl
  subst e0
  have hc := AnyQ.slices_Reverse_empty Try.reversePt A c w
  change Calls Try.prog 94 _ _ _ at hc
  refine hc.mono fun e w' hh => ?_
  obtain ⟨he, rfl⟩ := hh
  exact ⟨he, Kd.R_mono ho0 (fun k hk => .inl hk), hB, ⟨Nat.le_refl _, fun _ _ _ => rfl⟩⟩
 ·obtain ⟨g, cap, cur, rfl, hb, hh, hnc, hcm, hsz, hPg, hp⟩ := row_open ho0 (by omega)
  have hm : l0.length ≤ 9223372036854775807 := by unfold maxLen at hcm; omega
  have hc := AnyQ.slices_Reverse Try.reversePt 2 Try.isAgg41 Try.sizeOf41 enc29 (fun _ => rfl) enc29_one g 0 cap l0.toArray w (holds_of hh hp) (by simpa using hm)
  change Calls Try.prog 94 _ _ _ at hc
  simp only [List.size_toArray] at hc
  refine hc.mono fun e w' hx => ?_
  obtain ⟨he, n, rfl⟩ := hx
  obtain ⟨cur', p1, p2, p3, p4⟩ := put_at n l0.toArray.reverse #[] hh (by simp; omega)
  have e1 : sortWorldK enc29 2 w g 0 n l0.toArray.reverse #[] = Go.Sort.putRowK enc29 2 (Go.Sort.ahead w n) g 0 l0.toArray.reverse := by unfold sortWorldK; rw [Go.Sort.grow_empty]
  rw [e1] at p1 p4
  have e2 : l0.toArray.reverse.toList = l0.reverse := by simp
  rw [e2] at p3
  have := row_shut (P := fun k_ => (P0_ k_ ∨ w.heap.size ≤ k_)) hb p1 (l := l0.reverse) (cap := cap) (by simpa using hnc) hcm (by rw [p2]; exact hsz) (.inl hPg) p3
  rw [List.length_reverse] at this
  exact ⟨he, this, grown_below hB p4 hb, grown_kept p4 hPg⟩
end Go.Proofs.Ythehmkpcddafnaa.PG
end
section
namespace Go.Proofs.Ythehmkpcddafnaa.PG
open Go.RowKit Go.Proofs.YthehmkpcddafnaaW.PrintWords Go.Proofs.YthehmkpcddafnaaW.PrintLast Go.Proofs.YthehmkpcddafnaaW.PrintMore
attribute [local go_sem] max2_int min2_int max_two min_two max_three min_three max_four min_four
set_option linter.unusedVariables false
set_option linter.unusedSimpArgs false
/-! ### shape_Hull_1: function 89 -/
def shape_Hull_1.f (k : Nat) (a0_0 : Int) (a0_1 : Int) (a1_0 : Int) (a1_1 : Int) : Option (Int) := (cmp_Compare_int.f a0_0 a1_0).bind fun t103 => ((cmp_Compare_int.f a0_1 a1_1).bind fun t104 => ((cmp_Or_int.f k (([t103, t104] : List Int))).bind fun t108 => (some t108)))
def shape_Hull_1.T1 : Bool × List (List Nat × List Nat) := (true, [([], []), ([0], [0]), ([], []), ([2], [2]), ([1, 3], [1, 3]), ([], []), ([5], [5]), ([], []), ([7], [7]), ([6, 8, 4], [6, 8]), ([4, 9], [4, 9]), ([10, 9], [10]), ([11, 11, 0, 1, 2, 3, 4, 5, 6, 7, 8, 9, 10, 11], [11])])
def shape_Hull_1.B1 : List Nat := [0, 1, 0, 4, 15, 0, 32, 0, 128, 511, 1023, 2047, 4095]
theorem shape_Hull_1.tab1 : rtab .any (opsOf Try.f89 1) = shape_Hull_1.T1 := by kernel_rfl
theorem shape_Hull_1.bits1 : waitsOk shape_Hull_1.T1.2 shape_Hull_1.B1 = true := by kernel_rfl
set_option maxHeartbeats 8000000 in
set_option maxRecDepth 100000 in
theorem shape_Hull_1.calls (k : Nat) (a0_0 : Int) (a0_1 : Int) (a1_0 : Int) (a1_1 : Int) (r : Int) (w : World) (h : shape_Hull_1.f k a0_0 a0_1 a1_0 a1_1 = some r) :
  Calls Try.prog 89 #[.agg #[.int .i64 a0_0, .int .i64 a0_1], .agg #[.int .i64 a1_0, .int .i64 a1_1]] w fun e w' => e = .returned (.int .i64 r) ∧ Below w.heap.size w w' := by
 have hu41 := Try.underlying41
 have HB := Aside0.mk (Below.refl w.heap.size w)
 have H : ((cmp_Compare_int.f a0_0 a1_0).bind fun t103 => ((cmp_Compare_int.f a0_1 a1_1).bind fun t104 => ((cmp_Or_int.f k (([t103, t104] : List Int))).bind fun t108 => (some t108)))) = some r := h
 clear h
 replace H := Option.bind_eq_some_iff.mp H
 obtain ⟨t103, A30, H⟩ := H
 try dsimp only at H
 have A3 := Aside0.mk A30
 clear A30
 replace H := Option.bind_eq_some_iff.mp H
 obtain ⟨t104, A40, H⟩ := H
 try dsimp only at H
 have A4 := Aside0.mk A40
 clear A40
 obtain ⟨y105, hy105⟩ : ∃ y_ : List Int, y_ = (([t103, t104] : List Int)) := ⟨_, rfl⟩
 replace H : ((cmp_Or_int.f k y105).bind fun t108 => (some t108)) = some r := by first | (rw [hy105]; with_reducible exact H) | (have H2_ := (Option.bind_some _ _).symm.trans H; rw [hy105]; with_reducible exact H2_) | (have H2_ := (Option.bind_some _ _).symm.trans H; with_reducible exact H2_) | with_reducible exact H | (rw [hy105]; exact H) | exact H
 have Ny105 := Aside0.mk hy105
 clear hy105
 replace H := Option.bind_eq_some_iff.mp H
 obtain ⟨t108, A50, H⟩ := H
 try dsimp only at H
 have A5 := Aside0.mk A50
 clear A50
 obtain rfl := Option.some.inj H
 go_enter Try.func89, Try.ntmps89
 try go_wp2_with (first | ((with_reducible refine gate_dst (N := 2) rfl ?_); refine bxe 2 #[.int .i64 a0_0, .int .i64 a0_1] 41 ?_; intro gb101 hg w6 hbox hb; have BK101 := Aside0.mk (hbox); have GW101 := ga w hg; have GE101 := GW101; replace HB := bz hb; clear hb hbox hg) | ((with_reducible refine gate_dst (N := 3) rfl ?_); refine bxe 3 #[.int .i64 a1_0, .int .i64 a1_1] 41 ?_; intro gb102 hg w7 hbox hb; have BK102 := Aside0.mk (hbox); have GW102 := ga w hg; have GE102 := GW102; have NB101_102 := nb hg (kl BK101); have NB102_101 := bn NB101_102; replace BK101 := kb BK101 hb; replace HB := bz hb; clear hb hbox hg))
 replace BK101 := Aside0.mk (blk_drew BK101.out)
 replace BK102 := Aside0.mk (blk_drew BK102.out)
 replace HB := Aside0.mk (below_drew1 HB.out)
 refine start_ (n := 13) (S := fun w' => w'.cell? ⟨gb101, 0, none⟩ = some (.int .i64 a0_0) ∧ w'.cell? ⟨gb101, 1, none⟩ = some (.int .i64 a0_1) ∧ w'.cell? ⟨gb102, 0, none⟩ = some (.int .i64 a1_0) ∧ w'.cell? ⟨gb102, 1, none⟩ = some (.int .i64 a1_1)) (ds := []) #[N,N,N,N,N,N,N,N,N,N,N,N,N] (by kernel_rfl) rfl rfl ⟨bc BK101 0, bc BK101 1, bc BK102 0, bc BK102 1⟩ (fun hHeld => ?_); refine with_tabW shape_Hull_1.tab1 shape_Hull_1.bits1 (fun HT_ HW_ => ?_)
 generalize w7.drew = w8 at BK101 BK102 HB hHeld ⊢
 refine pu 0 5 HT_ ?_
 refine pu 2 7 HT_ ?_
 refine pu 5 10 HT_ ?_
 refine pu 7 12 HT_ ?_
 refine tk4 1 6 hHeld HT_ HW_ ?_
 refine tk4 3 8 hHeld HT_ HW_ ?_
 refine tk4 6 11 hHeld HT_ HW_ ?_
 refine tk4 8 13 hHeld HT_ HW_ ?_
 refine one_ (i := 4) (N := some 9) #[T,T,T,T,T,T,T,T,T,N,N,N,N] rfl rfl (on1 HT_) (by decide) (fun K hK => ?_)
 refine goes_ Try.func91 (by kernel_rfl) rfl #[.int .i64 a0_0, .int .i64 a1_0] (by rfl) rfl rfl sg ?_
 with_reducible refine (cmp_Compare_int.calls a0_0 a1_0 t103 _ A3.out).mono ?_
 rintro e w' ⟨rfl, ⟨nd, rfl⟩⟩
 refine ⟨_, rfl, ?_⟩
 refine hK.out _ _ ⟨bc BK101 0, bc BK101 1, bc BK102 0, bc BK102 1⟩ (fun hHeld => ?_)
 clear hK K
 refine nm 9 ?_
 refine one_ (i := 9) (N := some 14) #[T,T,T,T,T,T,T,T,T,T,N,N,N] rfl rfl (on1 HT_) (by decide) (fun K hK => ?_)
 refine goes_ Try.func91 (by kernel_rfl) rfl #[.int .i64 a0_1, .int .i64 a1_1] (by rfl) rfl rfl sg ?_
 with_reducible refine (cmp_Compare_int.calls a0_1 a1_1 t104 _ A4.out).mono ?_
 rintro e w' ⟨rfl, ⟨nd, rfl⟩⟩
 refine ⟨_, rfl, ?_⟩
 refine hK.out _ _ ⟨bc BK101 0, bc BK101 1, bc BK102 0, bc BK102 1⟩ (fun hHeld => ?_)
 clear hK K
 refine nm 14 ?_
 refine one_ (i := 10) (N := some 15) #[T,T,T,T,T,T,T,T,T,T,T,N,N] rfl rfl (on1 HT_) (by decide) (fun K hK => ?_)
 refine Kd.R_lit_step (Kd.int .i64) _ 3 ?hg (N := 15) ?hd (xs := ([t103, t104] : List Int)) (inner := [.int .i64 t103, .int .i64 t104]) (ok := fun _ => True) (okp := fun _ => True) ?hr ?hp (fun _ hk => hk) trivial (Below.refl _ _) (Nat.le_refl _) (by simp) ?_; (case hd => rfl); (case hg => rfl); (case hr => first | (go_simp; done) | (go_simp; rfl)); (case hp => exact (Reps.one (show Kd.M (Kd.int .i64) _ _ _ t103 [.int .i64 t103] from rfl) (Reps.one (show Kd.M (Kd.int .i64) _ _ _ t104 [.int .i64 t104] from rfl) (Reps.none _ _))))
 intro v106 w9 ho10 hb hg_ hnew_
 clear hg_ hnew_
 (first | rw [← Ny105.out] at ho10 | (simp only [Int.reduceToNat] at ho10; rw [← Ny105.out] at ho10))
 have HO107 := Aside0.mk (Kd.R_lower ho10 (below_size bh))
 replace BK101 := kb BK101 hb
 replace BK102 := kb BK102 hb
 replace HB := bz hb
 clear hb ho10
 obtain ⟨Ao11, co11, eo11⟩ := Kd.R_slice HO107.out
 (first | subst eo11 | (injection eo11 with f1_ f2_ f3_; have f4_ := f1_.symm; have f5_ := f3_.symm; clear f1_ f2_ f3_; subst f4_; subst f5_))
 refine hK.out _ _ ⟨bc BK101 0, bc BK101 1, bc BK102 0, bc BK102 1⟩ (fun hHeld => ?_)
 clear hK K
 refine nm 15 ?_
 refine one_ (i := 11) (N := some 16) #[T,T,T,T,T,T,T,T,T,T,T,T,N] rfl rfl (on1 HT_) (by decide) (fun K hK => ?_)
 refine goes_ Try.func90 (by kernel_rfl) rfl #[.slice Ao11 y105.length co11] (by rfl) rfl rfl sg ?_
 with_reducible refine (cmp_Or_int.calls k _ _ y105 t108 _ ?side1 ?side2 A5.out).mono ?_
 (case side1 => exact cs (Kd.R_reads' HO107.out).2.2)
 (case side2 => exact (Kd.R_reads' HO107.out).2.1)
 rintro e w' ⟨rfl, ⟨nd, rfl⟩⟩
 refine ⟨_, rfl, ?_⟩
 refine hK.out _ _ ⟨bc BK101 0, bc BK101 1, bc BK102 0, bc BK102 1⟩ (fun hHeld => ?_)
 clear hK K
 refine nm 16 ?_
 refine pu 12 4 HT_ ?_
 refine done_ (done_of HT_.out (by kernel_rfl)) ?_
 try go_wp2
 go_ret
 exact ⟨by exact er, bh⟩
end Go.Proofs.Ythehmkpcddafnaa.PG
end
section
namespace Go.Proofs.Ythehmkpcddafnaa.PG
open Go.RowKit Go.Proofs.YthehmkpcddafnaaW.PrintWords Go.Proofs.YthehmkpcddafnaaW.PrintLast Go.Proofs.YthehmkpcddafnaaW.PrintMore
set_option linter.unusedSimpArgs false
set_option linter.unusedVariables false
def cmpI (a b : Int) : Int := if a < b then -1 else if a > b then 1 else 0
theorem compare_is (a b : Int) : cmp_Compare_int.f a b = some (cmpI a b) := by
 unfold cmp_Compare_int.f cmp_isNaN_int.f cmpI
 simp only [bne_self_eq_false, Option.bind_some, Bool.false_eq_true, if_false]
 by_cases h1 : a < b
 ·simp [h1]
 ·by_cases h2 : a > b <;> simp [h1, h2]
def orI (x y : Int) : Int := if x = 0 then y else x
theorem or_is (x y : Int) : cmp_Or_int.f 5 [x, y] = some (orI x y) := by
 unfold cmp_Or_int.f orI
 simp only [cmp_Or_int.l0, List.length_cons, List.length_nil]
 by_cases h1 : x = 0
 ·subst h1
  by_cases h2 : y = 0
  ·subst h2; simp [rd, wrap64]
  ·simp [rd, wrap64, h2]
 ·simp [rd, h1]
def xyCmp (a b : S41) : Int := orI (cmpI a.f0 b.f0) (cmpI a.f1 b.f1)
def xyLt (a b : S41) : Bool := decide (a.f0 < b.f0) || (decide (a.f0 = b.f0) && decide (a.f1 < b.f1))
theorem xy_lt (a b : S41) : ltOf xyCmp a b = xyLt a b := by
 unfold ltOf xyCmp xyLt orI cmpI
 rw [Bool.eq_iff_iff]
 simp only [decide_eq_true_eq, Bool.or_eq_true, Bool.and_eq_true]
 repeat' split
 all_goals omega
theorem xy_swo : Go.Sort.SWO (ltOf xyCmp) where
 irrefl x := by rw [xy_lt]; simp [xyLt]
 trans x y z h1 h2 := by rw [xy_lt] at *; simp [xyLt] at *; omega
 ntrans x y z h1 h2 := by rw [xy_lt] at *; simp [xyLt] at *; omega
theorem xy_total (x y : S41) (h1 : ltOf xyCmp x y = false) (h2 : ltOf xyCmp y x = false) : x = y := by
 rw [xy_lt] at *
 cases x; cases y
 simp [xyLt] at *
 omega
/-- nothing but draws and new blocks -/
def Gr (w W : World) : Prop := ∃ q os', W = Go.Sort.grow (w.drewN q) os'
theorem Gr.refl (w : World) : Gr w w := ⟨0, #[], by rw [Go.Sort.grow_empty]; rfl⟩
theorem Gr.alloc {w W : World} (h : Gr w W) (o : Obj) : Gr w (W.alloc o) := by
 obtain ⟨q, os, rfl⟩ := h
 exact ⟨q, os ++ #[o], by rw [Go.Sort.alloc_eq_grow, Go.Sort.grow_grow]⟩
theorem Gr.drewN {w W : World} (h : Gr w W) (n : Nat) : Gr w (W.drewN n) := by
 obtain ⟨q, os, rfl⟩ := h
 exact ⟨q + n, os, by simp [Go.Sort.grow, World.drewN, Nat.add_assoc]⟩
theorem Gr.drew {w W : World} (h : Gr w W) : Gr w W.drew := by
 obtain ⟨q, os, rfl⟩ := h
 exact ⟨q + 1, os, by simp [Go.Sort.grow, World.drewN, World.drew, Nat.add_assoc]⟩
attribute [local go_sem] max2_int min2_int max_two min_two max_three min_three max_four min_four
set_option maxHeartbeats 8000000 in
set_option maxRecDepth 100000 in
theorem xy_exact (k : Nat) (a0_0 : Int) (a0_1 : Int) (a1_0 : Int) (a1_1 : Int) (r : Int) (w : World) (h : shape_Hull_1.f k a0_0 a0_1 a1_0 a1_1 = some r) :
  Calls Try.prog 89 #[.agg #[.int .i64 a0_0, .int .i64 a0_1], .agg #[.int .i64 a1_0, .int .i64 a1_1]] w fun e w' => e = .returned (.int .i64 r) ∧ Gr w w' := by
 have hu29 := Try.underlying41
 have H : ((cmp_Compare_int.f a0_0 a1_0).bind fun t103 => ((cmp_Compare_int.f a0_1 a1_1).bind fun t104 => ((cmp_Or_int.f k (([t103, t104] : List Int))).bind fun t108 => (some t108)))) = some r := h
 clear h
 replace H := Option.bind_eq_some_iff.mp H
 obtain ⟨t103, A30, H⟩ := H
 try dsimp only at H
 have A3 := Aside0.mk A30
 clear A30
 replace H := Option.bind_eq_some_iff.mp H
 obtain ⟨t104, A40, H⟩ := H
 try dsimp only at H
 have A4 := Aside0.mk A40
 clear A40
 obtain ⟨y105, hy105⟩ : ∃ y_ : List Int, y_ = (([t103, t104] : List Int)) := ⟨_, rfl⟩
 replace H : ((cmp_Or_int.f k y105).bind fun t108 => (some t108)) = some r := by first | (rw [hy105]; with_reducible exact H) | (have H2_ := (Option.bind_some _ _).symm.trans H; rw [hy105]; with_reducible exact H2_) | (have H2_ := (Option.bind_some _ _).symm.trans H; with_reducible exact H2_) | with_reducible exact H | (rw [hy105]; exact H) | exact H
 have Ny105 := Aside0.mk hy105
 clear hy105
 replace H := Option.bind_eq_some_iff.mp H
 obtain ⟨t108, A50, H⟩ := H
 try dsimp only at H
 have A5 := Aside0.mk A50
 clear A50
 obtain rfl := Option.some.inj H
 have hbk1 : ((w.alloc (.cells #[.int .i64 a0_0, .int .i64 a0_1] 41 (0, 0))).alloc (.cells #[.int .i64 a1_0, .int .i64 a1_1] 41 (0, 0))).heap[w.heap.size]? = some (.cells #[.int .i64 a0_0, .int .i64 a0_1] 41 (0, 0)) := blk_alloc (blk_new w _) _
 have hbk2 : ((w.alloc (.cells #[.int .i64 a0_0, .int .i64 a0_1] 41 (0, 0))).alloc (.cells #[.int .i64 a1_0, .int .i64 a1_1] 41 (0, 0))).heap[w.heap.size + 1]? = some (.cells #[.int .i64 a1_0, .int .i64 a1_1] 41 (0, 0)) := by
  rw [show w.heap.size + 1 = (w.alloc (.cells #[.int .i64 a0_0, .int .i64 a0_1] 41 (0, 0))).heap.size by simp]; exact blk_new _ _
 have BK101 := Aside0.mk hbk1
 have BK102 := Aside0.mk hbk2
 clear hbk1 hbk2
 have HB := Aside0.mk (((Gr.refl w).alloc (.cells #[.int .i64 a0_0, .int .i64 a0_1] 41 (0, 0))).alloc (.cells #[.int .i64 a1_0, .int .i64 a1_1] 41 (0, 0)))
 go_enter Try.func89, Try.ntmps89
 go_wp2
 generalize (w.alloc (.cells #[.int .i64 a0_0, .int .i64 a0_1] 41 (0, 0))).alloc (.cells #[.int .i64 a1_0, .int .i64 a1_1] 41 (0, 0)) = w7 at BK101 BK102 HB ⊢
 replace BK101 := Aside0.mk (blk_drew BK101.out)
 replace BK102 := Aside0.mk (blk_drew BK102.out)
 replace HB := Aside0.mk HB.out.drew
 refine start_ (n := 13) (S := fun w' => w'.cell? ⟨w.heap.size, 0, none⟩ = some (.int .i64 a0_0) ∧ w'.cell? ⟨w.heap.size, 1, none⟩ = some (.int .i64 a0_1) ∧ w'.cell? ⟨w.heap.size + 1, 0, none⟩ = some (.int .i64 a1_0) ∧ w'.cell? ⟨w.heap.size + 1, 1, none⟩ = some (.int .i64 a1_1)) (ds := []) #[N,N,N,N,N,N,N,N,N,N,N,N,N] (by kernel_rfl) rfl rfl ⟨bc BK101 0, bc BK101 1, bc BK102 0, bc BK102 1⟩ (fun hHeld => ?_); refine with_tabW shape_Hull_1.tab1 shape_Hull_1.bits1 (fun HT_ HW_ => ?_)
 generalize w7.drew = w8 at BK101 BK102 HB hHeld ⊢
 refine pu 0 5 HT_ ?_
 refine pu 2 7 HT_ ?_
 refine pu 5 10 HT_ ?_
 refine pu 7 12 HT_ ?_
 refine tk4 1 6 hHeld HT_ HW_ ?_
 refine tk4 3 8 hHeld HT_ HW_ ?_
 refine tk4 6 11 hHeld HT_ HW_ ?_
 refine tk4 8 13 hHeld HT_ HW_ ?_
 refine one_ (i := 4) (N := some 9) #[T,T,T,T,T,T,T,T,T,N,N,N,N] rfl rfl (on1 HT_) (by decide) (fun K hK => ?_)
 refine goes_ Try.func91 (by kernel_rfl) rfl #[.int .i64 a0_0, .int .i64 a1_0] (by rfl) rfl rfl sg ?_
 with_reducible refine (cmp_Compare_int.calls a0_0 a1_0 t103 _ A3.out).mono ?_
 rintro e w' ⟨rfl, ⟨nd1, rfl⟩⟩
 refine ⟨_, rfl, ?_⟩
 refine hK.out _ _ ⟨bc BK101 0, bc BK101 1, bc BK102 0, bc BK102 1⟩ (fun hHeld => ?_)
 clear hK K
 refine nm 9 ?_
 refine one_ (i := 9) (N := some 14) #[T,T,T,T,T,T,T,T,T,T,N,N,N] rfl rfl (on1 HT_) (by decide) (fun K hK => ?_)
 refine goes_ Try.func91 (by kernel_rfl) rfl #[.int .i64 a0_1, .int .i64 a1_1] (by rfl) rfl rfl sg ?_
 with_reducible refine (cmp_Compare_int.calls a0_1 a1_1 t104 _ A4.out).mono ?_
 rintro e w' ⟨rfl, ⟨nd2, rfl⟩⟩
 refine ⟨_, rfl, ?_⟩
 refine hK.out _ _ ⟨bc BK101 0, bc BK101 1, bc BK102 0, bc BK102 1⟩ (fun hHeld => ?_)
 clear hK K
 refine nm 14 ?_
 refine one_ (i := 10) (N := some 15) #[T,T,T,T,T,T,T,T,T,T,T,N,N] rfl rfl (on1 HT_) (by decide) (fun K hK => ?_)
 refine value_ (v := .slice (some ⟨w8.heap.size, 0, none⟩) 2 2) (w1 := World.alloc (w8.drewN (nd1 + nd2)) (.cells #[.int .i64 t103, .int .i64 t104] 3 (0, 0))) rfl rfl (by go_simp) ?_
 have n0_ := Aside0.mk (blk_alloc (blk_drewN BK101.out (nd1 + nd2)) (.cells #[.int .i64 t103, .int .i64 t104] 3 (0, 0)))
 have n1_ := Aside0.mk (blk_alloc (blk_drewN BK102.out (nd1 + nd2)) (.cells #[.int .i64 t103, .int .i64 t104] 3 (0, 0)))
 have n2_ := Aside0.mk ((HB.out.drewN (nd1 + nd2)).alloc (.cells #[.int .i64 t103, .int .i64 t104] 3 (0, 0)))
 have HY : y105.length = 2 := by rw [Ny105.out]; rfl
 have n3_ := Aside0.mk (Kd.R_reads' (Kd.R_of_own (h1 := fun _ => rfl) (ok := fun _ => True) (own_lit (w8.drewN (nd1 + nd2)) w8.heap.size 3 .i64 [t103, t104] (Nat.le_refl _) (by simp)) (fun _ _ => trivial))).2.2
 clear BK101 BK102 HB
 have BK101 := n0_
 have BK102 := n1_
 have HB := n2_
 clear n0_ n1_ n2_
 have n4_ : Aside0 (Kd.C (Kd.int .i64) (World.alloc (w8.drewN (nd1 + nd2)) (.cells #[.int .i64 t103, .int .i64 t104] 3 (0, 0))) (some ⟨w8.heap.size, 0, none⟩) y105.length y105) := by rw [Ny105.out]; exact n3_
 clear n3_
 have HYY := Aside0.mk HY
 clear HY
 generalize World.alloc (w8.drewN (nd1 + nd2)) (.cells #[.int .i64 t103, .int .i64 t104] 3 (0, 0)) = w9 at BK101 BK102 HB n4_ ⊢
 refine hK.out _ _ ⟨bc BK101 0, bc BK101 1, bc BK102 0, bc BK102 1⟩ (fun hHeld => ?_)
 clear hK K
 refine nm 15 ?_
 refine one_ (i := 11) (N := some 16) #[T,T,T,T,T,T,T,T,T,T,T,T,N] rfl rfl (on1 HT_) (by decide) (fun K hK => ?_)
 refine goes_ Try.func90 (by kernel_rfl) rfl #[.slice (some ⟨w8.heap.size, 0, none⟩) 2 2] (by rfl) rfl rfl sg ?_
 refine calls_of_args (args' := #[.slice (some ⟨w8.heap.size, 0, none⟩) y105.length 2]) (by rw [HYY.out]) ?_
 with_reducible refine (cmp_Or_int.calls k _ _ y105 t108 _ ?side1 ?side2 A5.out).mono ?_
 (case side1 => exact n4_.out)
 (case side2 => rw [HYY.out]; exact Nat.le_refl _)
 rintro e w' ⟨rfl, ⟨nd, rfl⟩⟩
 refine ⟨_, rfl, ?_⟩
 refine hK.out _ _ ⟨bc BK101 0, bc BK101 1, bc BK102 0, bc BK102 1⟩ (fun hHeld => ?_)
 clear hK K
 refine nm 16 ?_
 refine pu 12 4 HT_ ?_
 refine done_ (done_of HT_.out (by kernel_rfl)) ?_
 try go_wp2
 go_ret
 exact ⟨by first | rfl | (simp; done), HB.out.drewN _⟩
def slices_SortFunc_xy.f (l0 : List (S41)) : Option (List S41) := if l0.length < 4611686018427387904 then some (l0.mergeSort fun x y => !xyLt y x) else none
theorem hull1_is (a b : S41) : shape_Hull_1.f 5 a.f0 a.f1 b.f0 b.f1 = some (xyCmp a b) := by
 unfold shape_Hull_1.f xyCmp
 rw [compare_is, Option.bind_some, compare_is, Option.bind_some, or_is]; rfl
theorem xy_lays (blk off size : Nat) (w : World) : CmpLays Try.prog 89 #[] enc29 2 xyCmp blk off size w :=
 fun _ _ _ _ x y => (xy_exact 5 x.f0 x.f1 y.f0 y.f1 _ _ (hull1_is x y)).mono fun _ _ h => h
theorem slices_SortFunc_xy.calls (P0_ : Nat → Prop) (u9000_ : Value) (l0 : List (S41)) (r : List (S41)) (w0 w : World) (hB : Below w0.heap.size w0 w) (ho0 : Kd.R k41 41 w w0.heap.size P0_ u9000_ l0) (h : slices_SortFunc_xy.f l0 = some r) :
  Calls Try.prog 88 #[u9000_, .func (.func 89) #[] #[]] w fun e w' => e = .returned (.tuple #[]) ∧ Kd.R k41 41 w' w0.heap.size (fun k_ => (P0_ k_ ∨ w.heap.size ≤ k_)) u9000_ r ∧ Below w0.heap.size w0 w' ∧ Kept w w' (fun k_ => P0_ k_) := by
 unfold slices_SortFunc_xy.f at h
 split at h
 ·rename_i hlt
  obtain rfl := Option.some.inj h
  clear h
  by_cases hl : l0.length = 0
  ·obtain ⟨A, c, rfl⟩ := Kd.R_slice ho0
   have e0 : l0 = [] := List.eq_nil_of_length_eq_zero hl
   subst e0
   have hc := AnyF.slices_SortFunc_none Try.sortPt A c (.func (.func 89) #[] #[]) w
   change Calls Try.prog 88 _ _ _ at hc
   refine hc.mono fun e w' hh => ?_
   obtain ⟨he, rfl⟩ := hh
   exact ⟨he, Kd.R_mono (by simpa using ho0) (fun k hk => .inl hk), hB, ⟨Nat.le_refl _, fun _ _ _ => rfl⟩⟩
  ·obtain ⟨g, cap, cur, rfl, hb, hh, hnc, hcm, hsz, hPg, hp⟩ := row_open ho0 (by omega)
   have eg : ∀ args w, (callFunc 89 args).run Try.prog w = .ok (.enter 89 args) w := enters_of Try.func89 (by kernel_rfl) rfl
   have hc := AnyQ.slices_SortFunc_total Try.sortPt 2 Try.isAgg41 Try.sizeOf41 enc29 (fun _ => rfl) enc29_one xyCmp xy_swo 89 #[] g 0 cap l0.toArray w eg (xy_lays _ _ _ _) (holds_of hh hp) (blk_lt hh) (by simpa using hlt) xy_total
   change Calls Try.prog 88 _ _ _ at hc
   simp only [List.size_toArray] at hc
   refine hc.mono fun e w' hx => ?_
   obtain ⟨he, n, os, rfl⟩ := hx
   have e1 : (fun x y => !ltOf xyCmp y x) = fun x y => !xyLt y x := by funext x y; rw [xy_lt]
   rw [e1]
   have hlen : (l0.mergeSort fun x y => !xyLt y x).length = l0.length := List.length_mergeSort l0
   obtain ⟨cur', p1, p2, p3, p4⟩ := put_at n (l0.mergeSort fun x y => !xyLt y x).toArray os hh (by simp [hlen]; omega)
   have := row_shut (P := fun k_ => (P0_ k_ ∨ w.heap.size ≤ k_)) hb p1 (l := l0.mergeSort fun x y => !xyLt y x) (cap := cap) (by rw [hlen]; exact hnc) hcm (by rw [p2]; exact hsz) (.inl hPg) p3
   rw [hlen] at this
   exact ⟨he, this, grown_below hB p4 hb, grown_kept p4 hPg⟩
 ·cases h
end Go.Proofs.Ythehmkpcddafnaa.PG
end
section
namespace Go.Proofs.Ythehmkpcddafnaa.PG
open Go.RowKit Go.Proofs.YthehmkpcddafnaaW.PrintWords Go.Proofs.YthehmkpcddafnaaW.PrintLast Go.Proofs.YthehmkpcddafnaaW.PrintMore
attribute [local go_sem] max2_int min2_int max_two min_two max_three min_three max_four min_four
set_option linter.unusedVariables false
set_option linter.unusedSimpArgs false
/-! ### shape_Hull: function 40 -/
def shape_Hull.j0 : Nat → List (S41) → Bool → Option ((List (S41)) × Int)
 | 0, _, _ => none
 | k + 1, x0, x20 => if x20 = true then (some (([] : List (S41)), 1)) else ((slices_Clone.f x0).bind fun t102 => ((slices_SortFunc_xy.f t102).bind fun t105 => ((slices_Compact.f t105).bind fun t106 => ((shape_chain.f k t106).bind fun t109 => ((slices_Reverse.f t106).bind fun t112 => ((shape_chain.f k t112).bind fun t113 => (if 0 ≤ (wrap64 ((t109.length : Int) - 1)) then (if (wrap64 ((t109.length : Int) - 1)) ≤ (t109.length : Int) then (if 0 ≤ (wrap64 ((t113.length : Int) - 1)) then (if (wrap64 ((t113.length : Int) - 1)) ≤ (t113.length : Int) then ((api_Point_95.f k (([(t109.take ((wrap64 ((t109.length : Int) - 1)) : Int).toNat), (t113.take ((wrap64 ((t113.length : Int) - 1)) : Int).toNat)] : List (List (S41))))).bind fun t129 => (if (t129.length : Int) < 3 then (some (([] : List (S41)), 6)) else ((shape_begun.f k t129).bind fun t132 => (some (t132, 0))))) else (none)) else (none)) else (none)) else (none))))))))
def shape_Hull.f (k : Nat) (l0 : List (S41)) : Option ((List (S41)) × Int) := if (l0.length : Int) < 1 then (shape_Hull.j0 k l0 true) else (if (l0.length : Int) > 32 then (shape_Hull.j0 k l0 true) else ((shape_within.f l0 10000).bind fun t101 => (shape_Hull.j0 k l0 (!t101))))
def shape_Hull.T9 : Bool × List (List Nat × List Nat) := (true, [([], []), ([], []), ([1], [1]), ([2], [2]), ([0, 3], [0, 3]), ([], []), ([], []), ([6], [6]), ([7], [7]), ([5, 8], [5, 8]), ([4, 9], [4, 9]), ([10], [10]), ([11, 11, 0, 1, 2, 3, 4, 5, 6, 7, 8, 9, 10, 11], [11])])
def shape_Hull.B9 : List Nat := [0, 0, 2, 6, 15, 0, 0, 64, 192, 480, 1023, 2047, 4095]
theorem shape_Hull.tab9 : rtab .any (opsOf Try.f40 9) = shape_Hull.T9 := by kernel_rfl
theorem shape_Hull.bits9 : waitsOk shape_Hull.T9.2 shape_Hull.B9 = true := by kernel_rfl
set_option maxHeartbeats 8000000 in
set_option maxRecDepth 100000 in
theorem shape_Hull.calls (k : Nat) (A0 : Option Addr) (c0 : Nat) (l0 : List (S41)) (r1 : List (S41)) (r2 : Int) (w : World) (hr0 : Kd.C k41 w A0 l0.length l0) (hc0 : l0.length ≤ c0) (h : shape_Hull.f k l0 = some (r1, r2)) :
  Calls Try.prog 40 #[.slice A0 l0.length c0] w fun e w' => ∃ v0_ : Value, e = .returned (.tuple #[v0_, .int .i64 r2]) ∧ Kd.R k41 41 w' w.heap.size (fun _ => True) v0_ r1 ∧ Below w.heap.size w w' := by
 have HR0 := Aside0.mk hr0
 have HC0 := Aside0.mk hc0
 clear hr0 hc0
 have HB := Aside0.mk (Below.refl w.heap.size w)
 have H : (if (l0.length : Int) < 1 then (shape_Hull.j0 k l0 true) else (if (l0.length : Int) > 32 then (shape_Hull.j0 k l0 true) else ((shape_within.f l0 10000).bind fun t101 => (shape_Hull.j0 k l0 (!t101))))) = some (r1, r2) := h
 clear h
 have HC2 := Aside0.mk H
 clear H
 go_enter Try.func40, Try.ntmps40
 go_upto_region 1 with (fail)
 go_cut [20] (fun v20 wc => ∃ (kq : Nat) (x20_1 : Bool), v20 = .bool x20_1 ∧ Aside0 (shape_Hull.j0 kq l0 x20_1 = some (r1, r2)) ∧ Aside0 (kq ≤ k) ∧ Aside0 (Below w.heap.size w wc))
 case first =>
  have H := HC2.out
  clear HC2
  by_cases c3 : (l0.length : Int) < 1
  ·rw [if_pos c3] at H
   have c3b0 := decide_eq_true c3
   have c3b1 : decide (l0.length < 1) = true := decide_eq_true (by omega)
   clear c3
   (first | rw [c3b0] | (simp only [i64_w, i32_w]; rw [c3b0]) | skip)
   have H' := Aside0.mk H
   clear H
   go_wp2
   go_meet
   case rel => exact ⟨_, (true), sd, H', ⟨om⟩, ⟨bh⟩⟩
  ·rw [if_neg c3] at H
   have c3b0 := decide_eq_false c3
   have c3b1 : decide (l0.length < 1) = false := decide_eq_false (by omega)
   clear c3
   (first | rw [c3b0] | (simp only [i64_w, i32_w]; rw [c3b0]) | skip)
   by_cases c4 : (l0.length : Int) > 32
   ·rw [if_pos c4] at H
    have c4b0 := decide_eq_true c4
    have c4b1 : decide (32 < l0.length) = true := decide_eq_true (by omega)
    clear c4
    have H' := Aside0.mk H
    clear H
    go_wp2
    go_meet
    case rel => exact ⟨_, (true), sd, H', ⟨om⟩, ⟨bh⟩⟩
   ·rw [if_neg c4] at H
    have c4b0 := decide_eq_false c4
    have c4b1 : decide (32 < l0.length) = false := decide_eq_false (by omega)
    clear c4
    replace H := Option.bind_eq_some_iff.mp H
    obtain ⟨t101, A50, H⟩ := H
    replace H : (shape_Hull.j0 k l0 (!t101)) = some (r1, r2) := H
    have A5 := Aside0.mk A50
    clear A50
    have H' := Aside0.mk H
    clear H
    go_wp2_with (first | (go_at_call 72; (with_reducible refine (shape_within.calls _ _ l0 10000 t101 _ ?side1 ?side2 A5.out).mono ?_); (case side1 => exact cs (Kd.C_below HR0.out HB.out)); (case side2 => exact HC0.out); rintro e w6 ⟨rfl, hb⟩; replace HB := bz hb; (try clear hb)))
    go_meet
    case rel => exact ⟨_, (!t101), sd, H', ⟨om⟩, ⟨bh⟩⟩
 case rest =>
  clear HC2
  skip
  obtain ⟨kq, x20_1, rfl, HA, HJ1, HB⟩ := hcut
  cases kq with
  | zero => exact absurd HA.out (by simp [shape_Hull.j0])
  | succ kj1 =>
   have H := HA.out
   clear HA
   simp only [shape_Hull.j0] at H
   by_cases c7 : x20_1 = true
   ·subst c7
    rw [if_pos rfl] at H
    simp only [Option.some.injEq, Prod.mk.injEq] at H
    obtain ⟨rfl, rfl⟩ := H
    go_wp2
    go_ret2
    exact ⟨_, by exact er, by first | exact Kd.R_nil _ _ _ _ _ | exact Kd.N_nil _ _ _ _ _ | exact Kd.V_nil _ _ _ _ _ | exact Kd.Q_nil _ _ _ _ _ | exact Kd.S_nil _ _ _ _ _, bh⟩
   ·replace c7 := Bool.eq_false_iff.mpr c7
    subst c7
    rw [if_neg (show ¬ (false = true) by decide)] at H
    replace H := Option.bind_eq_some_iff.mp H
    obtain ⟨t102, A80, H⟩ := H
    replace H : ((slices_SortFunc_xy.f t102).bind fun t105 => ((slices_Compact.f t105).bind fun t106 => ((shape_chain.f kj1 t106).bind fun t109 => ((slices_Reverse.f t106).bind fun t112 => ((shape_chain.f kj1 t112).bind fun t113 => (if 0 ≤ (wrap64 ((t109.length : Int) - 1)) then (if (wrap64 ((t109.length : Int) - 1)) ≤ (t109.length : Int) then (if 0 ≤ (wrap64 ((t113.length : Int) - 1)) then (if (wrap64 ((t113.length : Int) - 1)) ≤ (t113.length : Int) then ((api_Point_95.f kj1 (([(t109.take ((wrap64 ((t109.length : Int) - 1)) : Int).toNat), (t113.take ((wrap64 ((t113.length : Int) - 1)) : Int).toNat)] : List (List (S41))))).bind fun t129 => (if (t129.length : Int) < 3 then (some (([] : List (S41)), 6)) else ((shape_begun.f kj1 t129).bind fun t132 => (some (t132, 0))))) else (none)) else (none)) else (none)) else (none))))))) = some (r1, r2) := H
    have A8 := Aside0.mk A80
    clear A80
    replace H := Option.bind_eq_some_iff.mp H
    obtain ⟨t105, A90, H⟩ := H
    replace H : ((slices_Compact.f t105).bind fun t106 => ((shape_chain.f kj1 t106).bind fun t109 => ((slices_Reverse.f t106).bind fun t112 => ((shape_chain.f kj1 t112).bind fun t113 => (if 0 ≤ (wrap64 ((t109.length : Int) - 1)) then (if (wrap64 ((t109.length : Int) - 1)) ≤ (t109.length : Int) then (if 0 ≤ (wrap64 ((t113.length : Int) - 1)) then (if (wrap64 ((t113.length : Int) - 1)) ≤ (t113.length : Int) then ((api_Point_95.f kj1 (([(t109.take ((wrap64 ((t109.length : Int) - 1)) : Int).toNat), (t113.take ((wrap64 ((t113.length : Int) - 1)) : Int).toNat)] : List (List (S41))))).bind fun t129 => (if (t129.length : Int) < 3 then (some (([] : List (S41)), 6)) else ((shape_begun.f kj1 t129).bind fun t132 => (some (t132, 0))))) else (none)) else (none)) else (none)) else (none)))))) = some (r1, r2) := H
    have A9 := Aside0.mk A90
    clear A90
    replace H := Option.bind_eq_some_iff.mp H
    obtain ⟨t106, A100, H⟩ := H
    replace H : ((shape_chain.f kj1 t106).bind fun t109 => ((slices_Reverse.f t106).bind fun t112 => ((shape_chain.f kj1 t112).bind fun t113 => (if 0 ≤ (wrap64 ((t109.length : Int) - 1)) then (if (wrap64 ((t109.length : Int) - 1)) ≤ (t109.length : Int) then (if 0 ≤ (wrap64 ((t113.length : Int) - 1)) then (if (wrap64 ((t113.length : Int) - 1)) ≤ (t113.length : Int) then ((api_Point_95.f kj1 (([(t109.take ((wrap64 ((t109.length : Int) - 1)) : Int).toNat), (t113.take ((wrap64 ((t113.length : Int) - 1)) : Int).toNat)] : List (List (S41))))).bind fun t129 => (if (t129.length : Int) < 3 then (some (([] : List (S41)), 6)) else ((shape_begun.f kj1 t129).bind fun t132 => (some (t132, 0))))) else (none)) else (none)) else (none)) else (none))))) = some (r1, r2) := H
    have A10 := Aside0.mk A100
    clear A100
    replace H := Option.bind_eq_some_iff.mp H
    obtain ⟨t109, A110, H⟩ := H
    replace H : ((slices_Reverse.f t106).bind fun t112 => ((shape_chain.f kj1 t112).bind fun t113 => (if 0 ≤ (wrap64 ((t109.length : Int) - 1)) then (if (wrap64 ((t109.length : Int) - 1)) ≤ (t109.length : Int) then (if 0 ≤ (wrap64 ((t113.length : Int) - 1)) then (if (wrap64 ((t113.length : Int) - 1)) ≤ (t113.length : Int) then ((api_Point_95.f kj1 (([(t109.take ((wrap64 ((t109.length : Int) - 1)) : Int).toNat), (t113.take ((wrap64 ((t113.length : Int) - 1)) : Int).toNat)] : List (List (S41))))).bind fun t129 => (if (t129.length : Int) < 3 then (some (([] : List (S41)), 6)) else ((shape_begun.f kj1 t129).bind fun t132 => (some (t132, 0))))) else (none)) else (none)) else (none)) else (none)))) = some (r1, r2) := H
    have A11 := Aside0.mk A110
    clear A110
    replace H := Option.bind_eq_some_iff.mp H
    obtain ⟨t112, A120, H⟩ := H
    replace H : ((shape_chain.f kj1 t112).bind fun t113 => (if 0 ≤ (wrap64 ((t109.length : Int) - 1)) then (if (wrap64 ((t109.length : Int) - 1)) ≤ (t109.length : Int) then (if 0 ≤ (wrap64 ((t113.length : Int) - 1)) then (if (wrap64 ((t113.length : Int) - 1)) ≤ (t113.length : Int) then ((api_Point_95.f kj1 (([(t109.take ((wrap64 ((t109.length : Int) - 1)) : Int).toNat), (t113.take ((wrap64 ((t113.length : Int) - 1)) : Int).toNat)] : List (List (S41))))).bind fun t129 => (if (t129.length : Int) < 3 then (some (([] : List (S41)), 6)) else ((shape_begun.f kj1 t129).bind fun t132 => (some (t132, 0))))) else (none)) else (none)) else (none)) else (none))) = some (r1, r2) := H
    have A12 := Aside0.mk A120
    clear A120
    replace H := Option.bind_eq_some_iff.mp H
    obtain ⟨t113, A130, H⟩ := H
    replace H : (if 0 ≤ (wrap64 ((t109.length : Int) - 1)) then (if (wrap64 ((t109.length : Int) - 1)) ≤ (t109.length : Int) then (if 0 ≤ (wrap64 ((t113.length : Int) - 1)) then (if (wrap64 ((t113.length : Int) - 1)) ≤ (t113.length : Int) then ((api_Point_95.f kj1 (([(t109.take ((wrap64 ((t109.length : Int) - 1)) : Int).toNat), (t113.take ((wrap64 ((t113.length : Int) - 1)) : Int).toNat)] : List (List (S41))))).bind fun t129 => (if (t129.length : Int) < 3 then (some (([] : List (S41)), 6)) else ((shape_begun.f kj1 t129).bind fun t132 => (some (t132, 0))))) else (none)) else (none)) else (none)) else (none)) = some (r1, r2) := H
    have A13 := Aside0.mk A130
    clear A130
    obtain ⟨ji14, hji14⟩ : ∃ j_ : Int, (wrap64 ((t109.length : Int) - 1)) = j_ := ⟨_, rfl⟩
    replace H : (if 0 ≤ (ji14) then (if (ji14) ≤ (t109.length : Int) then (if 0 ≤ (wrap64 ((t113.length : Int) - 1)) then (if (wrap64 ((t113.length : Int) - 1)) ≤ (t113.length : Int) then ((api_Point_95.f kj1 (([(t109.take ((ji14) : Int).toNat), (t113.take ((wrap64 ((t113.length : Int) - 1)) : Int).toNat)] : List (List (S41))))).bind fun t129 => (if (t129.length : Int) < 3 then (some (([] : List (S41)), 6)) else ((shape_begun.f kj1 t129).bind fun t132 => (some (t132, 0))))) else (none)) else (none)) else (none)) else (none)) = some (r1, r2) := by first | (rw [hji14] at H; exact H) | (simp only [hji14] at H ⊢; exact H)
    (try rw [hji14] at A8)
    (try rw [hji14] at A9)
    (try rw [hji14] at A10)
    (try rw [hji14] at A11)
    (try rw [hji14] at A12)
    (try rw [hji14] at A13)
    have hji14w : (IntKind.i64.wrap ((t109.length : Int) - 1)) = ji14 := (i64_w _).trans hji14
    obtain ⟨c15, H⟩ := oi H
    have c15b0 := eq_true c15
    have c15b1 := decide_eq_true c15
    clear c15
    obtain ⟨c16, H⟩ := oi H
    have c16b0 := eq_true c16
    have c16b1 := decide_eq_true c16
    clear c16
    obtain ⟨y116, hy116⟩ : ∃ y_ : List (S41), y_ = (t109.take ((ji14) : Int).toNat) := ⟨_, rfl⟩
    replace H : (if 0 ≤ (wrap64 ((t113.length : Int) - 1)) then (if (wrap64 ((t113.length : Int) - 1)) ≤ (t113.length : Int) then ((api_Point_95.f kj1 (([y116, (t113.take ((wrap64 ((t113.length : Int) - 1)) : Int).toNat)] : List (List (S41))))).bind fun t129 => (if (t129.length : Int) < 3 then (some (([] : List (S41)), 6)) else ((shape_begun.f kj1 t129).bind fun t132 => (some (t132, 0))))) else (none)) else (none)) = some (r1, r2) := by first | (rw [hy116]; with_reducible exact H) | (have H2_ := (Option.bind_some _ _).symm.trans H; rw [hy116]; with_reducible exact H2_) | (have H2_ := (Option.bind_some _ _).symm.trans H; with_reducible exact H2_) | with_reducible exact H | (rw [hy116]; exact H) | exact H
    have Ny116 := Aside0.mk hy116
    clear hy116
    obtain ⟨ji17, hji17⟩ : ∃ j_ : Int, (wrap64 ((t113.length : Int) - 1)) = j_ := ⟨_, rfl⟩
    replace H : (if 0 ≤ (ji17) then (if (ji17) ≤ (t113.length : Int) then ((api_Point_95.f kj1 (([y116, (t113.take ((ji17) : Int).toNat)] : List (List (S41))))).bind fun t129 => (if (t129.length : Int) < 3 then (some (([] : List (S41)), 6)) else ((shape_begun.f kj1 t129).bind fun t132 => (some (t132, 0))))) else (none)) else (none)) = some (r1, r2) := by first | (rw [hji17] at H; exact H) | (simp only [hji17] at H ⊢; exact H)
    (try rw [hji17] at A8)
    (try rw [hji17] at A9)
    (try rw [hji17] at A10)
    (try rw [hji17] at A11)
    (try rw [hji17] at A12)
    (try rw [hji17] at A13)
    have hji17w : (IntKind.i64.wrap ((t113.length : Int) - 1)) = ji17 := (i64_w _).trans hji17
    obtain ⟨c18, H⟩ := oi H
    have c18b0 := eq_true c18
    have c18b1 := decide_eq_true c18
    clear c18
    obtain ⟨c19, H⟩ := oi H
    have c19b0 := eq_true c19
    have c19b1 := decide_eq_true c19
    clear c19
    obtain ⟨y121, hy121⟩ : ∃ y_ : List (S41), y_ = (t113.take ((ji17) : Int).toNat) := ⟨_, rfl⟩
    replace H : ((api_Point_95.f kj1 (([y116, y121] : List (List (S41))))).bind fun t129 => (if (t129.length : Int) < 3 then (some (([] : List (S41)), 6)) else ((shape_begun.f kj1 t129).bind fun t132 => (some (t132, 0))))) = some (r1, r2) := by first | (rw [hy121]; with_reducible exact H) | (have H2_ := (Option.bind_some _ _).symm.trans H; rw [hy121]; with_reducible exact H2_) | (have H2_ := (Option.bind_some _ _).symm.trans H; with_reducible exact H2_) | with_reducible exact H | (rw [hy121]; exact H) | exact H
    have Ny121 := Aside0.mk hy121
    clear hy121
    obtain ⟨y126, hy126⟩ : ∃ y_ : List (List (S41)), y_ = (([y116, y121] : List (List (S41)))) := ⟨_, rfl⟩
    replace H : ((api_Point_95.f kj1 y126).bind fun t129 => (if (t129.length : Int) < 3 then (some (([] : List (S41)), 6)) else ((shape_begun.f kj1 t129).bind fun t132 => (some (t132, 0))))) = some (r1, r2) := by first | (rw [hy126]; with_reducible exact H) | (have H2_ := (Option.bind_some _ _).symm.trans H; rw [hy126]; with_reducible exact H2_) | (have H2_ := (Option.bind_some _ _).symm.trans H; with_reducible exact H2_) | with_reducible exact H | (rw [hy126]; exact H) | exact H
    have Ny126 := Aside0.mk hy126
    clear hy126
    replace H := Option.bind_eq_some_iff.mp H
    obtain ⟨t129, A200, H⟩ := H
    replace H : (if (t129.length : Int) < 3 then (some (([] : List (S41)), 6)) else ((shape_begun.f kj1 t129).bind fun t132 => (some (t132, 0)))) = some (r1, r2) := H
    have A20 := Aside0.mk A200
    clear A200
    by_cases c21 : (t129.length : Int) < 3
    ·rw [if_pos c21] at H
     have c21b0 := decide_eq_true c21
     have c21b1 : decide (t129.length < 3) = true := decide_eq_true (by omega)
     clear c21
     simp only [Option.some.injEq, Prod.mk.injEq] at H
     obtain ⟨rfl, rfl⟩ := H
     try go_wp2_with (first | ((with_reducible refine gc 87 rfl ?_); refine goesL_ (some 22) rfl rfl Try.func87 (by kernel_rfl) rfl #[.slice A0 l0.length c0] rfl sg ?_; (with_reducible refine (slices_Clone.calls _ _ l0 t102 _ ?side1 ?side2 A8.out).mono ?_); (case side1 => exact cs (Kd.C_below HR0.out HB.out)); (case side2 => exact HC0.out); rintro e w22 ⟨v103, rfl, ho0, hb⟩; refine ⟨_, rfl, ?_⟩; have HO104 := Aside0.mk (Kd.R_lower ho0 (below_size bh)); replace HB := bz hb; (try clear hb); (try clear ho0); obtain ⟨Ao23, co23, eo23⟩ := Kd.R_slice HO104.out; subst eo23) | ((with_reducible refine gc 88 rfl ?_); refine goesL_ (some 24) rfl rfl Try.func88 (by kernel_rfl) rfl #[.slice Ao23 t102.length co23, .func (.func 89) #[] #[]] rfl sg ?_; (with_reducible refine (slices_SortFunc_xy.calls (fun k_ => some k_ = (.slice Ao23 t102.length co23 : Value).ownBlock) (.slice Ao23 t102.length co23) t102  t105 w _ ?side1 ?side2 A9.out).mono ?_); (case side1 => repeat (first | (with_reducible first | exact HB.out | apply below_alloc | apply pw_below_drewN | apply below_drew1) | exact HB.out)); (case side2 => exact Kd.R_tight rfl HO104.out); rintro e w24 ⟨rfl, hy0, hb, hkp⟩; refine ⟨_, rfl, ?_⟩; replace HO104 := Aside0.mk (Kd.R_reok rfl hy0 (fun k_ e_ => HO104.out.1 k_ e_)); replace HB := Aside0.mk (hb); (try clear hb); (try clear hkp); (try clear hy0)) | ((with_reducible refine gc 92 rfl ?_); refine goesL_ (some 26) rfl rfl Try.func92 (by kernel_rfl) rfl #[.slice Ao23 t102.length co23] rfl sg ?_; (with_reducible refine (slices_Compact.calls (fun k_ => some k_ = (.slice Ao23 t102.length co23 : Value).ownBlock) (.slice Ao23 t102.length co23) t105 t106 w _ ?side1 ?side2 A10.out).mono ?_); (case side1 => repeat (first | (with_reducible first | exact HB.out | apply below_alloc | apply pw_below_drewN | apply below_drew1) | exact HB.out)); (case side2 => exact Kd.R_tight rfl HO104.out); rintro e w25 ⟨v107, rfl, ho0, hb, hkp⟩; refine ⟨_, rfl, ?_⟩; have HO108 := Aside0.mk (Kd.R_mono (ok' := fun k_ => True) ho0 (fun k_ hk_ => trivial)); replace HB := Aside0.mk (hb); clear HO104; (try clear hb); (try clear hkp); (try clear ho0); obtain ⟨Ao26, co26, eo26⟩ := Kd.R_slice HO108.out; subst eo26) | ((with_reducible refine gc 93 rfl ?_); refine goesL_ (some 28) rfl rfl Try.func93 (by kernel_rfl) rfl #[.slice Ao26 t106.length co26] rfl sg ?_; (with_reducible refine (shape_chain.calls kj1 _ _ t106 t109 _ ?side1 ?side2 A11.out).mono ?_); (case side1 => exact cs (Kd.R_reads' HO108.out).2.2); (case side2 => exact (Kd.R_reads' HO108.out).2.1); rintro e w27 ⟨v110, rfl, ho0, hb⟩; refine ⟨_, rfl, ?_⟩; have HO111 := Aside0.mk (Kd.R_lower (Kd.R_new' ho0 (Kd.R_lt (ro HO108))) (below_size bh)); replace HO108 := Aside0.mk (Kd.R_elder' (ro HO108) (Kd.R_base ho0) hb); replace HB := bz hb; (try clear hb); (try clear ho0)) | ((with_reducible refine gc 94 rfl ?_); refine goesL_ (some 30) rfl rfl Try.func94 (by kernel_rfl) rfl #[.slice Ao26 t106.length co26] rfl sg ?_; (with_reducible refine (slices_Reverse.calls (fun k_ => some k_ = (.slice Ao26 t106.length co26 : Value).ownBlock) (.slice Ao26 t106.length co26) t106 t112 w _ ?side1 ?side2 A12.out).mono ?_); (case side1 => repeat (first | (with_reducible first | exact HB.out | apply below_alloc | apply pw_below_drewN | apply below_drew1) | exact HB.out)); (case side2 => exact Kd.R_tight rfl HO108.out); rintro e w28 ⟨rfl, hy0, hb, hkp⟩; refine ⟨_, rfl, ?_⟩; replace HO108 := Aside0.mk (Kd.R_reok rfl hy0 (fun k_ e_ => HO108.out.1 k_ e_)); replace HO111 := Aside0.mk (Kd.R_mono (ok' := fun k_ => some k_ ≠ (.slice Ao26 t106.length co26 : Value).ownBlock) (Kd.R_keptB (HO111.out) hkp (fun k_ hk_ hs_ => (hk_.2) hs_)) (fun k_ hk_ => hk_.1.2)); replace HB := Aside0.mk (hb); (try clear hb); (try clear hkp); (try clear hy0)) | ((with_reducible refine gc 93 rfl ?_); refine goesL_ (some 32) rfl rfl Try.func93 (by kernel_rfl) rfl #[.slice Ao26 t112.length co26] rfl (by (try simp only [List.map_toArray, List.map_cons, List.map_nil]); first | done | (rw [show t112.length = t106.length from (Kd.R_reads' HO108.out).1.symm] <;> rfl) | rfl | (simp only [List.length_drop, List.length_take]; rfl)) ?_; (with_reducible refine (shape_chain.calls kj1 _ _ t112 t113 _ ?side1 ?side2 A13.out).mono ?_); (case side1 => exact cs (Kd.R_reads' HO108.out).2.2); (case side2 => rw [show t112.length = t106.length from (Kd.R_reads' HO108.out).1.symm]; exact (Kd.R_reads' HO108.out).2.1); rintro e w29 ⟨v114, rfl, ho0, hb⟩; refine ⟨_, rfl, ?_⟩; have HO115 := Aside0.mk (Kd.R_lower (Kd.R_new' (Kd.R_new' ho0 (Kd.R_lt (ro HO108))) (Kd.R_lt (ro HO111))) (below_size bh)); replace HO108 := Aside0.mk (Kd.R_elder' (ro HO108) (Kd.R_base ho0) hb); replace HO111 := Aside0.mk (Kd.R_elder' (ro HO111) (Kd.R_base ho0) hb); replace HB := bz hb; (try clear hb); (try clear ho0)))
     replace HO108 := Aside0.mk (Kd.R_drew HO108.out)
     replace HO111 := Aside0.mk (Kd.R_drew HO111.out)
     replace HO115 := Aside0.mk (Kd.R_drew HO115.out)
     replace HB := Aside0.mk (below_drew1 HB.out)
     obtain ⟨Ao31, co31, eo31⟩ := Kd.R_slice HO111.out
     (first | subst eo31 | (injection eo31 with f1_ f2_ f3_; have f4_ := f1_.symm; have f5_ := f3_.symm; clear f1_ f2_ f3_; subst f4_; subst f5_))
     have q32 : ((ji14) : Int) ≤ ((t109.length : Int) : Int) := dt
     obtain ⟨i032, hi032, _, hsz32, _⟩ := info_parts info41
     have hroom32 : t109.length ≤ co31 := (Kd.R_reads' HO111.out).2.1
     have hC32 : Kd.F k41 _ _ Ao31 t109.length t109 := (Kd.V_at (base := w.heap.size) (Kd.R_V HO111.out)).2.2
     have hcut32 := cut_to (P := Try.prog) 22 41 .i64 Try.underlying22 hi032 Ao31 t109.length co31 (ji14) (dt) q32 hroom32
     have hr32 := Kd.F_take (m := ((ji14) : Int).toNat) hC32 (by omega)
     have hy32 : y116.length = ((ji14) : Int).toNat := (by rw [Ny116.out, List.length_take]; omega)
     rw [← Ny116.out] at hr32
     rw [← hy32] at hcut32
     have HO120 := Aside0.mk (show Kd.V k41 41 _ w.heap.size _ (.slice Ao31 y116.length co31) y116 from Kd.V_mk (by omega) hr32)
     have HC120 := Aside0.mk (show y116.length ≤ co31 from by omega)
     clear hr32 hC32 hroom32 hi032 hsz32
     have KY32 := Aside0.mk hy32
     clear hy32
     replace q32 := eq_true q32
     obtain ⟨Ao33, co33, eo33⟩ := Kd.R_slice HO115.out
     (first | subst eo33 | (injection eo33 with f1_ f2_ f3_; have f4_ := f1_.symm; have f5_ := f3_.symm; clear f1_ f2_ f3_; subst f4_; subst f5_))
     have q34 : ((ji17) : Int) ≤ ((t113.length : Int) : Int) := dt
     obtain ⟨i034, hi034, _, hsz34, _⟩ := info_parts info41
     have hroom34 : t113.length ≤ co33 := (Kd.R_reads' HO115.out).2.1
     have hC34 : Kd.F k41 _ _ Ao33 t113.length t113 := (Kd.V_at (base := w.heap.size) (Kd.R_V HO115.out)).2.2
     have hcut34 := cut_to (P := Try.prog) 22 41 .i64 Try.underlying22 hi034 Ao33 t113.length co33 (ji17) (dt) q34 hroom34
     have hr34 := Kd.F_take (m := ((ji17) : Int).toNat) hC34 (by omega)
     have hy34 : y121.length = ((ji17) : Int).toNat := (by rw [Ny121.out, List.length_take]; omega)
     rw [← Ny121.out] at hr34
     rw [← hy34] at hcut34
     have HO125 := Aside0.mk (show Kd.V k41 41 _ w.heap.size _ (.slice Ao33 y121.length co33) y121 from Kd.V_mk (by omega) hr34)
     have HC125 := Aside0.mk (show y121.length ≤ co33 from by omega)
     clear hr34 hC34 hroom34 hi034 hsz34
     have KY34 := Aside0.mk hy34
     clear hy34
     replace q34 := eq_true q34
     refine start_ (n := 13) (S := fun w' => True) (ds := []) #[N,N,N,N,N,N,N,N,N,N,N,N,N] (by kernel_rfl) rfl rfl trivial (fun hHeld => ?_); refine with_tabW shape_Hull.tab9 shape_Hull.bits9 (fun HT_ HW_ => ?_)
     generalize w29.drew = w30 at HO108 HO111 HO115 HB HO120 HO125 hHeld ⊢
     refine pu 0 33 HT_ ?_
     refine pu 1 34 HT_ ?_
     refine pu 2 35 HT_ ?_
     refine pu 3 36 HT_ ?_
     refine pu 4 37 HT_ ?_
     refine pu 5 38 HT_ ?_
     refine pu 6 39 HT_ ?_
     refine pu 7 40 HT_ ?_
     refine pu 8 41 HT_ ?_
     refine pu 9 42 HT_ ?_
     refine one_ (i := 10) (N := some 43) #[T,T,T,T,T,T,T,T,T,T,T,N,N] rfl rfl (on1 HT_) (by decide) (fun K hK => ?_)
     refine Kd.N_lit_step (Kd.slice 41 k41) _ 22 ?hg (N' := 43) ?hd (xs := ([y116, y121] : List (List (S41)))) (inner := [.slice Ao31 y116.length co31, .slice Ao33 y121.length co33]) (ok := (fun k_ => some k_ ≠ (.slice Ao26 t106.length co26 : Value).ownBlock)) (okp := (fun k_ => some k_ ≠ (.slice Ao26 t106.length co26 : Value).ownBlock)) ?hr ?hp (fun _ hk => hk) ((show ∀ k_, w30.heap.size ≤ k_ → (fun k_ => some k_ ≠ (.slice Ao26 t106.length co26 : Value).ownBlock) k_ from fun k_ hk => Kd.fresh' (Kd.R_lt (ro HO108)) k_ hk) _ (Nat.le_refl _)) (Below.refl _ _) (Nat.le_refl _) (by simp) ?_; (case hd => rfl); (case hg => rfl); (case hr => first | (go_simp; done) | (go_simp; rfl)); (case hp => exact (Reps.one (show Kd.FK (Kd.slice 41 k41) _ _ y116 [.slice Ao31 y116.length co31] from (Kd.FK_slice_mk (Kd.V_reads' (Kd.V_mono (ok' := (fun k_ => some k_ ≠ (.slice Ao26 t106.length co26 : Value).ownBlock)) (HO120.out) (fun k_ hk => hk.1))).2.1 (Kd.V_F (Kd.V_mono (ok' := (fun k_ => some k_ ≠ (.slice Ao26 t106.length co26 : Value).ownBlock)) (HO120.out) (fun k_ hk => hk.1))))) (Reps.one (show Kd.FK (Kd.slice 41 k41) _ _ y121 [.slice Ao33 y121.length co33] from (Kd.FK_slice_mk (Kd.V_reads' (Kd.V_mono (ok' := (fun k_ => some k_ ≠ (.slice Ao26 t106.length co26 : Value).ownBlock)) (HO125.out) (fun k_ hk => hk.1.2))).2.1 (Kd.V_F (Kd.V_mono (ok' := (fun k_ => some k_ ≠ (.slice Ao26 t106.length co26 : Value).ownBlock)) (HO125.out) (fun k_ hk => hk.1.2))))) (Reps.none _ _))))
     intro v127 w35 ho36 hb hg_ hnew_
     clear hg_ hnew_
     (first | rw [← Ny126.out] at ho36 | (simp only [Int.reduceToNat] at ho36; rw [← Ny126.out] at ho36))
     have HO128 := Aside0.mk (Kd.N_lower ho36 (below_size bh))
     replace HO108 := Aside0.mk (Kd.R_below (ro HO108) hb)
     replace HO111 := Aside0.mk (Kd.R_below (ro HO111) hb)
     replace HO115 := Aside0.mk (Kd.R_below (ro HO115) hb)
     replace HO120 := Aside0.mk (Kd.V_elder' (vo HO120) (Kd.N_base ho36) hb)
     replace HO125 := Aside0.mk (Kd.V_elder' (vo HO125) (Kd.N_base ho36) hb)
     replace HB := bz hb
     clear hb ho36
     obtain ⟨Ao37, co37, eo37⟩ := Kd.N_slice HO128.out
     (first | subst eo37 | (injection eo37 with f1_ f2_ f3_; have f4_ := f1_.symm; have f5_ := f3_.symm; clear f1_ f2_ f3_; subst f4_; subst f5_))
     refine hK.out _ _ trivial (fun hHeld => ?_)
     clear hK K
     refine nm 43 ?_
     refine one_ (i := 11) (N := some 44) #[T,T,T,T,T,T,T,T,T,T,T,T,N] rfl rfl (on1 HT_) (by decide) (fun K hK => ?_)
     refine goes_ Try.func95 (by kernel_rfl) rfl #[.slice Ao37 y126.length co37] (by rfl) rfl rfl sg ?_
     with_reducible refine (api_Point_95.calls kj1 _ _ y126 t129 _ ?side1 ?side2 A20.out).mono ?_
     (case side1 => exact cs (Kd.N_reads' HO128.out).2.2)
     (case side2 => exact (Kd.N_reads' HO128.out).2.1)
     rintro e w38 ⟨v130, rfl, ho0, hb⟩
     refine ⟨_, rfl, ?_⟩
     have HO131 := Aside0.mk (Kd.R_lower (Kd.R_new' (Kd.R_new' (Kd.R_new' ho0 (Kd.R_lt (ro HO108))) (Kd.R_lt (ro HO111))) (Kd.R_lt (ro HO115))) (below_size bh))
     replace HO108 := Aside0.mk (Kd.R_elder' (ro HO108) (Kd.R_base ho0) hb)
     replace HO111 := Aside0.mk (Kd.R_elder' (ro HO111) (Kd.R_base ho0) hb)
     replace HO115 := Aside0.mk (Kd.R_elder' (ro HO115) (Kd.R_base ho0) hb)
     replace HO120 := Aside0.mk (Kd.V_elder' (vo HO120) (Kd.R_base ho0) hb)
     replace HO125 := Aside0.mk (Kd.V_elder' (vo HO125) (Kd.R_base ho0) hb)
     replace HO128 := Aside0.mk (Kd.N_elder' (no HO128) (Kd.R_base ho0) hb)
     replace HB := bz hb
     (try clear hb); (try clear ho0)
     refine hK.out _ _ trivial (fun hHeld => ?_)
     clear hK K
     refine nm 44 ?_
     refine pu 12 7 HT_ ?_
     refine done_ (done_of HT_.out (by kernel_rfl)) ?_
     obtain ⟨Ao39, co39, eo39⟩ := Kd.R_slice HO131.out
     subst eo39
     try go_wp2
     go_ret2
     exact ⟨_, by first | rfl | (simp [errW_none, errW_some] <;> rfl) | (simp only [← hji14, ← hji17]; first | rfl | (simp [errW_none, errW_some] <;> rfl)) | (simp [*, errW_none, errW_some] <;> rfl), by first | exact Kd.R_nil _ _ _ _ _ | exact Kd.N_nil _ _ _ _ _ | exact Kd.V_nil _ _ _ _ _ | exact Kd.Q_nil _ _ _ _ _ | exact Kd.S_nil _ _ _ _ _, bh⟩
    ·rw [if_neg c21] at H
     have c21b0 := decide_eq_false c21
     have c21b1 : decide (t129.length < 3) = false := decide_eq_false (by omega)
     clear c21
     replace H := Option.bind_eq_some_iff.mp H
     obtain ⟨t132, A400, H⟩ := H
     replace H : (some (t132, 0)) = some (r1, r2) := H
     have A40 := Aside0.mk A400
     clear A400
     simp only [Option.some.injEq, Prod.mk.injEq] at H
     obtain ⟨rfl, rfl⟩ := H
     try go_wp2_with (first | ((with_reducible refine gc 87 rfl ?_); refine goesL_ (some 22) rfl rfl Try.func87 (by kernel_rfl) rfl #[.slice A0 l0.length c0] rfl sg ?_; (with_reducible refine (slices_Clone.calls _ _ l0 t102 _ ?side1 ?side2 A8.out).mono ?_); (case side1 => exact cs (Kd.C_below HR0.out HB.out)); (case side2 => exact HC0.out); rintro e w41 ⟨v103, rfl, ho0, hb⟩; refine ⟨_, rfl, ?_⟩; have HO104 := Aside0.mk (Kd.R_lower ho0 (below_size bh)); replace HB := bz hb; (try clear hb); (try clear ho0); obtain ⟨Ao42, co42, eo42⟩ := Kd.R_slice HO104.out; subst eo42) | ((with_reducible refine gc 88 rfl ?_); refine goesL_ (some 24) rfl rfl Try.func88 (by kernel_rfl) rfl #[.slice Ao42 t102.length co42, .func (.func 89) #[] #[]] rfl sg ?_; (with_reducible refine (slices_SortFunc_xy.calls (fun k_ => some k_ = (.slice Ao42 t102.length co42 : Value).ownBlock) (.slice Ao42 t102.length co42) t102  t105 w _ ?side1 ?side2 A9.out).mono ?_); (case side1 => repeat (first | (with_reducible first | exact HB.out | apply below_alloc | apply pw_below_drewN | apply below_drew1) | exact HB.out)); (case side2 => exact Kd.R_tight rfl HO104.out); rintro e w43 ⟨rfl, hy0, hb, hkp⟩; refine ⟨_, rfl, ?_⟩; replace HO104 := Aside0.mk (Kd.R_reok rfl hy0 (fun k_ e_ => HO104.out.1 k_ e_)); replace HB := Aside0.mk (hb); (try clear hb); (try clear hkp); (try clear hy0)) | ((with_reducible refine gc 92 rfl ?_); refine goesL_ (some 26) rfl rfl Try.func92 (by kernel_rfl) rfl #[.slice Ao42 t102.length co42] rfl sg ?_; (with_reducible refine (slices_Compact.calls (fun k_ => some k_ = (.slice Ao42 t102.length co42 : Value).ownBlock) (.slice Ao42 t102.length co42) t105 t106 w _ ?side1 ?side2 A10.out).mono ?_); (case side1 => repeat (first | (with_reducible first | exact HB.out | apply below_alloc | apply pw_below_drewN | apply below_drew1) | exact HB.out)); (case side2 => exact Kd.R_tight rfl HO104.out); rintro e w44 ⟨v107, rfl, ho0, hb, hkp⟩; refine ⟨_, rfl, ?_⟩; have HO108 := Aside0.mk (Kd.R_mono (ok' := fun k_ => True) ho0 (fun k_ hk_ => trivial)); replace HB := Aside0.mk (hb); clear HO104; (try clear hb); (try clear hkp); (try clear ho0); obtain ⟨Ao45, co45, eo45⟩ := Kd.R_slice HO108.out; subst eo45) | ((with_reducible refine gc 93 rfl ?_); refine goesL_ (some 28) rfl rfl Try.func93 (by kernel_rfl) rfl #[.slice Ao45 t106.length co45] rfl sg ?_; (with_reducible refine (shape_chain.calls kj1 _ _ t106 t109 _ ?side1 ?side2 A11.out).mono ?_); (case side1 => exact cs (Kd.R_reads' HO108.out).2.2); (case side2 => exact (Kd.R_reads' HO108.out).2.1); rintro e w46 ⟨v110, rfl, ho0, hb⟩; refine ⟨_, rfl, ?_⟩; have HO111 := Aside0.mk (Kd.R_lower (Kd.R_new' ho0 (Kd.R_lt (ro HO108))) (below_size bh)); replace HO108 := Aside0.mk (Kd.R_elder' (ro HO108) (Kd.R_base ho0) hb); replace HB := bz hb; (try clear hb); (try clear ho0)) | ((with_reducible refine gc 94 rfl ?_); refine goesL_ (some 30) rfl rfl Try.func94 (by kernel_rfl) rfl #[.slice Ao45 t106.length co45] rfl sg ?_; (with_reducible refine (slices_Reverse.calls (fun k_ => some k_ = (.slice Ao45 t106.length co45 : Value).ownBlock) (.slice Ao45 t106.length co45) t106 t112 w _ ?side1 ?side2 A12.out).mono ?_); (case side1 => repeat (first | (with_reducible first | exact HB.out | apply below_alloc | apply pw_below_drewN | apply below_drew1) | exact HB.out)); (case side2 => exact Kd.R_tight rfl HO108.out); rintro e w47 ⟨rfl, hy0, hb, hkp⟩; refine ⟨_, rfl, ?_⟩; replace HO108 := Aside0.mk (Kd.R_reok rfl hy0 (fun k_ e_ => HO108.out.1 k_ e_)); replace HO111 := Aside0.mk (Kd.R_mono (ok' := fun k_ => some k_ ≠ (.slice Ao45 t106.length co45 : Value).ownBlock) (Kd.R_keptB (HO111.out) hkp (fun k_ hk_ hs_ => (hk_.2) hs_)) (fun k_ hk_ => hk_.1.2)); replace HB := Aside0.mk (hb); (try clear hb); (try clear hkp); (try clear hy0)) | ((with_reducible refine gc 93 rfl ?_); refine goesL_ (some 32) rfl rfl Try.func93 (by kernel_rfl) rfl #[.slice Ao45 t112.length co45] rfl (by (try simp only [List.map_toArray, List.map_cons, List.map_nil]); first | done | (rw [show t112.length = t106.length from (Kd.R_reads' HO108.out).1.symm] <;> rfl) | rfl | (simp only [List.length_drop, List.length_take]; rfl)) ?_; (with_reducible refine (shape_chain.calls kj1 _ _ t112 t113 _ ?side1 ?side2 A13.out).mono ?_); (case side1 => exact cs (Kd.R_reads' HO108.out).2.2); (case side2 => rw [show t112.length = t106.length from (Kd.R_reads' HO108.out).1.symm]; exact (Kd.R_reads' HO108.out).2.1); rintro e w48 ⟨v114, rfl, ho0, hb⟩; refine ⟨_, rfl, ?_⟩; have HO115 := Aside0.mk (Kd.R_lower (Kd.R_new' (Kd.R_new' ho0 (Kd.R_lt (ro HO108))) (Kd.R_lt (ro HO111))) (below_size bh)); replace HO108 := Aside0.mk (Kd.R_elder' (ro HO108) (Kd.R_base ho0) hb); replace HO111 := Aside0.mk (Kd.R_elder' (ro HO111) (Kd.R_base ho0) hb); replace HB := bz hb; (try clear hb); (try clear ho0)))
     replace HO108 := Aside0.mk (Kd.R_drew HO108.out)
     replace HO111 := Aside0.mk (Kd.R_drew HO111.out)
     replace HO115 := Aside0.mk (Kd.R_drew HO115.out)
     replace HB := Aside0.mk (below_drew1 HB.out)
     obtain ⟨Ao50, co50, eo50⟩ := Kd.R_slice HO111.out
     (first | subst eo50 | (injection eo50 with f1_ f2_ f3_; have f4_ := f1_.symm; have f5_ := f3_.symm; clear f1_ f2_ f3_; subst f4_; subst f5_))
     have q51 : ((ji14) : Int) ≤ ((t109.length : Int) : Int) := dt
     obtain ⟨i051, hi051, _, hsz51, _⟩ := info_parts info41
     have hroom51 : t109.length ≤ co50 := (Kd.R_reads' HO111.out).2.1
     have hC51 : Kd.F k41 _ _ Ao50 t109.length t109 := (Kd.V_at (base := w.heap.size) (Kd.R_V HO111.out)).2.2
     have hcut51 := cut_to (P := Try.prog) 22 41 .i64 Try.underlying22 hi051 Ao50 t109.length co50 (ji14) (dt) q51 hroom51
     have hr51 := Kd.F_take (m := ((ji14) : Int).toNat) hC51 (by omega)
     have hy51 : y116.length = ((ji14) : Int).toNat := (by rw [Ny116.out, List.length_take]; omega)
     rw [← Ny116.out] at hr51
     rw [← hy51] at hcut51
     have HO120 := Aside0.mk (show Kd.V k41 41 _ w.heap.size _ (.slice Ao50 y116.length co50) y116 from Kd.V_mk (by omega) hr51)
     have HC120 := Aside0.mk (show y116.length ≤ co50 from by omega)
     clear hr51 hC51 hroom51 hi051 hsz51
     have KY51 := Aside0.mk hy51
     clear hy51
     replace q51 := eq_true q51
     obtain ⟨Ao52, co52, eo52⟩ := Kd.R_slice HO115.out
     (first | subst eo52 | (injection eo52 with f1_ f2_ f3_; have f4_ := f1_.symm; have f5_ := f3_.symm; clear f1_ f2_ f3_; subst f4_; subst f5_))
     have q53 : ((ji17) : Int) ≤ ((t113.length : Int) : Int) := dt
     obtain ⟨i053, hi053, _, hsz53, _⟩ := info_parts info41
     have hroom53 : t113.length ≤ co52 := (Kd.R_reads' HO115.out).2.1
     have hC53 : Kd.F k41 _ _ Ao52 t113.length t113 := (Kd.V_at (base := w.heap.size) (Kd.R_V HO115.out)).2.2
     have hcut53 := cut_to (P := Try.prog) 22 41 .i64 Try.underlying22 hi053 Ao52 t113.length co52 (ji17) (dt) q53 hroom53
     have hr53 := Kd.F_take (m := ((ji17) : Int).toNat) hC53 (by omega)
     have hy53 : y121.length = ((ji17) : Int).toNat := (by rw [Ny121.out, List.length_take]; omega)
     rw [← Ny121.out] at hr53
     rw [← hy53] at hcut53
     have HO125 := Aside0.mk (show Kd.V k41 41 _ w.heap.size _ (.slice Ao52 y121.length co52) y121 from Kd.V_mk (by omega) hr53)
     have HC125 := Aside0.mk (show y121.length ≤ co52 from by omega)
     clear hr53 hC53 hroom53 hi053 hsz53
     have KY53 := Aside0.mk hy53
     clear hy53
     replace q53 := eq_true q53
     refine start_ (n := 13) (S := fun w' => True) (ds := []) #[N,N,N,N,N,N,N,N,N,N,N,N,N] (by kernel_rfl) rfl rfl trivial (fun hHeld => ?_); refine with_tabW shape_Hull.tab9 shape_Hull.bits9 (fun HT_ HW_ => ?_)
     generalize w48.drew = w49 at HO108 HO111 HO115 HB HO120 HO125 hHeld ⊢
     refine pu 0 33 HT_ ?_
     refine pu 1 34 HT_ ?_
     refine pu 2 35 HT_ ?_
     refine pu 3 36 HT_ ?_
     refine pu 4 37 HT_ ?_
     refine pu 5 38 HT_ ?_
     refine pu 6 39 HT_ ?_
     refine pu 7 40 HT_ ?_
     refine pu 8 41 HT_ ?_
     refine pu 9 42 HT_ ?_
     refine one_ (i := 10) (N := some 43) #[T,T,T,T,T,T,T,T,T,T,T,N,N] rfl rfl (on1 HT_) (by decide) (fun K hK => ?_)
     refine Kd.N_lit_step (Kd.slice 41 k41) _ 22 ?hg (N' := 43) ?hd (xs := ([y116, y121] : List (List (S41)))) (inner := [.slice Ao50 y116.length co50, .slice Ao52 y121.length co52]) (ok := (fun k_ => some k_ ≠ (.slice Ao45 t106.length co45 : Value).ownBlock)) (okp := (fun k_ => some k_ ≠ (.slice Ao45 t106.length co45 : Value).ownBlock)) ?hr ?hp (fun _ hk => hk) ((show ∀ k_, w49.heap.size ≤ k_ → (fun k_ => some k_ ≠ (.slice Ao45 t106.length co45 : Value).ownBlock) k_ from fun k_ hk => Kd.fresh' (Kd.R_lt (ro HO108)) k_ hk) _ (Nat.le_refl _)) (Below.refl _ _) (Nat.le_refl _) (by simp) ?_; (case hd => rfl); (case hg => rfl); (case hr => first | (go_simp; done) | (go_simp; rfl)); (case hp => exact (Reps.one (show Kd.FK (Kd.slice 41 k41) _ _ y116 [.slice Ao50 y116.length co50] from (Kd.FK_slice_mk (Kd.V_reads' (Kd.V_mono (ok' := (fun k_ => some k_ ≠ (.slice Ao45 t106.length co45 : Value).ownBlock)) (HO120.out) (fun k_ hk => hk.1))).2.1 (Kd.V_F (Kd.V_mono (ok' := (fun k_ => some k_ ≠ (.slice Ao45 t106.length co45 : Value).ownBlock)) (HO120.out) (fun k_ hk => hk.1))))) (Reps.one (show Kd.FK (Kd.slice 41 k41) _ _ y121 [.slice Ao52 y121.length co52] from (Kd.FK_slice_mk (Kd.V_reads' (Kd.V_mono (ok' := (fun k_ => some k_ ≠ (.slice Ao45 t106.length co45 : Value).ownBlock)) (HO125.out) (fun k_ hk => hk.1.2))).2.1 (Kd.V_F (Kd.V_mono (ok' := (fun k_ => some k_ ≠ (.slice Ao45 t106.length co45 : Value).ownBlock)) (HO125.out) (fun k_ hk => hk.1.2))))) (Reps.none _ _))))
     intro v127 w54 ho55 hb hg_ hnew_
     clear hg_ hnew_
     (first | rw [← Ny126.out] at ho55 | (simp only [Int.reduceToNat] at ho55; rw [← Ny126.out] at ho55))
     have HO128 := Aside0.mk (Kd.N_lower ho55 (below_size bh))
     replace HO108 := Aside0.mk (Kd.R_below (ro HO108) hb)
     replace HO111 := Aside0.mk (Kd.R_below (ro HO111) hb)
     replace HO115 := Aside0.mk (Kd.R_below (ro HO115) hb)
     replace HO120 := Aside0.mk (Kd.V_elder' (vo HO120) (Kd.N_base ho55) hb)
     replace HO125 := Aside0.mk (Kd.V_elder' (vo HO125) (Kd.N_base ho55) hb)
     replace HB := bz hb
     clear hb ho55
     obtain ⟨Ao56, co56, eo56⟩ := Kd.N_slice HO128.out
     (first | subst eo56 | (injection eo56 with f1_ f2_ f3_; have f4_ := f1_.symm; have f5_ := f3_.symm; clear f1_ f2_ f3_; subst f4_; subst f5_))
     refine hK.out _ _ trivial (fun hHeld => ?_)
     clear hK K
     refine nm 43 ?_
     refine one_ (i := 11) (N := some 44) #[T,T,T,T,T,T,T,T,T,T,T,T,N] rfl rfl (on1 HT_) (by decide) (fun K hK => ?_)
     refine goes_ Try.func95 (by kernel_rfl) rfl #[.slice Ao56 y126.length co56] (by rfl) rfl rfl sg ?_
     with_reducible refine (api_Point_95.calls kj1 _ _ y126 t129 _ ?side1 ?side2 A20.out).mono ?_
     (case side1 => exact cs (Kd.N_reads' HO128.out).2.2)
     (case side2 => exact (Kd.N_reads' HO128.out).2.1)
     rintro e w57 ⟨v130, rfl, ho0, hb⟩
     refine ⟨_, rfl, ?_⟩
     have HO131 := Aside0.mk (Kd.R_lower (Kd.R_new' (Kd.R_new' (Kd.R_new' ho0 (Kd.R_lt (ro HO108))) (Kd.R_lt (ro HO111))) (Kd.R_lt (ro HO115))) (below_size bh))
     replace HO108 := Aside0.mk (Kd.R_elder' (ro HO108) (Kd.R_base ho0) hb)
     replace HO111 := Aside0.mk (Kd.R_elder' (ro HO111) (Kd.R_base ho0) hb)
     replace HO115 := Aside0.mk (Kd.R_elder' (ro HO115) (Kd.R_base ho0) hb)
     replace HO120 := Aside0.mk (Kd.V_elder' (vo HO120) (Kd.R_base ho0) hb)
     replace HO125 := Aside0.mk (Kd.V_elder' (vo HO125) (Kd.R_base ho0) hb)
     replace HO128 := Aside0.mk (Kd.N_elder' (no HO128) (Kd.R_base ho0) hb)
     replace HB := bz hb
     (try clear hb); (try clear ho0)
     refine hK.out _ _ trivial (fun hHeld => ?_)
     clear hK K
     refine nm 44 ?_
     refine pu 12 7 HT_ ?_
     refine done_ (done_of HT_.out (by kernel_rfl)) ?_
     obtain ⟨Ao58, co58, eo58⟩ := Kd.R_slice HO131.out
     subst eo58
     try go_wp2_with (first | ((with_reducible refine gc 96 rfl ?_); refine goesL_ (some 49) rfl rfl Try.func96 (by kernel_rfl) rfl #[.slice Ao58 t129.length co58] rfl sg ?_; (with_reducible refine (shape_begun.calls kj1 (fun k_ => some k_ = (.slice Ao58 t129.length co58 : Value).ownBlock) _ _ t129 t132 _ ?side1 A40.out).mono ?_); (case side1 => exact Kd.R_V (Kd.R_tight rfl (Kd.R_apart' (HO131.out) (Kd.N_typed HO128.out) (by decide)))); rintro e w59 ⟨v133, rfl, ho0, hb⟩; refine ⟨_, rfl, ?_⟩; have HO134 := Aside0.mk (Kd.R_lower (Kd.R_new' (Kd.R_new' (Kd.R_new' (Kd.R_new' (Kd.R_mono (ok' := fun k_ => True) ho0 (fun _ hk_ => trivial)) (Kd.R_lt (ro HO108))) (Kd.R_lt (ro HO111))) (Kd.R_lt (ro HO115))) (Kd.R_lt (ro HO131))) (below_size bh)); replace HO108 := Aside0.mk (Kd.R_elder' (ro HO108) (Kd.R_base ho0) hb); replace HO111 := Aside0.mk (Kd.R_elder' (ro HO111) (Kd.R_base ho0) hb); replace HO115 := Aside0.mk (Kd.R_elder' (ro HO115) (Kd.R_base ho0) hb); replace HO120 := Aside0.mk (Kd.V_elder' (vo HO120) (Kd.R_base ho0) hb); replace HO125 := Aside0.mk (Kd.V_elder' (vo HO125) (Kd.R_base ho0) hb); replace HO128 := Aside0.mk (Kd.N_elder' (no HO128) (Kd.R_base ho0) hb); replace HO131 := Aside0.mk (Kd.R_elder' (ro HO131) (Kd.R_base ho0) hb); replace HB := bz hb; (try clear hb); (try clear ho0)))
     go_ret2
     exact ⟨_, by first | rfl | (simp [errW_none, errW_some] <;> rfl) | (simp only [← hji14, ← hji17]; first | rfl | (simp [errW_none, errW_some] <;> rfl)) | (simp [*, errW_none, errW_some] <;> rfl), by (with_reducible repeat (first | apply Kd.R_alloc | apply Kd.R_drewN | apply Kd.R_drew)); exact Kd.R_mono HO134.out (fun _ hk => trivial), bh⟩
/-! ### cracknellaw04_lives: function 12 -/
def cracknellaw04_lives.f (k : Nat)  : Option (Bool) := (some (([(⟨0, 0⟩ : S41), (⟨2, 0⟩ : S41), (⟨2, 2⟩ : S41), (⟨0, 2⟩ : S41)] : List (S41)) : List (S41))).bind fun y101 => ((shape_Area2.f k y101).bind fun bt104 => ((shape_Lattice.f k y101).bind fun bt106 => ((shape_Hull.f k (([(⟨0, 0⟩ : S41), (⟨1, 0⟩ : S41), (⟨2, 0⟩ : S41), (⟨0, 2⟩ : S41), (⟨1, 1⟩ : S41)] : List (S41)))).bind fun bt112 => (if bt104.1 = 8 then (if bt104.2 = 0 then (if bt106.1 = 1 then (if bt106.2.1 = 8 then (if bt106.2.2 = 0 then (if bt112.2 = 0 then ((cracknelref04_Same.f k bt112.1 (([(⟨0, 0⟩ : S41), (⟨2, 0⟩ : S41), (⟨0, 2⟩ : S41)] : List (S41)))).bind fun t119 => (some t119)) else (some false)) else (some false)) else (some false)) else (some false)) else (some false)) else (some false)))))
set_option maxHeartbeats 8000000 in
set_option maxRecDepth 100000 in
theorem cracknellaw04_lives.calls (k : Nat)  (r : Bool) (w : World) (h : cracknellaw04_lives.f k  = some r) (hr : r = true) :
  Calls Try.prog 12 #[] w fun e w' => e = .returned (.bool r) ∧ Below w.heap.size w w' := by
 have hu41 := Try.underlying41
 have HB := Aside0.mk (Below.refl w.heap.size w)
 have H : ((some (([(⟨0, 0⟩ : S41), (⟨2, 0⟩ : S41), (⟨2, 2⟩ : S41), (⟨0, 2⟩ : S41)] : List (S41)) : List (S41))).bind fun y101 => ((shape_Area2.f k y101).bind fun bt104 => ((shape_Lattice.f k y101).bind fun bt106 => ((shape_Hull.f k (([(⟨0, 0⟩ : S41), (⟨1, 0⟩ : S41), (⟨2, 0⟩ : S41), (⟨0, 2⟩ : S41), (⟨1, 1⟩ : S41)] : List (S41)))).bind fun bt112 => (if bt104.1 = 8 then (if bt104.2 = 0 then (if bt106.1 = 1 then (if bt106.2.1 = 8 then (if bt106.2.2 = 0 then (if bt112.2 = 0 then ((cracknelref04_Same.f k bt112.1 (([(⟨0, 0⟩ : S41), (⟨2, 0⟩ : S41), (⟨0, 2⟩ : S41)] : List (S41)))).bind fun t119 => (some t119)) else (some false)) else (some false)) else (some false)) else (some false)) else (some false)) else (some false)))))) = some r := h
 clear h
 obtain ⟨y101, hy101⟩ : ∃ y_ : List (S41), y_ = (([(⟨0, 0⟩ : S41), (⟨2, 0⟩ : S41), (⟨2, 2⟩ : S41), (⟨0, 2⟩ : S41)] : List (S41))) := ⟨_, rfl⟩
 replace H : ((shape_Area2.f k y101).bind fun bt104 => ((shape_Lattice.f k y101).bind fun bt106 => ((shape_Hull.f k (([(⟨0, 0⟩ : S41), (⟨1, 0⟩ : S41), (⟨2, 0⟩ : S41), (⟨0, 2⟩ : S41), (⟨1, 1⟩ : S41)] : List (S41)))).bind fun bt112 => (if bt104.1 = 8 then (if bt104.2 = 0 then (if bt106.1 = 1 then (if bt106.2.1 = 8 then (if bt106.2.2 = 0 then (if bt112.2 = 0 then ((cracknelref04_Same.f k bt112.1 (([(⟨0, 0⟩ : S41), (⟨2, 0⟩ : S41), (⟨0, 2⟩ : S41)] : List (S41)))).bind fun t119 => (some t119)) else (some false)) else (some false)) else (some false)) else (some false)) else (some false)) else (some false))))) = some r := by first | (rw [hy101]; with_reducible exact H) | (have H2_ := (Option.bind_some _ _).symm.trans H; rw [hy101]; with_reducible exact H2_) | (have H2_ := (Option.bind_some _ _).symm.trans H; with_reducible exact H2_) | with_reducible exact H | (rw [hy101]; exact H) | exact H
 have Ny101 := Aside0.mk hy101
 clear hy101
 replace H := Option.bind_eq_some_iff.mp H
 obtain ⟨⟨t104, t105⟩, A10, H⟩ := H
 try dsimp only at H
 have A1 := Aside0.mk A10
 clear A10
 replace H := Option.bind_eq_some_iff.mp H
 obtain ⟨⟨t106, t107, t108⟩, A20, H⟩ := H
 try dsimp only at H
 have A2 := Aside0.mk A20
 clear A20
 obtain ⟨y109, hy109⟩ : ∃ y_ : List (S41), y_ = (([(⟨0, 0⟩ : S41), (⟨1, 0⟩ : S41), (⟨2, 0⟩ : S41), (⟨0, 2⟩ : S41), (⟨1, 1⟩ : S41)] : List (S41))) := ⟨_, rfl⟩
 replace H : ((shape_Hull.f k y109).bind fun bt112 => (if t104 = 8 then (if t105 = 0 then (if t106 = 1 then (if t107 = 8 then (if t108 = 0 then (if bt112.2 = 0 then ((cracknelref04_Same.f k bt112.1 (([(⟨0, 0⟩ : S41), (⟨2, 0⟩ : S41), (⟨0, 2⟩ : S41)] : List (S41)))).bind fun t119 => (some t119)) else (some false)) else (some false)) else (some false)) else (some false)) else (some false)) else (some false))) = some r := by first | (rw [hy109]; with_reducible exact H) | (have H2_ := (Option.bind_some _ _).symm.trans H; rw [hy109]; with_reducible exact H2_) | (have H2_ := (Option.bind_some _ _).symm.trans H; with_reducible exact H2_) | with_reducible exact H | (rw [hy109]; exact H) | exact H
 have Ny109 := Aside0.mk hy109
 clear hy109
 replace H := Option.bind_eq_some_iff.mp H
 obtain ⟨⟨t112, t113⟩, A30, H⟩ := H
 try dsimp only at H
 have A3 := Aside0.mk A30
 clear A30
 by_cases c4 : t104 = 8
 ·rw [if_pos c4] at H
  have c4b0 : (t104 == 8) = true := beq_iff_eq.mpr c4
  have c4b1 : (t104 != 8) = false := bne_eq_false_iff_eq.mpr c4
  clear c4
  by_cases c5 : t105 = 0
  ·rw [if_pos c5] at H
   have c5b0 : (t105 == 0) = true := beq_iff_eq.mpr c5
   have c5b1 : (t105 != 0) = false := bne_eq_false_iff_eq.mpr c5
   clear c5
   by_cases c6 : t106 = 1
   ·rw [if_pos c6] at H
    have c6b0 : (t106 == 1) = true := beq_iff_eq.mpr c6
    have c6b1 : (t106 != 1) = false := bne_eq_false_iff_eq.mpr c6
    clear c6
    by_cases c7 : t107 = 8
    ·rw [if_pos c7] at H
     have c7b0 : (t107 == 8) = true := beq_iff_eq.mpr c7
     have c7b1 : (t107 != 8) = false := bne_eq_false_iff_eq.mpr c7
     clear c7
     by_cases c8 : t108 = 0
     ·rw [if_pos c8] at H
      have c8b0 : (t108 == 0) = true := beq_iff_eq.mpr c8
      have c8b1 : (t108 != 0) = false := bne_eq_false_iff_eq.mpr c8
      clear c8
      by_cases c9 : t113 = 0
      ·rw [if_pos c9] at H
       have c9b0 : (t113 == 0) = true := beq_iff_eq.mpr c9
       have c9b1 : (t113 != 0) = false := bne_eq_false_iff_eq.mpr c9
       clear c9
       obtain ⟨y116, hy116⟩ : ∃ y_ : List (S41), y_ = (([(⟨0, 0⟩ : S41), (⟨2, 0⟩ : S41), (⟨0, 2⟩ : S41)] : List (S41))) := ⟨_, rfl⟩
       replace H : ((cracknelref04_Same.f k t112 y116).bind fun t119 => (some t119)) = some r := by first | (rw [hy116]; with_reducible exact H) | (have H2_ := (Option.bind_some _ _).symm.trans H; rw [hy116]; with_reducible exact H2_) | (have H2_ := (Option.bind_some _ _).symm.trans H; with_reducible exact H2_) | with_reducible exact H | (rw [hy116]; exact H) | exact H
       have Ny116 := Aside0.mk hy116
       clear hy116
       replace H := Option.bind_eq_some_iff.mp H
       obtain ⟨t119, A100, H⟩ := H
       try dsimp only at H
       have A10 := Aside0.mk A100
       clear A100
       obtain rfl := Option.some.inj H
       go_enter Try.func12, Try.ntmps12
       go_wp2_with (first | ((with_reducible refine gate_dst (N := 13) rfl ?_); (try (refine gate_guard (by rfl) ?_; dsimp only)); refine Kd.R_lit k41 _ 41 ?hg (N := 13) ?hd (xs := ([(⟨0, 0⟩ : S41), (⟨2, 0⟩ : S41), (⟨2, 2⟩ : S41), (⟨0, 2⟩ : S41)] : List (S41))) (inner := [.int .i64 0, .int .i64 0, .int .i64 2, .int .i64 0, .int .i64 2, .int .i64 2, .int .i64 0, .int .i64 2]) (ok := fun _ => True) (okp := fun _ => True) ?hr ?hp (fun _ hk => hk) trivial (Below.refl _ _) (Nat.le_refl _) (by simp) ?_; (case hd => rfl); (case hg => rfl); (case hr => first | (go_simp; done) | (go_simp; rfl)); (case hp => exact (Reps.c2 (k41_mkM _ _ _ (⟨0, 0⟩ : S41)) (Reps.c2 (k41_mkM _ _ _ (⟨2, 0⟩ : S41)) (Reps.c2 (k41_mkM _ _ _ (⟨2, 2⟩ : S41)) (Reps.c2 (k41_mkM _ _ _ (⟨0, 2⟩ : S41)) (Reps.none _ _)))))); intro v102 w11 ho12 hb hg_ hnew_; clear hg_ hnew_; (first | rw [← Ny101.out] at ho12 | (simp only [Int.reduceToNat] at ho12; rw [← Ny101.out] at ho12)); have HO103 := Aside0.mk (Kd.R_lower ho12 (below_size bh)); replace HB := bz hb; clear hb ho12; obtain ⟨Ao13, co13, eo13⟩ := Kd.R_slice HO103.out; subst eo13) | ((with_reducible refine gc 29 rfl ?_); refine goesL_ (some 16) rfl rfl Try.func29 (by kernel_rfl) rfl #[.slice Ao13 y101.length co13] rfl sg ?_; (with_reducible refine (shape_Area2.calls k _ _ y101 t104 t105 _ ?side1 ?side2 A1.out).mono ?_); (case side1 => exact cs (Kd.R_reads' HO103.out).2.2); (case side2 => exact (Kd.R_reads' HO103.out).2.1); rintro e w14 ⟨rfl, hb⟩; refine ⟨_, rfl, ?_⟩; replace HO103 := Aside0.mk (Kd.R_below (ro HO103) hb); replace HB := bz hb; (try clear hb)) | ((with_reducible refine gc 23 rfl ?_); refine goesL_ (some 21) rfl rfl Try.func23 (by kernel_rfl) rfl #[.slice Ao13 y101.length co13] rfl sg ?_; (with_reducible refine (shape_Lattice.calls k _ _ y101 t106 t107 t108 _ ?side1 ?side2 A2.out).mono ?_); (case side1 => exact cs (Kd.R_reads' HO103.out).2.2); (case side2 => exact (Kd.R_reads' HO103.out).2.1); rintro e w15 ⟨rfl, hb⟩; refine ⟨_, rfl, ?_⟩; replace HO103 := Aside0.mk (Kd.R_below (ro HO103) hb); replace HB := bz hb; (try clear hb)) | ((with_reducible refine gate_dst (N := 31) rfl ?_); (try (refine gate_guard (by rfl) ?_; dsimp only)); refine Kd.R_lit k41 _ 41 ?hg (N := 31) ?hd (xs := ([(⟨0, 0⟩ : S41), (⟨1, 0⟩ : S41), (⟨2, 0⟩ : S41), (⟨0, 2⟩ : S41), (⟨1, 1⟩ : S41)] : List (S41))) (inner := [.int .i64 0, .int .i64 0, .int .i64 1, .int .i64 0, .int .i64 2, .int .i64 0, .int .i64 0, .int .i64 2, .int .i64 1, .int .i64 1]) (ok := fun _ => True) (okp := fun _ => True) ?hr ?hp (fun _ hk => hk) trivial (Below.refl _ _) (Nat.le_refl _) (by simp) ?_; (case hd => rfl); (case hg => rfl); (case hr => first | (go_simp; done) | (go_simp; rfl)); (case hp => exact (Reps.c2 (k41_mkM _ _ _ (⟨0, 0⟩ : S41)) (Reps.c2 (k41_mkM _ _ _ (⟨1, 0⟩ : S41)) (Reps.c2 (k41_mkM _ _ _ (⟨2, 0⟩ : S41)) (Reps.c2 (k41_mkM _ _ _ (⟨0, 2⟩ : S41)) (Reps.c2 (k41_mkM _ _ _ (⟨1, 1⟩ : S41)) (Reps.none _ _))))))); intro v110 w16 ho17 hb hg_ hnew_; clear hg_ hnew_; (first | rw [← Ny109.out] at ho17 | (simp only [Int.reduceToNat] at ho17; rw [← Ny109.out] at ho17)); have HO111 := Aside0.mk (Kd.R_lower (Kd.R_new' ho17 (Kd.R_lt (ro HO103))) (below_size bh)); replace HO103 := Aside0.mk (Kd.R_elder' (ro HO103) (Kd.R_base ho17) hb); replace HB := bz hb; clear hb ho17; obtain ⟨Ao18, co18, eo18⟩ := Kd.R_slice HO111.out; subst eo18) | ((with_reducible refine gc 40 rfl ?_); refine goesL_ (some 32) rfl rfl Try.func40 (by kernel_rfl) rfl #[.slice Ao18 y109.length co18] rfl sg ?_; (with_reducible refine (shape_Hull.calls k _ _ y109 t112 t113 _ ?side1 ?side2 A3.out).mono ?_); (case side1 => exact cs (Kd.R_reads' HO111.out).2.2); (case side2 => exact (Kd.R_reads' HO111.out).2.1); rintro e w19 ⟨v114, rfl, ho0, hb⟩; refine ⟨_, rfl, ?_⟩; have HO115 := Aside0.mk (Kd.R_lower (Kd.R_new' (Kd.R_new' ho0 (Kd.R_lt (ro HO103))) (Kd.R_lt (ro HO111))) (below_size bh)); replace HO103 := Aside0.mk (Kd.R_elder' (ro HO103) (Kd.R_base ho0) hb); replace HO111 := Aside0.mk (Kd.R_elder' (ro HO111) (Kd.R_base ho0) hb); replace HB := bz hb; (try clear hb); (try clear ho0)) | ((with_reducible refine gate_dst (N := 62) rfl ?_); (try (refine gate_guard (by rfl) ?_; dsimp only)); refine Kd.R_lit k41 _ 41 ?hg (N := 62) ?hd (xs := ([(⟨0, 0⟩ : S41), (⟨2, 0⟩ : S41), (⟨0, 2⟩ : S41)] : List (S41))) (inner := [.int .i64 0, .int .i64 0, .int .i64 2, .int .i64 0, .int .i64 0, .int .i64 2]) (ok := fun _ => True) (okp := fun _ => True) ?hr ?hp (fun _ hk => hk) trivial (Below.refl _ _) (Nat.le_refl _) (by simp) ?_; (case hd => rfl); (case hg => rfl); (case hr => first | (go_simp; done) | (go_simp; rfl)); (case hp => exact (Reps.c2 (k41_mkM _ _ _ (⟨0, 0⟩ : S41)) (Reps.c2 (k41_mkM _ _ _ (⟨2, 0⟩ : S41)) (Reps.c2 (k41_mkM _ _ _ (⟨0, 2⟩ : S41)) (Reps.none _ _))))); intro v117 w20 ho21 hb hg_ hnew_; clear hg_ hnew_; (first | rw [← Ny116.out] at ho21 | (simp only [Int.reduceToNat] at ho21; rw [← Ny116.out] at ho21)); have HO118 := Aside0.mk (Kd.R_lower (Kd.R_new' (Kd.R_new' (Kd.R_new' ho21 (Kd.R_lt (ro HO103))) (Kd.R_lt (ro HO111))) (Kd.R_lt (ro HO115))) (below_size bh)); replace HO103 := Aside0.mk (Kd.R_elder' (ro HO103) (Kd.R_base ho21) hb); replace HO111 := Aside0.mk (Kd.R_elder' (ro HO111) (Kd.R_base ho21) hb); replace HO115 := Aside0.mk (Kd.R_elder' (ro HO115) (Kd.R_base ho21) hb); replace HB := bz hb; clear hb ho21; obtain ⟨Ao22, co22, eo22⟩ := Kd.R_slice HO115.out; subst eo22; obtain ⟨Ao23, co23, eo23⟩ := Kd.R_slice HO118.out; subst eo23) | (go_at_call 41; (with_reducible refine (cracknelref04_Same.calls k _ _ t112 _ _ y116 t119 _ ?side1 ?side2 ?side3 ?side4 A10.out).mono ?_); (case side1 => exact cs (Kd.R_reads' HO115.out).2.2); (case side2 => exact (Kd.R_reads' HO115.out).2.1); (case side3 => exact cs (Kd.R_reads' HO118.out).2.2); (case side4 => exact (Kd.R_reads' HO118.out).2.1); rintro e w' ⟨rfl, ⟨nd, rfl⟩⟩))
       go_ret
       exact ⟨by exact er, bh⟩
      ·rw [if_neg c9] at H
       have c9b0 : (t113 == 0) = false := beq_eq_false_iff_ne.mpr c9
       have c9b1 : (t113 != 0) = true := bne_iff_ne.mpr c9
       obtain rfl := Option.some.inj H
       cases hr
     ·rw [if_neg c8] at H
      have c8b0 : (t108 == 0) = false := beq_eq_false_iff_ne.mpr c8
      have c8b1 : (t108 != 0) = true := bne_iff_ne.mpr c8
      obtain rfl := Option.some.inj H
      cases hr
    ·rw [if_neg c7] at H
     have c7b0 : (t107 == 8) = false := beq_eq_false_iff_ne.mpr c7
     have c7b1 : (t107 != 8) = true := bne_iff_ne.mpr c7
     obtain rfl := Option.some.inj H
     cases hr
   ·rw [if_neg c6] at H
    have c6b0 : (t106 == 1) = false := beq_eq_false_iff_ne.mpr c6
    have c6b1 : (t106 != 1) = true := bne_iff_ne.mpr c6
    obtain rfl := Option.some.inj H
    cases hr
  ·rw [if_neg c5] at H
   have c5b0 : (t105 == 0) = false := beq_eq_false_iff_ne.mpr c5
   have c5b1 : (t105 != 0) = true := bne_iff_ne.mpr c5
   obtain rfl := Option.some.inj H
   cases hr
 ·rw [if_neg c4] at H
  have c4b0 : (t104 == 8) = false := beq_eq_false_iff_ne.mpr c4
  have c4b1 : (t104 != 8) = true := bne_iff_ne.mpr c4
  obtain rfl := Option.some.inj H
  cases hr
/-! ### cracknellaw04_ShapeLattices: function 6 -/
def cracknellaw04_ShapeLattices.f (k : Nat) (l0 : List (S41)) : Option (Bool) := (cracknellaw04_cut.f l0 12).bind fun t101 => ((shape_Lattice.f k t101).bind fun bt104 => ((cracknellaw04_simple.f k t101).bind fun t107 => (if t107 = 0 then ((cracknellaw04_small.f k t101).bind fun t109 => (if t109 = true then ((cracknelref04_Lattice.f k t101).bind fun bt111 => (if bt104.1 = bt111.1 then (if bt104.2.1 = bt111.2 then (if bt104.2.2 = 0 then ((cracknellaw04_lives.f k).bind fun t113 => (some t113)) else (some false)) else (some false)) else (some false))) else (if bt104.2.2 = 0 then ((cracknellaw04_lives.f k).bind fun t110 => (some t110)) else (some false)))) else (if bt104.1 = 0 then (if bt104.2.1 = 0 then (if bt104.2.2 = t107 then ((cracknellaw04_lives.f k).bind fun t108 => (some t108)) else (some false)) else (some false)) else (some false)))))
set_option maxHeartbeats 8000000 in
set_option maxRecDepth 100000 in
theorem cracknellaw04_ShapeLattices.calls (k : Nat) (A0 : Option Addr) (c0 : Nat) (l0 : List (S41)) (r : Bool) (w : World) (hr0 : Kd.C k41 w A0 l0.length l0) (hc0 : l0.length ≤ c0) (h : cracknellaw04_ShapeLattices.f k l0 = some r) (hr : r = true) :
  Calls Try.prog 6 #[.slice A0 l0.length c0] w fun e w' => e = .returned (.bool r) ∧ Below w.heap.size w w' := by
 have HR0 := Aside0.mk hr0
 have HC0 := Aside0.mk hc0
 clear hr0 hc0
 have HB := Aside0.mk (Below.refl w.heap.size w)
 have H : ((cracknellaw04_cut.f l0 12).bind fun t101 => ((shape_Lattice.f k t101).bind fun bt104 => ((cracknellaw04_simple.f k t101).bind fun t107 => (if t107 = 0 then ((cracknellaw04_small.f k t101).bind fun t109 => (if t109 = true then ((cracknelref04_Lattice.f k t101).bind fun bt111 => (if bt104.1 = bt111.1 then (if bt104.2.1 = bt111.2 then (if bt104.2.2 = 0 then ((cracknellaw04_lives.f k).bind fun t113 => (some t113)) else (some false)) else (some false)) else (some false))) else (if bt104.2.2 = 0 then ((cracknellaw04_lives.f k).bind fun t110 => (some t110)) else (some false)))) else (if bt104.1 = 0 then (if bt104.2.1 = 0 then (if bt104.2.2 = t107 then ((cracknellaw04_lives.f k).bind fun t108 => (some t108)) else (some false)) else (some false)) else (some false)))))) = some r := h
 clear h
 replace H := Option.bind_eq_some_iff.mp H
 obtain ⟨t101, A20, H⟩ := H
 try dsimp only at H
 have A2 := Aside0.mk A20
 clear A20
 replace H := Option.bind_eq_some_iff.mp H
 obtain ⟨⟨t104, t105, t106⟩, A30, H⟩ := H
 try dsimp only at H
 have A3 := Aside0.mk A30
 clear A30
 replace H := Option.bind_eq_some_iff.mp H
 obtain ⟨t107, A40, H⟩ := H
 try dsimp only at H
 have A4 := Aside0.mk A40
 clear A40
 by_cases c5 : t107 = 0
 ·rw [if_pos c5] at H
  have c5b0 : (t107 == 0) = true := beq_iff_eq.mpr c5
  have c5b1 : (t107 != 0) = false := bne_eq_false_iff_eq.mpr c5
  clear c5
  replace H := Option.bind_eq_some_iff.mp H
  obtain ⟨t109, A60, H⟩ := H
  try dsimp only at H
  have A6 := Aside0.mk A60
  clear A60
  by_cases c7 : t109 = true
  ·subst c7
   rw [if_pos rfl] at H
   replace H := Option.bind_eq_some_iff.mp H
   obtain ⟨⟨t111, t112⟩, A80, H⟩ := H
   try dsimp only at H
   have A8 := Aside0.mk A80
   clear A80
   by_cases c9 : t104 = t111
   ·rw [if_pos c9] at H
    have c9b0 : (t104 == t111) = true := beq_iff_eq.mpr c9
    have c9b1 : (t104 != t111) = false := bne_eq_false_iff_eq.mpr c9
    clear c9
    by_cases c10 : t105 = t112
    ·rw [if_pos c10] at H
     have c10b0 : (t105 == t112) = true := beq_iff_eq.mpr c10
     have c10b1 : (t105 != t112) = false := bne_eq_false_iff_eq.mpr c10
     clear c10
     by_cases c11 : t106 = 0
     ·rw [if_pos c11] at H
      have c11b0 : (t106 == 0) = true := beq_iff_eq.mpr c11
      have c11b1 : (t106 != 0) = false := bne_eq_false_iff_eq.mpr c11
      clear c11
      replace H := Option.bind_eq_some_iff.mp H
      obtain ⟨t113, A120, H⟩ := H
      try dsimp only at H
      have A12 := Aside0.mk A120
      clear A120
      obtain rfl := Option.some.inj H
      go_enter Try.func6, Try.ntmps6
      go_wp2_with (first | ((with_reducible refine gc 9 rfl ?_); refine goesL_ (some 11) rfl rfl Try.func9 (by kernel_rfl) rfl #[.slice A0 l0.length c0, .int .i64 12] rfl sg ?_; (with_reducible refine (cracknellaw04_cut.calls _ _ l0 12 t101 _ ?side1 ?side2 A2.out).mono ?_); (case side1 => exact cs HR0.out); (case side2 => exact HC0.out); rintro e w13 ⟨v102, rfl, ho0, hb⟩; refine ⟨_, rfl, ?_⟩; have HO103 := Aside0.mk (Kd.R_lower ho0 (below_size bh)); replace HB := bz hb; (try clear hb); (try clear ho0); obtain ⟨Ao14, co14, eo14⟩ := Kd.R_slice HO103.out; subst eo14) | ((with_reducible refine gc 23 rfl ?_); refine goesL_ (some 14) rfl rfl Try.func23 (by kernel_rfl) rfl #[.slice Ao14 t101.length co14] rfl sg ?_; (with_reducible refine (shape_Lattice.calls k _ _ t101 t104 t105 t106 _ ?side1 ?side2 A3.out).mono ?_); (case side1 => exact cs (Kd.R_reads' HO103.out).2.2); (case side2 => exact (Kd.R_reads' HO103.out).2.1); rintro e w15 ⟨rfl, hb⟩; refine ⟨_, rfl, ?_⟩; replace HO103 := Aside0.mk (Kd.R_below (ro HO103) hb); replace HB := bz hb; (try clear hb)) | ((with_reducible refine gc 11 rfl ?_); refine goesL_ (some 19) rfl rfl Try.func11 (by kernel_rfl) rfl #[.slice Ao14 t101.length co14] rfl sg ?_; (with_reducible refine (cracknellaw04_simple.calls k _ _ t101 t107 _ ?side1 ?side2 A4.out).mono ?_); (case side1 => exact cs (Kd.R_reads' HO103.out).2.2); (case side2 => exact (Kd.R_reads' HO103.out).2.1); rintro e w16 ⟨rfl, hb⟩; refine ⟨_, rfl, ?_⟩; replace HO103 := Aside0.mk (Kd.R_below (ro HO103) hb); replace HB := bz hb; (try clear hb)) | ((with_reducible refine gc 24 rfl ?_); refine goesL_ (some 37) rfl rfl Try.func24 (by kernel_rfl) rfl #[.slice Ao14 t101.length co14] rfl sg ?_; (with_reducible refine (cracknellaw04_small.calls k _ _ t101 true _ ?side1 ?side2 A6.out).mono ?_); (case side1 => exact cs (Kd.R_reads' HO103.out).2.2); (case side2 => exact (Kd.R_reads' HO103.out).2.1); rintro e w17 ⟨rfl, hb⟩; refine ⟨_, rfl, ?_⟩; replace HO103 := Aside0.mk (Kd.R_below (ro HO103) hb); replace HB := bz hb; (try clear hb)) | ((with_reducible refine gc 25 rfl ?_); refine goesL_ (some 46) rfl rfl Try.func25 (by kernel_rfl) rfl #[.slice Ao14 t101.length co14] rfl sg ?_; (with_reducible refine (cracknelref04_Lattice.calls k _ _ t101 t111 t112 _ ?side1 ?side2 A8.out).mono ?_); (case side1 => exact cs (Kd.R_reads' HO103.out).2.2); (case side2 => exact (Kd.R_reads' HO103.out).2.1); rintro e w18 ⟨rfl, hb⟩; refine ⟨_, rfl, ?_⟩; replace HO103 := Aside0.mk (Kd.R_below (ro HO103) hb); replace HB := bz hb; (try clear hb)) | (go_at_call 12; (with_reducible refine (cracknellaw04_lives.calls k  t113 _ A12.out hr).mono ?_); rintro e w19 ⟨rfl, hb⟩; replace HO103 := Aside0.mk (Kd.R_below (ro HO103) hb); replace HB := bz hb; (try clear hb)))
      go_ret
      exact ⟨by exact er, bh⟩
     ·rw [if_neg c11] at H
      have c11b0 : (t106 == 0) = false := beq_eq_false_iff_ne.mpr c11
      have c11b1 : (t106 != 0) = true := bne_iff_ne.mpr c11
      obtain rfl := Option.some.inj H
      cases hr
    ·rw [if_neg c10] at H
     have c10b0 : (t105 == t112) = false := beq_eq_false_iff_ne.mpr c10
     have c10b1 : (t105 != t112) = true := bne_iff_ne.mpr c10
     obtain rfl := Option.some.inj H
     cases hr
   ·rw [if_neg c9] at H
    have c9b0 : (t104 == t111) = false := beq_eq_false_iff_ne.mpr c9
    have c9b1 : (t104 != t111) = true := bne_iff_ne.mpr c9
    obtain rfl := Option.some.inj H
    cases hr
  ·replace c7 := Bool.eq_false_iff.mpr c7
   subst c7
   rw [if_neg (show ¬ (false = true) by decide)] at H
   by_cases c38 : t106 = 0
   ·rw [if_pos c38] at H
    have c38b0 : (t106 == 0) = true := beq_iff_eq.mpr c38
    have c38b1 : (t106 != 0) = false := bne_eq_false_iff_eq.mpr c38
    clear c38
    replace H := Option.bind_eq_some_iff.mp H
    obtain ⟨t110, A390, H⟩ := H
    try dsimp only at H
    have A39 := Aside0.mk A390
    clear A390
    obtain rfl := Option.some.inj H
    go_enter Try.func6, Try.ntmps6
    go_wp2_with (first | ((with_reducible refine gc 9 rfl ?_); refine goesL_ (some 11) rfl rfl Try.func9 (by kernel_rfl) rfl #[.slice A0 l0.length c0, .int .i64 12] rfl sg ?_; (with_reducible refine (cracknellaw04_cut.calls _ _ l0 12 t101 _ ?side1 ?side2 A2.out).mono ?_); (case side1 => exact cs HR0.out); (case side2 => exact HC0.out); rintro e w40 ⟨v102, rfl, ho0, hb⟩; refine ⟨_, rfl, ?_⟩; have HO103 := Aside0.mk (Kd.R_lower ho0 (below_size bh)); replace HB := bz hb; (try clear hb); (try clear ho0); obtain ⟨Ao41, co41, eo41⟩ := Kd.R_slice HO103.out; subst eo41) | ((with_reducible refine gc 23 rfl ?_); refine goesL_ (some 14) rfl rfl Try.func23 (by kernel_rfl) rfl #[.slice Ao41 t101.length co41] rfl sg ?_; (with_reducible refine (shape_Lattice.calls k _ _ t101 t104 t105 t106 _ ?side1 ?side2 A3.out).mono ?_); (case side1 => exact cs (Kd.R_reads' HO103.out).2.2); (case side2 => exact (Kd.R_reads' HO103.out).2.1); rintro e w42 ⟨rfl, hb⟩; refine ⟨_, rfl, ?_⟩; replace HO103 := Aside0.mk (Kd.R_below (ro HO103) hb); replace HB := bz hb; (try clear hb)) | ((with_reducible refine gc 11 rfl ?_); refine goesL_ (some 19) rfl rfl Try.func11 (by kernel_rfl) rfl #[.slice Ao41 t101.length co41] rfl sg ?_; (with_reducible refine (cracknellaw04_simple.calls k _ _ t101 t107 _ ?side1 ?side2 A4.out).mono ?_); (case side1 => exact cs (Kd.R_reads' HO103.out).2.2); (case side2 => exact (Kd.R_reads' HO103.out).2.1); rintro e w43 ⟨rfl, hb⟩; refine ⟨_, rfl, ?_⟩; replace HO103 := Aside0.mk (Kd.R_below (ro HO103) hb); replace HB := bz hb; (try clear hb)) | ((with_reducible refine gc 24 rfl ?_); refine goesL_ (some 37) rfl rfl Try.func24 (by kernel_rfl) rfl #[.slice Ao41 t101.length co41] rfl sg ?_; (with_reducible refine (cracknellaw04_small.calls k _ _ t101 false _ ?side1 ?side2 A6.out).mono ?_); (case side1 => exact cs (Kd.R_reads' HO103.out).2.2); (case side2 => exact (Kd.R_reads' HO103.out).2.1); rintro e w44 ⟨rfl, hb⟩; refine ⟨_, rfl, ?_⟩; replace HO103 := Aside0.mk (Kd.R_below (ro HO103) hb); replace HB := bz hb; (try clear hb)) | (go_at_call 12; (with_reducible refine (cracknellaw04_lives.calls k  t110 _ A39.out hr).mono ?_); rintro e w45 ⟨rfl, hb⟩; replace HO103 := Aside0.mk (Kd.R_below (ro HO103) hb); replace HB := bz hb; (try clear hb)))
    go_ret
    exact ⟨by exact er, bh⟩
   ·rw [if_neg c38] at H
    have c38b0 : (t106 == 0) = false := beq_eq_false_iff_ne.mpr c38
    have c38b1 : (t106 != 0) = true := bne_iff_ne.mpr c38
    obtain rfl := Option.some.inj H
    cases hr
 ·rw [if_neg c5] at H
  have c5b0 : (t107 == 0) = false := beq_eq_false_iff_ne.mpr c5
  have c5b1 : (t107 != 0) = true := bne_iff_ne.mpr c5
  by_cases c51 : t104 = 0
  ·rw [if_pos c51] at H
   have c51b0 : (t104 == 0) = true := beq_iff_eq.mpr c51
   have c51b1 : (t104 != 0) = false := bne_eq_false_iff_eq.mpr c51
   clear c51
   by_cases c52 : t105 = 0
   ·rw [if_pos c52] at H
    have c52b0 : (t105 == 0) = true := beq_iff_eq.mpr c52
    have c52b1 : (t105 != 0) = false := bne_eq_false_iff_eq.mpr c52
    clear c52
    by_cases c53 : t106 = t107
    ·rw [if_pos c53] at H
     have c53b0 : (t106 == t107) = true := beq_iff_eq.mpr c53
     have c53b1 : (t106 != t107) = false := bne_eq_false_iff_eq.mpr c53
     clear c53
     replace H := Option.bind_eq_some_iff.mp H
     obtain ⟨t108, A540, H⟩ := H
     try dsimp only at H
     have A54 := Aside0.mk A540
     clear A540
     obtain rfl := Option.some.inj H
     go_enter Try.func6, Try.ntmps6
     go_wp2_with (first | ((with_reducible refine gc 9 rfl ?_); refine goesL_ (some 11) rfl rfl Try.func9 (by kernel_rfl) rfl #[.slice A0 l0.length c0, .int .i64 12] rfl sg ?_; (with_reducible refine (cracknellaw04_cut.calls _ _ l0 12 t101 _ ?side1 ?side2 A2.out).mono ?_); (case side1 => exact cs HR0.out); (case side2 => exact HC0.out); rintro e w55 ⟨v102, rfl, ho0, hb⟩; refine ⟨_, rfl, ?_⟩; have HO103 := Aside0.mk (Kd.R_lower ho0 (below_size bh)); replace HB := bz hb; (try clear hb); (try clear ho0); obtain ⟨Ao56, co56, eo56⟩ := Kd.R_slice HO103.out; subst eo56) | ((with_reducible refine gc 23 rfl ?_); refine goesL_ (some 14) rfl rfl Try.func23 (by kernel_rfl) rfl #[.slice Ao56 t101.length co56] rfl sg ?_; (with_reducible refine (shape_Lattice.calls k _ _ t101 t104 t105 t106 _ ?side1 ?side2 A3.out).mono ?_); (case side1 => exact cs (Kd.R_reads' HO103.out).2.2); (case side2 => exact (Kd.R_reads' HO103.out).2.1); rintro e w57 ⟨rfl, hb⟩; refine ⟨_, rfl, ?_⟩; replace HO103 := Aside0.mk (Kd.R_below (ro HO103) hb); replace HB := bz hb; (try clear hb)) | ((with_reducible refine gc 11 rfl ?_); refine goesL_ (some 19) rfl rfl Try.func11 (by kernel_rfl) rfl #[.slice Ao56 t101.length co56] rfl sg ?_; (with_reducible refine (cracknellaw04_simple.calls k _ _ t101 t107 _ ?side1 ?side2 A4.out).mono ?_); (case side1 => exact cs (Kd.R_reads' HO103.out).2.2); (case side2 => exact (Kd.R_reads' HO103.out).2.1); rintro e w58 ⟨rfl, hb⟩; refine ⟨_, rfl, ?_⟩; replace HO103 := Aside0.mk (Kd.R_below (ro HO103) hb); replace HB := bz hb; (try clear hb)) | (go_at_call 12; (with_reducible refine (cracknellaw04_lives.calls k  t108 _ A54.out hr).mono ?_); rintro e w59 ⟨rfl, hb⟩; replace HO103 := Aside0.mk (Kd.R_below (ro HO103) hb); replace HB := bz hb; (try clear hb)))
     go_ret
     exact ⟨by exact er, bh⟩
    ·rw [if_neg c53] at H
     have c53b0 : (t106 == t107) = false := beq_eq_false_iff_ne.mpr c53
     have c53b1 : (t106 != t107) = true := bne_iff_ne.mpr c53
     obtain rfl := Option.some.inj H
     cases hr
   ·rw [if_neg c52] at H
    have c52b0 : (t105 == 0) = false := beq_eq_false_iff_ne.mpr c52
    have c52b1 : (t105 != 0) = true := bne_iff_ne.mpr c52
    obtain rfl := Option.some.inj H
    cases hr
  ·rw [if_neg c51] at H
   have c51b0 : (t104 == 0) = false := beq_eq_false_iff_ne.mpr c51
   have c51b1 : (t104 != 0) = true := bne_iff_ne.mpr c51
   obtain rfl := Option.some.inj H
   cases hr
end Go.Proofs.Ythehmkpcddafnaa.PG
end
section
namespace Go.Proofs.Ythehmkpcddafnaa.M
open Go.Proofs.Ythehmkpcddafnaa.PG
abbrev Pt := S41
instance decS29 : DecidableEq S41 := fun a b => if h : a.f0 = b.f0 ∧ a.f1 = b.f1 then isTrue (by cases a; cases b; simp_all) else isFalse (by intro e; exact h (by rw [e]; exact ⟨rfl, rfl⟩))
def cr (a b c : Pt) : Int := (b.f0-a.f0)*(c.f1-a.f1) - (c.f0-a.f0)*(b.f1-a.f1)
def btw (a b p : Pt) : Prop := min a.f0 b.f0 ≤ p.f0 ∧ p.f0 ≤ max a.f0 b.f0 ∧ min a.f1 b.f1 ≤ p.f1 ∧ p.f1 ≤ max a.f1 b.f1
theorem pt_ext {a b : Pt} (h0 : a.f0 = b.f0) (h1 : a.f1 = b.f1) : a = b := by
 cases a; cases b; simp_all
theorem cr_swap (a b c : Pt) : cr a c b = -(cr a b c) := by unfold cr; grind
theorem cr_rot (a b c : Pt) : cr b c a = cr a b c := by unfold cr; grind
theorem cr_self1 (a b : Pt) : cr a b a = 0 := by unfold cr; grind
theorem cr_self2 (a b : Pt) : cr a b b = 0 := by unfold cr; grind
def HE (S : List Pt) (a b : Pt) : Prop := a ≠ b ∧ a ∈ S ∧ b ∈ S ∧ ∀ p ∈ S, 0 ≤ cr a b p ∧ (cr a b p = 0 → btw a b p)
theorem btw_eq {a b c : Pt} (h1 : btw a b c) (h2 : btw a c b) : b = c := by
 unfold btw at h1 h2
 apply pt_ext <;> omega
theorem btw_eq' {a b c : Pt} (h1 : btw a c b) (h2 : btw b c a) : a = b := by
 unfold btw at h1 h2
 apply pt_ext <;> omega
def fn (p q : Int) (a b : Pt) : Int := p * (b.f0 - a.f0) + q * (b.f1 - a.f1)
theorem pos_of_mul {a b : Int} (ha : 0 < a) (h : 0 < a * b) : 0 < b := by
 rcases Int.lt_trichotomy b 0 with h1 | h1 | h1
 ·have := Int.mul_neg_of_pos_of_neg ha h1; omega
 ·subst h1; simp at h
 ·exact h1
theorem nonneg_of_mul {a b : Int} (ha : 0 < a) (h : 0 ≤ a * b) : 0 ≤ b := by
 rcases Int.lt_trichotomy b 0 with h1 | h1 | h1
 ·have := Int.mul_neg_of_pos_of_neg ha h1; omega
 ·omega
 ·omega
theorem le_of_mul_le {a b c : Int} (ha : 0 < a) (h : a * b ≤ a * c) : b ≤ c := Int.le_of_mul_le_mul_left h ha
theorem btw_of_fn {p q : Int} {a b c : Pt} (hb : 0 < fn p q a b) (h0 : 0 ≤ fn p q a c) (h1 : fn p q a c ≤ fn p q a b) (h : cr a b c = 0) : btw a b c := by
 have e0 : fn p q a b * (c.f0 - a.f0) = fn p q a c * (b.f0 - a.f0) := by unfold fn; unfold cr at h; grind
 have e1 : fn p q a b * (c.f1 - a.f1) = fn p q a c * (b.f1 - a.f1) := by unfold fn; unfold cr at h; grind
 have key : ∀ x y : Int, fn p q a b * x = fn p q a c * y → (0 ≤ y → 0 ≤ x ∧ x ≤ y) ∧ (y ≤ 0 → y ≤ x ∧ x ≤ 0) := by
  intro x y e
  constructor
  ·intro hy
   have m1 := Int.mul_nonneg h0 hy
   have m2 := Int.mul_le_mul_of_nonneg_right h1 hy
   exact ⟨nonneg_of_mul hb (by omega), le_of_mul_le hb (by omega)⟩
  ·intro hy
   have m1 := Int.mul_nonneg h0 (show 0 ≤ -y by omega)
   have m2 := Int.mul_le_mul_of_nonneg_right h1 (show 0 ≤ -y by omega)
   rw [Int.mul_neg] at m1 m2
   rw [Int.mul_neg] at m2
   exact ⟨le_of_mul_le hb (by omega), le_of_mul_le hb (by omega)⟩
 have k0 := key _ _ e0
 have k1 := key _ _ e1
 unfold btw
 omega
theorem fn_add (p q : Int) (a b c : Pt) : fn p q a c = fn p q a b + fn p q b c := by unfold fn; grind
theorem fn_neg (p q : Int) (a b : Pt) : fn p q b a = - fn p q a b := by unfold fn; grind
def Pairs (R : Pt → Pt → Prop) : List Pt → Prop
 | [] => True
 | [_] => True
 | a :: b :: l => R a b ∧ Pairs R (b :: l)
def Ring (S : List Pt) (h : List Pt) : Prop := ∃ a t, h = a :: t ∧ a ∉ t ∧ Pairs (HE S) (a :: (t ++ [a]))
instance (a b c : Pt) : Decidable (btw a b c) := by unfold btw; infer_instance
def wrapStep (o tq p : Pt) : Pt := if p = o then tq else if tq = o ∨ cr o tq p < 0 ∨ (cr o tq p = 0 ∧ cr o p tq = 0 ∧ btw o p tq) then p else tq
def wrap (S : List Pt) (o : Pt) : Pt := S.foldl (wrapStep o) o
theorem btw_end (o a : Pt) : btw o a a := by unfold btw; omega
theorem btw_start (o a : Pt) : btw o a o := by unfold btw; omega
def first (a b : Pt) : Prop := a.f1 < b.f1 ∨ (a.f1 = b.f1 ∧ a.f0 < b.f0)
instance (a b : Pt) : Decidable (first a b) := by unfold first; infer_instance
def around (S : List Pt) : Nat → Pt → List Pt
 | 0, o => [o]
 | n + 1, o => o :: around S n (wrap S o)
def at_ (h : List Pt) (i : Nat) : Pt := h.getD i ⟨0, 0⟩
theorem at_eq {h : List Pt} {i : Nat} (hi : i < h.length) : at_ h i = h[i] := by
 unfold at_; rw [List.getD_eq_getElem?_getD, List.getElem?_eq_getElem hi]; rfl
theorem at_mem {h : List Pt} {i : Nat} (hi : i < h.length) : at_ h i ∈ h := by
 rw [at_eq hi]; exact List.getElem_mem hi
def Strong (h : List Pt) : Prop :=
 (∀ i, i < h.length → at_ h i ≠ at_ h ((i + 1) % h.length)) ∧
 (∀ i j, i < h.length → j < h.length → at_ h i = at_ h j → i = j) ∧
 ∀ i k, i < h.length → k < h.length → 0 ≤ cr (at_ h i) (at_ h ((i + 1) % h.length)) (at_ h k) ∧
  (cr (at_ h i) (at_ h ((i + 1) % h.length)) (at_ h k) = 0 → k = i ∨ k = (i + 1) % h.length)
def On (a b p : Pt) : Prop := cr a b p = 0 ∧ btw a b p
instance (a b p : Pt) : Decidable (On a b p) := by unfold On; infer_instance
def Meet (a b c d : Pt) : Prop := On a b c ∨ On a b d ∨ On c d a ∨ On c d b ∨
 (((0 < cr a b c ∧ cr a b d < 0) ∨ (cr a b c < 0 ∧ 0 < cr a b d)) ∧ ((0 < cr c d a ∧ cr c d b < 0) ∨ (cr c d a < 0 ∧ 0 < cr c d b)))
instance (a b c d : Pt) : Decidable (Meet a b c d) := by unfold Meet; infer_instance
def Simple (l : List Pt) : Prop :=
 (∀ i, i < l.length → at_ l i ≠ at_ l ((i + 1) % l.length)) ∧
 ∀ i, i < l.length → ¬ On (at_ l i) (at_ l ((i + 1) % l.length)) (at_ l ((i + 1 + 1) % l.length)) ∧
  ¬ On (at_ l ((i + 1) % l.length)) (at_ l ((i + 1 + 1) % l.length)) (at_ l i) ∧
  ∀ k, i + 2 ≤ k → k < l.length → (k + 1) % l.length ≠ i → ¬ Meet (at_ l i) (at_ l ((i + 1) % l.length)) (at_ l k) (at_ l ((k + 1) % l.length))
def Convex (l : List Pt) : Prop :=
 Simple l ∧ ∀ i, i < l.length → 0 < cr (at_ l i) (at_ l ((i + 1) % l.length)) (at_ l ((i + 1 + 1) % l.length)) ∧ (0 < i → first (at_ l 0) (at_ l i))
def Flat (S : List Pt) : Prop := ∀ a ∈ S, ∀ b ∈ S, ∀ c ∈ S, cr a b c = 0
end Go.Proofs.Ythehmkpcddafnaa.M
end
section
namespace Go.Proofs.Ythehmkpcddafnaa.M
open Go.Proofs.Ythehmkpcddafnaa.PG
def vec (a b : Pt) : Pt := ⟨b.f0 - a.f0, b.f1 - a.f1⟩
def cx (u v : Pt) : Int := u.f0 * v.f1 - u.f1 * v.f0
def ph (p q : Int) (u : Pt) : Int := p * u.f0 + q * u.f1
def plus (u v : Pt) : Pt := ⟨u.f0 + v.f0, u.f1 + v.f1⟩
def P (l : List Pt) (i : Nat) : Pt := at_ l (i % l.length)
def ed (l : List Pt) (i : Nat) : Pt := vec (P l i) (P l (i + 1))
structure Cvx (p q : Int) (l : List Pt) : Prop where
 three : 3 ≤ l.length
 strong : Strong l
 low : ∀ k, k < l.length → k = 0 ∨ 0 < fn p q (at_ l 0) (at_ l k)
 some_ : ∀ i, ph p q (ed l i) ≠ 0
end Go.Proofs.Ythehmkpcddafnaa.M
end
section
namespace Go.Proofs.Ythehmkpcddafnaa.M
open Go.Proofs.Ythehmkpcddafnaa.PG
abbrev El := Pt × Int × Int
abbrev X (e : El) : Int := e.2.1
abbrev Y (e : El) : Int := e.2.2
def s0 (f : El → Int) : List El → Int
 | [] => 0
 | e :: L => f e * e.1.f0 + s0 f L
def s1 (f : El → Int) : List El → Int
 | [] => 0
 | e :: L => f e * e.1.f1 + s1 f L
def tri (a b c : Pt) : Prop := (0 < cx a b ∧ 0 < cx b c) ∨ (0 < cx b c ∧ 0 < cx c a) ∨ (0 < cx c a ∧ 0 < cx a b)
end Go.Proofs.Ythehmkpcddafnaa.M
end
section
namespace Go.Proofs.Ythehmkpcddafnaa.M
open Go.RowKit Go.Proofs.Ythehmkpcddafnaa.PG Go.Proofs.YthehmkpcddafnaaW.PrintMore Go.Proofs.YthehmkpcddafnaaW.PrintWords
def Rt {α : Type} (g : Nat → Option α) (v : α) : Prop := ∃ K, ∀ k, K ≤ k → g k = some v
theorem wz (n : Int) (h0 : -9223372036854775808 ≤ n) (h1 : n ≤ 9223372036854775807) : wrap64 n = n := by unfold wrap64; omega
def Bd (p : Pt) : Prop := -1000000 ≤ p.f0 ∧ p.f0 ≤ 1000000 ∧ -1000000 ≤ p.f1 ∧ p.f1 ≤ 1000000
theorem mulb {a b : Int} (h0 : -2000000 ≤ a) (h1 : a ≤ 2000000) (h2 : -2000000 ≤ b) (h3 : b ≤ 2000000) : -4000000000000 ≤ a * b ∧ a * b ≤ 4000000000000 := by
 have h : (a * b).natAbs = a.natAbs * b.natAbs := Int.natAbs_mul a b
 have h' : a.natAbs * b.natAbs ≤ 2000000 * 2000000 := Nat.mul_le_mul (by omega) (by omega)
 omega
theorem cr_eq (a b c : Pt) : cr a b c = (b.f0 - a.f0) * (c.f1 - a.f1) - (c.f0 - a.f0) * (b.f1 - a.f1) := rfl
theorem cr_bd {a b c : Pt} (ha : Bd a) (hb : Bd b) (hc : Bd c) : -8000000000000 ≤ cr a b c ∧ cr a b c ≤ 8000000000000 := by
 obtain ⟨a0, a1, a2, a3⟩ := ha; obtain ⟨b0, b1, b2, b3⟩ := hb; obtain ⟨c0, c1, c2, c3⟩ := hc
 have h1 := @mulb (b.f0 - a.f0) (c.f1 - a.f1) (by omega) (by omega) (by omega) (by omega)
 have h2 := @mulb (c.f0 - a.f0) (b.f1 - a.f1) (by omega) (by omega) (by omega) (by omega)
 rw [cr_eq]; omega
theorem Cross_f {a b c : Pt} (ha : Bd a) (hb : Bd b) (hc : Bd c) : cracknelref04_Cross.f a.f0 a.f1 b.f0 b.f1 c.f0 c.f1 = some (cr a b c) := by
 obtain ⟨a0, a1, a2, a3⟩ := ha; obtain ⟨b0, b1, b2, b3⟩ := hb; obtain ⟨c0, c1, c2, c3⟩ := hc
 have h1 := @mulb (b.f0 - a.f0) (c.f1 - a.f1) (by omega) (by omega) (by omega) (by omega)
 have h2 := @mulb (c.f0 - a.f0) (b.f1 - a.f1) (by omega) (by omega) (by omega) (by omega)
 unfold cracknelref04_Cross.f
 rw [wz (b.f0 - a.f0) (by omega) (by omega), wz (c.f1 - a.f1) (by omega) (by omega), wz (c.f0 - a.f0) (by omega) (by omega), wz (b.f1 - a.f1) (by omega) (by omega), wz ((b.f0 - a.f0) * (c.f1 - a.f1)) (by omega) (by omega), wz ((c.f0 - a.f0) * (b.f1 - a.f1)) (by omega) (by omega), wz _ (by omega) (by omega), cr_eq]
theorem side_f {a b c : Pt} (ha : Bd a) (hb : Bd b) (hc : Bd c) : shape_side.f a.f0 a.f1 b.f0 b.f1 c.f0 c.f1 = some (cr a b c) := by
 obtain ⟨a0, a1, a2, a3⟩ := ha; obtain ⟨b0, b1, b2, b3⟩ := hb; obtain ⟨c0, c1, c2, c3⟩ := hc
 have h1 := @mulb (b.f0 - a.f0) (c.f1 - a.f1) (by omega) (by omega) (by omega) (by omega)
 have h2 := @mulb (b.f1 - a.f1) (c.f0 - a.f0) (by omega) (by omega) (by omega) (by omega)
 unfold shape_side.f shape_sub.f shape_cross.f
 simp only [Option.bind_some]
 rw [wz (b.f0 - a.f0) (by omega) (by omega), wz (c.f1 - a.f1) (by omega) (by omega), wz (c.f0 - a.f0) (by omega) (by omega), wz (b.f1 - a.f1) (by omega) (by omega), wz ((b.f0 - a.f0) * (c.f1 - a.f1)) (by omega) (by omega), wz ((b.f1 - a.f1) * (c.f0 - a.f0)) (by omega) (by omega), wz _ (by omega) (by omega), cr_eq]
 congr 1; grind
theorem in_f (v a b : Int) : cracknelref04_in.f v a b = some (decide (a ≤ v ∧ v ≤ b)) := by
 unfold cracknelref04_in.f
 by_cases h : v ≥ a
 ·rw [if_pos h]; simp; omega
 ·rw [if_neg h]; simp; omega
theorem mn_eq (a b : Int) : mn a b = min a b := by unfold mn; split <;> omega
theorem mx_eq (a b : Int) : mx a b = max a b := by unfold mx; split <;> omega
theorem On_f {a b c : Pt} (ha : Bd a) (hb : Bd b) (hc : Bd c) : cracknelref04_On.f a.f0 a.f1 b.f0 b.f1 c.f0 c.f1 = some (decide (On a b c)) := by
 unfold cracknelref04_On.f
 rw [Cross_f ha hb hc]
 simp only [Option.bind_some, in_f, mn_eq, mx_eq]
 by_cases h : cr a b c = 0
 ·rw [if_pos h]
  by_cases h2 : min a.f0 b.f0 ≤ c.f0 ∧ c.f0 ≤ max a.f0 b.f0
  ·simp only [h2, and_self, decide_true, if_true]; simp only [On, btw, h, h2, true_and]
  ·rw [if_neg (by simpa using h2)]; simp only [On, btw, h, true_and]; rw [decide_eq_false]; intro h3; exact h2 ⟨h3.1, h3.2.1⟩
 ·rw [if_neg h]; simp only [On, h, false_and, decide_false]
theorem sq_nn (x : Int) : 0 ≤ x * x := by
 rcases Int.le_total 0 x with h | h
 ·exact Int.mul_nonneg h h
 ·exact Int.mul_nonneg_of_nonpos_of_nonpos h h
theorem dot_on {a b p : Pt} (h : cr a b p = 0) : (a.f0 - p.f0) * (b.f0 - p.f0) + (a.f1 - p.f1) * (b.f1 - p.f1) ≤ 0 ↔ btw a b p := by
 have hx : (a.f0 - p.f0) * (b.f1 - p.f1) = (a.f1 - p.f1) * (b.f0 - p.f0) := by rw [cr_eq] at h; grind
 generalize hu : a.f0 - p.f0 = u at *
 generalize hv : b.f0 - p.f0 = v at *
 generalize hs : a.f1 - p.f1 = s at *
 generalize ht : b.f1 - p.f1 = t at *
 have key : u * v + s * t ≤ 0 ↔ (u * v ≤ 0 ∧ s * t ≤ 0) := by
  constructor
  ·intro h0
   have e : (u * v) * (s * t) = (u * t) * (u * t) := by grind
   have sq : 0 ≤ (u * v) * (s * t) := by rw [e]; exact sq_nn _
   constructor
   ·rcases Int.lt_or_le 0 (u * v) with h1 | h1
    ·have h2 : s * t < 0 := by omega
     have := Int.mul_neg_of_pos_of_neg h1 h2; omega
    ·exact h1
   ·rcases Int.lt_or_le 0 (s * t) with h1 | h1
    ·have h2 : u * v < 0 := by omega
     have := Int.mul_neg_of_neg_of_pos h2 h1; omega
    ·exact h1
  ·omega
 have sgn : ∀ x y : Int, x * y ≤ 0 ↔ ((x ≤ 0 ∧ 0 ≤ y) ∨ (0 ≤ x ∧ y ≤ 0)) := by
  intro x y
  constructor
  ·intro h
   rcases Int.lt_trichotomy x 0 with h1 | h1 | h1
   ·rcases Int.lt_or_le y 0 with h2 | h2
    ·have := Int.mul_pos_of_neg_of_neg h1 h2; omega
    ·omega
   ·omega
   ·rcases Int.lt_or_le 0 y with h2 | h2
    ·have := Int.mul_pos h1 h2; omega
    ·omega
  ·rintro (⟨h1, h2⟩ | ⟨h1, h2⟩)
   ·exact Int.mul_nonpos_of_nonpos_of_nonneg h1 h2
   ·exact Int.mul_nonpos_of_nonneg_of_nonpos h1 h2
 rw [key, sgn, sgn]; unfold btw; omega
theorem dot_f {a b p : Pt} (ha : Bd a) (hb : Bd b) (hp : Bd p) : shape_dot.f (a.f0 - p.f0) (a.f1 - p.f1) (b.f0 - p.f0) (b.f1 - p.f1) = some ((a.f0 - p.f0) * (b.f0 - p.f0) + (a.f1 - p.f1) * (b.f1 - p.f1)) := by
 obtain ⟨a0, a1, a2, a3⟩ := ha; obtain ⟨b0, b1, b2, b3⟩ := hb; obtain ⟨c0, c1, c2, c3⟩ := hp
 have h1 := @mulb (a.f0 - p.f0) (b.f0 - p.f0) (by omega) (by omega) (by omega) (by omega)
 have h2 := @mulb (a.f1 - p.f1) (b.f1 - p.f1) (by omega) (by omega) (by omega) (by omega)
 unfold shape_dot.f
 rw [wz ((a.f0 - p.f0) * (b.f0 - p.f0)) (by omega) (by omega), wz ((a.f1 - p.f1) * (b.f1 - p.f1)) (by omega) (by omega), wz _ (by omega) (by omega)]
theorem sub_f {a b : Pt} (ha : Bd a) (hb : Bd b) : shape_sub.f a.f0 a.f1 b.f0 b.f1 = some (a.f0 - b.f0, a.f1 - b.f1) := by
 obtain ⟨a0, a1, a2, a3⟩ := ha; obtain ⟨b0, b1, b2, b3⟩ := hb
 unfold shape_sub.f
 rw [wz _ (by omega) (by omega), wz _ (by omega) (by omega)]
theorem on_f {a b c : Pt} (ha : Bd a) (hb : Bd b) (hc : Bd c) : shape_on.f a.f0 a.f1 b.f0 b.f1 c.f0 c.f1 = some (decide (On a b c)) := by
 unfold shape_on.f
 rw [side_f ha hb hc, sub_f ha hc, sub_f hb hc]
 simp only [Option.bind_some]
 rw [dot_f ha hb hc]
 simp only [Option.bind_some]
 by_cases h : cr a b c = 0
 ·rw [if_pos h]; have e := dot_on h; simp only [e, On, h, true_and]
 ·rw [if_neg h]; simp only [On, h, false_and, decide_false]
def sg (n : Int) : Int := if n > 0 then 1 else if n < 0 then -1 else 0
theorem compare_f (a b : Int) : cmp_Compare_int.f a b = some (sg (a - b)) := by
 unfold cmp_Compare_int.f cmp_isNaN_int.f sg
 simp
 split <;> (try split) <;> (try split) <;> (try split) <;> first | rfl | omega | (simp; done) | skip
theorem sign_f (n : Int) : shape_sign.f n = some (sg n) := by
 unfold shape_sign.f; rw [compare_f]; simp
theorem sg_neg (x y : Int) : wrap64 (sg x * sg y) < 0 ↔ ((0 < x ∧ y < 0) ∨ (x < 0 ∧ 0 < y)) := by
 unfold sg
 split <;> (try split) <;> (try split) <;> (try split) <;> simp only [wrap64] <;> omega
theorem meet_f {a b c d : Pt} (ha : Bd a) (hb : Bd b) (hc : Bd c) (hd : Bd d) (k : Nat) : shape_meet.f (k + 1) a.f0 a.f1 b.f0 b.f1 c.f0 c.f1 d.f0 d.f1 = some (decide (Meet a b c d)) := by
 unfold shape_meet.f
 simp only [shape_meet.j0, on_f ha hb hc, on_f ha hb hd, on_f hc hd ha, on_f hc hd hb, side_f ha hb hc, side_f ha hb hd, side_f hc hd ha, side_f hc hd hb, sign_f, Option.bind_some, sg_neg, decide_eq_true_eq]
 unfold Meet
 split
 ·simp_all
 ·split
  ·simp_all
  ·split
   ·simp_all
   ·split
    ·simp_all
    ·split <;> simp_all <;> omega
theorem rd_at (l : List Pt) (i : Nat) : rd_T41 l (i : Int) = at_ l i := rfl
theorem tmod_nat (i n : Nat) (h : (i : Int) ≤ 9223372036854775806) : Int.tmod (wrap64 ((i : Int) + 1)) (n : Int) = (((i + 1) % n : Nat) : Int) := by
 rw [wz _ (by omega) (by omega)]
 rw [show ((i : Int) + 1) = ((i + 1 : Nat) : Int) by omega, ← Int.ofNat_tmod]
theorem pt_beq (a b : Pt) : (a.f0 == b.f0 && a.f1 == b.f1) = decide (a = b) := by
 by_cases h : a = b
 ·subst h; simp
 ·simp only [h, decide_false, Bool.and_eq_false_imp, beq_iff_eq]
  intro h0
  simp only [beq_eq_false_iff_ne, ne_eq]
  intro h1; exact h (pt_ext h0 h1)
theorem from_split {n i : Nat} (hi : i < n) (P : Nat → Prop) : (∀ i', i ≤ i' → i' < n → P i') ↔ (P i ∧ ∀ i', i + 1 ≤ i' → i' < n → P i') := by
 constructor
 ·intro h; exact ⟨h i (Nat.le_refl _) hi, fun j' h1 h2 => h j' (by omega) h2⟩
 ·rintro ⟨h0, h⟩ j' h1 h2
  rcases Nat.eq_or_lt_of_le h1 with rfl | h3
  ·exact h0
  ·exact h j' h3 h2
theorem fuel1 {k K : Nat} (h : K + 1 ≤ k) : ∃ m, k = m + 1 := ⟨k - 1, by omega⟩
theorem fuel2 {k K : Nat} (h : K + 2 ≤ k) : ∃ m, k = m + 1 + 1 := ⟨k - 2, by omega⟩
theorem rt_step {α : Type} {g h : Nat → Option α} {v : α} (e : ∀ k, g (k + 1) = h k) (r : Rt h v) : Rt g v := by
 obtain ⟨K, hK⟩ := r
 refine ⟨K + 1, fun k hk => ?_⟩
 obtain ⟨k, rfl⟩ := fuel1 hk
 rw [e]; exact hK k (by omega)
theorem rt_ret {α : Type} {g : Nat → Option α} {v : α} (e : ∀ k, g (k + 1) = some v) : Rt g v := by
 refine ⟨0 + 1, fun k hk => ?_⟩
 obtain ⟨k, rfl⟩ := fuel1 hk
 exact e k
theorem wrap_succ (i : Nat) (h : i ≤ 1000000) : wrap64 ((i : Int) + 1) = ((i + 1 : Nat) : Int) := by rw [wz _ (by omega) (by omega)]; omega
theorem wrap_succ2 (i : Nat) (h : i ≤ 1000000) : wrap64 ((i : Int) + 2) = ((i + 2 : Nat) : Int) := by rw [wz _ (by omega) (by omega)]; omega
theorem tmod_nat' (i n : Nat) (_h : i ≤ 1000000) : Int.tmod (((i + 1 : Nat)) : Int) (n : Int) = (((i + 1) % n : Nat) : Int) := by
 rw [← Int.ofNat_tmod]
theorem at_bd {l : List Pt} (hb : ∀ p ∈ l, Bd p) {i : Nat} (hi : i < l.length) : Bd (at_ l i) := hb _ (at_mem hi)
theorem tmod_in (i n : Nat) (hn : 0 < n) : (0 : Int) ≤ (((i % n : Nat)) : Int) ∧ (((i % n : Nat)) : Int) < (n : Int) := by
 have := Nat.mod_lt i hn; omega
end Go.Proofs.Ythehmkpcddafnaa.M
end
section
namespace Go.Proofs.Ythehmkpcddafnaa.M
open Go.Proofs.Ythehmkpcddafnaa.PG
def cnI (a b k : Int) : Int := if a < 0 ∧ 0 < b ∧ 0 < k then 1 else if 0 < a ∧ b < 0 ∧ k < 0 then -1 else 0
def cn (p q : Int) (u v : Pt) : Int := cnI (ph p q u) (ph p q v) (cx u v)
theorem mulsg {a b : Int} (ha : 0 < a) : (0 ≤ b → 0 ≤ a * b) ∧ (0 < b → 0 < a * b) ∧ (b ≤ 0 → a * b ≤ 0) ∧ (b < 0 → a * b < 0) :=
 ⟨fun h => Int.mul_nonneg (by omega) h, fun h => Int.mul_pos ha h, fun h => Int.mul_nonpos_of_nonneg_of_nonpos (by omega) h, fun h => Int.mul_neg_of_pos_of_neg ha h⟩
theorem comb {u v w s t m : Int} (hu : 0 < u) (hv : 0 < v) (hw : 0 < w) (h : w * m = u * s + v * t) :
  (0 ≤ s → 0 ≤ t → (0 < s ∨ 0 < t) → 0 < m) ∧ (s ≤ 0 → t ≤ 0 → (s < 0 ∨ t < 0) → m < 0) := by
 have k1 := mulsg (b := s) hu
 have k2 := mulsg (b := t) hv
 have k3 := mulsg (b := m) hw
 refine ⟨fun h1 h2 h3 => ?_, fun h1 h2 h3 => ?_⟩
 ·rcases Int.lt_or_le 0 m with x | x
  ·exact x
  ·have := k3.2.2.1 x
   have a1 := k1.1 h1
   have a2 := k2.1 h2
   rcases h3 with h3 | h3
   ·have := k1.2.1 h3; omega
   ·have := k2.2.1 h3; omega
 ·rcases Int.lt_or_le m 0 with x | x
  ·exact x
  ·have := k3.1 x
   have a1 := k1.2.2.1 h1
   have a2 := k2.2.2.1 h2
   rcases h3 with h3 | h3
   ·have := k1.2.2.2 h3; omega
   ·have := k2.2.2.2 h3; omega
theorem cnI_up {a b k : Int} (h1 : a < 0) (h2 : 0 < b) : cnI a b k = if 0 < k then 1 else 0 := by
 unfold cnI; by_cases h : 0 < k
 ·rw [if_pos ⟨h1, h2, h⟩, if_pos h]
 ·rw [if_neg (by omega), if_neg (by omega), if_neg h]
theorem cnI_dn {a b k : Int} (h1 : 0 < a) (h2 : b < 0) : cnI a b k = if k < 0 then -1 else 0 := by
 unfold cnI; by_cases h : k < 0
 ·rw [if_neg (by omega), if_pos ⟨h1, h2, h⟩, if_pos h]
 ·rw [if_neg (by omega), if_neg (by omega), if_neg h]
theorem cnI_pp {a b k : Int} (h1 : 0 < a) (h2 : 0 < b) : cnI a b k = 0 := by unfold cnI; rw [if_neg (by omega), if_neg (by omega)]
theorem cnI_nn {a b k : Int} (h1 : a < 0) (h2 : b < 0) : cnI a b k = 0 := by unfold cnI; rw [if_neg (by omega), if_neg (by omega)]
set_option maxHeartbeats 4000000 in
theorem quadI {a b c d al be ga de : Int} (ha : a ≠ 0) (hb : b ≠ 0) (hc : c ≠ 0) (hd : d ≠ 0) (hs : a + c = b + d) (hk : al + ga = be + de)
  (t1 : a * be = b * (al + ga) - c * al) (t2 : a * (be - al) = b * ga - d * al) (t3 : -(a * de) = c * ga - d * (al + ga)) (t4 : -(b * de) = c * (be - al) - d * be)
  (zA : (a < 0 ∧ 0 < b ∨ 0 < a ∧ b < 0) → al ≠ 0) (zB : (b < 0 ∧ 0 < c ∨ 0 < b ∧ c < 0) → be ≠ 0) (zG : (a < 0 ∧ 0 < d ∨ 0 < a ∧ d < 0) → ga ≠ 0) (zD : (d < 0 ∧ 0 < c ∨ 0 < d ∧ c < 0) → de ≠ 0)
  (nM : ¬ (((0 < ga ∧ be < 0) ∨ (ga < 0 ∧ 0 < be)) ∧ ((0 < al ∧ de < 0) ∨ (al < 0 ∧ 0 < de)))) :
  cnI a b al + cnI b c be = cnI a d ga + cnI d c de := by
 rcases Int.lt_or_gt_of_ne ha with sa | sa <;> rcases Int.lt_or_gt_of_ne hb with sb | sb <;> rcases Int.lt_or_gt_of_ne hc with sc | sc <;> rcases Int.lt_or_gt_of_ne hd with sd | sd
 ·rw [cnI_nn (by omega) (by omega), cnI_nn (by omega) (by omega), cnI_nn (by omega) (by omega), cnI_nn (by omega) (by omega)]
 ·have k := comb (u := -c) (v := -a) (w := d) (s := -ga) (t := -de) (m := al + ga) (by omega) (by omega) (by omega) (by clear zA zB zG zD nM ha hb hc hd sa sb sc sd; grind)
  rw [cnI_nn (by omega) (by omega), cnI_nn (by omega) (by omega), cnI_up (by omega) (by omega), cnI_dn (by omega) (by omega)]
  repeat' split
  all_goals omega
 ·have k := comb (u := -d) (v := -b) (w := c) (s := -be) (t := de) (m := be - al) (by omega) (by omega) (by omega) (by clear zA zB zG zD nM ha hb hc hd sa sb sc sd; grind)
  rw [cnI_nn (by omega) (by omega), cnI_up (by omega) (by omega), cnI_nn (by omega) (by omega), cnI_up (by omega) (by omega)]
  repeat' split
  all_goals omega
 ·have k := comb (u := -a) (v := -b) (w := c - b) (s := be) (t := -ga) (m := al) (by omega) (by omega) (by omega) (by clear zA zB zG zD nM ha hb hc hd sa sb sc sd; grind)
  have k' := comb (u := c) (v := d) (w := d - a) (s := ga) (t := -be) (m := de) (by omega) (by omega) (by omega) (by clear zA zB zG zD nM ha hb hc hd sa sb sc sd; grind)
  rw [cnI_nn (by omega) (by omega), cnI_up (by omega) (by omega), cnI_up (by omega) (by omega), cnI_pp (by omega) (by omega)]
  repeat' split
  all_goals omega
 ·have k := comb (u := -a) (v := -c) (w := b) (s := -be) (t := -al) (m := al + ga) (by omega) (by omega) (by omega) (by clear zA zB zG zD nM ha hb hc hd sa sb sc sd; grind)
  rw [cnI_up (by omega) (by omega), cnI_dn (by omega) (by omega), cnI_nn (by omega) (by omega), cnI_nn (by omega) (by omega)]
  repeat' split
  all_goals omega
 ·omega
 ·have k := comb (u := b) (v := c) (w := b - a) (s := -de) (t := al) (m := be) (by omega) (by omega) (by omega) (by clear zA zB zG zD nM ha hb hc hd sa sb sc sd; grind)
  have k' := comb (u := -a) (v := -d) (w := c - d) (s := de) (t := -al) (m := ga) (by omega) (by omega) (by omega) (by clear zA zB zG zD nM ha hb hc hd sa sb sc sd; grind)
  rw [cnI_up (by omega) (by omega), cnI_pp (by omega) (by omega), cnI_nn (by omega) (by omega), cnI_up (by omega) (by omega)]
  repeat' split
  all_goals omega
 ·have k := comb (u := b) (v := d) (w := -a) (s := ga) (t := -al) (m := al - be) (by omega) (by omega) (by omega) (by clear zA zB zG zD nM ha hb hc hd sa sb sc sd; grind)
  rw [cnI_up (by omega) (by omega), cnI_pp (by omega) (by omega), cnI_up (by omega) (by omega), cnI_pp (by omega) (by omega)]
  repeat' split
  all_goals omega
 ·have k := comb (u := -b) (v := -d) (w := a) (s := -ga) (t := al) (m := be - al) (by omega) (by omega) (by omega) (by clear zA zB zG zD nM ha hb hc hd sa sb sc sd; grind)
  rw [cnI_dn (by omega) (by omega), cnI_nn (by omega) (by omega), cnI_dn (by omega) (by omega), cnI_nn (by omega) (by omega)]
  repeat' split
  all_goals omega
 ·have k := comb (u := -b) (v := -c) (w := a - b) (s := -de) (t := al) (m := be) (by omega) (by omega) (by omega) (by clear zA zB zG zD nM ha hb hc hd sa sb sc sd; grind)
  have k' := comb (u := a) (v := d) (w := d - c) (s := de) (t := -al) (m := ga) (by omega) (by omega) (by omega) (by clear zA zB zG zD nM ha hb hc hd sa sb sc sd; grind)
  rw [cnI_dn (by omega) (by omega), cnI_nn (by omega) (by omega), cnI_pp (by omega) (by omega), cnI_dn (by omega) (by omega)]
  repeat' split
  all_goals omega
 ·omega
 ·have k := comb (u := a) (v := c) (w := -b) (s := be) (t := al) (m := -(al + ga)) (by omega) (by omega) (by omega) (by clear zA zB zG zD nM ha hb hc hd sa sb sc sd; grind)
  rw [cnI_dn (by omega) (by omega), cnI_up (by omega) (by omega), cnI_pp (by omega) (by omega), cnI_pp (by omega) (by omega)]
  repeat' split
  all_goals omega
 ·have k := comb (u := a) (v := b) (w := b - c) (s := be) (t := -ga) (m := al) (by omega) (by omega) (by omega) (by clear zA zB zG zD nM ha hb hc hd sa sb sc sd; grind)
  have k' := comb (u := -c) (v := -d) (w := a - d) (s := ga) (t := -be) (m := de) (by omega) (by omega) (by omega) (by clear zA zB zG zD nM ha hb hc hd sa sb sc sd; grind)
  rw [cnI_pp (by omega) (by omega), cnI_dn (by omega) (by omega), cnI_dn (by omega) (by omega), cnI_nn (by omega) (by omega)]
  repeat' split
  all_goals omega
 ·have k := comb (u := d) (v := b) (w := -c) (s := be) (t := -de) (m := al - be) (by omega) (by omega) (by omega) (by clear zA zB zG zD nM ha hb hc hd sa sb sc sd; grind)
  rw [cnI_pp (by omega) (by omega), cnI_dn (by omega) (by omega), cnI_pp (by omega) (by omega), cnI_dn (by omega) (by omega)]
  repeat' split
  all_goals omega
 ·have k := comb (u := c) (v := a) (w := -d) (s := ga) (t := de) (m := -(al + ga)) (by omega) (by omega) (by omega) (by clear zA zB zG zD nM ha hb hc hd sa sb sc sd; grind)
  rw [cnI_pp (by omega) (by omega), cnI_pp (by omega) (by omega), cnI_dn (by omega) (by omega), cnI_up (by omega) (by omega)]
  repeat' split
  all_goals omega
 ·rw [cnI_pp (by omega) (by omega), cnI_pp (by omega) (by omega), cnI_pp (by omega) (by omega), cnI_pp (by omega) (by omega)]
theorem on_height {p q : Int} {a b c : Pt} (h : cr a b c = 0) (hs : (ph p q (vec a c) < 0 ∧ 0 < ph p q (vec b c)) ∨ (0 < ph p q (vec a c) ∧ ph p q (vec b c) < 0)) : On a b c := by
 refine ⟨h, ?_⟩
 have e1 : ∀ u v, fn p q u v = ph p q (vec u v) := fun u v => rfl
 have e2 := fn_add p q a b c
 have e3 := fn_neg p q b c
 rw [e1, e1, e1] at e2
 rcases hs with ⟨h1, h2⟩ | ⟨h1, h2⟩
 ·have n : ∀ u v, fn (-p) (-q) u v = - ph p q (vec u v) := by intro u v; unfold fn ph vec; dsimp only; grind
  exact btw_of_fn (p := -p) (q := -q) (by rw [n]; omega) (by rw [n]; omega) (by rw [n, n]; omega) h
 ·exact btw_of_fn (p := p) (q := q) (by rw [e1]; omega) (by rw [e1]; omega) (by rw [e1, e1]; omega) h
theorem quad {p q : Int} {a b c d : Pt} (hA : ph p q (vec a c) ≠ 0) (hB : ph p q (vec a d) ≠ 0) (hC : ph p q (vec b d) ≠ 0) (hD : ph p q (vec b c) ≠ 0) (hM : ¬ Meet a b c d) :
  cn p q (vec a c) (vec a d) + cn p q (vec a d) (vec b d) = cn p q (vec a c) (vec b c) + cn p q (vec b c) (vec b d) := by
 have x1 : cx (vec a c) (vec a d) = cr c d a := by unfold cx vec cr; dsimp only; grind
 have x2 : cx (vec a d) (vec b d) = cr a b d := by unfold cx vec cr; dsimp only; grind
 have x3 : cx (vec a c) (vec b c) = cr a b c := by unfold cx vec cr; dsimp only; grind
 have x4 : cx (vec b c) (vec b d) = cr c d b := by unfold cx vec cr; dsimp only; grind
 unfold cn
 rw [x1, x2, x3, x4]
 unfold Meet at hM
 refine quadI hA hB hC hD ?_ ?_ ?_ ?_ ?_ ?_ (fun h e => ?_) (fun h e => ?_) (fun h e => ?_) (fun h e => ?_) (fun h => hM (Or.inr (Or.inr (Or.inr (Or.inr h)))))
 ·unfold ph vec; dsimp only; grind
 ·unfold cr; grind
 ·unfold cr ph vec; dsimp only; grind
 ·unfold cr ph vec; dsimp only; grind
 ·unfold cr ph vec; dsimp only; grind
 ·unfold cr ph vec; dsimp only; grind
 ·refine hM (Or.inr (Or.inr (Or.inl (on_height (p := -p) (q := -q) e ?_))))
  have n : ∀ u v, ph (-p) (-q) (vec u v) = ph p q (vec v u) := by intro u v; unfold ph vec; dsimp only; grind
  rw [n, n]; omega
 ·exact hM (Or.inr (Or.inl (on_height (p := p) (q := q) e (by omega))))
 ·exact hM (Or.inl (on_height (p := p) (q := q) e (by omega)))
 ·refine hM (Or.inr (Or.inr (Or.inr (Or.inl (on_height (p := -p) (q := -q) e ?_)))))
  have n : ∀ u v, ph (-p) (-q) (vec u v) = ph p q (vec v u) := by intro u v; unfold ph vec; dsimp only; grind
  rw [n, n]; omega
end Go.Proofs.Ythehmkpcddafnaa.M
end
section
namespace Go.Proofs.Ythehmkpcddafnaa.M
def cntX (F : Int → Bool) (x0 : Int) : Nat → Int
 | 0 => 0
 | n + 1 => cntX F x0 n + (if F (x0 + n) = true then 1 else 0)
theorem cntX_le {F : Int → Bool} {t x0 : Int} (hF : ∀ x, F x = true ↔ x ≤ t) : ∀ n : Nat, cntX F x0 n = if t + 1 ≤ x0 then 0 else if x0 + n ≤ t + 1 then (n : Int) else t + 1 - x0 := by
 intro n
 induction n with
 | zero => unfold cntX; split <;> (try split) <;> omega
 | succ n ih =>
  unfold cntX
  rw [ih]
  by_cases h : x0 + n ≤ t
  ·rw [if_pos ((hF _).mpr h)]
   split <;> (try split) <;> (try split) <;> omega
  ·rw [if_neg (fun k => h ((hF _).mp k))]
   split <;> (try split) <;> (try split) <;> omega
theorem cnt_at {F : Int → Bool} {t x0 : Int} {n : Nat} (hF : ∀ x, F x = true ↔ x ≤ t) (h0 : x0 ≤ t + 1) (h1 : t + 1 ≤ x0 + n) : cntX F x0 n = t + 1 - x0 := by
 rw [cntX_le hF]; split
 ·omega
 ·split <;> omega
theorem floor_pair {q D : Int} (hD : 0 < D) : (q - 1) / D + (-q) / D = -1 := by
 have a1 := Int.mul_ediv_add_emod (q - 1) D
 have a2 := Int.mul_ediv_add_emod (-q) D
 have b1 := Int.emod_nonneg (q - 1) (show D ≠ 0 by omega)
 have b2 := Int.emod_lt_of_pos (q - 1) hD
 have b3 := Int.emod_nonneg (-q) (show D ≠ 0 by omega)
 have b4 := Int.emod_lt_of_pos (-q) hD
 generalize (q - 1) / D = u at *
 generalize (-q) / D = v at *
 generalize (q - 1) % D = r at *
 generalize (-q) % D = s at *
 have e : D * (u + v) = -1 - r - s := by rw [Int.mul_add]; omega
 have h1 : u + v < 0 := by
  apply Classical.byContradiction; intro h
  have := Int.mul_nonneg (Int.le_of_lt hD) (show 0 ≤ u + v by omega); omega
 have h2 : -2 < u + v := by
  apply Classical.byContradiction; intro h
  have : D * (u + v) ≤ D * (-2) := Int.mul_le_mul_of_nonneg_left (by omega) (Int.le_of_lt hD)
  omega
 omega
theorem le_div {x q D : Int} (hD : 0 < D) : x ≤ q / D ↔ x * D ≤ q := Int.le_ediv_iff_mul_le hD
theorem edge_pair {a b : Pt} {y x0 : Int} {n : Nat} (hy : a.f1 ≤ y) (hy2 : y < b.f1) (ha : x0 ≤ a.f0) (ha2 : a.f0 < x0 + n) (hb : x0 ≤ b.f0) (hb2 : b.f0 < x0 + n) :
  cntX (fun x => decide (0 < cr a b ⟨x, y⟩)) x0 n + cntX (fun x => decide (0 ≤ cr a b ⟨x, a.f1 + b.f1 - y⟩)) x0 n = a.f0 + b.f0 + 1 - 2 * x0 := by
 have hD : 0 < b.f1 - a.f1 := by omega
 obtain ⟨D, eD⟩ : ∃ D, D = b.f1 - a.f1 := ⟨_, rfl⟩
 obtain ⟨m, em⟩ : ∃ m, m = b.f0 - a.f0 := ⟨_, rfl⟩
 obtain ⟨q, eq⟩ : ∃ q, q = m * (y - a.f1) := ⟨_, rfl⟩
 rw [← eD] at hD
 have e1 : ∀ x, cr a b ⟨x, y⟩ = q - (x - a.f0) * D := fun x => by unfold cr; dsimp only; rw [eq, eD, em]
 have e2 : ∀ x, cr a b ⟨x, a.f1 + b.f1 - y⟩ = m * D - q - (x - a.f0) * D := fun x => by unfold cr; dsimp only; rw [eq, eD, em]; grind
 have F1 : ∀ x, (fun x => decide (0 < cr a b ⟨x, y⟩)) x = true ↔ x ≤ a.f0 + (q - 1) / D := by
  intro x
  dsimp only
  rw [decide_eq_true_eq, e1]
  have := le_div (x := x - a.f0) (q := q - 1) hD
  omega
 have F2 : ∀ x, (fun x => decide (0 ≤ cr a b ⟨x, a.f1 + b.f1 - y⟩)) x = true ↔ x ≤ a.f0 + (m * D - q) / D := by
  intro x
  dsimp only
  rw [decide_eq_true_eq, e2]
  have := le_div (x := x - a.f0) (q := m * D - q) hD
  omega
 have d2 : (m * D - q) / D = m + (-q) / D := by
  rw [show m * D - q = -q + m * D by omega, Int.add_mul_ediv_right _ _ (show D ≠ 0 by omega)]; omega
 have fp := floor_pair (q := q) hD
 have j0 : 0 ≤ y - a.f1 := by omega
 have j1 : y - a.f1 ≤ D - 1 := by omega
 have up : (0 ≤ m → 0 ≤ q ∧ q ≤ m * D) ∧ (m ≤ 0 → m * D ≤ q ∧ q ≤ 0) := by
  rw [eq]
  refine ⟨fun h => ⟨Int.mul_nonneg h j0, Int.mul_le_mul_of_nonneg_left (by omega) h⟩, fun h => ⟨?_, Int.mul_nonpos_of_nonpos_of_nonneg h j0⟩⟩
  exact Int.mul_le_mul_of_nonpos_left h (show y - a.f1 ≤ D by omega)
 have up1 : 0 < m → q ≤ m * D - 1 := by
  intro h
  have : m * (y - a.f1) ≤ m * (D - 1) := Int.mul_le_mul_of_nonneg_left j1 (by omega)
  have e : m * (D - 1) = m * D - m := by rw [Int.mul_sub, Int.mul_one]
  rw [eq]; omega
 have L : ∀ x, x ≤ (q - 1) / D ↔ x * D ≤ q - 1 := fun x => le_div hD
 have b1 : (0 ≤ m → -1 ≤ (q - 1) / D ∧ (q - 1) / D ≤ m - 1) ∧ (m ≤ 0 → m - 1 ≤ (q - 1) / D ∧ (q - 1) / D ≤ -1) := by
  refine ⟨fun h => ?_, fun h => ?_⟩
  ·obtain ⟨u1, u2⟩ := up.1 h
   refine ⟨(L _).mpr (by omega), ?_⟩
   apply Classical.byContradiction
   intro k
   have := (L m).mp (by omega)
   omega
  ·obtain ⟨u1, u2⟩ := up.2 h
   refine ⟨(L _).mpr (by rw [Int.sub_mul]; omega), ?_⟩
   apply Classical.byContradiction
   intro k
   have := (L 0).mp (by omega)
   omega
 rw [cnt_at F1 (by omega) (by omega), cnt_at F2 (by omega) (by omega)]
 omega
end Go.Proofs.Ythehmkpcddafnaa.M
end
section
namespace Go.Proofs.Ythehmkpcddafnaa.M
def sumN (f : Nat → Int) : Nat → Int
 | 0 => 0
 | n + 1 => sumN f n + f n
theorem sumN_succ (f : Nat → Int) (n : Nat) : sumN f (n + 1) = sumN f n + f n := rfl
theorem sumN_congr {f g : Nat → Int} : ∀ n, (∀ i, i < n → f i = g i) → sumN f n = sumN g n
 | 0, _ => rfl
 | n + 1, h => by unfold sumN; rw [sumN_congr n (fun i hi => h i (by omega)), h n (by omega)]
theorem sumN_add {f g : Nat → Int} : ∀ n, sumN (fun i => f i + g i) n = sumN f n + sumN g n
 | 0 => rfl
 | n + 1 => by unfold sumN; rw [sumN_add n]; omega
theorem sumN_const (c : Int) : ∀ n : Nat, sumN (fun _ => c) n = n * c
 | 0 => by unfold sumN; simp
 | n + 1 => by
  unfold sumN; rw [sumN_const c n]
  rw [show ((n + 1 : Nat) : Int) = (n : Int) + 1 by omega, Int.add_mul, Int.one_mul]
theorem sumN_zero : ∀ n : Nat, sumN (fun _ => 0) n = 0
 | 0 => rfl
 | n + 1 => by unfold sumN; rw [sumN_zero n]; rfl
theorem sumN_neg {f : Nat → Int} : ∀ n, sumN (fun i => - f i) n = - sumN f n
 | 0 => rfl
 | n + 1 => by unfold sumN; rw [sumN_neg n]; omega
theorem sumN_swap {f : Nat → Nat → Int} : ∀ n m, sumN (fun i => sumN (f i) m) n = sumN (fun j => sumN (fun i => f i j) n) m
 | 0, m => (sumN_zero m).symm
 | n + 1, m => by
  have : ∀ j, sumN (fun i => f i j) (n + 1) = sumN (fun i => f i j) n + f n j := fun j => rfl
  rw [sumN_congr m (fun j _ => this j), sumN_add, sumN_succ, sumN_swap n m]
theorem sumN_split {f : Nat → Int} (k : Nat) : ∀ n, sumN f (k + n) = sumN f k + sumN (fun i => f (k + i)) n
 | 0 => (Int.add_zero _).symm
 | n + 1 => by
  rw [← Nat.add_assoc, sumN_succ, sumN_succ, sumN_split k n, Int.add_assoc]
theorem sumN_front {f : Nat → Int} (n : Nat) : sumN f (n + 1) = f 0 + sumN (fun i => f (i + 1)) n := by
 rw [Nat.add_comm, sumN_split 1 n]
 have e : sumN f 1 = f 0 := by unfold sumN; unfold sumN; omega
 rw [e, sumN_congr n (fun i _ => by rw [Nat.add_comm])]
theorem sumN_rev {f : Nat → Int} : ∀ n, sumN (fun i => f (n - 1 - i)) n = sumN f n
 | 0 => rfl
 | n + 1 => by
  rw [sumN_front]
  have e : sumN (fun i => f (n + 1 - 1 - (i + 1))) n = sumN (fun i => f (n - 1 - i)) n := sumN_congr n (fun i _ => by congr 1; omega)
  rw [e, sumN_rev n, sumN_succ]
  have : n + 1 - 1 - 0 = n := by omega
  rw [this]; omega
theorem sumN_window {f : Int → Int} {y0 a : Int} {D h : Nat} (h0 : y0 ≤ a) (h1 : a + D ≤ y0 + h) : sumN (fun j => if a ≤ y0 + j ∧ y0 + j < a + D then f (y0 + j) else 0) h = sumN (fun j => f (a + j)) D := by
 obtain ⟨k, ek⟩ : ∃ k : Nat, (k : Int) = a - y0 := ⟨(a - y0).toNat, by omega⟩
 obtain ⟨r, er⟩ : ∃ r : Nat, h = k + (D + r) := ⟨h - k - D, by omega⟩
 subst er
 rw [sumN_split k, sumN_split D]
 have z1 : sumN (fun j : Nat => if a ≤ y0 + (j : Int) ∧ y0 + (j : Int) < a + D then f (y0 + j) else 0) k = 0 := by
  rw [sumN_congr k (g := fun _ => 0) (fun i hi => if_neg (by omega)), sumN_zero]
 have z2 : sumN (fun i : Nat => (fun j : Nat => if a ≤ y0 + (j : Int) ∧ y0 + (j : Int) < a + D then f (y0 + j) else 0) (k + (D + i))) r = 0 := by
  rw [sumN_congr r (g := fun _ => 0) (fun i hi => by dsimp only; exact if_neg (by omega)), sumN_zero]
 rw [z1, z2]
 rw [sumN_congr D (g := fun j => f (a + j)) (fun i hi => by
  rw [if_pos (by omega)]
  congr 1; omega)]
 omega
theorem cnt_sum (F : Int → Bool) (x0 : Int) : ∀ n : Nat, cntX F x0 n = sumN (fun i => if F (x0 + i) = true then 1 else 0) n
 | 0 => rfl
 | n + 1 => by rw [sumN_succ, ← cnt_sum F x0 n]; rfl
def upS (a b : Pt) (x y : Int) : Int := if (a.f1 ≤ y ∧ y < b.f1) ∧ 0 < cr a b ⟨x, y⟩ then 1 else 0
def upT (a b : Pt) (x y : Int) : Int := if (a.f1 < y ∧ y ≤ b.f1) ∧ 0 ≤ cr a b ⟨x, y⟩ then 1 else 0
def over (f : Int → Int → Int) (x0 y0 : Int) (n h : Nat) : Int := sumN (fun j => sumN (fun i => f (x0 + i) (y0 + j)) n) h
theorem over_flat {a b : Pt} {x0 y0 : Int} {n h : Nat} (hab : b.f1 ≤ a.f1) : over (upS a b) x0 y0 n h = 0 ∧ over (upT a b) x0 y0 n h = 0 := by
 have z : ∀ f : Int → Int → Int, (∀ x y, f x y = 0) → over f x0 y0 n h = 0 := by
  intro f hf
  unfold over
  rw [sumN_congr h (g := fun _ => 0) (fun j _ => by rw [sumN_congr n (g := fun _ => 0) (fun i _ => hf _ _), sumN_zero]), sumN_zero]
 exact ⟨z _ (fun x y => by unfold upS; exact if_neg (by omega)), z _ (fun x y => by unfold upT; exact if_neg (by omega))⟩
theorem over_rise {a b : Pt} {x0 y0 : Int} {n h : Nat} (hab : a.f1 ≤ b.f1) (ha : x0 ≤ a.f0) (ha2 : a.f0 < x0 + n) (hb : x0 ≤ b.f0) (hb2 : b.f0 < x0 + n) (hy : y0 ≤ a.f1) (hy2 : b.f1 < y0 + h) :
  over (upS a b) x0 y0 n h + over (upT a b) x0 y0 n h = (b.f1 - a.f1) * (a.f0 + b.f0 + 1 - 2 * x0) := by
 obtain ⟨D, eD⟩ : ∃ D : Nat, (D : Int) = b.f1 - a.f1 := ⟨(b.f1 - a.f1).toNat, by omega⟩
 have s1 : over (upS a b) x0 y0 n h = sumN (fun j => cntX (fun x => decide (0 < cr a b ⟨x, a.f1 + j⟩)) x0 n) D := by
  unfold over
  rw [← sumN_window (f := fun y => cntX (fun x => decide (0 < cr a b ⟨x, y⟩)) x0 n) (y0 := y0) (a := a.f1) (D := D) (h := h) hy (by omega)]
  refine sumN_congr h (fun j _ => ?_)
  by_cases c : a.f1 ≤ y0 + j ∧ y0 + j < a.f1 + D
  ·rw [if_pos c, cnt_sum]
   refine sumN_congr n (fun i _ => ?_)
   unfold upS
   by_cases k : 0 < cr a b ⟨x0 + i, y0 + j⟩
   ·rw [if_pos ⟨by omega, k⟩, if_pos (decide_eq_true k)]
   ·rw [if_neg (fun z => k z.2), if_neg (by rw [decide_eq_true_eq]; exact k)]
  ·rw [if_neg c, sumN_congr n (g := fun _ => 0) (fun i _ => by unfold upS; exact if_neg (fun z => c (by omega))), sumN_zero]
 have s2 : over (upT a b) x0 y0 n h = sumN (fun j => cntX (fun x => decide (0 ≤ cr a b ⟨x, a.f1 + 1 + j⟩)) x0 n) D := by
  unfold over
  rw [← sumN_window (f := fun y => cntX (fun x => decide (0 ≤ cr a b ⟨x, y⟩)) x0 n) (y0 := y0) (a := a.f1 + 1) (D := D) (h := h) (by omega) (by omega)]
  refine sumN_congr h (fun j _ => ?_)
  by_cases c : a.f1 + 1 ≤ y0 + j ∧ y0 + j < a.f1 + 1 + D
  ·rw [if_pos c, cnt_sum]
   refine sumN_congr n (fun i _ => ?_)
   unfold upT
   by_cases k : 0 ≤ cr a b ⟨x0 + i, y0 + j⟩
   ·rw [if_pos ⟨by omega, k⟩, if_pos (decide_eq_true k)]
   ·rw [if_neg (fun z => k z.2), if_neg (by rw [decide_eq_true_eq]; exact k)]
  ·rw [if_neg c, sumN_congr n (g := fun _ => 0) (fun i _ => by unfold upT; exact if_neg (fun z => c (by omega))), sumN_zero]
 rw [s1, s2, ← sumN_rev (f := fun j => cntX (fun x => decide (0 ≤ cr a b ⟨x, a.f1 + 1 + j⟩)) x0 n) D, ← sumN_add]
 rw [sumN_congr D (g := fun _ => a.f0 + b.f0 + 1 - 2 * x0) (fun j hj => by
  have e : a.f1 + 1 + ((D - 1 - j : Nat) : Int) = a.f1 + b.f1 - (a.f1 + j) := by omega
  rw [e]
  exact edge_pair (by omega) (by omega) ha ha2 hb hb2), sumN_const, eD]
def cS (a b : Pt) (x y : Int) : Int := upS a b x y - upS b a x y
def cT (a b : Pt) (x y : Int) : Int := upT a b x y - upT b a x y
theorem over_sub {f g : Int → Int → Int} {x0 y0 : Int} {n h : Nat} : over (fun x y => f x y - g x y) x0 y0 n h = over f x0 y0 n h - over g x0 y0 n h := by
 unfold over
 have e : ∀ j : Nat, sumN (fun i => f (x0 + i) (y0 + j) - g (x0 + i) (y0 + j)) n = sumN (fun i => f (x0 + i) (y0 + j)) n + - sumN (fun i => g (x0 + i) (y0 + j)) n := fun j => by
  rw [← sumN_neg, ← sumN_add]; exact sumN_congr n (fun i _ => by omega)
 rw [sumN_congr h (fun j _ => e j), sumN_add, sumN_neg]; omega
theorem over_edge {a b : Pt} {x0 y0 : Int} {n h : Nat} (ha : x0 ≤ a.f0) (ha2 : a.f0 < x0 + n) (hb : x0 ≤ b.f0) (hb2 : b.f0 < x0 + n) (hy : y0 ≤ a.f1) (hy2 : a.f1 < y0 + h) (hz : y0 ≤ b.f1) (hz2 : b.f1 < y0 + h) :
  over (cS a b) x0 y0 n h + over (cT a b) x0 y0 n h = (b.f1 - a.f1) * (a.f0 + b.f0 + 1 - 2 * x0) := by
 have e1 : over (cS a b) x0 y0 n h = over (upS a b) x0 y0 n h - over (upS b a) x0 y0 n h := over_sub
 have e2 : over (cT a b) x0 y0 n h = over (upT a b) x0 y0 n h - over (upT b a) x0 y0 n h := over_sub
 rw [e1, e2]
 rcases Int.le_total a.f1 b.f1 with c | c
 ·have r := over_rise (n := n) (h := h) c ha ha2 hb hb2 hy hz2
  obtain ⟨z1, z2⟩ := over_flat (a := b) (b := a) (x0 := x0) (y0 := y0) (n := n) (h := h) c
  rw [z1, z2]; omega
 ·have r := over_rise (a := b) (b := a) (n := n) (h := h) c hb hb2 ha ha2 hz hy2
  obtain ⟨z1, z2⟩ := over_flat (a := a) (b := b) (x0 := x0) (y0 := y0) (n := n) (h := h) c
  have e : (b.f1 - a.f1) * (a.f0 + b.f0 + 1 - 2 * x0) = - ((a.f1 - b.f1) * (b.f0 + a.f0 + 1 - 2 * x0)) := by grind
  rw [z1, z2, e]; omega
end Go.Proofs.Ythehmkpcddafnaa.M
end
section
namespace Go.Proofs.Ythehmkpcddafnaa.M
open Go.Proofs.Ythehmkpcddafnaa.PG
def pth : Pt → List Pt → Pt → List (Pt × Pt)
 | a, [], b => [(a, b)]
 | a, c :: l, b => (a, c) :: pth c l b
theorem pth_app : ∀ (l : List Pt) (a c : Pt) (l' : List Pt) (b : Pt), pth a (l ++ c :: l') b = pth a l c ++ pth c l' b
 | [], _, _, _, _ => rfl
 | d :: l, a, c, l', b => by
  show (a, d) :: pth d (l ++ c :: l') b = (a, d) :: (pth d l c ++ pth c l' b)
  rw [pth_app l]
def loop : List Pt → List (Pt × Pt)
 | [] => []
 | a :: l => pth a l a
def eS (f : Pt → Pt → Int) : List (Pt × Pt) → Int
 | [] => 0
 | e :: E => f e.1 e.2 + eS f E
theorem eS_app (f : Pt → Pt → Int) : ∀ E F, eS f (E ++ F) = eS f E + eS f F
 | [], F => by show eS f F = 0 + eS f F; omega
 | e :: E, F => by show f e.1 e.2 + eS f (E ++ F) = f e.1 e.2 + eS f E + eS f F; rw [eS_app f E F]; omega
theorem eS_congr {f g : Pt → Pt → Int} : ∀ E, (∀ e ∈ E, f e.1 e.2 = g e.1 e.2) → eS f E = eS g E
 | [], _ => rfl
 | e :: E, h => by
  show f e.1 e.2 + eS f E = g e.1 e.2 + eS g E
  rw [h e (List.mem_cons_self ..), eS_congr E (fun x hx => h x (List.mem_cons_of_mem _ hx))]
theorem eS_tel {f f' : Pt → Pt → Int} {g : Pt → Int} : ∀ (l : List Pt) (a b : Pt), (∀ e ∈ pth a l b, f e.1 e.2 = f' e.1 e.2 + (g e.1 - g e.2)) → eS f (pth a l b) = eS f' (pth a l b) + (g a - g b)
 | [], a, b, h => by
  have := h (a, b) (List.mem_cons_self ..)
  show f a b + 0 = f' a b + 0 + (g a - g b)
  dsimp only at this; omega
 | c :: l, a, b, h => by
  have h1 := h (a, c) (List.mem_cons_self ..)
  have h2 := eS_tel l c b (fun e he => h e (List.mem_cons_of_mem _ he))
  show f a c + eS f (pth c l b) = f' a c + eS f' (pth c l b) + (g a - g b)
  dsimp only at h1; omega
theorem eS_loop {f f' : Pt → Pt → Int} {g : Pt → Int} (m : List Pt) (h : ∀ e ∈ loop m, f e.1 e.2 = f' e.1 e.2 + (g e.1 - g e.2)) : eS f (loop m) = eS f' (loop m) := by
 cases m with
 | nil => rfl
 | cons a l =>
  have := eS_tel l a a h
  show eS f (pth a l a) = eS f' (pth a l a)
  omega
def wE (E : List (Pt × Pt)) (p : Pt) : Int := eS (fun a b => cS a b p.f0 p.f1) E
def wF (E : List (Pt × Pt)) (p : Pt) : Int := eS (fun a b => cT a b p.f0 p.f1) E
def Touch (a b c d : Pt) : Prop := ∃ s t u v : Int, 0 ≤ s ∧ 0 ≤ t ∧ 0 ≤ u ∧ 0 ≤ v ∧ 0 < s + t ∧ 0 < u + v ∧
 (u + v) * (s * a.f0 + t * b.f0) = (s + t) * (u * c.f0 + v * d.f0) ∧ (u + v) * (s * a.f1 + t * b.f1) = (s + t) * (u * c.f1 + v * d.f1)
theorem Touch.symm {a b c d : Pt} (h : Touch a b c d) : Touch c d a b := by
 obtain ⟨s, t, u, v, h1, h2, h3, h4, h5, h6, h7, h8⟩ := h
 exact ⟨u, v, s, t, h3, h4, h1, h2, h6, h5, h7.symm, h8.symm⟩
theorem Touch.swap {a b c d : Pt} (h : Touch a b c d) : Touch b a c d := by
 obtain ⟨s, t, u, v, h1, h2, h3, h4, h5, h6, h7, h8⟩ := h
 exact ⟨t, s, u, v, h2, h1, h3, h4, by omega, h6, by rw [Int.add_comm t s, Int.add_comm (t * b.f0)]; exact h7, by rw [Int.add_comm t s, Int.add_comm (t * b.f1)]; exact h8⟩
theorem on_par {a b p : Pt} (h : On a b p) : ∃ s t : Int, 0 ≤ s ∧ 0 ≤ t ∧ 0 < s + t ∧ (s + t) * p.f0 = s * a.f0 + t * b.f0 ∧ (s + t) * p.f1 = s * a.f1 + t * b.f1 := by
 obtain ⟨hc, hb⟩ := h
 have hc' : (b.f0 - a.f0) * (p.f1 - a.f1) = (p.f0 - a.f0) * (b.f1 - a.f1) := by unfold cr at hc; omega
 unfold btw at hb
 rcases Int.lt_trichotomy a.f0 b.f0 with k | k | k
 ·exact ⟨b.f0 - p.f0, p.f0 - a.f0, by omega, by omega, by omega, by grind, by grind⟩
 ·rcases Int.lt_trichotomy a.f1 b.f1 with j | j | j
  ·exact ⟨b.f1 - p.f1, p.f1 - a.f1, by omega, by omega, by omega, by grind, by grind⟩
  ·refine ⟨1, 0, by omega, by omega, by omega, ?_, ?_⟩ <;> omega
  ·exact ⟨p.f1 - b.f1, a.f1 - p.f1, by omega, by omega, by omega, by grind, by grind⟩
 ·exact ⟨p.f0 - b.f0, a.f0 - p.f0, by omega, by omega, by omega, by grind, by grind⟩
theorem mean_bd {s t a b p : Int} (hs : 0 ≤ s) (ht : 0 ≤ t) (h0 : 0 < s + t) (h : (s + t) * p = s * a + t * b) : min a b ≤ p ∧ p ≤ max a b := by
 have e1 : (s + t) * (p - a) = t * (b - a) := by grind
 have e2 : (s + t) * (b - p) = s * (b - a) := by grind
 rcases Int.le_total a b with k | k
 ·have i1 := Int.mul_nonneg ht (show 0 ≤ b - a by omega)
  have i2 := Int.mul_nonneg hs (show 0 ≤ b - a by omega)
  have j1 := nonneg_of_mul h0 (show 0 ≤ (s + t) * (p - a) by omega)
  have j2 := nonneg_of_mul h0 (show 0 ≤ (s + t) * (b - p) by omega)
  omega
 ·have i1 := Int.mul_nonneg ht (show 0 ≤ a - b by omega)
  have i2 := Int.mul_nonneg hs (show 0 ≤ a - b by omega)
  have j1 := nonneg_of_mul h0 (show 0 ≤ (s + t) * (a - p) by grind)
  have j2 := nonneg_of_mul h0 (show 0 ≤ (s + t) * (p - b) by grind)
  omega
theorem par_on {a b p : Pt} {s t : Int} (hs : 0 ≤ s) (ht : 0 ≤ t) (h0 : 0 < s + t) (e0 : (s + t) * p.f0 = s * a.f0 + t * b.f0) (e1 : (s + t) * p.f1 = s * a.f1 + t * b.f1) : On a b p := by
 have k0 := mean_bd hs ht h0 e0
 have k1 := mean_bd hs ht h0 e1
 refine ⟨?_, k0.1, k0.2, k1.1, k1.2⟩
 have : (s + t) * cr a b p = 0 := by unfold cr; grind
 exact (Int.mul_eq_zero.mp this).resolve_left (by omega)
theorem touch_of_on {a b c d : Pt} (h : On a b c) : Touch a b c d := by
 obtain ⟨s, t, h1, h2, h3, h4, h5⟩ := on_par h
 exact ⟨s, t, 1, 0, h1, h2, by omega, by omega, h3, by omega, by grind, by grind⟩
theorem touch_of_meet {a b c d : Pt} (h : Meet a b c d) : Touch a b c d := by
 have id0 : cr c d a * b.f0 - cr c d b * a.f0 = cr a b d * c.f0 - cr a b c * d.f0 := by unfold cr; grind
 have id1 : cr c d a * b.f1 - cr c d b * a.f1 = cr a b d * c.f1 - cr a b c * d.f1 := by unfold cr; grind
 have id2 : cr c d a - cr c d b = cr a b d - cr a b c := by unfold cr; grind
 rcases h with h | h | h | h | ⟨h, k⟩
 ·exact touch_of_on h
 ·exact (touch_of_on h).symm.swap.symm
 ·exact (touch_of_on h).symm
 ·exact (touch_of_on h).symm.swap
 ·generalize cr c d a = A at *
  generalize cr c d b = B at *
  generalize cr a b c = C at *
  generalize cr a b d = D at *
  rcases k with ⟨k1, k2⟩ | ⟨k1, k2⟩
  ·exact ⟨-B, A, D, -C, by omega, by omega, by omega, by omega, by omega, by omega, by grind, by grind⟩
  ·exact ⟨B, -A, -D, C, by omega, by omega, by omega, by omega, by omega, by omega, by grind, by grind⟩
theorem dir_pos {a b : Pt} (h : a ≠ b) : 0 < fn (b.f0 - a.f0) (b.f1 - a.f1) a b := by
 unfold fn
 have h1 := sq_nn (b.f0 - a.f0)
 have h2 := sq_nn (b.f1 - a.f1)
 rcases Int.lt_or_eq_of_le h1 with k | k
 ·omega
 ·rcases Int.lt_or_eq_of_le h2 with j | j
  ·omega
  ·exfalso; apply h
   have e1 := Int.mul_eq_zero.mp k.symm
   have e2 := Int.mul_eq_zero.mp j.symm
   apply pt_ext <;> omega
theorem col0 {a b c d : Pt} {p q : Int} (zc : cr a b c = 0) (zd : cr a b d = 0) (ep : p = b.f0 - a.f0) (eq : q = b.f1 - a.f1) : fn p q a b * cr c d a = 0 := by
 have e1 : p * (c.f1 - a.f1) = (c.f0 - a.f0) * q := by rw [ep, eq]; unfold cr at zc; omega
 have e2 : p * (d.f1 - a.f1) = (d.f0 - a.f0) * q := by rw [ep, eq]; unfold cr at zd; omega
 have e3 : fn p q a b = p * p + q * q := by unfold fn; rw [ep, eq]
 rw [e3]; unfold cr; clear e3 ep eq zc zd; grind
theorem meet_of_touch {a b c d : Pt} (h : Touch a b c d) : Meet a b c d := by
 obtain ⟨s, t, u, v, hs, ht, hu, hv, h0, h1, e0, e1⟩ := h
 have k1 : (s + t) * (u * cr a b c + v * cr a b d) = 0 := by unfold cr; grind
 have k2 : (u + v) * (s * cr c d a + t * cr c d b) = 0 := by unfold cr; grind
 have k1 := (Int.mul_eq_zero.mp k1).resolve_left (by omega)
 have k2 := (Int.mul_eq_zero.mp k2).resolve_left (by omega)
 rcases Int.lt_or_eq_of_le hu with hu' | hu'
 rcases Int.lt_or_eq_of_le hv with hv' | hv'
 rcases Int.lt_or_eq_of_le hs with hs' | hs'
 rcases Int.lt_or_eq_of_le ht with ht' | ht'
 ·have two : ∀ {u v C D : Int}, 0 < u → 0 < v → u * C + v * D = 0 → (0 < C ∧ D < 0) ∨ (C < 0 ∧ 0 < D) ∨ (C = 0 ∧ D = 0) := by
   intro u v C D hu hv h
   rcases Int.lt_trichotomy C 0 with c | c | c
   ·have := Int.mul_neg_of_pos_of_neg hu c
    exact Or.inr (Or.inl ⟨c, pos_of_mul hv (by omega)⟩)
   ·subst c; rw [Int.mul_zero] at h
    exact Or.inr (Or.inr ⟨rfl, (Int.mul_eq_zero.mp (show v * D = 0 by omega)).resolve_left (by omega)⟩)
   ·have := Int.mul_pos hu c
    have := pos_of_mul (b := -D) hv (by rw [Int.mul_neg]; omega)
    exact Or.inl ⟨c, by omega⟩
  have q1 := two hu' hv' k1
  have q2 := two hs' ht' k2
  by_cases hab : a = b
  ·-- a point
   subst hab
   have za : cr c d a = 0 := by omega
   refine Or.inr (Or.inr (Or.inl (par_on hu hv h1 ?_ ?_)))
   ·have : (s + t) * ((u + v) * a.f0) = (s + t) * (u * c.f0 + v * d.f0) := by grind
    exact Int.eq_of_mul_eq_mul_left (by omega) this
   ·have : (s + t) * ((u + v) * a.f1) = (s + t) * (u * c.f1 + v * d.f1) := by grind
    exact Int.eq_of_mul_eq_mul_left (by omega) this
  ·rcases q1 with q1 | q1 | ⟨zc, zd⟩
   ·rcases q2 with q2 | q2 | ⟨_, zb⟩
    ·exact Or.inr (Or.inr (Or.inr (Or.inr ⟨Or.inl q1, Or.inl q2⟩)))
    ·exact Or.inr (Or.inr (Or.inr (Or.inr ⟨Or.inl q1, Or.inr q2⟩)))
    ·have id2 : cr c d a - cr c d b = cr a b d - cr a b c := by unfold cr; grind
     omega
   ·rcases q2 with q2 | q2 | ⟨_, zb⟩
    ·exact Or.inr (Or.inr (Or.inr (Or.inr ⟨Or.inr q1, Or.inl q2⟩)))
    ·exact Or.inr (Or.inr (Or.inr (Or.inr ⟨Or.inr q1, Or.inr q2⟩)))
    ·have id2 : cr c d a - cr c d b = cr a b d - cr a b c := by unfold cr; grind
     omega
   ·-- all on one line
    have P := dir_pos hab
    obtain ⟨p, ep⟩ : ∃ p, p = b.f0 - a.f0 := ⟨_, rfl⟩
    obtain ⟨q, eq⟩ : ∃ q, q = b.f1 - a.f1 := ⟨_, rfl⟩
    rw [← ep, ← eq] at P
    have w : (u + v) * (t * fn p q a b) = (s + t) * (u * fn p q a c + v * fn p q a d) := by unfold fn; grind
    by_cases c1 : 0 ≤ fn p q a c ∧ fn p q a c ≤ fn p q a b
    ·exact Or.inl ⟨zc, btw_of_fn P c1.1 c1.2 zc⟩
    by_cases d1 : 0 ≤ fn p q a d ∧ fn p q a d ≤ fn p q a b
    ·exact Or.inr (Or.inl ⟨zd, btw_of_fn P d1.1 d1.2 zd⟩)
    have n1 : ¬ (fn p q a c < 0 ∧ fn p q a d < 0) := by
     intro ⟨x1, x2⟩
     have i1 := Int.mul_nonneg hv (show 0 ≤ - fn p q a d by omega)
     have i2 := Int.mul_pos hu' (show 0 < - fn p q a c by omega)
     have i3 := Int.mul_pos h0 (show 0 < u * (- fn p q a c) + v * (- fn p q a d) by omega)
     have i4 := Int.mul_nonneg (Int.le_of_lt h1) (Int.mul_nonneg ht (Int.le_of_lt P))
     have e : (s + t) * (u * (- fn p q a c) + v * (- fn p q a d)) = - ((s + t) * (u * fn p q a c + v * fn p q a d)) := by grind
     omega
    have n2 : ¬ (fn p q a b < fn p q a c ∧ fn p q a b < fn p q a d) := by
     intro ⟨x1, x2⟩
     have i1 := Int.mul_nonneg hv (show 0 ≤ fn p q a d - fn p q a b by omega)
     have i2 := Int.mul_pos hu' (show 0 < fn p q a c - fn p q a b by omega)
     have i3 := Int.mul_pos h0 (show 0 < u * (fn p q a c - fn p q a b) + v * (fn p q a d - fn p q a b) by omega)
     have i4 := Int.mul_nonneg (Int.le_of_lt h1) (Int.mul_nonneg hs (Int.le_of_lt P))
     have e : (s + t) * (u * (fn p q a c - fn p q a b) + v * (fn p q a d - fn p q a b)) = - ((u + v) * (s * fn p q a b)) := by grind
     omega
    have zca : cr c d a = 0 := by
     have : fn p q a b * cr c d a = 0 := col0 (by rw [zc]) (by rw [zd]) ep eq
     exact (Int.mul_eq_zero.mp this).resolve_left (by omega)
    refine Or.inr (Or.inr (Or.inl ⟨zca, ?_⟩))
    have g1 := fn_add p q a c d
    have g2 := fn_add p q c a d
    have g3 := fn_neg p q a c
    have g4 := fn_neg p q a d
    have g5 := fn_neg p q c d
    have g6 := fn_add p q a d c
    rcases Int.lt_or_le (fn p q a c) 0 with x | x
    ·exact btw_of_fn (p := p) (q := q) (by omega) (by omega) (by omega) zca
    ·have : btw d c a := btw_of_fn (p := p) (q := q) (by omega) (by omega) (by omega) (by unfold cr at *; grind)
     unfold btw at *; omega
 ·subst ht'
  refine Or.inr (Or.inr (Or.inl (par_on hu hv h1 ?_ ?_)))
  ·have : s * ((u + v) * a.f0) = s * (u * c.f0 + v * d.f0) := by grind
   exact Int.eq_of_mul_eq_mul_left (by omega) this
  ·have : s * ((u + v) * a.f1) = s * (u * c.f1 + v * d.f1) := by grind
   exact Int.eq_of_mul_eq_mul_left (by omega) this
 ·subst hs'
  refine Or.inr (Or.inr (Or.inr (Or.inl (par_on hu hv h1 ?_ ?_))))
  ·have : t * ((u + v) * b.f0) = t * (u * c.f0 + v * d.f0) := by grind
   exact Int.eq_of_mul_eq_mul_left (by omega) this
  ·have : t * ((u + v) * b.f1) = t * (u * c.f1 + v * d.f1) := by grind
   exact Int.eq_of_mul_eq_mul_left (by omega) this
 ·subst hv'
  refine Or.inl (par_on hs ht h0 ?_ ?_)
  ·have : u * ((s + t) * c.f0) = u * (s * a.f0 + t * b.f0) := by grind
   exact Int.eq_of_mul_eq_mul_left (by omega) this
  ·have : u * ((s + t) * c.f1) = u * (s * a.f1 + t * b.f1) := by grind
   exact Int.eq_of_mul_eq_mul_left (by omega) this
 ·subst hu'
  refine Or.inr (Or.inl (par_on hs ht h0 ?_ ?_))
  ·have : v * ((s + t) * d.f0) = v * (s * a.f0 + t * b.f0) := by grind
   exact Int.eq_of_mul_eq_mul_left (by omega) this
  ·have : v * ((s + t) * d.f1) = v * (s * a.f1 + t * b.f1) := by grind
   exact Int.eq_of_mul_eq_mul_left (by omega) this
theorem bnd {α : Type} (f : α → Int) : ∀ E : List α, ∃ B : Int, 0 < B ∧ ∀ e ∈ E, f e < B
 | [] => ⟨1, by omega, fun _ h => by cases h⟩
 | e :: E => by
  obtain ⟨B, h0, h1⟩ := bnd f E
  refine ⟨max B (f e + 1), by omega, fun x hx => ?_⟩
  rcases List.mem_cons.mp hx with k | k
  ·subst k; omega
  ·have := h1 x k; omega
theorem cn_cS {a b x : Pt} {B : Int} (ha : -B < a.f0 - x.f0 ∧ a.f0 - x.f0 < B) (hb : -B < b.f0 - x.f0 ∧ b.f0 - x.f0 < B) (na : x ≠ a) (nb : x ≠ b) : cn (-1) B (vec x a) (vec x b) = cS a b x.f0 x.f1 := by
 have hB : 0 < B := by omega
 have pa : ph (-1) B (vec x a) = -(a.f0 - x.f0) + B * (a.f1 - x.f1) := by unfold ph vec; dsimp only; omega
 have pb : ph (-1) B (vec x b) = -(b.f0 - x.f0) + B * (b.f1 - x.f1) := by unfold ph vec; dsimp only; omega
 have c1 : cx (vec x a) (vec x b) = cr a b x := by unfold cx vec cr; dsimp only; grind
 have c2 : cr b a x = - cr a b x := by unfold cr; grind
 have za : ¬ (x.f0 = a.f0 ∧ x.f1 = a.f1) := fun h => na (pt_ext h.1 h.2)
 have zb : ¬ (x.f0 = b.f0 ∧ x.f1 = b.f1) := fun h => nb (pt_ext h.1 h.2)
 have la : a.f1 = x.f1 → a.f0 < x.f0 → (x.f1 < b.f1 → cr a b x < 0) ∧ (b.f1 < x.f1 → 0 < cr a b x) := by
  intro h1 h2
  have e : cr a b x = -((x.f0 - a.f0) * (b.f1 - x.f1)) := by unfold cr; rw [h1]; grind
  refine ⟨fun h => ?_, fun h => ?_⟩
  ·have := Int.mul_pos (show 0 < x.f0 - a.f0 by omega) (show 0 < b.f1 - x.f1 by omega); omega
  ·have := Int.mul_neg_of_pos_of_neg (show 0 < x.f0 - a.f0 by omega) (show b.f1 - x.f1 < 0 by omega); omega
 have lb : b.f1 = x.f1 → b.f0 < x.f0 → (x.f1 < a.f1 → 0 < cr a b x) ∧ (a.f1 < x.f1 → cr a b x < 0) := by
  intro h1 h2
  have e : cr a b x = (x.f0 - b.f0) * (a.f1 - x.f1) := by unfold cr; rw [h1]; grind
  refine ⟨fun h => ?_, fun h => ?_⟩
  ·have := Int.mul_pos (show 0 < x.f0 - b.f0 by omega) (show 0 < a.f1 - x.f1 by omega); omega
  ·have := Int.mul_neg_of_pos_of_neg (show 0 < x.f0 - b.f0 by omega) (show a.f1 - x.f1 < 0 by omega); omega
 have lev : a.f1 = x.f1 → b.f1 = x.f1 → cr a b x = 0 := by
  intro h1 h2; unfold cr; rw [h1, h2]; grind
 have sg : ∀ u w : Int, -B < u → u < B → (0 < w → 0 < -u + B * w) ∧ (w < 0 → -u + B * w < 0) := by
  intro u w h1 h2
  refine ⟨fun h => ?_, fun h => ?_⟩
  ·have : B * 1 ≤ B * w := Int.mul_le_mul_of_nonneg_left (by omega) (Int.le_of_lt hB); omega
  ·have : B * w ≤ B * (-1) := Int.mul_le_mul_of_nonneg_left (by omega) (Int.le_of_lt hB); omega
 have sa := sg _ (a.f1 - x.f1) ha.1 ha.2
 have sb := sg _ (b.f1 - x.f1) hb.1 hb.2
 have ea : a.f1 = x.f1 → -(a.f0 - x.f0) + B * (a.f1 - x.f1) = -(a.f0 - x.f0) := by intro h; rw [h, Int.sub_self, Int.mul_zero, Int.add_zero]
 have eb : b.f1 = x.f1 → -(b.f0 - x.f0) + B * (b.f1 - x.f1) = -(b.f0 - x.f0) := by intro h; rw [h, Int.sub_self, Int.mul_zero, Int.add_zero]
 unfold cn cS upS
 show _ = (if (a.f1 ≤ x.f1 ∧ x.f1 < b.f1) ∧ 0 < cr a b x then (1 : Int) else 0) - (if (b.f1 ≤ x.f1 ∧ x.f1 < a.f1) ∧ 0 < cr b a x then 1 else 0)
 rw [c1, c2, pa, pb]
 generalize cr a b x = c at *
 generalize -(a.f0 - x.f0) + B * (a.f1 - x.f1) = P at *
 generalize -(b.f0 - x.f0) + B * (b.f1 - x.f1) = Q at *
 unfold cnI
 repeat' split
 all_goals omega
theorem ph_ne {x a : Pt} {B : Int} (ha : -B < a.f0 - x.f0 ∧ a.f0 - x.f0 < B) (na : x ≠ a) : ph (-1) B (vec x a) ≠ 0 := by
 have pa : ph (-1) B (vec x a) = -(a.f0 - x.f0) + B * (a.f1 - x.f1) := by unfold ph vec; dsimp only; omega
 have hB : 0 < B := by omega
 rw [pa]
 rcases Int.lt_trichotomy (a.f1 - x.f1) 0 with h | h | h
 ·have : B * (a.f1 - x.f1) ≤ B * (-1) := Int.mul_le_mul_of_nonneg_left (by omega) (Int.le_of_lt hB); omega
 ·rw [h, Int.mul_zero]
  intro k; exact na (pt_ext (by omega) (by omega))
 ·have : B * 1 ≤ B * (a.f1 - x.f1) := Int.mul_le_mul_of_nonneg_left (by omega) (Int.le_of_lt hB); omega
theorem not_touch_ne {x y a b : Pt} (h : ¬ Touch x y a b) : x ≠ a ∧ x ≠ b ∧ y ≠ a ∧ y ≠ b := by
 refine ⟨fun e => h ?_, fun e => h ?_, fun e => h ?_, fun e => h ?_⟩ <;> subst e
 ·exact ⟨1, 0, 1, 0, by omega, by omega, by omega, by omega, by omega, by omega, by omega, by omega⟩
 ·exact ⟨1, 0, 0, 1, by omega, by omega, by omega, by omega, by omega, by omega, by omega, by omega⟩
 ·exact ⟨0, 1, 1, 0, by omega, by omega, by omega, by omega, by omega, by omega, by omega, by omega⟩
 ·exact ⟨0, 1, 0, 1, by omega, by omega, by omega, by omega, by omega, by omega, by omega, by omega⟩
theorem wE_const {m : List Pt} {x y : Pt} (h : ∀ e ∈ loop m, ¬ Touch x y e.1 e.2) : wE (loop m) x = wE (loop m) y := by
 obtain ⟨B, B0, hB⟩ := bnd (fun e : Pt × Pt => max (max (max (e.1.f0 - x.f0) (x.f0 - e.1.f0)) (max (e.2.f0 - x.f0) (x.f0 - e.2.f0))) (max (max (e.1.f0 - y.f0) (y.f0 - e.1.f0)) (max (e.2.f0 - y.f0) (y.f0 - e.2.f0)))) (loop m)
 unfold wE
 refine eS_loop (g := fun c => cn (-1) B (vec x c) (vec y c)) m (fun e he => ?_)
 obtain ⟨n1, n2, n3, n4⟩ := not_touch_ne (h e he)
 have b := hB e he
 have a1 : -B < e.1.f0 - x.f0 ∧ e.1.f0 - x.f0 < B := by omega
 have a2 : -B < e.2.f0 - x.f0 ∧ e.2.f0 - x.f0 < B := by omega
 have a3 : -B < e.1.f0 - y.f0 ∧ e.1.f0 - y.f0 < B := by omega
 have a4 : -B < e.2.f0 - y.f0 ∧ e.2.f0 - y.f0 < B := by omega
 have q := quad (p := -1) (q := B) (ph_ne a1 n1) (ph_ne a2 n2) (ph_ne a4 n4) (ph_ne a3 n3) (fun k => h e he (touch_of_meet k))
 rw [cn_cS a1 a2 n1 n2, cn_cS a3 a4 n3 n4] at q
 omega
end Go.Proofs.Ythehmkpcddafnaa.M
end
section
namespace Go.Proofs.Ythehmkpcddafnaa.M
open Go.Proofs.Ythehmkpcddafnaa.PG
def sc (k : Int) (p : Pt) : Pt := ⟨k * p.f0, k * p.f1⟩
def scE (k : Int) (e : Pt × Pt) : Pt × Pt := (sc k e.1, sc k e.2)
theorem pth_sc (k : Int) : ∀ (l : List Pt) (a b : Pt), pth (sc k a) (l.map (sc k)) (sc k b) = (pth a l b).map (scE k)
 | [], _, _ => rfl
 | c :: l, a, b => by
  show (sc k a, sc k c) :: pth (sc k c) (l.map (sc k)) (sc k b) = _
  rw [pth_sc k l]; rfl
theorem loop_sc (k : Int) (m : List Pt) : loop (m.map (sc k)) = (loop m).map (scE k) := by
 cases m with
 | nil => rfl
 | cons a l => exact pth_sc k l a a
theorem cr_sc (k : Int) (a b c : Pt) : cr (sc k a) (sc k b) (sc k c) = k * k * cr a b c := by unfold cr sc; dsimp only; grind
theorem sc_le {k a b : Int} (hk : 0 < k) : (k * a ≤ k * b ↔ a ≤ b) ∧ (k * a < k * b ↔ a < b) :=
 ⟨⟨fun h => Int.le_of_mul_le_mul_left h hk, fun h => Int.mul_le_mul_of_nonneg_left h (Int.le_of_lt hk)⟩, ⟨fun h => Int.lt_of_mul_lt_mul_left h (Int.le_of_lt hk), fun h => Int.mul_lt_mul_of_pos_left h hk⟩⟩
theorem sc_inj {k : Int} {a b : Pt} (hk : 0 < k) (h : sc k a = sc k b) : a = b := by
 have h0 : k * a.f0 = k * b.f0 := congrArg S41.f0 h
 have h1 : k * a.f1 = k * b.f1 := congrArg S41.f1 h
 exact pt_ext (Int.eq_of_mul_eq_mul_left (by omega) h0) (Int.eq_of_mul_eq_mul_left (by omega) h1)
theorem mul_sg {k c : Int} (hk : 0 < k) : (0 < k * c ↔ 0 < c) ∧ (k * c < 0 ↔ c < 0) ∧ (0 ≤ k * c ↔ 0 ≤ c) ∧ (k * c ≤ 0 ↔ c ≤ 0) ∧ (k * c = 0 ↔ c = 0) := by
 have p1 := mulsg (b := c) hk
 omega
theorem upS_sc {k : Int} (hk : 0 < k) (a b : Pt) (x y : Int) : upS (sc k a) (sc k b) (k * x) (k * y) = upS a b x y := by
 unfold upS
 have e : cr (sc k a) (sc k b) ⟨k * x, k * y⟩ = k * k * cr a b ⟨x, y⟩ := cr_sc k a b ⟨x, y⟩
 rw [e]
 have h1 := (sc_le (a := a.f1) (b := y) hk).1
 have h2 := (sc_le (a := y) (b := b.f1) hk).2
 have h3 := (mul_sg (c := cr a b ⟨x, y⟩) (Int.mul_pos hk hk)).1
 show (if (k * a.f1 ≤ k * y ∧ k * y < k * b.f1) ∧ 0 < k * k * cr a b ⟨x, y⟩ then (1 : Int) else 0) = _
 simp only [h1, h2, h3]
theorem eS_map {f : Pt → Pt → Int} (g : Pt × Pt → Pt × Pt) : ∀ E : List (Pt × Pt), eS f (E.map g) = eS (fun a b => f (g (a, b)).1 (g (a, b)).2) E
 | [] => rfl
 | e :: E => by
  show f (g e).1 (g e).2 + eS f (E.map g) = _
  rw [eS_map g E]; rfl
theorem wE_sc {k : Int} (hk : 0 < k) (E : List (Pt × Pt)) (p : Pt) : wE (E.map (scE k)) (sc k p) = wE E p := by
 unfold wE
 rw [eS_map]
 refine eS_congr E (fun e _ => ?_)
 show cS (sc k e.1) (sc k e.2) (k * p.f0) (k * p.f1) = _
 unfold cS; rw [upS_sc hk, upS_sc hk]
def nr (K : Int) (p d : Pt) : Pt := ⟨K * p.f0 + d.f0, K * p.f1 + d.f1⟩
theorem cr_nr (K : Int) (a b p d : Pt) : cr (sc K a) (sc K b) (nr K p d) = K * (K * cr a b p + ((b.f0 - a.f0) * d.f1 - (b.f1 - a.f1) * d.f0)) := by unfold cr sc nr; dsimp only; grind
theorem lex_sg {K c r : Int} (hr : -K < r ∧ r < K) : (0 < c → 0 < K * c + r) ∧ (c < 0 → K * c + r < 0) := by
 refine ⟨fun h => ?_, fun h => ?_⟩
 ·have : K * 1 ≤ K * c := Int.mul_le_mul_of_nonneg_left (by omega) (by omega); omega
 ·have : K * c ≤ K * (-1) := Int.mul_le_mul_of_nonneg_left (by omega) (by omega); omega
theorem upS_nr {K D : Int} {a b p : Pt} (hK : 2 ≤ K) (hD : -D < b.f0 - a.f0 ∧ b.f0 - a.f0 < D) (hr : -K < (b.f0 - a.f0) - (b.f1 - a.f1) * D ∧ (b.f0 - a.f0) - (b.f1 - a.f1) * D < K) :
  upS (sc K a) (sc K b) (K * p.f0 + D) (K * p.f1 + 1) = upS a b p.f0 p.f1 := by
 unfold upS
 have e : cr (sc K a) (sc K b) ⟨K * p.f0 + D, K * p.f1 + 1⟩ = K * (K * cr a b p + ((b.f0 - a.f0) - (b.f1 - a.f1) * D)) := by
  have := cr_nr K a b p ⟨D, 1⟩
  unfold nr at this; dsimp only at this; rw [this, Int.mul_one]
 rw [e]
 have h1 : K * a.f1 ≤ K * p.f1 + 1 ↔ a.f1 ≤ p.f1 := by
  have l1 := (sc_le (a := a.f1) (b := p.f1) (show 0 < K by omega)).1
  have l2 := (sc_le (a := p.f1 + 1) (b := a.f1) (show 0 < K by omega)).1
  rw [Int.mul_add, Int.mul_one] at l2; omega
 have h2 : K * p.f1 + 1 < K * b.f1 ↔ p.f1 < b.f1 := by
  have l1 := (sc_le (a := p.f1 + 1) (b := b.f1) (show 0 < K by omega)).1
  have l2 := (sc_le (a := b.f1) (b := p.f1) (show 0 < K by omega)).1
  rw [Int.mul_add, Int.mul_one] at l1; omega
 have h3 := (mul_sg (c := K * cr a b p + ((b.f0 - a.f0) - (b.f1 - a.f1) * D)) (show 0 < K by omega)).1
 show (if (K * a.f1 ≤ K * p.f1 + 1 ∧ K * p.f1 + 1 < K * b.f1) ∧ _ then (1 : Int) else 0) = _
 simp only [h1, h2, h3]
 have ls := lex_sg (c := cr a b p) hr
 by_cases c : a.f1 ≤ p.f1 ∧ p.f1 < b.f1
 ·have m : 1 * D ≤ (b.f1 - a.f1) * D := Int.mul_le_mul_of_nonneg_right (by omega) (by omega)
  have : (0 < K * cr a b p + ((b.f0 - a.f0) - (b.f1 - a.f1) * D)) ↔ 0 < cr a b p := by
   constructor
   ·intro h
    rcases Int.lt_trichotomy (cr a b p) 0 with k | k | k
    ·have := ls.2 k; omega
    ·rw [k, Int.mul_zero] at h; omega
    ·exact k
   ·exact ls.1
  show (if (_ ∧ _) ∧ _ then (1 : Int) else 0) = if (_ ∧ _) ∧ 0 < cr a b p then 1 else 0
  simp only [this]
 ·rw [if_neg (fun h => c h.1), if_neg (fun h => c h.1)]
theorem upT_nr {K D : Int} {a b p : Pt} (hK : 2 ≤ K) (hD : -D < b.f0 - a.f0 ∧ b.f0 - a.f0 < D) (hr : -K < (b.f0 - a.f0) - (b.f1 - a.f1) * D ∧ (b.f0 - a.f0) - (b.f1 - a.f1) * D < K) :
  upS (sc K a) (sc K b) (K * p.f0 - D) (K * p.f1 - 1) = upT a b p.f0 p.f1 := by
 unfold upS upT
 have e : cr (sc K a) (sc K b) ⟨K * p.f0 - D, K * p.f1 - 1⟩ = K * (K * cr a b p + -((b.f0 - a.f0) - (b.f1 - a.f1) * D)) := by
  have := cr_nr K a b p ⟨-D, -1⟩
  unfold nr at this; dsimp only at this
  show cr _ _ ⟨K * p.f0 + -D, K * p.f1 + -1⟩ = _
  rw [this]; grind
 rw [e]
 have h1 : K * a.f1 ≤ K * p.f1 - 1 ↔ a.f1 < p.f1 := by
  have l1 := (sc_le (a := a.f1 + 1) (b := p.f1) (show 0 < K by omega)).1
  have l2 := (sc_le (a := p.f1) (b := a.f1) (show 0 < K by omega)).1
  rw [Int.mul_add, Int.mul_one] at l1; omega
 have h2 : K * p.f1 - 1 < K * b.f1 ↔ p.f1 ≤ b.f1 := by
  have l1 := (sc_le (a := p.f1) (b := b.f1) (show 0 < K by omega)).1
  have l2 := (sc_le (a := b.f1 + 1) (b := p.f1) (show 0 < K by omega)).1
  rw [Int.mul_add, Int.mul_one] at l2; omega
 have h3 := (mul_sg (c := K * cr a b p + -((b.f0 - a.f0) - (b.f1 - a.f1) * D)) (show 0 < K by omega)).1
 show (if (K * a.f1 ≤ K * p.f1 - 1 ∧ K * p.f1 - 1 < K * b.f1) ∧ _ then (1 : Int) else 0) = _
 simp only [h1, h2, h3]
 have ls := lex_sg (K := K) (c := cr a b p) (r := -((b.f0 - a.f0) - (b.f1 - a.f1) * D)) (by omega)
 by_cases c : a.f1 < p.f1 ∧ p.f1 ≤ b.f1
 ·have m : 1 * D ≤ (b.f1 - a.f1) * D := Int.mul_le_mul_of_nonneg_right (by omega) (by omega)
  have : (0 < K * cr a b p + -((b.f0 - a.f0) - (b.f1 - a.f1) * D)) ↔ 0 ≤ cr a b p := by
   constructor
   ·intro h
    rcases Int.lt_trichotomy (cr a b p) 0 with k | k | k
    ·have := ls.2 k; omega
    ·omega
    ·omega
   ·intro h
    rcases Int.lt_or_eq_of_le h with k | k
    ·exact ls.1 k
    ·rw [← k, Int.mul_zero]; omega
  show (if (_ ∧ _) ∧ _ then (1 : Int) else 0) = if (_ ∧ _) ∧ 0 ≤ cr a b p then 1 else 0
  simp only [this]
 ·rw [if_neg (fun h => c h.1), if_neg (fun h => c h.1)]
def lev (p c : Pt) : Int := if c.f1 = p.f1 ∧ p.f0 < c.f0 then 1 else 0
theorem cS_cT_num {a0 a1 b0 b1 p0 p1 c s t : Int} (z1 : a1 = p1 → (c = -s ∧ p0 ≠ a0 ∧ ((p0 < a0 → a1 < b1 → s < 0) ∧ (a0 < p0 → a1 < b1 → 0 < s) ∧ (p0 < a0 → b1 < a1 → 0 < s) ∧ (a0 < p0 → b1 < a1 → s < 0))) ∨ b1 = a1)
  (z2 : b1 = p1 → (c = -t ∧ p0 ≠ b0 ∧ ((p0 < b0 → a1 < b1 → t < 0) ∧ (b0 < p0 → a1 < b1 → 0 < t) ∧ (p0 < b0 → b1 < a1 → 0 < t) ∧ (b0 < p0 → b1 < a1 → t < 0))) ∨ b1 = a1)
  (z3 : a1 = p1 → b1 = p1 → ¬ (min a0 b0 ≤ p0 ∧ p0 ≤ max a0 b0)) (z4 : (a1 < p1 ∧ p1 < b1) ∨ (b1 < p1 ∧ p1 < a1) → c ≠ 0) :
  (if (a1 ≤ p1 ∧ p1 < b1) ∧ 0 < c then (1 : Int) else 0) - (if (b1 ≤ p1 ∧ p1 < a1) ∧ 0 < -c then 1 else 0) = (if (a1 < p1 ∧ p1 ≤ b1) ∧ 0 ≤ c then (1 : Int) else 0) - (if (b1 < p1 ∧ p1 ≤ a1) ∧ 0 ≤ -c then 1 else 0) + ((if a1 = p1 ∧ p0 < a0 then 1 else 0) - (if b1 = p1 ∧ p0 < b0 then 1 else 0)) := by
 rcases Int.lt_trichotomy a1 p1 with ka | ka | ka <;> rcases Int.lt_trichotomy b1 p1 with kb | kb | kb
 ·simp only [show ¬ p1 < b1 by omega, show ¬ p1 < a1 by omega, show ¬ p1 ≤ b1 by omega, show ¬ p1 ≤ a1 by omega, show ¬ a1 = p1 by omega, show ¬ b1 = p1 by omega, and_false, false_and, if_false]; omega
 ·have := z2 kb
  clear z1 z2 z3 z4
  simp only [show ¬ p1 < a1 by omega, show ¬ p1 ≤ a1 by omega, show ¬ a1 = p1 by omega, kb, ka, and_false, false_and, if_false, true_and]
  split <;> split <;> omega
 ·have := z4 (Or.inl ⟨ka, kb⟩)
  clear z1 z2 z3 z4
  simp only [show p1 < b1 by omega, show ¬ p1 < a1 by omega, show p1 ≤ b1 by omega, show ¬ p1 ≤ a1 by omega, show a1 ≤ p1 by omega, show ¬ a1 = p1 by omega, show ¬ b1 = p1 by omega, ka, and_false, false_and, if_false, true_and, and_true]
  split <;> split <;> omega
 ·have := z1 ka
  clear z1 z2 z3 z4
  simp only [show ¬ p1 < b1 by omega, show ¬ p1 ≤ b1 by omega, show ¬ b1 = p1 by omega, kb, ka, and_false, false_and, if_false, true_and]
  split <;> split <;> omega
 ·have := z3 ka kb
  clear z1 z2 z3 z4
  simp only [kb, ka, true_and]
  split <;> split <;> omega
 ·have := z1 ka
  clear z1 z2 z3 z4
  simp only [show p1 < b1 by omega, show ¬ b1 < p1 by omega, show ¬ b1 = p1 by omega, ka, false_and, if_false, true_and, and_true]
  split <;> split <;> omega
 ·have := z4 (Or.inr ⟨kb, ka⟩)
  clear z1 z2 z3 z4
  simp only [show ¬ p1 < b1 by omega, show p1 < a1 by omega, show ¬ p1 ≤ b1 by omega, show p1 ≤ a1 by omega, show ¬ a1 ≤ p1 by omega, show ¬ a1 < p1 by omega, show ¬ a1 = p1 by omega, show ¬ b1 = p1 by omega, show b1 ≤ p1 by omega, kb, and_false, false_and, if_false, true_and, and_true]
  split <;> split <;> omega
 ·have := z2 kb
  clear z1 z2 z3 z4
  simp only [show p1 < a1 by omega, show ¬ a1 ≤ p1 by omega, show ¬ a1 < p1 by omega, show ¬ a1 = p1 by omega, kb, false_and, if_false, true_and, and_true]
  split <;> split <;> omega
 ·simp only [show ¬ a1 ≤ p1 by omega, show ¬ b1 ≤ p1 by omega, show ¬ a1 < p1 by omega, show ¬ b1 < p1 by omega, show ¬ a1 = p1 by omega, show ¬ b1 = p1 by omega, false_and, if_false]; omega
theorem sgn4 (u v : Int) : (0 < u → 0 < v → 0 < u * v) ∧ (u < 0 → 0 < v → u * v < 0) ∧ (0 < u → v < 0 → u * v < 0) ∧ (u < 0 → v < 0 → 0 < u * v) :=
 ⟨fun a b => Int.mul_pos a b, fun a b => Int.mul_neg_of_neg_of_pos a b, fun a b => Int.mul_neg_of_pos_of_neg a b, fun a b => Int.mul_pos_of_neg_of_neg a b⟩
theorem on_mid {a b p : Pt} (h1 : (a.f1 < p.f1 ∧ p.f1 < b.f1) ∨ (b.f1 < p.f1 ∧ p.f1 < a.f1)) (z : cr a b p = 0) : On a b p := by
 have e : (b.f0 - a.f0) * (p.f1 - a.f1) = (p.f0 - a.f0) * (b.f1 - a.f1) := by unfold cr at z; omega
 rcases h1 with h | h
 ·exact par_on (s := b.f1 - p.f1) (t := p.f1 - a.f1) (by omega) (by omega) (by omega) (by grind) (by grind)
 ·exact par_on (s := p.f1 - b.f1) (t := a.f1 - p.f1) (by omega) (by omega) (by omega) (by grind) (by grind)
theorem cS_cT {a b p : Pt} (h : ¬ On a b p) : cS a b p.f0 p.f1 = cT a b p.f0 p.f1 + (lev p a - lev p b) := by
 have c2 : cr b a p = - cr a b p := by unfold cr; grind
 have h1 : a.f1 = p.f1 → cr a b p = -((p.f0 - a.f0) * (b.f1 - a.f1)) := by intro e; unfold cr; rw [e]; grind
 have h2 : b.f1 = p.f1 → cr a b p = -((p.f0 - b.f0) * (b.f1 - a.f1)) := by intro e; unfold cr; rw [e]; grind
 have na : ¬ (a.f0 = p.f0 ∧ a.f1 = p.f1) := fun k => h (by rw [show p = a from pt_ext k.1.symm k.2.symm]; exact ⟨cr_self1 _ _, btw_start _ _⟩)
 have nb : ¬ (b.f0 = p.f0 ∧ b.f1 = p.f1) := fun k => h (by rw [show p = b from pt_ext k.1.symm k.2.symm]; exact ⟨cr_self2 _ _, btw_end _ _⟩)
 have s1 := sgn4 (p.f0 - a.f0) (b.f1 - a.f1)
 have s2 := sgn4 (p.f0 - b.f0) (b.f1 - a.f1)
 unfold cS cT upS upT lev
 show (if (a.f1 ≤ p.f1 ∧ p.f1 < b.f1) ∧ 0 < cr a b p then (1 : Int) else 0) - (if (b.f1 ≤ p.f1 ∧ p.f1 < a.f1) ∧ 0 < cr b a p then 1 else 0) = (if (a.f1 < p.f1 ∧ p.f1 ≤ b.f1) ∧ 0 ≤ cr a b p then (1 : Int) else 0) - (if (b.f1 < p.f1 ∧ p.f1 ≤ a.f1) ∧ 0 ≤ cr b a p then 1 else 0) + _
 rw [c2]
 refine cS_cT_num (s := (p.f0 - a.f0) * (b.f1 - a.f1)) (t := (p.f0 - b.f0) * (b.f1 - a.f1)) (fun k => ?_) (fun k => ?_) (fun k1 k2 k => ?_) (fun k z => h (on_mid k z))
 ·by_cases e : b.f1 = a.f1
  ·exact Or.inr e
  ·refine Or.inl ⟨h1 k, fun e => na ⟨e.symm, k⟩, fun _ _ => s1.2.1 (by omega) (by omega), fun _ _ => s1.1 (by omega) (by omega), fun _ _ => s1.2.2.2 (by omega) (by omega), fun _ _ => s1.2.2.1 (by omega) (by omega)⟩
 ·by_cases e : b.f1 = a.f1
  ·exact Or.inr e
  ·refine Or.inl ⟨h2 k, fun e => nb ⟨e.symm, k⟩, fun _ _ => s2.2.1 (by omega) (by omega), fun _ _ => s2.1 (by omega) (by omega), fun _ _ => s2.2.2.2 (by omega) (by omega), fun _ _ => s2.2.2.1 (by omega) (by omega)⟩
 ·refine h ⟨?_, ?_⟩
  ·rw [h1 k1, show b.f1 - a.f1 = 0 by omega, Int.mul_zero]; rfl
  ·exact ⟨k.1, k.2, by omega, by omega⟩
end Go.Proofs.Ythehmkpcddafnaa.M
end
section
namespace Go.Proofs.Ythehmkpcddafnaa.M
open Go.Proofs.Ythehmkpcddafnaa.PG
theorem eS_zero {f : Pt → Pt → Int} : ∀ E : List (Pt × Pt), (∀ e ∈ E, f e.1 e.2 = 0) → eS f E = 0
 | [], _ => rfl
 | e :: E, h => by show f e.1 e.2 + eS f E = 0; rw [h e (List.mem_cons_self ..), eS_zero E (fun x hx => h x (List.mem_cons_of_mem _ hx))]; rfl
theorem wE_wF {m : List Pt} {p : Pt} (h : ∀ e ∈ loop m, ¬ On e.1 e.2 p) : wE (loop m) p = wF (loop m) p :=
 eS_loop (g := lev p) m (fun e he => cS_cT (h e he))
theorem cr_lev1 {a b p : Pt} (e : a.f1 = p.f1) : cr a b p = -((p.f0 - a.f0) * (b.f1 - a.f1)) := by unfold cr; rw [e]; grind
theorem cr_lev2 {a b p : Pt} (e : b.f1 = p.f1) : cr a b p = -((p.f0 - b.f0) * (b.f1 - a.f1)) := by unfold cr; rw [e]; grind
theorem edge_jump {a b p : Pt} (h : On a b p) (na : p ≠ a) (nb : p ≠ b) : cS a b p.f0 p.f1 - cT a b p.f0 p.f1 - (lev p a - lev p b) = 1 ∨ cS a b p.f0 p.f1 - cT a b p.f0 p.f1 - (lev p a - lev p b) = -1 := by
 obtain ⟨h0, h1, h2, h3, h4⟩ := h
 have c2 : cr b a p = 0 := by have : cr b a p = - cr a b p := (by unfold cr; grind); omega
 have la : a.f1 = p.f1 → b.f1 = p.f1 ∨ a.f0 = p.f0 := by
  intro e
  have := cr_lev1 (b := b) e
  have : (p.f0 - a.f0) * (b.f1 - a.f1) = 0 := by omega
  rcases Int.mul_eq_zero.mp this with k | k <;> omega
 have lb : b.f1 = p.f1 → a.f1 = p.f1 ∨ b.f0 = p.f0 := by
  intro e
  have := cr_lev2 (a := a) e
  have : (p.f0 - b.f0) * (b.f1 - a.f1) = 0 := by omega
  rcases Int.mul_eq_zero.mp this with k | k <;> omega
 have za : ¬ (p.f0 = a.f0 ∧ p.f1 = a.f1) := fun k => na (pt_ext k.1 k.2)
 have zb : ¬ (p.f0 = b.f0 ∧ p.f1 = b.f1) := fun k => nb (pt_ext k.1 k.2)
 unfold cS cT upS upT lev
 have e1 : cr a b ⟨p.f0, p.f1⟩ = 0 := h0
 have e2 : cr b a ⟨p.f0, p.f1⟩ = 0 := c2
 rw [e1, e2]
 clear e1 e2 h0 c2 na nb
 rcases Int.lt_trichotomy a.f1 p.f1 with ka | ka | ka <;> rcases Int.lt_trichotomy b.f1 p.f1 with kb | kb | kb
 ·omega
 ·have := lb kb; omega
 ·rw [if_neg (by omega), if_neg (by omega), if_pos (by omega), if_neg (by omega), if_neg (by omega), if_neg (by omega)]; omega
 ·have := la ka; omega
 ·rw [if_neg (by omega), if_neg (by omega), if_neg (by omega), if_neg (by omega)]
  by_cases k : p.f0 < a.f0
  ·rw [if_pos ⟨ka, k⟩, if_neg (by omega)]; omega
  ·rw [if_neg (by omega), if_pos (by omega)]; omega
 ·have := la ka; omega
 ·rw [if_neg (by omega), if_neg (by omega), if_neg (by omega), if_pos (by omega), if_neg (by omega), if_neg (by omega)]; omega
 ·have := lb kb; omega
 ·omega
theorem wE_wF_on {a b p : Pt} {l : List Pt} (h : On a b p) (na : p ≠ a) (nb : p ≠ b) (ho : ∀ e ∈ pth b l a, ¬ On e.1 e.2 p) : wE (loop (a :: b :: l)) p - wF (loop (a :: b :: l)) p = 1 ∨ wE (loop (a :: b :: l)) p - wF (loop (a :: b :: l)) p = -1 := by
 have e1 : wE (loop (a :: b :: l)) p = cS a b p.f0 p.f1 + eS (fun a b => cS a b p.f0 p.f1) (pth b l a) := rfl
 have e2 : wF (loop (a :: b :: l)) p = cT a b p.f0 p.f1 + eS (fun a b => cT a b p.f0 p.f1) (pth b l a) := rfl
 have t := eS_tel (f := fun a b => cS a b p.f0 p.f1) (f' := fun a b => cT a b p.f0 p.f1) (g := lev p) l b a (fun e he => cS_cT (ho e he))
 have j := edge_jump h na nb
 rw [e1, e2, t]; omega
theorem wE_far {E : List (Pt × Pt)} {p : Pt} (h : (∀ e ∈ E, p.f1 < e.1.f1 ∧ p.f1 < e.2.f1) ∨ (∀ e ∈ E, e.1.f1 < p.f1 ∧ e.2.f1 < p.f1)) : wE E p = 0 := by
 refine eS_zero E (fun e he => ?_)
 unfold cS upS
 rcases h with h | h <;> have := h e he <;> rw [if_neg (by omega), if_neg (by omega)] <;> rfl
theorem pth_mem : ∀ (l : List Pt) (a b : Pt), ∀ e ∈ pth a l b, e.1 ∈ a :: l ∧ e.2 ∈ l ++ [b]
 | [], a, b, e, he => by
  have : e = (a, b) := List.mem_singleton.mp he
  subst this; exact ⟨List.mem_cons_self .., List.mem_cons_self ..⟩
 | c :: l, a, b, e, he => by
  rcases List.mem_cons.mp he with k | k
  ·subst k; exact ⟨List.mem_cons_self .., List.mem_cons_self ..⟩
  ·have := pth_mem l c b e k
   exact ⟨List.mem_cons_of_mem _ this.1, List.mem_cons_of_mem _ this.2⟩
theorem loop_mem {m : List Pt} {e : Pt × Pt} (he : e ∈ loop m) : e.1 ∈ m ∧ e.2 ∈ m := by
 cases m with
 | nil => cases he
 | cons a l =>
  have := pth_mem l a a e he
  refine ⟨this.1, ?_⟩
  rcases List.mem_append.mp this.2 with k | k
  ·exact List.mem_cons_of_mem _ k
  ·rw [List.mem_singleton.mp k]; exact List.mem_cons_self ..
theorem wE_out {m : List Pt} {a b p : Pt} (hp : cr a b p < 0) (hm : ∀ q ∈ m, 0 ≤ cr a b q) : wE (loop m) p = 0 := by
 obtain ⟨B, B0, hB⟩ := bnd (fun q : Pt => max (q.f1 - p.f1) (p.f1 - q.f1)) m
 have go : ∀ g : Pt, cr a b g ≤ cr a b p → ((∀ e ∈ loop m, g.f1 < e.1.f1 ∧ g.f1 < e.2.f1) ∨ (∀ e ∈ loop m, e.1.f1 < g.f1 ∧ e.2.f1 < g.f1)) → wE (loop m) p = 0 := by
  intro g hg far
  rw [← wE_far far]
  refine wE_const (fun e he => ?_)
  intro ⟨s, t, u, v, h1, h2, h3, h4, h5, h6, h7, h8⟩
  obtain ⟨m1, m2⟩ := loop_mem he
  have q1 := hm _ m1
  have q2 := hm _ m2
  have id : (u + v) * (s * cr a b p + t * cr a b g) = (s + t) * (u * cr a b e.1 + v * cr a b e.2) := by unfold cr; grind
  have n1 : s * cr a b p + t * cr a b g < 0 := by
   have : s * cr a b p + t * cr a b g ≤ s * cr a b p + t * cr a b p := by have := Int.mul_le_mul_of_nonneg_left hg h2; omega
   have e : s * cr a b p + t * cr a b p = (s + t) * cr a b p := by grind
   have := Int.mul_neg_of_pos_of_neg h5 hp
   omega
  have n2 := Int.mul_neg_of_pos_of_neg h6 n1
  have n3 := Int.mul_nonneg (Int.le_of_lt h5) (show 0 ≤ u * cr a b e.1 + v * cr a b e.2 by have := Int.mul_nonneg h3 q1; have := Int.mul_nonneg h4 q2; omega)
  omega
 rcases Int.le_total 0 (b.f0 - a.f0) with k | k
 ·refine go ⟨p.f0, p.f1 - B⟩ ?_ (Or.inl (fun e he => ?_))
  ·have : cr a b ⟨p.f0, p.f1 - B⟩ = cr a b p - (b.f0 - a.f0) * B := by unfold cr; dsimp only; grind
   have := Int.mul_nonneg k (Int.le_of_lt B0); omega
  ·obtain ⟨m1, m2⟩ := loop_mem he
   have := hB _ m1
   have := hB _ m2
   dsimp only; omega
 ·refine go ⟨p.f0, p.f1 + B⟩ ?_ (Or.inr (fun e he => ?_))
  ·have : cr a b ⟨p.f0, p.f1 + B⟩ = cr a b p + (b.f0 - a.f0) * B := by unfold cr; dsimp only; grind
   have := Int.mul_nonpos_of_nonpos_of_nonneg k (Int.le_of_lt B0); omega
  ·obtain ⟨m1, m2⟩ := loop_mem he
   have := hB _ m1
   have := hB _ m2
   dsimp only; omega
def InT (a b c p : Pt) : Prop := 0 < cr a b p ∧ 0 < cr b c p ∧ 0 < cr c a p
theorem tri_in {a b c p : Pt} (h : InT a b c p) : wE (loop [a, b, c]) p = 1 := by
 obtain ⟨h1, h2, h3⟩ := h
 have id0 : cr b c p * a.f1 + cr c a p * b.f1 + cr a b p * c.f1 = (cr a b p + cr b c p + cr c a p) * p.f1 := by unfold cr; grind
 have c1 : cr b a p = - cr a b p := by unfold cr; grind
 have c2 : cr c b p = - cr b c p := by unfold cr; grind
 have c3 : cr a c p = - cr c a p := by unfold cr; grind
 have n1 : ¬ (a.f1 ≤ p.f1 ∧ b.f1 ≤ p.f1 ∧ c.f1 ≤ p.f1 ∧ (a.f1 < p.f1 ∨ b.f1 < p.f1 ∨ c.f1 < p.f1)) := by
  intro ⟨x, y, z, w⟩
  have i1 := Int.mul_nonneg (Int.le_of_lt h2) (show 0 ≤ p.f1 - a.f1 by omega)
  have i2 := Int.mul_nonneg (Int.le_of_lt h3) (show 0 ≤ p.f1 - b.f1 by omega)
  have i3 := Int.mul_nonneg (Int.le_of_lt h1) (show 0 ≤ p.f1 - c.f1 by omega)
  have e : cr b c p * (p.f1 - a.f1) + cr c a p * (p.f1 - b.f1) + cr a b p * (p.f1 - c.f1) = 0 := by grind
  rcases w with w | w | w
  ·have := Int.mul_pos h2 (show 0 < p.f1 - a.f1 by omega); omega
  ·have := Int.mul_pos h3 (show 0 < p.f1 - b.f1 by omega); omega
  ·have := Int.mul_pos h1 (show 0 < p.f1 - c.f1 by omega); omega
 have n2 : ¬ (p.f1 < a.f1 ∧ p.f1 < b.f1 ∧ p.f1 < c.f1) := by
  intro ⟨x, y, z⟩
  have i1 := Int.mul_pos h2 (show 0 < a.f1 - p.f1 by omega)
  have i2 := Int.mul_pos h3 (show 0 < b.f1 - p.f1 by omega)
  have i3 := Int.mul_pos h1 (show 0 < c.f1 - p.f1 by omega)
  have e : cr b c p * (a.f1 - p.f1) + cr c a p * (b.f1 - p.f1) + cr a b p * (c.f1 - p.f1) = 0 := by grind
  omega
 have n3 : ¬ (a.f1 = p.f1 ∧ b.f1 = p.f1 ∧ c.f1 = p.f1) := by
  intro ⟨x, y, z⟩
  have : cr a b p = 0 := by unfold cr; rw [x, y]; grind
  omega
 show cS a b p.f0 p.f1 + (cS b c p.f0 p.f1 + (cS c a p.f0 p.f1 + 0)) = 1
 unfold cS upS
 have e1 : ∀ x y : Pt, cr x y ⟨p.f0, p.f1⟩ = cr x y p := fun _ _ => rfl
 rw [e1, e1, e1, e1, e1, e1, c1, c2, c3]
 clear id0 c1 c2 c3
 generalize cr a b p = A at *
 generalize cr b c p = B at *
 generalize cr c a p = C at *
 have d1 : ∀ (P : Prop) (v : Int), ¬ (P ∧ 0 < -v) ∨ v ≤ 0 := fun P v => by by_cases k : v ≤ 0; exact Or.inr k; exact Or.inl (fun x => by omega)
 rw [if_neg (show ¬ (_ ∧ 0 < -A) from fun x => by omega), if_neg (show ¬ (_ ∧ 0 < -B) from fun x => by omega), if_neg (show ¬ (_ ∧ 0 < -C) from fun x => by omega)]
 rcases Int.lt_or_le p.f1 a.f1 with ka | ka <;> rcases Int.lt_or_le p.f1 b.f1 with kb | kb <;> rcases Int.lt_or_le p.f1 c.f1 with kc | kc
 ·exact absurd ⟨ka, kb, kc⟩ n2
 ·rw [if_neg (by omega), if_neg (by omega), if_pos (by omega)]; rfl
 ·rw [if_neg (by omega), if_pos (by omega), if_neg (by omega)]; rfl
 ·rw [if_neg (by omega), if_neg (by omega), if_pos (by omega)]; rfl
 ·rw [if_pos (by omega), if_neg (by omega), if_neg (by omega)]; rfl
 ·rw [if_pos (by omega), if_neg (by omega), if_neg (by omega)]; rfl
 ·rw [if_neg (by omega), if_pos (by omega), if_neg (by omega)]; rfl
 ·omega
end Go.Proofs.Ythehmkpcddafnaa.M
end
section
namespace Go.Proofs.Ythehmkpcddafnaa.M
open Go.Proofs.Ythehmkpcddafnaa.PG
structure Com (a b c d : Pt) (s t u v : Int) : Prop where
 hs : 0 ≤ s
 ht : 0 ≤ t
 hu : 0 ≤ u
 hv : 0 ≤ v
 st : 0 < s + t
 uv : 0 < u + v
 e0 : (u + v) * (s * a.f0 + t * b.f0) = (s + t) * (u * c.f0 + v * d.f0)
 e1 : (u + v) * (s * a.f1 + t * b.f1) = (s + t) * (u * c.f1 + v * d.f1)
theorem touch_com {a b c d : Pt} : Touch a b c d ↔ ∃ s t u v, Com a b c d s t u v :=
 ⟨fun ⟨s, t, u, v, h1, h2, h3, h4, h5, h6, h7, h8⟩ => ⟨s, t, u, v, h1, h2, h3, h4, h5, h6, h7, h8⟩, fun ⟨s, t, u, v, h⟩ => ⟨s, t, u, v, h.hs, h.ht, h.hu, h.hv, h.st, h.uv, h.e0, h.e1⟩⟩
theorem Com.symm {a b c d : Pt} {s t u v : Int} (h : Com a b c d s t u v) : Com c d a b u v s t := ⟨h.hu, h.hv, h.hs, h.ht, h.uv, h.st, h.e0.symm, h.e1.symm⟩
theorem Com.swap {a b c d : Pt} {s t u v : Int} (h : Com a b c d s t u v) : Com b a c d t s u v :=
 ⟨h.ht, h.hs, h.hu, h.hv, by have := h.st; omega, h.uv, by rw [Int.add_comm t s, Int.add_comm (t * b.f0)]; exact h.e0, by rw [Int.add_comm t s, Int.add_comm (t * b.f1)]; exact h.e1⟩
def Ends (a b c d : Pt) : Prop := ∀ s t u v, Com a b c d s t u v → (s = 0 ∨ t = 0) ∧ (u = 0 ∨ v = 0)
theorem Ends.symm {a b c d : Pt} (h : Ends a b c d) : Ends c d a b := fun s t u v k => (h u v s t k.symm).symm
theorem Ends.swap {a b c d : Pt} (h : Ends a b c d) : Ends b a c d := fun s t u v k => by have := h t s u v k.swap; exact ⟨this.1.symm, this.2⟩
theorem Ends.swap2 {a b c d : Pt} (h : Ends a b c d) : Ends a b d c := h.symm.swap.symm
theorem scaled_eq {k x y : Int} (hk : 0 < k) (h : k * x = k * y) : x = y := Int.eq_of_mul_eq_mul_left (by omega) h
theorem Com.ends {a b c d : Pt} {s t u v : Int} (h : Com a b c d s t u v) (h1 : s = 0 ∨ t = 0) (h2 : u = 0 ∨ v = 0) : (t = 0 ∧ v = 0 ∧ a = c) ∨ (t = 0 ∧ u = 0 ∧ a = d) ∨ (s = 0 ∧ v = 0 ∧ b = c) ∨ (s = 0 ∧ u = 0 ∧ b = d) := by
 obtain ⟨hs, ht, hu, hv, st, uv, e0, e1⟩ := h
 have go : ∀ {p q : Int} {x y : Pt}, 0 < p → 0 < q → q * (p * x.f0) = p * (q * y.f0) → q * (p * x.f1) = p * (q * y.f1) → x = y := by
  intro p q x y hp hq k0 k1
  rw [Int.mul_left_comm] at k0 k1
  exact pt_ext (scaled_eq hq (scaled_eq hp k0)) (scaled_eq hq (scaled_eq hp k1))
 rcases h1 with h1 | h1 <;> rcases h2 with h2 | h2 <;> subst h1 <;> subst h2 <;> simp only [Int.zero_add, Int.add_zero, Int.zero_mul] at e0 e1 st uv
 ·exact Or.inr (Or.inr (Or.inr ⟨rfl, rfl, go st uv e0 e1⟩))
 ·exact Or.inr (Or.inr (Or.inl ⟨rfl, rfl, go st uv e0 e1⟩))
 ·exact Or.inr (Or.inl ⟨rfl, rfl, go st uv e0 e1⟩)
 ·exact Or.inl ⟨rfl, rfl, go st uv e0 e1⟩
theorem Ends.share {a b c d : Pt} (h : Ends a b c d) (k : Touch a b c d) : a = c ∨ a = d ∨ b = c ∨ b = d := by
 obtain ⟨s, t, u, v, k⟩ := touch_com.mp k
 have := h s t u v k
 rcases k.ends this.1 this.2 with x | x | x | x
 ·exact Or.inl x.2.2
 ·exact Or.inr (Or.inl x.2.2)
 ·exact Or.inr (Or.inr (Or.inl x.2.2))
 ·exact Or.inr (Or.inr (Or.inr x.2.2))
theorem com_on {a b c d p : Pt} (h : On a b p) (k : On c d p) : ∃ s t u v, Com a b c d s t u v ∧ ((s + t) * p.f0 = s * a.f0 + t * b.f0 ∧ (s + t) * p.f1 = s * a.f1 + t * b.f1) ∧ ((u + v) * p.f0 = u * c.f0 + v * d.f0 ∧ (u + v) * p.f1 = u * c.f1 + v * d.f1) := by
 obtain ⟨s, t, h1, h2, h3, h4, h5⟩ := on_par h
 obtain ⟨u, v, k1, k2, k3, k4, k5⟩ := on_par k
 exact ⟨s, t, u, v, ⟨h1, h2, k1, k2, h3, k3, by rw [← h4, ← k4, Int.mul_left_comm], by rw [← h5, ← k5, Int.mul_left_comm]⟩, ⟨h4, h5⟩, ⟨k4, k5⟩⟩
theorem end_eq {s t : Int} {a b p : Pt} (st : 0 < s + t) (e0 : (s + t) * p.f0 = s * a.f0 + t * b.f0) (e1 : (s + t) * p.f1 = s * a.f1 + t * b.f1) : (t = 0 → p = a) ∧ (s = 0 → p = b) := by
 refine ⟨fun h => ?_, fun h => ?_⟩ <;> subst h <;> simp only [Int.zero_add, Int.add_zero, Int.zero_mul] at e0 e1 st
 ·exact pt_ext (scaled_eq st e0) (scaled_eq st e1)
 ·exact pt_ext (scaled_eq st e0) (scaled_eq st e1)
theorem Ends.on {a b c d p : Pt} (h : Ends a b c d) (h1 : On a b p) (h2 : On c d p) : (p = a ∨ p = b) ∧ (p = c ∨ p = d) := by
 obtain ⟨s, t, u, v, k, k1, k2⟩ := com_on h1 h2
 have i1 := end_eq k.st k1.1 k1.2
 have i2 := end_eq k.uv k2.1 k2.2
 obtain ⟨j1, j2⟩ := h s t u v k
 exact ⟨j1.elim (fun x => Or.inr (i1.2 x)) (fun x => Or.inl (i1.1 x)), j2.elim (fun x => Or.inr (i2.2 x)) (fun x => Or.inl (i2.1 x))⟩
theorem com_sc {k : Int} (hk : 0 < k) {a b c d : Pt} {s t u v : Int} : Com (sc k a) (sc k b) (sc k c) (sc k d) s t u v ↔ Com a b c d s t u v := by
 have id : ∀ s x t y : Int, s * (k * x) + t * (k * y) = k * (s * x + t * y) := fun s x t y => by grind
 constructor
 ·intro h
  have e0 : (u + v) * (s * (k * a.f0) + t * (k * b.f0)) = (s + t) * (u * (k * c.f0) + v * (k * d.f0)) := h.e0
  have e1 : (u + v) * (s * (k * a.f1) + t * (k * b.f1)) = (s + t) * (u * (k * c.f1) + v * (k * d.f1)) := h.e1
  rw [id, id, Int.mul_left_comm, Int.mul_left_comm (s + t)] at e0 e1
  exact ⟨h.hs, h.ht, h.hu, h.hv, h.st, h.uv, scaled_eq hk e0, scaled_eq hk e1⟩
 ·intro h
  refine ⟨h.hs, h.ht, h.hu, h.hv, h.st, h.uv, ?_, ?_⟩
  ·show (u + v) * (s * (k * a.f0) + t * (k * b.f0)) = (s + t) * (u * (k * c.f0) + v * (k * d.f0))
   rw [id, id, Int.mul_left_comm, Int.mul_left_comm (s + t), h.e0]
  ·show (u + v) * (s * (k * a.f1) + t * (k * b.f1)) = (s + t) * (u * (k * c.f1) + v * (k * d.f1))
   rw [id, id, Int.mul_left_comm, Int.mul_left_comm (s + t), h.e1]
theorem Ends.sc {k : Int} (hk : 0 < k) {a b c d : Pt} (h : Ends a b c d) : Ends (sc k a) (sc k b) (sc k c) (sc k d) := fun s t u v e => h s t u v ((com_sc hk).mp e)
structure SP (m : List Pt) : Prop where
 three : 3 ≤ m.length
 nd : m.Nodup
 sep : ∀ e ∈ loop m, ∀ f ∈ loop m, e ≠ f → Ends e.1 e.2 f.1 f.2
theorem pth_fst : ∀ (l : List Pt) (a b : Pt), (a :: l).Nodup → ∀ e ∈ pth a l b, ∀ f ∈ pth a l b, e.1 = f.1 → e = f
 | [], a, b, _, e, he, f, hf, _ => by rw [List.mem_singleton.mp he, List.mem_singleton.mp hf]
 | c :: l, a, b, nd, e, he, f, hf, h => by
  obtain ⟨n1, n2⟩ := List.nodup_cons.mp nd
  rcases List.mem_cons.mp he with k | k <;> rcases List.mem_cons.mp hf with j | j
  ·rw [k, j]
  ·subst k; exact absurd (by rw [show a = f.1 from h]; exact (pth_mem l c b f j).1) n1
  ·subst j; exact absurd (by rw [show a = e.1 from h.symm]; exact (pth_mem l c b e k).1) n1
  ·exact pth_fst l c b n2 e k f j h
theorem pth_snd : ∀ (l : List Pt) (a b : Pt), (l ++ [b]).Nodup → ∀ e ∈ pth a l b, ∀ f ∈ pth a l b, e.2 = f.2 → e = f
 | [], a, b, _, e, he, f, hf, _ => by rw [List.mem_singleton.mp he, List.mem_singleton.mp hf]
 | c :: l, a, b, nd, e, he, f, hf, h => by
  obtain ⟨n1, n2⟩ := List.nodup_cons.mp nd
  rcases List.mem_cons.mp he with k | k <;> rcases List.mem_cons.mp hf with j | j
  ·rw [k, j]
  ·subst k; exact absurd (by rw [show c = f.2 from h]; exact (pth_mem l c b f j).2) n1
  ·subst j; exact absurd (by rw [show c = e.2 from h.symm]; exact (pth_mem l c b e k).2) n1
  ·exact pth_snd l c b n2 e k f j h
theorem pth_ne : ∀ (l : List Pt) (a b : Pt), (a :: l).Nodup → b ∉ a :: l → ∀ e ∈ pth a l b, e.1 ≠ e.2
 | [], a, b, _, h, e, he => by rw [List.mem_singleton.mp he]; intro k; exact h (by rw [← show a = b from k]; exact List.mem_cons_self ..)
 | c :: l, a, b, nd, h, e, he => by
  obtain ⟨n1, n2⟩ := List.nodup_cons.mp nd
  rcases List.mem_cons.mp he with k | k
  ·subst k; intro e; exact n1 (by rw [show a = c from e]; exact List.mem_cons_self ..)
  ·exact pth_ne l c b n2 (fun x => h (List.mem_cons_of_mem _ x)) e k
theorem nodup_swap {l1 l2 : List Pt} (h : (l1 ++ l2).Nodup) : (l2 ++ l1).Nodup := (List.perm_append_comm.nodup_iff).mp h
theorem loop_fst {m : List Pt} (nd : m.Nodup) : ∀ e ∈ loop m, ∀ f ∈ loop m, e.1 = f.1 → e = f := by
 cases m with
 | nil => intro e he; cases he
 | cons a l => exact pth_fst l a a nd
theorem loop_snd {m : List Pt} (nd : m.Nodup) : ∀ e ∈ loop m, ∀ f ∈ loop m, e.2 = f.2 → e = f := by
 cases m with
 | nil => intro e he; cases he
 | cons a l => exact pth_snd l a a (nodup_swap (l1 := [a]) nd)
theorem path_has_fst : ∀ (l : List Pt) (a b x : Pt), x ∈ a :: l → ∃ e ∈ pth a l b, e.1 = x
 | [], a, b, x, h => ⟨(a, b), List.mem_cons_self .., (List.mem_singleton.mp h).symm⟩
 | c :: l, a, b, x, h => by
  rcases List.mem_cons.mp h with k | k
  ·exact ⟨(a, c), List.mem_cons_self .., k.symm⟩
  ·obtain ⟨e, h1, h2⟩ := path_has_fst l c b x k
   exact ⟨e, List.mem_cons_of_mem _ h1, h2⟩
theorem loop_has_fst {m : List Pt} {x : Pt} (h : x ∈ m) : ∃ e ∈ loop m, e.1 = x := by
 cases m with
 | nil => cases h
 | cons a l => exact path_has_fst l a a x h
theorem loop_at (a : Pt) (l1 : List Pt) (b : Pt) (l2 : List Pt) : loop (a :: (l1 ++ b :: l2)) = pth a l1 b ++ pth b l2 a := pth_app l1 a b l2 a
theorem loop_rot {a b : Pt} {l1 l2 : List Pt} {e : Pt × Pt} : e ∈ loop (a :: (l1 ++ b :: l2)) ↔ e ∈ loop (b :: (l2 ++ a :: l1)) := by
 rw [loop_at, loop_at, List.mem_append, List.mem_append]; exact or_comm
theorem eS_rot (f : Pt → Pt → Int) (a : Pt) (l1 : List Pt) (b : Pt) (l2 : List Pt) : eS f (loop (b :: (l2 ++ a :: l1))) = eS f (loop (a :: (l1 ++ b :: l2))) := by
 rw [loop_at, loop_at, eS_app, eS_app]; omega
theorem SP.rot {a b : Pt} {l1 l2 : List Pt} (h : SP (a :: (l1 ++ b :: l2))) : SP (b :: (l2 ++ a :: l1)) := by
 refine ⟨?_, nodup_swap (l1 := a :: l1) (l2 := b :: l2) h.nd, fun e he f hf => h.sep e (loop_rot.mpr he) f (loop_rot.mpr hf)⟩
 have := h.three
 simp only [List.length_cons, List.length_append] at *; omega
theorem loop_ne {m : List Pt} (h2 : 2 ≤ m.length) (nd : m.Nodup) : ∀ e ∈ loop m, e.1 ≠ e.2 := by
 match m, h2, nd with
 | a :: b :: l, _, nd =>
  intro e he
  obtain ⟨n1, n2⟩ := List.nodup_cons.mp nd
  rcases List.mem_cons.mp he with k | k
  ·subst k; intro x; exact n1 (by rw [show a = b from x]; exact List.mem_cons_self ..)
  ·exact pth_ne l b a n2 n1 e k
theorem SP.ne {m : List Pt} (h : SP m) : ∀ e ∈ loop m, e.1 ≠ e.2 := loop_ne (by have := h.three; omega) h.nd
theorem nodup_sc {k : Int} (hk : 0 < k) : ∀ m : List Pt, m.Nodup → (m.map (sc k)).Nodup
 | [], _ => List.nodup_nil
 | a :: l, h => by
  obtain ⟨n1, n2⟩ := List.nodup_cons.mp h
  refine List.nodup_cons.mpr ⟨fun x => ?_, nodup_sc hk l n2⟩
  obtain ⟨y, y1, y2⟩ := List.mem_map.mp x
  exact n1 (by rw [← sc_inj hk y2]; exact y1)
theorem SP.sc {k : Int} (hk : 0 < k) {m : List Pt} (h : SP m) : SP (m.map (sc k)) := by
 refine ⟨by rw [List.length_map]; exact h.three, nodup_sc hk m h.nd, fun e he f hf hne => ?_⟩
 rw [loop_sc] at he hf
 obtain ⟨e', e1, e2⟩ := List.mem_map.mp he
 obtain ⟨f', f1, f2⟩ := List.mem_map.mp hf
 subst e2; subst f2
 exact (h.sep e' e1 f' f1 (fun x => hne (by rw [x]))).sc hk
theorem SP.corner {m : List Pt} (h : SP m) {x : Pt} (hx : x ∈ m) {e : Pt × Pt} (he : e ∈ loop m) (o : On e.1 e.2 x) : x = e.1 ∨ x = e.2 := by
 obtain ⟨f, f1, f2⟩ := loop_has_fst hx
 by_cases k : e = f
 ·subst k; exact Or.inl f2.symm
 ·exact ((h.sep e he f f1 k).on o (by rw [← f2]; exact ⟨cr_self1 _ _, btw_start _ _⟩)).1
end Go.Proofs.Ythehmkpcddafnaa.M
end
section
namespace Go.Proofs.Ythehmkpcddafnaa.M
open Go.Proofs.Ythehmkpcddafnaa.PG
def Cl (a b c p : Pt) : Prop := 0 ≤ cr a b p ∧ 0 ≤ cr b c p ∧ 0 ≤ cr c a p
theorem bary (a b c p : Pt) : cr a b p + cr b c p + cr c a p = cr a b c ∧ cr a b c * p.f0 = cr b c p * a.f0 + cr c a p * b.f0 + cr a b p * c.f0 ∧ cr a b c * p.f1 = cr b c p * a.f1 + cr c a p * b.f1 + cr a b p * c.f1 := by
 refine ⟨?_, ?_, ?_⟩ <;> unfold cr <;> grind
theorem bary_com {D A B C A1 B1 C1 u v : Int} {a b c c0 d : Pt} (hD : 0 < D) (i0 : A + B + C = D) (i1 : D * c0.f0 = B * a.f0 + C * b.f0 + A * c.f0) (i2 : D * c0.f1 = B * a.f1 + C * b.f1 + A * c.f1)
  (j0 : A1 + B1 + C1 = D) (j1 : D * d.f0 = B1 * a.f0 + C1 * b.f0 + A1 * c.f0) (j2 : D * d.f1 = B1 * a.f1 + C1 * b.f1 + A1 * c.f1)
  (hu : 0 ≤ u) (hv : 0 ≤ v) (uv : 0 < u + v) (hB : u * B + v * B1 = 0) (hC : 0 ≤ u * C + v * C1) (hA : 0 ≤ u * A + v * A1) : Com b c c0 d (u * C + v * C1) (u * A + v * A1) u v := by
 have sm : (u * C + v * C1) + (u * A + v * A1) = D * (u + v) := by
  have e : u * (A + B + C) + v * (A1 + B1 + C1) = u * D + v * D := by rw [i0, j0]
  grind
 have go : ∀ x y z p q : Int, D * p = B * x + C * y + A * z → D * q = B1 * x + C1 * y + A1 * z → (u * C + v * C1) * y + (u * A + v * A1) * z = D * (u * p + v * q) := by
  intro x y z p q h1 h2
  have e : u * (D * p) + v * (D * q) = u * (B * x + C * y + A * z) + v * (B1 * x + C1 * y + A1 * z) := by rw [h1, h2]
  have z0 : (u * B + v * B1) * x = 0 := by rw [hB, Int.zero_mul]
  clear h1 h2 sm hB i0 i1 i2 j0 j1 j2
  grind
 refine ⟨hC, hA, hu, hv, by rw [sm]; exact Int.mul_pos hD uv, uv, ?_, ?_⟩
 ·rw [go _ _ _ _ _ i1 j1, sm]; grind
 ·rw [go _ _ _ _ _ i2 j2, sm]; grind
theorem exit {a b c c0 d : Pt} {s t : Int} (T : 0 < cr a b c) (hs : 0 ≤ s) (ht : 0 ≤ t)
  (xa : 0 < s * cr a b c0 + t * cr a b d) (xb : 0 < s * cr b c c0 + t * cr b c d) (xc : 0 ≤ s * cr c a c0 + t * cr c a d) (dc : 0 < cr c a d) (out : cr a b d < 0 ∨ cr b c d < 0)
  (E1 : Ends a b c0 d) (E2 : Ends b c c0 d) : b = d := by
 obtain ⟨i0, i1, i2⟩ := bary a b c c0
 obtain ⟨j0, j1, j2⟩ := bary a b c d
 generalize cr a b c0 = A at *
 generalize cr b c c0 = B at *
 generalize cr c a c0 = C at *
 generalize cr a b d = A1 at *
 generalize cr b c d = B1 at *
 generalize cr c a d = C1 at *
 generalize cr a b c = D at *
 obtain ⟨X, eX⟩ : ∃ X, X = s * A + t * A1 := ⟨_, rfl⟩
 obtain ⟨Y, eY⟩ : ∃ Y, Y = s * B + t * B1 := ⟨_, rfl⟩
 obtain ⟨Z, eZ⟩ : ∃ Z, Z = s * C + t * C1 := ⟨_, rfl⟩
 rw [← eX] at xa; rw [← eY] at xb; rw [← eZ] at xc
 have second : B1 < 0 → 0 < X * (-B1) + Y * A1 → False := by
  intro h1 h2
  have k1 := Int.mul_nonneg hs (show 0 ≤ -B1 by omega)
  have k2 := Int.mul_nonneg ht (show 0 ≤ -B1 by omega)
  have k3 := Int.mul_nonneg xc (show 0 ≤ -B1 by omega)
  have k4 := Int.mul_pos xb dc
  have eA : s * (-B1) * A + (t * (-B1) + Y) * A1 = X * (-B1) + Y * A1 := by rw [eX]; grind
  have eB : s * (-B1) * B + (t * (-B1) + Y) * B1 = 0 := by rw [eY]; grind
  have eC : s * (-B1) * C + (t * (-B1) + Y) * C1 = Z * (-B1) + Y * C1 := by rw [eZ]; grind
  have cm := bary_com (u := s * (-B1)) (v := t * (-B1) + Y) T i0 i1 i2 j0 j1 j2 k1 (by omega) (by omega) eB (by omega) (by omega)
  have := E2 _ _ _ _ cm
  omega
 by_cases hA : A1 < 0
 ·by_cases hB : Y * (-A1) + X * B1 < 0
  ·exfalso
   have : B1 < 0 := by
    rcases Int.lt_or_le B1 0 with k | k
    ·exact k
    ·have := Int.mul_nonneg (Int.le_of_lt xa) k
     have := Int.mul_pos xb (show 0 < -A1 by omega)
     omega
   exact second this (by have e : X * (-B1) + Y * A1 = -(Y * (-A1) + X * B1) := (by grind); omega)
  ·have k1 := Int.mul_nonneg hs (show 0 ≤ -A1 by omega)
   have k2 := Int.mul_nonneg ht (show 0 ≤ -A1 by omega)
   have k3 := Int.mul_nonneg xc (show 0 ≤ -A1 by omega)
   have k4 := Int.mul_pos xa dc
   have eA : s * (-A1) * A + (t * (-A1) + X) * A1 = 0 := by rw [eX]; grind
   have eB : s * (-A1) * B + (t * (-A1) + X) * B1 = Y * (-A1) + X * B1 := by rw [eY]; grind
   have eC : s * (-A1) * C + (t * (-A1) + X) * C1 = Z * (-A1) + X * C1 := by rw [eZ]; grind
   have cm := bary_com (c0 := c0) (d := d) (a := c) (b := a) (c := b) (A := C) (B := A) (C := B) (A1 := C1) (B1 := A1) (C1 := B1) (u := s * (-A1)) (v := t * (-A1) + X) T (by omega) (by omega) (by omega) (by omega) (by omega) (by omega) k1 (by omega) (by omega) eA (by omega) (by omega)
   have := E1 _ _ _ _ cm
   rcases cm.ends this.1 this.2 with q | q | q | q
   ·omega
   ·omega
   ·omega
   ·exact q.2.2
 ·exfalso
  have hB : B1 < 0 := by omega
  refine second hB ?_
  have := Int.mul_pos xa (show 0 < -B1 by omega)
  have := Int.mul_nonneg (Int.le_of_lt xb) (show 0 ≤ A1 by omega)
  omega
theorem ends_tri {a b c : Pt} (h : cr a b c ≠ 0) : Ends a b b c := by
 intro s t u v k
 have e0 : (u + v) * s * (a.f0 - b.f0) = (s + t) * v * (c.f0 - b.f0) := by have := k.e0; grind
 have e1 : (u + v) * s * (a.f1 - b.f1) = (s + t) * v * (c.f1 - b.f1) := by have := k.e1; grind
 have z1 : (u + v) * s * cr a b c = 0 := by unfold cr; grind
 have z2 : (s + t) * v * cr a b c = 0 := by unfold cr; grind
 have z1 := (Int.mul_eq_zero.mp z1).resolve_right h
 have z2 := (Int.mul_eq_zero.mp z2).resolve_right h
 have st := k.st
 have uv := k.uv
 have z1 := (Int.mul_eq_zero.mp z1).resolve_left (by omega)
 have z2 := (Int.mul_eq_zero.mp z2).resolve_left (by omega)
 exact ⟨Or.inl z1, Or.inr z2⟩
def Turn (m : List Pt) (a b c : Pt) : Prop := ((a, b) ∈ loop m ∧ (b, c) ∈ loop m) ∨ ((b, a) ∈ loop m ∧ (c, b) ∈ loop m)
theorem Turn.edge {m : List Pt} {a b c : Pt} (h : SP m) (k : Turn m a b c) {e : Pt × Pt} (he : e ∈ loop m) :
  ((e = (a, b) ∨ e = (b, a)) ∨ (e = (b, c) ∨ e = (c, b))) ∨ (b ≠ e.1 ∧ b ≠ e.2 ∧ Ends a b e.1 e.2 ∧ Ends b c e.1 e.2) := by
 rcases k with ⟨k1, k2⟩ | ⟨k1, k2⟩
 ·by_cases h1 : b = e.1
  ·exact Or.inl (Or.inr (Or.inl (loop_fst h.nd e he _ k2 h1.symm)))
  ·by_cases h2 : b = e.2
   ·exact Or.inl (Or.inl (Or.inl (loop_snd h.nd e he _ k1 h2.symm)))
   ·exact Or.inr ⟨h1, h2, h.sep _ k1 e he (fun x => h2 (by rw [← x])), h.sep _ k2 e he (fun x => h1 (by rw [← x]))⟩
 ·by_cases h1 : b = e.1
  ·exact Or.inl (Or.inl (Or.inr (loop_fst h.nd e he _ k1 h1.symm)))
  ·by_cases h2 : b = e.2
   ·exact Or.inl (Or.inr (Or.inr (loop_snd h.nd e he _ k2 h2.symm)))
   ·exact Or.inr ⟨h1, h2, (h.sep _ k1 e he (fun x => h1 (by rw [← x]))).swap, (h.sep _ k2 e he (fun x => h2 (by rw [← x]))).swap⟩
theorem Turn.mem {m : List Pt} {a b c : Pt} (k : Turn m a b c) : a ∈ m ∧ b ∈ m ∧ c ∈ m := by
 rcases k with ⟨k1, k2⟩ | ⟨k1, k2⟩
 ·exact ⟨(loop_mem k1).1, (loop_mem k1).2, (loop_mem k2).2⟩
 ·exact ⟨(loop_mem k1).2, (loop_mem k1).1, (loop_mem k2).1⟩
theorem SP.weights {m : List Pt} (h : SP m) {x : Pt} (hx : x ∈ m) {e : Pt × Pt} (he : e ∈ loop m) {u v : Int} (hu : 0 ≤ u) (hv : 0 ≤ v) (uv : 0 < u + v) (e0 : (u + v) * x.f0 = u * e.1.f0 + v * e.2.f0) (e1 : (u + v) * x.f1 = u * e.1.f1 + v * e.2.f1) : u = 0 ∨ v = 0 := by
 have ne := h.ne e he
 rcases h.corner hx he (par_on hu hv uv e0 e1) with k | k <;> subst k
 ·right
  have z0 : v * (e.2.f0 - e.1.f0) = 0 := by grind
  have z1 : v * (e.2.f1 - e.1.f1) = 0 := by grind
  rcases Int.mul_eq_zero.mp z0 with q | q
  ·exact q
  ·rcases Int.mul_eq_zero.mp z1 with r | r
   ·exact r
   ·exact absurd (pt_ext (by omega) (by omega)) ne
 ·left
  have z0 : u * (e.2.f0 - e.1.f0) = 0 := by grind
  have z1 : u * (e.2.f1 - e.1.f1) = 0 := by grind
  rcases Int.mul_eq_zero.mp z0 with q | q
  ·exact q
  ·rcases Int.mul_eq_zero.mp z1 with r | r
   ·exact r
   ·exact absurd (pt_ext (by omega) (by omega)) ne
theorem Com.cr {a b c d p q : Pt} {s t u v : Int} (k : Com a b c d s t u v) : (u + v) * (s * M.cr p q a + t * M.cr p q b) = (s + t) * (u * M.cr p q c + v * M.cr p q d) := by
 obtain ⟨_, _, _, _, _, _, e0, e1⟩ := k
 unfold M.cr; grind
theorem cl_of_on {a b c p : Pt} (T : 0 ≤ cr a b c) (h : On a c p) : Cl a b c p := by
 obtain ⟨s, t, h1, h2, h3, h4, h5⟩ := on_par h
 have k1 : (s + t) * cr a b p = t * cr a b c := by unfold cr; grind
 have k2 : (s + t) * cr b c p = s * cr a b c := by unfold cr; grind
 have k3 : (s + t) * cr c a p = 0 := by unfold cr; grind
 refine ⟨nonneg_of_mul h3 (by rw [k1]; exact Int.mul_nonneg h2 T), nonneg_of_mul h3 (by rw [k2]; exact Int.mul_nonneg h1 T), by have := (Int.mul_eq_zero.mp k3).resolve_left (by omega); omega⟩
theorem on_side {a b c p : Pt} (T : 0 < cr a b c) (h0 : cr a b p = 0) (h1 : 0 ≤ cr b c p) (h2 : 0 ≤ cr c a p) : On a b p := by
 obtain ⟨i0, i1, i2⟩ := bary a b c p
 rw [h0] at i0 i1 i2
 exact par_on (s := cr b c p) (t := cr c a p) h1 h2 (by omega) (by rw [show cr b c p + cr c a p = cr a b c by omega, i1]; omega) (by rw [show cr b c p + cr c a p = cr a b c by omega, i2]; omega)
theorem on_sw {a b p : Pt} (h : On a b p) : On b a p := by
 obtain ⟨s, t, p1, p2, p3, p4, p5⟩ := on_par h
 exact par_on p2 p1 (by omega) (by rw [Int.add_comm t s]; omega) (by rw [Int.add_comm t s]; omega)
theorem lin3 {D A A1 : Int} {a c c0 d : Pt} (hD : 0 < D) (hA : A < 0) (hA1 : 0 < A1) (p0 : D * c0.f0 = (D - A) * a.f0 + A * c.f0) (p1 : D * c0.f1 = (D - A) * a.f1 + A * c.f1)
  (q0 : D * d.f0 = (D - A1) * a.f0 + A1 * c.f0) (q1 : D * d.f1 = (D - A1) * a.f1 + A1 * c.f1) : On c0 d a := by
 have go : ∀ x z p q : Int, D * p = (D - A) * x + A * z → D * q = (D - A1) * x + A1 * z → (A1 + -A) * x = A1 * p + -A * q := by
  intro x z p q h1 h2
  have e : A1 * (D * p) + -A * (D * q) = A1 * ((D - A) * x + A * z) + -A * ((D - A1) * x + A1 * z) := by rw [h1, h2]
  refine scaled_eq hD ?_
  clear h1 h2 p0 p1 q0 q1
  grind
 exact par_on (s := A1) (t := -A) (by omega) (by omega) (by omega) (go _ _ _ _ p0 q0) (go _ _ _ _ p1 q1)
theorem ear_chord {m : List Pt} {a b c : Pt} (h : SP m) (k : Turn m a b c) (T : 0 < cr a b c) (em : ∀ x ∈ m, Cl a b c x → x = a ∨ x = b ∨ x = c) (na : (a, c) ∉ loop m ∧ (c, a) ∉ loop m) : ∀ e ∈ loop m, Ends a c e.1 e.2 := by
 intro e he
 obtain ⟨ma, mb, mc⟩ := k.mem
 have hac : a ≠ c := fun x => by subst x; have : cr a b a = 0 := cr_self1 a b; omega
 rcases k.edge h he with (q | q) | ⟨n1, n2, E1, E2⟩
 ·have z : Ends c a a b := ends_tri (by have := cr_rot c a b; have := cr_rot a b c; omega)
  rcases q with q | q <;> subst q
  ·exact z.swap
  ·exact z.swap.swap2
 ·have z : Ends b c c a := ends_tri (by have := cr_rot a b c; omega)
  rcases q with q | q <;> subst q
  ·exact z.symm.swap
  ·exact z.symm.swap.swap2
 obtain ⟨c0, d⟩ := e
 dsimp only at n1 n2 E1 E2 ⊢
 intro s t u v cm
 have hs := cm.hs
 have ht := cm.ht
 have hu := cm.hu
 have hv := cm.hv
 have st := cm.st
 have uv := cm.uv
 have mc0 := (loop_mem he).1
 have md := (loop_mem he).2
 by_cases s0 : s = 0
 ·subst s0
  refine ⟨Or.inl rfl, h.weights mc he hu hv uv ?_ ?_⟩
  ·have := cm.e0; simp only [Int.zero_mul, Int.zero_add] at this; exact scaled_eq (k := t) (by omega) (by dsimp only; grind)
  ·have := cm.e1; simp only [Int.zero_mul, Int.zero_add] at this; exact scaled_eq (k := t) (by omega) (by dsimp only; grind)
 by_cases t0 : t = 0
 ·subst t0
  refine ⟨Or.inr rfl, h.weights ma he hu hv uv ?_ ?_⟩
  ·have := cm.e0; simp only [Int.zero_mul, Int.add_zero] at this; exact scaled_eq (k := s) (by omega) (by dsimp only; grind)
  ·have := cm.e1; simp only [Int.zero_mul, Int.add_zero] at this; exact scaled_eq (k := s) (by omega) (by dsimp only; grind)
 exfalso
 have A := cm.cr (p := a) (q := b)
 have B := cm.cr (p := b) (q := c)
 have C := cm.cr (p := c) (q := a)
 rw [cr_self1, Int.mul_zero, Int.zero_add] at A
 rw [show cr b c a = cr a b c from cr_rot a b c, cr_self2, Int.mul_zero, Int.add_zero] at B
 rw [cr_self1, cr_self2, Int.mul_zero, Int.mul_zero, Int.add_zero, Int.mul_zero] at C
 have A := pos_of_mul st (show 0 < (s + t) * (u * cr a b c0 + v * cr a b d) by rw [← A]; exact Int.mul_pos uv (Int.mul_pos (by omega) T))
 have B := pos_of_mul st (show 0 < (s + t) * (u * cr b c c0 + v * cr b c d) by rw [← B]; exact Int.mul_pos uv (Int.mul_pos (by omega) T))
 have C := (Int.mul_eq_zero.mp C.symm).resolve_left (by omega)
 have within : ∀ x ∈ m, x ≠ b → Cl a b c x → x = a ∨ x = c := by
  intro x hx nb cl
  rcases em x hx cl with q | q | q
  ·exact Or.inl q
  ·exact absurd q nb
  ·exact Or.inr q
 have gpos : ∀ x ∈ m, x ≠ b → 0 < cr c a x → cr a b x < 0 ∨ cr b c x < 0 := by
  intro x hx nb g
  by_cases k1 : cr a b x < 0
  ·exact Or.inl k1
  ·by_cases k2 : cr b c x < 0
   ·exact Or.inr k2
   ·rcases within x hx nb ⟨by omega, by omega, by omega⟩ with q | q <;> subst q
    ·rw [cr_self2] at g; omega
    ·rw [cr_self1] at g; omega
 by_cases g1 : 0 < cr c a d
 ·exact n2 (exit T hu hv A B (by omega) g1 (gpos d md (Ne.symm n2) g1) E1 E2)
 by_cases g0 : 0 < cr c a c0
 ·exact n1 (exit T hv hu (by omega) (by omega) (by omega) g0 (gpos c0 mc0 (Ne.symm n1) g0) E1.swap2 E2.swap2)
 have ends_on : ∀ x : Pt, x = a ∨ x = c → (s + t) * x.f0 = s * a.f0 + t * c.f0 → (s + t) * x.f1 = s * a.f1 + t * c.f1 → False := by
  intro x hx e0 e1
  rcases hx with q | q <;> subst q
  ·have z0 : t * (c.f0 - x.f0) = 0 := by grind
   have z1 : t * (c.f1 - x.f1) = 0 := by grind
   have z0 := (Int.mul_eq_zero.mp z0).resolve_left t0
   have z1 := (Int.mul_eq_zero.mp z1).resolve_left t0
   exact hac (pt_ext (by omega) (by omega))
  ·have z0 : s * (x.f0 - a.f0) = 0 := by grind
   have z1 : s * (x.f1 - a.f1) = 0 := by grind
   have z0 := (Int.mul_eq_zero.mp z0).resolve_left s0
   have z1 := (Int.mul_eq_zero.mp z1).resolve_left s0
   exact hac (pt_ext (by omega) (by omega))
 by_cases u0 : u = 0
 ·subst u0
  have e0 := cm.e0; have e1 := cm.e1
  simp only [Int.zero_mul, Int.zero_add] at e0 e1
  have e0 : (s + t) * d.f0 = s * a.f0 + t * c.f0 := scaled_eq (k := v) (by omega) (by grind)
  have e1 : (s + t) * d.f1 = s * a.f1 + t * c.f1 := scaled_eq (k := v) (by omega) (by grind)
  exact ends_on d (within d md (Ne.symm n2) (cl_of_on (Int.le_of_lt T) (par_on hs ht st e0 e1))) e0 e1
 by_cases v0 : v = 0
 ·subst v0
  have e0 := cm.e0; have e1 := cm.e1
  simp only [Int.zero_mul, Int.add_zero] at e0 e1
  have e0 : (s + t) * c0.f0 = s * a.f0 + t * c.f0 := scaled_eq (k := u) (by omega) (by grind)
  have e1 : (s + t) * c0.f1 = s * a.f1 + t * c.f1 := scaled_eq (k := u) (by omega) (by grind)
  exact ends_on c0 (within c0 mc0 (Ne.symm n1) (cl_of_on (Int.le_of_lt T) (par_on hs ht st e0 e1))) e0 e1
 have gz : cr c a c0 = 0 ∧ cr c a d = 0 := by
  have i1 := (mul_sg (c := cr c a c0) (show 0 < u by omega))
  have i2 := (mul_sg (c := cr c a d) (show 0 < v by omega))
  omega
 obtain ⟨z0, z1⟩ := gz
 obtain ⟨i0, i1, i2⟩ := bary a b c c0
 obtain ⟨j0, j1, j2⟩ := bary a b c d
 rw [z0] at i0 i1 i2; rw [z1] at j0 j1 j2
 have nz : ∀ x : Pt, x = c0 ∨ x = d → (x = a → cr a b c0 = 0 ∨ cr a b d = 0) ∧ (x = c → cr b c c0 = 0 ∨ cr b c d = 0) := by
  intro x hx
  refine ⟨fun e => ?_, fun e => ?_⟩ <;> subst e <;> rcases hx with q | q <;> subst q
  ·exact Or.inl (cr_self1 _ _)
  ·exact Or.inr (cr_self1 _ _)
  ·exact Or.inl (cr_self2 _ _)
  ·exact Or.inr (cr_self2 _ _)
 have p1 := mul_sg (c := cr a b c0) (show 0 < u by omega)
 have p2 := mul_sg (c := cr a b d) (show 0 < v by omega)
 have p3 := mul_sg (c := cr b c c0) (show 0 < u by omega)
 have p4 := mul_sg (c := cr b c d) (show 0 < v by omega)
 have eb : cr b c c0 = cr a b c - cr a b c0 := by omega
 have eb1 : cr b c d = cr a b c - cr a b d := by omega
 have ea : cr a b c0 = cr a b c - cr b c c0 := by omega
 have ea1 : cr a b d = cr a b c - cr b c d := by omega
 have f0 : cr a b c * c0.f0 = (cr a b c - cr a b c0) * a.f0 + cr a b c0 * c.f0 := by rw [← eb]; omega
 have f1 : cr a b c * c0.f1 = (cr a b c - cr a b c0) * a.f1 + cr a b c0 * c.f1 := by rw [← eb]; omega
 have g0 : cr a b c * d.f0 = (cr a b c - cr a b d) * a.f0 + cr a b d * c.f0 := by rw [← eb1]; omega
 have g1 : cr a b c * d.f1 = (cr a b c - cr a b d) * a.f1 + cr a b d * c.f1 := by rw [← eb1]; omega
 have f2 : cr a b c * c0.f0 = (cr a b c - cr b c c0) * c.f0 + cr b c c0 * a.f0 := by rw [← ea]; omega
 have f3 : cr a b c * c0.f1 = (cr a b c - cr b c c0) * c.f1 + cr b c c0 * a.f1 := by rw [← ea]; omega
 have g2 : cr a b c * d.f0 = (cr a b c - cr b c d) * c.f0 + cr b c d * a.f0 := by rw [← ea1]; omega
 have g3 : cr a b c * d.f1 = (cr a b c - cr b c d) * c.f1 + cr b c d * a.f1 := by rw [← ea1]; omega
 by_cases w1 : cr a b c0 < 0
 ·have := h.corner ma he (lin3 T w1 (show 0 < cr a b d by omega) f0 f1 g0 g1)
  have := (nz a this).1 rfl
  omega
 by_cases w2 : cr a b d < 0
 ·have := h.corner ma he (on_sw (lin3 T w2 (show 0 < cr a b c0 by omega) g0 g1 f0 f1))
  have := (nz a this).1 rfl
  omega
 by_cases w3 : cr b c c0 < 0
 ·have := h.corner mc he (lin3 T w3 (show 0 < cr b c d by omega) f2 f3 g2 g3)
  have := (nz c this).2 rfl
  omega
 by_cases w4 : cr b c d < 0
 ·have := h.corner mc he (on_sw (lin3 T w4 (show 0 < cr b c c0 by omega) g2 g3 f2 f3))
  have := (nz c this).2 rfl
  omega
 have ne := h.ne _ he
 dsimp only at ne
 rcases within c0 mc0 (Ne.symm n1) ⟨by omega, by omega, by omega⟩ with q | q <;> rcases within d md (Ne.symm n2) ⟨by omega, by omega, by omega⟩ with r | r <;> subst q <;> subst r
 ·exact ne rfl
 ·exact na.1 he
 ·exact na.2 he
 ·exact ne rfl
theorem far_chord {m : List Pt} {a b c z : Pt} (h : SP m) (k : Turn m a b c) (T : 0 < cr a b c) (hz : z ∈ m) (cz : Cl a b c z) (nz : z ≠ a ∧ z ≠ b ∧ z ≠ c) (mx : ∀ x ∈ m, Cl a b c x → x ≠ a → x ≠ b → x ≠ c → cr c a x ≤ cr c a z) :
  (0 < cr a b z ∧ 0 < cr b c z) ∧ ∀ e ∈ loop m, Ends b z e.1 e.2 := by
 obtain ⟨ma, mb, mc⟩ := k.mem
 obtain ⟨cz1, cz2, cz3⟩ := cz
 have hA : 0 < cr a b z := by
  rcases Int.lt_or_eq_of_le cz1 with q | q
  ·exact q
  ·exfalso
   have o := on_side T q.symm cz2 cz3
   rcases k with ⟨k1, _⟩ | ⟨k1, _⟩
   ·rcases h.corner hz k1 o with r | r
    ·exact nz.1 r
    ·exact nz.2.1 r
   ·rcases h.corner hz k1 (on_sw o) with r | r
    ·exact nz.2.1 r
    ·exact nz.1 r
 have hB : 0 < cr b c z := by
  rcases Int.lt_or_eq_of_le cz2 with q | q
  ·exact q
  ·exfalso
   have o := on_side (a := b) (b := c) (c := a) (by rw [cr_rot]; exact T) q.symm cz3 cz1
   rcases k with ⟨_, k1⟩ | ⟨_, k1⟩
   ·rcases h.corner hz k1 o with r | r
    ·exact nz.2.1 r
    ·exact nz.2.2 r
   ·rcases h.corner hz k1 (on_sw o) with r | r
    ·exact nz.2.2 r
    ·exact nz.2.1 r
 refine ⟨⟨hA, hB⟩, fun e he => ?_⟩
 rcases k.edge h he with (q | q) | ⟨n1, n2, E1, E2⟩
 ·have w : Ends a b b z := ends_tri (by omega)
  rcases q with q | q <;> subst q
  ·exact w.symm
  ·exact w.symm.swap2
 ·have w : Ends c b b z := ends_tri (by have : cr c b z = - cr b c z := (by unfold cr; grind); omega)
  rcases q with q | q <;> subst q
  ·exact w.symm.swap2
  ·exact w.symm
 obtain ⟨c0, d⟩ := e
 dsimp only at n1 n2 E1 E2 ⊢
 intro s t u v cm
 have hs := cm.hs
 have ht := cm.ht
 have hu := cm.hu
 have hv := cm.hv
 have st := cm.st
 have uv := cm.uv
 have mc0 := (loop_mem he).1
 have md := (loop_mem he).2
 by_cases s0 : s = 0
 ·subst s0
  refine ⟨Or.inl rfl, h.weights hz he hu hv uv ?_ ?_⟩
  ·have := cm.e0; simp only [Int.zero_mul, Int.zero_add] at this; exact scaled_eq (k := t) (by omega) (by dsimp only; grind)
  ·have := cm.e1; simp only [Int.zero_mul, Int.zero_add] at this; exact scaled_eq (k := t) (by omega) (by dsimp only; grind)
 by_cases t0 : t = 0
 ·subst t0
  refine ⟨Or.inr rfl, h.weights mb he hu hv uv ?_ ?_⟩
  ·have := cm.e0; simp only [Int.zero_mul, Int.add_zero] at this; exact scaled_eq (k := s) (by omega) (by dsimp only; grind)
  ·have := cm.e1; simp only [Int.zero_mul, Int.add_zero] at this; exact scaled_eq (k := s) (by omega) (by dsimp only; grind)
 exfalso
 have A := cm.cr (p := a) (q := b)
 have B := cm.cr (p := b) (q := c)
 have C := cm.cr (p := c) (q := a)
 rw [cr_self2, Int.mul_zero, Int.zero_add] at A
 rw [cr_self1, Int.mul_zero, Int.zero_add] at B
 rw [show cr c a b = cr a b c by rw [cr_rot b c a, cr_rot a b c]] at C
 have A := pos_of_mul st (show 0 < (s + t) * (u * cr a b c0 + v * cr a b d) by rw [← A]; exact Int.mul_pos uv (Int.mul_pos (by omega) hA))
 have B := pos_of_mul st (show 0 < (s + t) * (u * cr b c c0 + v * cr b c d) by rw [← B]; exact Int.mul_pos uv (Int.mul_pos (by omega) hB))
 have sz := (bary a b c z).1
 have C : (s + t) * cr c a z * (u + v) < (s + t) * (u * cr c a c0 + v * cr c a d) := by
  rw [← C]
  have : 0 < s * (cr a b c - cr c a z) := Int.mul_pos (by omega) (by omega)
  have := Int.mul_pos uv this
  have e : (u + v) * (s * (cr a b c - cr c a z)) = (u + v) * (s * cr a b c + t * cr c a z) - (s + t) * cr c a z * (u + v) := by grind
  omega
 have C : cr c a z * (u + v) < u * cr c a c0 + v * cr c a d := by
  rw [Int.mul_assoc] at C
  exact Int.lt_of_mul_lt_mul_left C (Int.le_of_lt st)
 have C0 : 0 ≤ u * cr c a c0 + v * cr c a d := by have := Int.mul_nonneg cz3 (Int.le_of_lt uv); omega
 have gpos : ∀ x ∈ m, x ≠ b → cr c a z < cr c a x → cr a b x < 0 ∨ cr b c x < 0 := by
  intro x hx nb g
  by_cases k1 : cr a b x < 0
  ·exact Or.inl k1
  ·by_cases k2 : cr b c x < 0
   ·exact Or.inr k2
   ·by_cases xa : x = a
    ·subst xa; rw [cr_self2] at g; omega
    ·by_cases xc : x = c
     ·subst xc; rw [cr_self1] at g; omega
     ·have := mx x hx ⟨by omega, by omega, by omega⟩ xa nb xc; omega
 by_cases g1 : cr c a z < cr c a d
 ·exact n2 (exit T hu hv A B C0 (by omega) (gpos d md (Ne.symm n2) g1) E1 E2)
 by_cases g0 : cr c a z < cr c a c0
 ·exact n1 (exit T hv hu (by omega) (by omega) (by omega) (by omega) (gpos c0 mc0 (Ne.symm n1) g0) E1.swap2 E2.swap2)
 have i1 := Int.mul_le_mul_of_nonneg_left (show cr c a d ≤ cr c a z by omega) hv
 have i2 := Int.mul_le_mul_of_nonneg_left (show cr c a c0 ≤ cr c a z by omega) hu
 have e : cr c a z * (u + v) = u * cr c a z + v * cr c a z := by grind
 omega
end Go.Proofs.Ythehmkpcddafnaa.M
end
section
namespace Go.Proofs.Ythehmkpcddafnaa.M
open Go.Proofs.Ythehmkpcddafnaa.PG
structure Cut (v : Pt) (C1 : List Pt) (z : Pt) (C2 : List Pt) : Prop where
 sp : SP (v :: (C1 ++ z :: C2))
 n1 : C1 ≠ []
 n2 : C2 ≠ []
 ch : ∀ e ∈ loop (v :: (C1 ++ z :: C2)), Ends v z e.1 e.2
 o1 : ∀ x ∈ C1, wE (loop (z :: (C2 ++ [v]))) x = 0
 o2 : ∀ x ∈ C2, wE (loop (v :: (C1 ++ [z]))) x = 0
theorem Cut.symm {v z : Pt} {C1 C2 : List Pt} (h : Cut v C1 z C2) : Cut z C2 v C1 :=
 ⟨h.sp.rot, h.n2, h.n1, fun e he => (h.ch e (loop_rot.mp he)).swap, h.o2, h.o1⟩
theorem loop_part (v z : Pt) (C1 : List Pt) : loop (v :: (C1 ++ [z])) = pth v C1 z ++ [(z, v)] := loop_at v C1 z []
theorem cS_neg (a b : Pt) (x y : Int) : cS b a x y = - cS a b x y := by unfold cS; omega
theorem cT_neg (a b : Pt) (x y : Int) : cT b a x y = - cT a b x y := by unfold cT; omega
theorem part_sum {f : Pt → Pt → Int} (hf : ∀ a b, f b a = - f a b) (v z : Pt) (C1 C2 : List Pt) : eS f (loop (v :: (C1 ++ [z]))) + eS f (loop (z :: (C2 ++ [v]))) = eS f (loop (v :: (C1 ++ z :: C2))) := by
 rw [loop_part, loop_part, loop_at, eS_app, eS_app, eS_app]
 have := hf v z
 show eS f (pth v C1 z) + (f z v + 0) + (eS f (pth z C2 v) + (f v z + 0)) = _
 omega
theorem nodup_parts {v z : Pt} {C1 C2 : List Pt} (h : (v :: (C1 ++ z :: C2)).Nodup) : v ≠ z ∧ (∀ x ∈ C1, x ≠ v ∧ x ≠ z ∧ x ∉ C2) ∧ (∀ x ∈ C2, x ≠ v ∧ x ≠ z ∧ x ∉ C1) ∧ (v :: (C1 ++ [z])).Nodup := by
 obtain ⟨n1, n2⟩ := List.nodup_cons.mp h
 obtain ⟨m1, m2, m3⟩ := List.nodup_append.mp n2
 obtain ⟨k1, k2⟩ := List.nodup_cons.mp m2
 refine ⟨fun e => n1 (by rw [e]; exact List.mem_append_right _ (List.mem_cons_self ..)), fun x hx => ⟨fun e => n1 (by rw [← e]; exact List.mem_append_left _ hx), fun e => m3 x hx z (List.mem_cons_self ..) e, fun k => m3 x hx x (List.mem_cons_of_mem _ k) rfl⟩, fun x hx => ⟨fun e => n1 (by rw [← e]; exact List.mem_append_right _ (List.mem_cons_of_mem _ hx)), fun e => k1 (by rw [← e]; exact hx), fun k => m3 x k x (List.mem_cons_of_mem _ hx) rfl⟩, ?_⟩
 refine List.nodup_cons.mpr ⟨fun k => ?_, List.nodup_append.mpr ⟨m1, List.nodup_cons.mpr ⟨List.not_mem_nil, List.nodup_nil⟩, fun a ha b hb => ?_⟩⟩
 ·rcases List.mem_append.mp k with q | q
  ·exact n1 (List.mem_append_left _ q)
  ·rw [List.mem_singleton.mp q] at n1; exact n1 (List.mem_append_right _ (List.mem_cons_self ..))
 ·rw [List.mem_singleton.mp hb]; exact m3 a ha z (List.mem_cons_self ..)
theorem SP.part {v z : Pt} {C1 C2 : List Pt} (h : SP (v :: (C1 ++ z :: C2))) (n1 : C1 ≠ []) (ch : ∀ e ∈ loop (v :: (C1 ++ z :: C2)), Ends v z e.1 e.2) : SP (v :: (C1 ++ [z])) := by
 refine ⟨?_, (nodup_parts h.nd).2.2.2, fun e he f hf ne => ?_⟩
 ·cases C1 with
  | nil => exact absurd rfl n1
  | cons a l => simp only [List.length_cons, List.length_append, List.length_nil]; omega
 ·have inn : ∀ e ∈ pth v C1 z, e ∈ loop (v :: (C1 ++ z :: C2)) := fun e he => by rw [loop_at]; exact List.mem_append_left _ he
  rw [loop_part] at he hf
  rcases List.mem_append.mp he with k | k <;> rcases List.mem_append.mp hf with j | j
  ·exact h.sep e (inn e k) f (inn f j) ne
  ·rw [List.mem_singleton.mp j]; exact (ch e (inn e k)).symm.swap2
  ·rw [List.mem_singleton.mp k]; exact (ch f (inn f j)).swap
  ·rw [List.mem_singleton.mp k, List.mem_singleton.mp j] at ne; exact absurd rfl ne
theorem Cut.part1 {v z : Pt} {C1 C2 : List Pt} (h : Cut v C1 z C2) : SP (v :: (C1 ++ [z])) := h.sp.part h.n1 h.ch
theorem Cut.part2 {v z : Pt} {C1 C2 : List Pt} (h : Cut v C1 z C2) : SP (z :: (C2 ++ [v])) := h.symm.part1
theorem map_cut (k : Int) (v : Pt) (C1 : List Pt) (z : Pt) (C2 : List Pt) : (v :: (C1 ++ z :: C2)).map (sc k) = sc k v :: (C1.map (sc k) ++ sc k z :: C2.map (sc k)) := by simp
theorem Cut.sc {k : Int} (hk : 0 < k) {v z : Pt} {C1 C2 : List Pt} (h : Cut v C1 z C2) : Cut (M.sc k v) (C1.map (M.sc k)) (M.sc k z) (C2.map (M.sc k)) := by
 have e2 : ∀ (v z : Pt) (C : List Pt), M.sc k v :: (C.map (M.sc k) ++ [M.sc k z]) = (v :: (C ++ [z])).map (M.sc k) := by intro v z C; simp
 refine ⟨by rw [← map_cut]; exact h.sp.sc hk, fun e => h.n1 (List.map_eq_nil_iff.mp e), fun e => h.n2 (List.map_eq_nil_iff.mp e), fun e he => ?_, fun x hx => ?_, fun x hx => ?_⟩
 ·rw [← map_cut, loop_sc] at he
  obtain ⟨f, f1, f2⟩ := List.mem_map.mp he
  subst f2
  exact (h.ch f f1).sc hk
 ·obtain ⟨y, y1, y2⟩ := List.mem_map.mp hx
  subst y2
  rw [e2, loop_sc, wE_sc hk]; exact h.o1 y y1
 ·obtain ⟨y, y1, y2⟩ := List.mem_map.mp hx
  subst y2
  rw [e2, loop_sc, wE_sc hk]; exact h.o2 y y1
theorem Com.to_end {c c' x f1 f2 : Pt} {al be s t u v : Int} (ha : 0 ≤ al) (hb : 0 ≤ be) (h0 : (al + be) * x.f0 = al * c.f0 + be * c'.f0) (h1 : (al + be) * x.f1 = al * c.f1 + be * c'.f1) (hab : 0 < al + be)
  (k : Com x c f1 f2 s t u v) : Com c c' f1 f2 (s * al + t * (al + be)) (s * be) u v := by
 obtain ⟨hs, ht, hu, hv, st, uv, e0, e1⟩ := k
 have m1 := Int.mul_nonneg hs ha
 have m2 := Int.mul_nonneg hs hb
 have m3 := Int.mul_nonneg ht (Int.le_of_lt hab)
 have sm : s * al + t * (al + be) + s * be = (s + t) * (al + be) := by grind
 have go : ∀ x c c' f1 f2 : Int, (al + be) * x = al * c + be * c' → (u + v) * (s * x + t * c) = (s + t) * (u * f1 + v * f2) → (u + v) * ((s * al + t * (al + be)) * c + s * be * c') = (s + t) * (al + be) * (u * f1 + v * f2) := by
  intro x c c' f1 f2 p q
  have e3 : (s * al + t * (al + be)) * c + s * be * c' = s * (al * c + be * c') + t * ((al + be) * c) := by clear p q sm e0 e1 h0 h1; grind
  have e4 : (u + v) * (s * ((al + be) * x) + t * ((al + be) * c)) = (al + be) * ((u + v) * (s * x + t * c)) := by clear p q sm e0 e1 h0 h1; grind
  rw [e3, ← p, e4, q]; clear p q sm e0 e1 h0 h1; grind
 refine ⟨by omega, m2, hu, hv, by rw [sm]; exact Int.mul_pos st hab, uv, ?_, ?_⟩
 ·rw [sm]; exact go _ _ _ _ _ h0 e0
 ·rw [sm]; exact go _ _ _ _ _ h1 e1
theorem Cut.free {v z : Pt} {C1 C2 : List Pt} (h : Cut v C1 z C2) {c c' x : Pt} {f : Pt × Pt} (hc : c ∈ C1) (hc' : c' ∈ v :: (C1 ++ [z])) (hf : f ∈ loop (z :: (C2 ++ [v]))) (en : Ends c c' f.1 f.2) (o : On c c' x) (xv : x ≠ v) (xz : x ≠ z) : ¬ Touch x c f.1 f.2 := by
 intro t
 obtain ⟨s, t, u, w, k⟩ := touch_com.mp t
 obtain ⟨al, be, ha, hb, hab, h0, h1⟩ := on_par o
 have k' := k.to_end ha hb h0 h1 hab
 obtain ⟨j1, j2⟩ := en _ _ _ _ k'
 obtain ⟨nvz, np1, np2, _⟩ := nodup_parts h.sp.nd
 have out : ∀ y ∈ z :: (C2 ++ [v]), y ∉ C1 := by
  intro y hy k
  rcases List.mem_cons.mp hy with q | q
  ·exact (np1 y k).2.1 q
  ·rcases List.mem_append.mp q with q | q
   ·exact (np1 y k).2.2 q
   ·exact (np1 y k).1 (List.mem_singleton.mp q)
 obtain ⟨mf1, mf2⟩ := loop_mem hf
 have last : s * al + t * (al + be) = 0 → c' ∈ z :: (C2 ++ [v]) → False := by
  intro e hm
  have m1 := Int.mul_nonneg k.hs ha
  have m3 := Int.mul_nonneg k.ht (Int.le_of_lt hab)
  have t0 : t = 0 := (Int.mul_eq_zero.mp (show t * (al + be) = 0 by omega)).resolve_right (by omega)
  have st := k.st
  have a0 : al = 0 := (Int.mul_eq_zero.mp (show s * al = 0 by omega)).resolve_left (by omega)
  have ex := (end_eq hab h0 h1).2 a0
  rcases List.mem_cons.mp hc' with q | q
  ·exact xv (ex.trans q)
  ·rcases List.mem_append.mp q with q | q
   ·exact out c' hm q
   ·exact xz (ex.trans (List.mem_singleton.mp q))
 rcases k'.ends j1 j2 with q | q | q | q
 ·exact out f.1 mf1 (by rw [← q.2.2]; exact hc)
 ·exact out f.2 mf2 (by rw [← q.2.2]; exact hc)
 ·exact last q.1 (by rw [q.2.2]; exact mf1)
 ·exact last q.1 (by rw [q.2.2]; exact mf2)
theorem Cut.point {v z : Pt} {C1 C2 : List Pt} (h : Cut v C1 z C2) {e : Pt × Pt} {x : Pt} (he : e ∈ pth v C1 z) (o : On e.1 e.2 x) (xv : x ≠ v) (xz : x ≠ z) : wE (loop (z :: (C2 ++ [v]))) x = 0 := by
 obtain ⟨nvz, np1, np2, _⟩ := nodup_parts h.sp.nd
 obtain ⟨m1, m2⟩ := pth_mem C1 v z e he
 have inn : e ∈ loop (v :: (C1 ++ z :: C2)) := by rw [loop_at]; exact List.mem_append_left _ he
 have ens : ∀ f ∈ loop (z :: (C2 ++ [v])), Ends e.1 e.2 f.1 f.2 := by
  intro f hf
  rw [loop_part] at hf
  rcases List.mem_append.mp hf with k | k
  ·refine h.sp.sep e inn f (by rw [loop_at]; exact List.mem_append_right _ k) (fun ef => ?_)
   have m3 := (pth_mem C2 z v f k).1
   rw [← ef] at m3
   rcases List.mem_cons.mp m1 with q | q <;> rcases List.mem_cons.mp m3 with r | r
   ·exact nvz (q.symm.trans r)
   ·exact (np2 _ r).1 q
   ·exact (np1 _ q).2.1 r
   ·exact (np1 _ q).2.2 r
  ·rw [List.mem_singleton.mp k]; exact (h.ch e inn).symm
 rcases List.mem_cons.mp m1 with q | q
 ·rcases List.mem_append.mp m2 with r | r
  ·rw [wE_const (y := e.2) (fun f hf => h.free r (List.mem_cons.mpr (Or.inl q)) hf (ens f hf).swap (on_sw o) xv xz)]
   exact h.o1 _ r
  ·exfalso
   have := h.ch e inn 1 1 1 1 ⟨by omega, by omega, by omega, by omega, by omega, by omega, by rw [q, List.mem_singleton.mp r], by rw [q, List.mem_singleton.mp r]⟩
   omega
 ·rw [wE_const (y := e.1) (fun f hf => h.free q (List.mem_cons_of_mem _ m2) hf (ens f hf) o xv xz)]
  exact h.o1 _ q
theorem min_frac {α : Type} (f g : α → Int) : ∀ L : List α, L ≠ [] → (∀ e ∈ L, 0 < g e) → ∃ e ∈ L, ∀ e' ∈ L, f e * g e' ≤ f e' * g e
 | [], h, _ => absurd rfl h
 | a :: L, _, hg => by
  by_cases hL : L = []
  ·subst hL
   exact ⟨a, List.mem_cons_self .., fun e' he' => by rw [List.mem_singleton.mp he']; omega⟩
  obtain ⟨e, he, mn⟩ := min_frac f g L hL (fun x hx => hg x (List.mem_cons_of_mem _ hx))
  have ga := hg a (List.mem_cons_self ..)
  have ge := hg e (List.mem_cons_of_mem _ he)
  by_cases k : f e * g a ≤ f a * g e
  ·refine ⟨e, List.mem_cons_of_mem _ he, fun e' he' => ?_⟩
   rcases List.mem_cons.mp he' with q | q
   ·subst q; exact k
   ·exact mn e' q
  ·refine ⟨a, List.mem_cons_self .., fun e' he' => ?_⟩
   rcases List.mem_cons.mp he' with q | q
   ·subst q; omega
   ·have g' := hg e' (List.mem_cons_of_mem _ q)
    have m1 := mn e' q
    have i1 := Int.mul_le_mul_of_nonneg_right (show f a * g e ≤ f e * g a by omega) (Int.le_of_lt g')
    have i2 := Int.mul_le_mul_of_nonneg_right m1 (Int.le_of_lt ga)
    have e1 : f a * g e * g e' = g e * (f a * g e') := by grind
    have e2 : f e * g a * g e' = f e * g e' * g a := by grind
    have e3 : f e' * g e * g a = g e * (f e' * g a) := by grind
    exact Int.le_of_mul_le_mul_left (by omega) ge
def hn (q : Pt) (e : Pt × Pt) : Int := max (cr e.1 e.2 q) (- cr e.1 e.2 q)
def hd (q g : Pt) (e : Pt × Pt) : Int := max (cr e.1 e.2 q) (- cr e.1 e.2 q) + max (cr e.1 e.2 g) (- cr e.1 e.2 g)
theorem hit_frac {q g : Pt} {e : Pt × Pt} {s t u v : Int} (k : Com q g e.1 e.2 s t u v) : t * hd q g e = (s + t) * hn q e := by
 have c := k.cr (p := e.1) (q := e.2)
 rw [cr_self1, cr_self2, Int.mul_zero, Int.mul_zero, Int.add_zero, Int.mul_zero] at c
 have uv := k.uv
 have c := (Int.mul_eq_zero.mp c).resolve_left (by omega)
 have hs := k.hs
 have ht := k.ht
 have st := k.st
 unfold hd hn
 generalize cr e.1 e.2 q = A at *
 generalize cr e.1 e.2 g = B at *
 rcases Int.lt_trichotomy A 0 with hA | hA | hA
 ·have : 0 ≤ B ∨ t = 0 := by
   rcases Int.lt_or_le B 0 with hB | hB
   ·have i1 := Int.mul_nonneg ht (show 0 ≤ -B by omega)
    have i2 := Int.mul_nonneg hs (show 0 ≤ -A by omega)
    rw [Int.mul_neg] at i1 i2
    have : t * B = 0 := by omega
    right; exact (Int.mul_eq_zero.mp this).resolve_right (by omega)
   ·exact Or.inl hB
  rcases this with hB | t0
  ·rw [show max A (-A) = -A by omega, show max B (-B) = B by omega]; grind
  ·subst t0
   have : s * A = 0 := by omega
   rcases Int.mul_eq_zero.mp this with r | r <;> omega
 ·subst hA
  rw [Int.mul_zero, Int.zero_add] at c
  rcases Int.mul_eq_zero.mp c with r | r <;> subst r <;> simp
 ·have : B ≤ 0 ∨ t = 0 := by
   rcases Int.lt_or_le 0 B with hB | hB
   ·have i1 := Int.mul_nonneg ht (show 0 ≤ B by omega)
    have i2 := Int.mul_nonneg hs (show 0 ≤ A by omega)
    have : t * B = 0 := by omega
    right; exact (Int.mul_eq_zero.mp this).resolve_right (by omega)
   ·exact Or.inl hB
  rcases this with hB | t0
  ·rw [show max A (-A) = A by omega, show max B (-B) = -B by omega]; grind
  ·subst t0
   have : s * A = 0 := by omega
   rcases Int.mul_eq_zero.mp this with r | r <;> omega
theorem Cut.hit {v z : Pt} {C1 C2 : List Pt} (h : Cut v C1 z C2) {q g : Pt} (gen : ∀ f ∈ loop (v :: (C1 ++ z :: C2)), cr f.1 f.2 q ≠ 0) (nt : ¬ Touch q g v z) {e : Pt × Pt} (he : e ∈ pth v C1 z) (te : Touch q g e.1 e.2)
  (mn : ∀ f ∈ loop (v :: (C1 ++ z :: C2)), Touch q g f.1 f.2 → hn q e * hd q g f ≤ hn q f * hd q g e) : wE (loop (z :: (C2 ++ [v]))) q = 0 := by
 have inn : e ∈ loop (v :: (C1 ++ z :: C2)) := by rw [loop_at]; exact List.mem_append_left _ he
 obtain ⟨s, t, u, w, k⟩ := touch_com.mp te
 have fr := hit_frac k
 have hst := k.st
 have huw := k.uv
 have pos : ∀ f ∈ loop (v :: (C1 ++ z :: C2)), 0 < hn q f ∧ 0 < hd q g f ∧ hn q f ≤ hd q g f := by
  intro f hf
  have := gen f hf
  unfold hn hd; omega
 obtain ⟨en, ed, el⟩ := pos e inn
 obtain ⟨d, hd'⟩ : ∃ d, d = hd q g e := ⟨_, rfl⟩
 obtain ⟨n, hn'⟩ : ∃ n, n = hn q e := ⟨_, rfl⟩
 rw [← hd'] at ed el fr; rw [← hn'] at en el fr
 obtain ⟨x, ex⟩ : ∃ x : Pt, x = ⟨(d - n) * q.f0 + n * g.f0, (d - n) * q.f1 + n * g.f1⟩ := ⟨_, rfl⟩
 have ex0 : x.f0 = (d - n) * q.f0 + n * g.f0 := by rw [ex]
 have ex1 : x.f1 = (d - n) * q.f1 + n * g.f1 := by rw [ex]
 have go : ∀ x q g c c' : Int, x = (d - n) * q + n * g → (u + w) * (s * q + t * g) = (s + t) * (u * c + w * c') → (u + w) * x = u * (d * c) + w * (d * c') := by
  intro x q g c c' hx hc
  refine scaled_eq hst ?_
  have e1 : (s + t) * x = d * (s * q + t * g) := by
   rw [hx]
   have : (s + t) * ((d - n) * q + n * g) = (s + t) * d * q - (s + t) * n * q + (s + t) * n * g := by grind
   rw [this, ← fr]; grind
  have e2 : (s + t) * ((u + w) * x) = (u + w) * ((s + t) * x) := by grind
  rw [e2, e1]
  have e3 : (u + w) * (d * (s * q + t * g)) = d * ((u + w) * (s * q + t * g)) := by grind
  rw [e3, hc]; grind
 have ox : On (M.sc d e.1) (M.sc d e.2) x := par_on k.hu k.hv huw (go _ _ _ _ _ ex0 k.e0) (go _ _ _ _ _ ex1 k.e1)
 have back : ∀ f1 f2 : Pt, ∀ s' t' u' v', Com (M.sc d q) x (M.sc d f1) (M.sc d f2) s' t' u' v' → Com q g f1 f2 (s' * d + t' * (d - n)) (t' * n) u' v' := by
  intro f1 f2 s' t' u' v' c
  obtain ⟨hs, ht, hu, hv, st, uv, e0, e1⟩ := c
  have m1 := Int.mul_nonneg hs (Int.le_of_lt ed)
  have m2 := Int.mul_nonneg ht (show 0 ≤ d - n by omega)
  have m3 := Int.mul_nonneg ht (Int.le_of_lt en)
  have sm : s' * d + t' * (d - n) + t' * n = (s' + t') * d := by grind
  have go : ∀ x q g c c' : Int, x = (d - n) * q + n * g → (u' + v') * (s' * (d * q) + t' * x) = (s' + t') * (u' * (d * c) + v' * (d * c')) → (u' + v') * ((s' * d + t' * (d - n)) * q + t' * n * g) = (s' + t') * d * (u' * c + v' * c') := by
   intro x q g c c' hx hc
   subst hx
   clear e0 e1 sm go ex0 ex1 fr
   grind
  refine ⟨by omega, m3, hu, hv, by rw [sm]; exact Int.mul_pos st ed, uv, ?_, ?_⟩
  ·rw [sm]; exact go _ _ _ _ _ ex0 e0
  ·rw [sm]; exact go _ _ _ _ _ ex1 e1
 have ntx : ¬ Touch (M.sc d q) x (M.sc d v) (M.sc d z) := by
  intro T
  obtain ⟨s', t', u', v', c⟩ := touch_com.mp T
  exact nt (touch_com.mpr ⟨_, _, _, _, back _ _ _ _ _ _ c⟩)
 obtain ⟨_, _, xv, xz⟩ := not_touch_ne ntx
 have hS := h.sc ed
 obtain ⟨nvz, np1, np2, _⟩ := nodup_parts h.sp.nd
 have e2 : M.sc d z :: (C2.map (M.sc d) ++ [M.sc d v]) = (z :: (C2 ++ [v])).map (M.sc d) := by simp
 have free : ∀ f ∈ loop (M.sc d z :: (C2.map (M.sc d) ++ [M.sc d v])), ¬ Touch (M.sc d q) x f.1 f.2 := by
  intro f' hf' T
  rw [e2, loop_sc] at hf'
  obtain ⟨f, hf, rfl⟩ := List.mem_map.mp hf'
  rw [loop_part] at hf
  rcases List.mem_append.mp hf with hf | hf
  ·have fin : f ∈ loop (v :: (C1 ++ z :: C2)) := by rw [loop_at]; exact List.mem_append_right _ hf
   obtain ⟨s', t', u', v', c⟩ := touch_com.mp T
   have b := back _ _ _ _ _ _ c
   have fr' := hit_frac b
   obtain ⟨fn, fd, _⟩ := pos f fin
   have m := mn f fin (touch_com.mpr ⟨_, _, _, _, b⟩)
   rw [← hn', ← hd'] at m
   have s0 : s' = 0 := by
    have i1 : t' * (n * hd q g f) ≤ t' * (hn q f * d) := Int.mul_le_mul_of_nonneg_left m c.ht
    have i2 : t' * (n * hd q g f) = (s' + t') * (hn q f * d) := by
     have : s' * d + t' * (d - n) + t' * n = (s' + t') * d := by grind
     rw [this] at fr'; grind
    have i3 := Int.mul_pos fn ed
    rcases Int.lt_or_eq_of_le c.hs with k | k
    ·have := Int.mul_pos k i3
     have e : (s' + t') * (hn q f * d) = s' * (hn q f * d) + t' * (hn q f * d) := by grind
     omega
    ·exact k.symm
   subst s0
   have c0 := c.e0; have c1 := c.e1; have st := c.st
   simp only [Int.zero_mul, Int.zero_add] at c0 c1 st
   have of : On (M.sc d f.1) (M.sc d f.2) x := par_on c.hu c.hv c.uv (scaled_eq st (by rw [Int.mul_left_comm]; exact c0)) (scaled_eq st (by rw [Int.mul_left_comm]; exact c1))
   have m3 := pth_mem C2 z v f hf
   have m1 := pth_mem C1 v z e he
   have nef : e ≠ f := by
    intro ef
    rw [← ef] at m3
    rcases List.mem_cons.mp m1.1 with q | q <;> rcases List.mem_cons.mp m3.1 with r | r
    ·exact nvz (q.symm.trans r)
    ·exact (np2 _ r).1 q
    ·exact (np1 _ q).2.1 r
    ·exact (np1 _ q).2.2 r
   obtain ⟨p1, p2⟩ := ((h.sp.sep e inn f fin nef).sc ed).on ox of
   have y1 : ∃ y ∈ v :: (C1 ++ [z]), x = M.sc d y := by
    rcases p1 with r | r
    ·refine ⟨e.1, ?_, r⟩
     rcases List.mem_cons.mp m1.1 with q | q
     ·exact List.mem_cons.mpr (Or.inl q)
     ·exact List.mem_cons_of_mem _ (List.mem_append_left _ q)
    ·exact ⟨e.2, List.mem_cons_of_mem _ m1.2, r⟩
   have y2 : ∃ y ∈ z :: (C2 ++ [v]), x = M.sc d y := by
    rcases p2 with r | r
    ·refine ⟨f.1, ?_, r⟩
     rcases List.mem_cons.mp m3.1 with q | q
     ·exact List.mem_cons.mpr (Or.inl q)
     ·exact List.mem_cons_of_mem _ (List.mem_append_left _ q)
    ·exact ⟨f.2, List.mem_cons_of_mem _ m3.2, r⟩
   obtain ⟨y1, y1m, y1e⟩ := y1
   obtain ⟨y2, y2m, y2e⟩ := y2
   have yy : y1 = y2 := sc_inj ed (y1e.symm.trans y2e)
   subst yy
   rcases List.mem_cons.mp y1m with r | r
   ·exact xv (by rw [y1e, r])
   ·rcases List.mem_append.mp r with r | r
    ·obtain ⟨k1, k2, k3⟩ := np1 _ r
     rcases List.mem_cons.mp y2m with r' | r'
     ·exact k2 r'
     ·rcases List.mem_append.mp r' with r' | r'
      ·exact k3 r'
      ·exact k1 (List.mem_singleton.mp r')
    ·exact xz (by rw [y1e, List.mem_singleton.mp r])
  ·rw [List.mem_singleton.mp hf] at T
   exact ntx T
 have w := hS.point (e := scE d e) (x := x) (by rw [pth_sc]; exact List.mem_map.mpr ⟨e, he, rfl⟩) ox xv xz
 rw [← wE_const free, e2, loop_sc, wE_sc ed] at w
 exact w
theorem same_side {q g v z : Pt} (h : (0 < cr v z q ∧ 0 < cr v z g) ∨ (cr v z q < 0 ∧ cr v z g < 0)) : ¬ Touch q g v z := by
 intro T
 obtain ⟨s, t, u, w, k⟩ := touch_com.mp T
 have c := k.cr (p := v) (q := z)
 rw [cr_self1, cr_self2, Int.mul_zero, Int.mul_zero, Int.add_zero, Int.mul_zero] at c
 have uv := k.uv
 have st := k.st
 have c := (Int.mul_eq_zero.mp c).resolve_left (by omega)
 rcases h with ⟨h1, h2⟩ | ⟨h1, h2⟩
 ·have i1 := Int.mul_nonneg k.hs (Int.le_of_lt h1)
  have i2 := Int.mul_nonneg k.ht (Int.le_of_lt h2)
  have r1 := (Int.mul_eq_zero.mp (show s * cr v z q = 0 by omega)).resolve_right (by omega)
  have r2 := (Int.mul_eq_zero.mp (show t * cr v z g = 0 by omega)).resolve_right (by omega)
  omega
 ·have i1 := Int.mul_nonneg k.hs (show 0 ≤ - cr v z q by omega)
  have i2 := Int.mul_nonneg k.ht (show 0 ≤ - cr v z g by omega)
  rw [Int.mul_neg] at i1 i2
  have r1 := (Int.mul_eq_zero.mp (show s * cr v z q = 0 by omega)).resolve_right (by omega)
  have r2 := (Int.mul_eq_zero.mp (show t * cr v z g = 0 by omega)).resolve_right (by omega)
  omega
theorem Cut.disj {v z : Pt} {C1 C2 : List Pt} (h : Cut v C1 z C2) {q : Pt} (gen : ∀ f ∈ loop (v :: (C1 ++ z :: C2)), cr f.1 f.2 q ≠ 0) (gc : cr v z q ≠ 0) : wE (loop (v :: (C1 ++ [z]))) q = 0 ∨ wE (loop (z :: (C2 ++ [v]))) q = 0 := by
 obtain ⟨B, B0, hB⟩ := bnd (fun x : Pt => max (x.f1 - q.f1) (q.f1 - x.f1)) (v :: (C1 ++ z :: C2))
 have sub1 : ∀ x ∈ v :: (C1 ++ [z]), x ∈ v :: (C1 ++ z :: C2) := by
  intro x hx
  rcases List.mem_cons.mp hx with k | k
  ·exact List.mem_cons.mpr (Or.inl k)
  ·rcases List.mem_append.mp k with k | k
   ·exact List.mem_cons_of_mem _ (List.mem_append_left _ k)
   ·rw [List.mem_singleton.mp k]; exact List.mem_cons_of_mem _ (List.mem_append_right _ (List.mem_cons_self ..))
 obtain ⟨g, far, ng⟩ : ∃ g : Pt, ((∀ x ∈ v :: (C1 ++ z :: C2), g.f1 < x.f1) ∨ (∀ x ∈ v :: (C1 ++ z :: C2), x.f1 < g.f1)) ∧ ¬ Touch q g v z := by
  have e1 : ∀ r : Int, cr v z ⟨q.f0, q.f1 + r⟩ = cr v z q + (z.f0 - v.f0) * r := fun r => by unfold cr; dsimp only; grind
  have dn : ∀ x ∈ v :: (C1 ++ z :: C2), q.f1 + (-B) < x.f1 := fun x hx => by have := hB x hx; omega
  have up : ∀ x ∈ v :: (C1 ++ z :: C2), x.f1 < q.f1 + B := fun x hx => by have := hB x hx; omega
  rcases Int.lt_or_le 0 (cr v z q) with s | s <;> rcases Int.le_total 0 (z.f0 - v.f0) with k | k
  ·refine ⟨⟨q.f0, q.f1 + B⟩, Or.inr up, same_side (Or.inl ⟨s, ?_⟩)⟩
   rw [e1]; have := Int.mul_nonneg k (Int.le_of_lt B0); omega
  ·refine ⟨⟨q.f0, q.f1 + (-B)⟩, Or.inl dn, same_side (Or.inl ⟨s, ?_⟩)⟩
   rw [e1, Int.mul_neg]; have := Int.mul_nonpos_of_nonpos_of_nonneg k (Int.le_of_lt B0); omega
  ·refine ⟨⟨q.f0, q.f1 + (-B)⟩, Or.inl dn, same_side (Or.inr ⟨by omega, ?_⟩)⟩
   rw [e1, Int.mul_neg]; have := Int.mul_nonneg k (Int.le_of_lt B0); omega
  ·refine ⟨⟨q.f0, q.f1 + B⟩, Or.inr up, same_side (Or.inr ⟨by omega, ?_⟩)⟩
   rw [e1]; have := Int.mul_nonpos_of_nonpos_of_nonneg k (Int.le_of_lt B0); omega
 by_cases none : ∀ e ∈ loop (v :: (C1 ++ z :: C2)), ¬ Touch q g e.1 e.2
 ·left
  rw [wE_const (y := g) (fun e he => ?_)]
  ·refine wE_far ?_
   rcases far with far | far
   ·exact Or.inl (fun e he => ⟨far _ (sub1 _ (loop_mem he).1), far _ (sub1 _ (loop_mem he).2)⟩)
   ·exact Or.inr (fun e he => ⟨far _ (sub1 _ (loop_mem he).1), far _ (sub1 _ (loop_mem he).2)⟩)
  ·rw [loop_part] at he
   rcases List.mem_append.mp he with k | k
   ·exact none e (by rw [loop_at]; exact List.mem_append_left _ k)
   ·rw [List.mem_singleton.mp k]; exact fun T => ng T.symm.swap.symm
 ·have some : ∃ e ∈ loop (v :: (C1 ++ z :: C2)), Touch q g e.1 e.2 := Classical.byContradiction (fun k => none (fun e he t => k ⟨e, he, t⟩))
  obtain ⟨e0, m0, t0⟩ := some
  have cl : ∀ e : Pt × Pt, Decidable (Touch q g e.1 e.2) := fun e => Classical.propDecidable _
  obtain ⟨e, he, mn⟩ := min_frac (hn q) (hd q g) ((loop (v :: (C1 ++ z :: C2))).filter (fun e => @decide _ (cl e))) (fun k => by
   have : e0 ∈ (loop (v :: (C1 ++ z :: C2))).filter (fun e => @decide _ (cl e)) := List.mem_filter.mpr ⟨m0, by simpa using t0⟩
   rw [k] at this; cases this) (fun f hf => by
   have := gen f (List.mem_filter.mp hf).1
   unfold hd; omega)
  obtain ⟨inn, te⟩ := List.mem_filter.mp he
  have te : Touch q g e.1 e.2 := by simpa using te
  have mn : ∀ f ∈ loop (v :: (C1 ++ z :: C2)), Touch q g f.1 f.2 → hn q e * hd q g f ≤ hn q f * hd q g e := fun f hf tf => mn f (List.mem_filter.mpr ⟨hf, by simpa using tf⟩)
  have inn' := inn
  rw [loop_at] at inn'
  rcases List.mem_append.mp inn' with k | k
  ·exact Or.inr (h.hit gen ng k te mn)
  ·exact Or.inl (h.symm.hit (fun f hf => gen f (loop_rot.mp hf)) (fun T => ng T.symm.swap.symm) k te (fun f hf => mn f (loop_rot.mp hf)))
end Go.Proofs.Ythehmkpcddafnaa.M
end
section
namespace Go.Proofs.Ythehmkpcddafnaa.M
open Go.RowKit Go.Proofs.Ythehmkpcddafnaa.PG Go.Proofs.YthehmkpcddafnaaW.PrintMore Go.Proofs.YthehmkpcddafnaaW.PrintWords
theorem on_line {a b c : Pt} (h : cr a b c = 0) : btw a c b ∨ btw a b c ∨ btw b c a := by
 have h2 : cr a c b = 0 := by rw [cr_swap]; omega
 have h3 : cr b c a = 0 := by rw [cr_rot]; exact h
 rw [← dot_on h, ← dot_on h2, ← dot_on h3]
 rcases Int.lt_or_le 0 ((a.f0 - b.f0) * (c.f0 - b.f0) + (a.f1 - b.f1) * (c.f1 - b.f1)) with q1 | q1
 ·rcases Int.lt_or_le 0 ((a.f0 - c.f0) * (b.f0 - c.f0) + (a.f1 - c.f1) * (b.f1 - c.f1)) with q2 | q2
  ·rcases Int.lt_or_le 0 ((b.f0 - a.f0) * (c.f0 - a.f0) + (b.f1 - a.f1) * (c.f1 - a.f1)) with q3 | q3
   ·exfalso
    rw [cr_eq] at h
    have e2 : (a.f0 - c.f0) * (b.f0 - c.f0) + (a.f1 - c.f1) * (b.f1 - c.f1) = ((c.f0 - b.f0) * (c.f0 - b.f0) + (c.f1 - b.f1) * (c.f1 - b.f1)) - ((a.f0 - b.f0) * (c.f0 - b.f0) + (a.f1 - b.f1) * (c.f1 - b.f1)) := by grind
    have e3 : (b.f0 - a.f0) * (c.f0 - a.f0) + (b.f1 - a.f1) * (c.f1 - a.f1) = ((a.f0 - b.f0) * (a.f0 - b.f0) + (a.f1 - b.f1) * (a.f1 - b.f1)) - ((a.f0 - b.f0) * (c.f0 - b.f0) + (a.f1 - b.f1) * (c.f1 - b.f1)) := by grind
    have e4 : ((a.f0 - b.f0) * (c.f0 - b.f0) + (a.f1 - b.f1) * (c.f1 - b.f1)) * ((a.f0 - b.f0) * (c.f0 - b.f0) + (a.f1 - b.f1) * (c.f1 - b.f1)) = ((a.f0 - b.f0) * (a.f0 - b.f0) + (a.f1 - b.f1) * (a.f1 - b.f1)) * ((c.f0 - b.f0) * (c.f0 - b.f0) + (c.f1 - b.f1) * (c.f1 - b.f1)) := by grind
    rw [e2] at q2; rw [e3] at q3
    generalize (a.f0 - b.f0) * (c.f0 - b.f0) + (a.f1 - b.f1) * (c.f1 - b.f1) = P at *
    generalize (a.f0 - b.f0) * (a.f0 - b.f0) + (a.f1 - b.f1) * (a.f1 - b.f1) = Q at *
    generalize (c.f0 - b.f0) * (c.f0 - b.f0) + (c.f1 - b.f1) * (c.f1 - b.f1) = R at *
    have : P * P < Q * R := Int.lt_of_lt_of_le (Int.mul_lt_mul_of_pos_left (show P < R by omega) q1) (Int.mul_le_mul_of_nonneg_right (by omega) (by omega))
    omega
   ·right; right; have : (b.f0 - a.f0) * (c.f0 - a.f0) + (b.f1 - a.f1) * (c.f1 - a.f1) ≤ 0 := q3; exact this
  ·right; left; exact q2
 ·left; exact q1
theorem spike {a b c : Pt} (hab : a ≠ b) (hbc : b ≠ c) : (cr b a c = 0 ∧ 0 < (a.f0 - b.f0) * (c.f0 - b.f0) + (a.f1 - b.f1) * (c.f1 - b.f1)) ↔ (On a b c ∨ On b c a) := by
 have e1 : cr b a c = - cr a b c := by rw [cr_eq, cr_eq]; grind
 have e2 : cr a c b = - cr a b c := cr_swap a b c
 have e3 : cr b c a = cr a b c := cr_rot a b c
 by_cases h : cr a b c = 0
 ·have d := dot_on (show cr a c b = 0 by omega)
  have t := on_line h
  have x1 : btw a c b → btw a b c → False := fun p q => hbc (btw_eq q p)
  have x2 : btw a c b → btw b c a → False := fun p q => hab (btw_eq' p q)
  unfold On
  rw [e1, e3, h]
  constructor
  ·rintro ⟨_, h1⟩
   have : ¬ btw a c b := by rw [← d]; omega
   rcases t with t | t | t
   ·exact absurd t this
   ·exact Or.inl ⟨rfl, t⟩
   ·exact Or.inr ⟨rfl, t⟩
  ·intro h1
   refine ⟨by omega, ?_⟩
   have : ¬ btw a c b := by
    intro hb
    rcases h1 with ⟨_, h1⟩ | ⟨_, h1⟩
    ·exact x1 hb h1
    ·exact x2 hb h1
   rw [← d] at this; omega
 ·unfold On; rw [e1, e3]
  constructor
  ·rintro ⟨h1, _⟩; omega
  ·rintro (⟨h1, _⟩ | ⟨h1, _⟩) <;> omega
theorem Meet_comm (a b c d : Pt) : Meet a b c d ↔ Meet c d a b := by
 unfold Meet
 constructor
 ·rintro (h | h | h | h | h)
  ·exact Or.inr (Or.inr (Or.inl h))
  ·exact Or.inr (Or.inr (Or.inr (Or.inl h)))
  ·exact Or.inl h
  ·exact Or.inr (Or.inl h)
  ·exact Or.inr (Or.inr (Or.inr (Or.inr h.symm)))
 ·rintro (h | h | h | h | h)
  ·exact Or.inr (Or.inr (Or.inl h))
  ·exact Or.inr (Or.inr (Or.inr (Or.inl h)))
  ·exact Or.inl h
  ·exact Or.inr (Or.inl h)
  ·exact Or.inr (Or.inr (Or.inr (Or.inr h.symm)))
def CSimple (l : List Pt) : Prop := ∀ i, i < l.length →
 at_ l i ≠ at_ l ((i + 1) % l.length) ∧
 ¬ (cr (at_ l i) (at_ l ((i + l.length - 1) % l.length)) (at_ l ((i + 1) % l.length)) = 0 ∧ 0 < ((at_ l ((i + l.length - 1) % l.length)).f0 - (at_ l i).f0) * ((at_ l ((i + 1) % l.length)).f0 - (at_ l i).f0) + ((at_ l ((i + l.length - 1) % l.length)).f1 - (at_ l i).f1) * ((at_ l ((i + 1) % l.length)).f1 - (at_ l i).f1)) ∧
 ∀ j, j < i → j + 1 ≠ i → (j ≠ 0 ∨ i + 1 ≠ l.length) → ¬ Meet (at_ l i) (at_ l ((i + 1) % l.length)) (at_ l j) (at_ l (j + 1))
theorem csimple_iff (l : List Pt) (hn : 3 ≤ l.length) : CSimple l ↔ Simple l := by
 unfold CSimple Simple
 generalize hl : l.length = n at *
 have prev : ∀ i, i < n → (((i + n - 1) % n) + 1) % n = i ∧ (i + n - 1) % n < n := by
  intro i hi
  refine ⟨?_, Nat.mod_lt _ (by omega)⟩
  by_cases h0 : i = 0
  ·subst h0; rw [show 0 + n - 1 = n - 1 by omega, Nat.mod_eq_of_lt (show n - 1 < n by omega), show n - 1 + 1 = n by omega, Nat.mod_self]
  ·rw [show i + n - 1 = (i - 1) + n by omega, Nat.add_mod_right, Nat.mod_eq_of_lt (show i - 1 < n by omega), show i - 1 + 1 = i by omega, Nat.mod_eq_of_lt hi]
 have nxt : ∀ i, i < n → ((i + 1) % n + n - 1) % n = i ∧ (i + 1) % n < n := by
  intro i hi
  refine ⟨?_, Nat.mod_lt _ (by omega)⟩
  by_cases h0 : i + 1 = n
  ·rw [h0, Nat.mod_self, show 0 + n - 1 = n - 1 by omega, Nat.mod_eq_of_lt (by omega)]; omega
  ·rw [Nat.mod_eq_of_lt (show i + 1 < n by omega), show i + 1 + n - 1 = i + n by omega, Nat.add_mod_right, Nat.mod_eq_of_lt hi]
 have two : ∀ i, ((i + 1) % n + 1) % n = (i + 1 + 1) % n := fun i => by rw [Nat.mod_add_mod]
 constructor
 ·intro h
  refine ⟨fun i hi => (h i hi).1, fun i hi => ?_⟩
  obtain ⟨p1, p2⟩ := nxt i hi
  have q := (h _ p2).2.1
  rw [p1, two i] at q
  have e1 := (h i hi).1
  have e2 := (h _ p2).1
  rw [two i] at e2
  rw [spike e1 e2] at q
  refine ⟨fun h1 => q (Or.inl h1), fun h1 => q (Or.inr h1), fun k hk hkn hki hm => ?_⟩
  have hw : i ≠ 0 ∨ k + 1 ≠ n := by
   rcases Nat.lt_or_ge (k + 1) n with h1 | h1
   ·right; omega
   ·left; intro h0; apply hki; rw [show k + 1 = n by omega, Nat.mod_self, h0]
  have := (h k hkn).2.2 i (by omega) (by omega) hw
  apply this
  rw [Meet_comm]
  rwa [Nat.mod_eq_of_lt (show i + 1 < n by omega)] at hm
 ·rintro ⟨h0, h⟩ i hi
  obtain ⟨p1, p2⟩ := prev i hi
  refine ⟨h0 i hi, ?_, fun j hj hji hw hm => ?_⟩
  ·have e1 := h0 _ p2
   rw [p1] at e1
   rw [spike e1 (h0 i hi)]
   have q := h _ p2
   rw [← two ((i + n - 1) % n), p1] at q
   rintro (h1 | h1)
   ·exact q.1 h1
   ·exact q.2.1 h1
  ·have q := (h j (by omega)).2.2 i (by omega) hi (by
    rcases Nat.lt_or_ge (i + 1) n with h1 | h1
    ·rw [Nat.mod_eq_of_lt h1]; omega
    ·rw [show i + 1 = n by omega, Nat.mod_self]; omega)
   apply q
   rw [Nat.mod_eq_of_lt (show j + 1 < n by omega), Meet_comm]
   exact hm
theorem simple_l1 {l : List Pt} (hb : ∀ p ∈ l, Bd p) (hn : 3 ≤ l.length) (hN : l.length ≤ 1000000) {i : Nat} (hi : i < l.length) {b' : Bool} (hnext : Rt (fun k => shape_simple.l0 k l (l.length : Int) (l.length : Int) ((i + 1 : Nat) : Int)) b') :
  ∀ d j, i = j + d → ∃ b, Rt (fun k => shape_simple.l1 k l (l.length : Int) (i : Int) (l.length : Int) (i : Int) (i : Int) (j : Int) (at_ l ((i + 1) % l.length)).f0 (at_ l ((i + 1) % l.length)).f1) b ∧ (b = true ↔ (∀ j', j ≤ j' → j' < i → j' + 1 ≠ i → (j' ≠ 0 ∨ i + 1 ≠ l.length) → ¬ Meet (at_ l i) (at_ l ((i + 1) % l.length)) (at_ l j') (at_ l (j' + 1))) ∧ b' = true) := by
 intro d
 induction d with
 | zero =>
  intro j hj
  obtain ⟨K, hK⟩ := hnext
  refine ⟨b', ⟨K + 1, fun k hk => ?_⟩, ⟨fun h => ⟨fun j' h1 h2 => by omega, h⟩, fun h => h.2⟩⟩
  obtain ⟨k, rfl⟩ : ∃ m, k = m + 1 := ⟨k - 1, by omega⟩
  dsimp only; rw [shape_simple.l1, if_neg (by omega), wz _ (by omega) (by omega)]
  exact hK k (by omega)
 | succ d ih =>
  intro j hj
  obtain ⟨b1, ⟨K, hK⟩, hb1⟩ := ih (j + 1) (by omega)
  have skip : ∀ k, K + 1 ≤ k → shape_simple.j3 k l (l.length : Int) (i : Int) (l.length : Int) (i : Int) (i : Int) (j : Int) false (at_ l ((i + 1) % l.length)).f0 (at_ l ((i + 1) % l.length)).f1 = some b1 := by
   intro k hk
   obtain ⟨k, rfl⟩ : ∃ m, k = m + 1 := ⟨k - 1, by omega⟩
   rw [shape_simple.j3, if_neg (by simp), wz _ (by omega) (by omega)]
   exact hK k (by omega)
  have split_ : ∀ (P : Nat → Prop), (∀ j', j ≤ j' → j' < i → P j') ↔ (P j ∧ ∀ j', j + 1 ≤ j' → j' < i → P j') := by
   intro P
   constructor
   ·intro h; exact ⟨h j (Nat.le_refl _) (by omega), fun j' h1 h2 => h j' (by omega) h2⟩
   ·rintro ⟨h0, h⟩ j' h1 h2
    rcases Nat.eq_or_lt_of_le h1 with rfl | h3
    ·exact h0
    ·exact h j' h3 h2
  rw [show (∃ b, Rt (fun k => shape_simple.l1 k l (l.length : Int) (i : Int) (l.length : Int) (i : Int) (i : Int) (j : Int) (at_ l ((i + 1) % l.length)).f0 (at_ l ((i + 1) % l.length)).f1) b ∧ (b = true ↔ (∀ j', j ≤ j' → j' < i → j' + 1 ≠ i → (j' ≠ 0 ∨ i + 1 ≠ l.length) → ¬ Meet (at_ l i) (at_ l ((i + 1) % l.length)) (at_ l j') (at_ l (j' + 1))) ∧ b' = true)) ↔ (∃ b, Rt (fun k => shape_simple.l1 k l (l.length : Int) (i : Int) (l.length : Int) (i : Int) (i : Int) (j : Int) (at_ l ((i + 1) % l.length)).f0 (at_ l ((i + 1) % l.length)).f1) b ∧ (b = true ↔ ((j + 1 ≠ i → (j ≠ 0 ∨ i + 1 ≠ l.length) → ¬ Meet (at_ l i) (at_ l ((i + 1) % l.length)) (at_ l j) (at_ l (j + 1))) ∧ b1 = true))) from by
   rw [split_]; simp only [hb1, and_assoc]]
  by_cases h1 : j + 1 = i
  ·refine ⟨b1, ⟨K + 2, fun k hk => ?_⟩, ⟨fun h => ⟨fun h2 => absurd h1 h2, h⟩, fun h => h.2⟩⟩
   obtain ⟨k, rfl⟩ : ∃ m, k = m + 1 := ⟨k - 1, by omega⟩
   dsimp only; rw [shape_simple.l1, if_pos (by omega), wz _ (by omega) (by omega), if_pos (by omega)]
   exact skip k (by omega)
  ·have hBi := at_bd hb hi
   have hBn := at_bd hb (show (i + 1) % l.length < l.length from Nat.mod_lt _ (by omega))
   have hBj := at_bd hb (show j < l.length by omega)
   have hBk := at_bd hb (show j + 1 < l.length by omega)
   have go : (j ≠ 0 ∨ i + 1 ≠ l.length) → ∀ k, K + 2 ≤ k → ((shape_meet.f k (rd_T41 l i).f0 (rd_T41 l i).f1 (at_ l ((i + 1) % l.length)).f0 (at_ l ((i + 1) % l.length)).f1 (rd_T41 l j).f0 (rd_T41 l j).f1 (rd_T41 l (((j + 1 : Nat)) : Int)).f0 (rd_T41 l ((j + 1 : Nat) : Int)).f1).bind fun t => shape_simple.j3 k l (l.length : Int) (i : Int) (l.length : Int) (i : Int) (i : Int) (j : Int) t (at_ l ((i + 1) % l.length)).f0 (at_ l ((i + 1) % l.length)).f1) = some (!decide (Meet (at_ l i) (at_ l ((i + 1) % l.length)) (at_ l j) (at_ l (j + 1))) && b1) := by
    intro hw k hk
    obtain ⟨k, rfl⟩ : ∃ m, k = m + 1 := ⟨k - 1, by omega⟩
    rw [rd_at, rd_at, rd_at, meet_f hBi hBn hBj hBk, Option.bind_some]
    by_cases hm : Meet (at_ l i) (at_ l ((i + 1) % l.length)) (at_ l j) (at_ l (j + 1))
    ·simp only [hm, decide_true, Bool.not_true, Bool.false_and]
     rw [shape_simple.j3, if_pos rfl]
    ·simp only [hm, decide_false, Bool.not_false, Bool.true_and]
     exact skip (k + 1) (by omega)
   by_cases h2 : j = 0
   ·by_cases h3 : i + 1 = l.length
    ·refine ⟨b1, ⟨K + 2, fun k hk => ?_⟩, ⟨fun h => ⟨fun _ h2 => by omega, h⟩, fun h => h.2⟩⟩
     obtain ⟨k, rfl⟩ : ∃ m, k = m + 1 := ⟨k - 1, by omega⟩
     dsimp only; rw [shape_simple.l1, if_pos (by omega), wz ((j : Int) + 1) (by omega) (by omega), if_neg (by omega), if_pos (by omega), wz _ (by omega) (by omega), if_pos (by omega)]
     exact skip k (by omega)
    ·refine ⟨(!decide (Meet (at_ l i) (at_ l ((i + 1) % l.length)) (at_ l j) (at_ l (j + 1))) && b1), ⟨K + 3, fun k hk => ?_⟩, ?_⟩
     ·obtain ⟨k, rfl⟩ : ∃ m, k = m + 1 := ⟨k - 1, by omega⟩
      dsimp only; rw [shape_simple.l1, if_pos (by omega), wz ((j : Int) + 1) (by omega) (by omega), if_neg (by omega), if_pos (by omega), wz _ (by omega) (by omega), if_neg (by omega), if_pos (by omega), if_pos (by omega), if_pos (by omega), if_pos (by omega), if_pos (by omega), if_pos (by omega)]
      exact go (by omega) k (by omega)
     ·simp only [Bool.and_eq_true, Bool.not_eq_true', decide_eq_false_iff_not]
      exact ⟨fun h => ⟨fun _ _ => h.1, h.2⟩, fun h => ⟨h.1 h1 (Or.inr h3), h.2⟩⟩
   ·refine ⟨(!decide (Meet (at_ l i) (at_ l ((i + 1) % l.length)) (at_ l j) (at_ l (j + 1))) && b1), ⟨K + 3, fun k hk => ?_⟩, ?_⟩
    ·obtain ⟨k, rfl⟩ : ∃ m, k = m + 1 := ⟨k - 1, by omega⟩
     dsimp only; rw [shape_simple.l1, if_pos (by omega), wz ((j : Int) + 1) (by omega) (by omega), if_neg (by omega), if_neg (by omega), if_pos (by omega), if_pos (by omega), if_pos (by omega), if_pos (by omega), if_pos (by omega), if_pos (by omega)]
     exact go (by omega) k (by omega)
    ·simp only [Bool.and_eq_true, Bool.not_eq_true', decide_eq_false_iff_not]
     exact ⟨fun h => ⟨fun _ _ => h.1, h.2⟩, fun h => ⟨h.1 h1 (Or.inl h2), h.2⟩⟩
theorem tmod_last (i n : Nat) (hi : i < n) (hN : n ≤ 1000000) : Int.tmod (wrap64 (wrap64 ((i : Int) + (n : Int)) - 1)) (n : Int) = (((i + n - 1) % n : Nat) : Int) := by
 rw [wz ((i : Int) + (n : Int)) (by omega) (by omega), wz _ (by omega) (by omega), show ((i : Int) + (n : Int)) - 1 = ((i + n - 1 : Nat) : Int) by omega, ← Int.ofNat_tmod]
theorem simple_l0 {l : List Pt} (hb : ∀ p ∈ l, Bd p) (hn : 3 ≤ l.length) (hN : l.length ≤ 1000000) :
  ∀ d i, l.length = i + d → ∃ b, Rt (fun k => shape_simple.l0 k l (l.length : Int) (l.length : Int) (i : Int)) b ∧ (b = true ↔ ∀ i', i ≤ i' → i' < l.length →
   at_ l i' ≠ at_ l ((i' + 1) % l.length) ∧
   ¬ (cr (at_ l i') (at_ l ((i' + l.length - 1) % l.length)) (at_ l ((i' + 1) % l.length)) = 0 ∧ 0 < ((at_ l ((i' + l.length - 1) % l.length)).f0 - (at_ l i').f0) * ((at_ l ((i' + 1) % l.length)).f0 - (at_ l i').f0) + ((at_ l ((i' + l.length - 1) % l.length)).f1 - (at_ l i').f1) * ((at_ l ((i' + 1) % l.length)).f1 - (at_ l i').f1)) ∧
   ∀ j, j < i' → j + 1 ≠ i' → (j ≠ 0 ∨ i' + 1 ≠ l.length) → ¬ Meet (at_ l i') (at_ l ((i' + 1) % l.length)) (at_ l j) (at_ l (j + 1))) := by
 intro d
 induction d with
 | zero =>
  intro i hi
  refine ⟨true, ⟨1, fun k hk => ?_⟩, ⟨fun _ i' h1 h2 => by omega, fun _ => rfl⟩⟩
  obtain ⟨k, rfl⟩ : ∃ m, k = m + 1 := ⟨k - 1, by omega⟩
  dsimp only; rw [shape_simple.l0, if_neg (by omega)]
 | succ d ih =>
  intro i hi
  obtain ⟨b1, hR1, hb1⟩ := ih (i + 1) (by omega)
  obtain ⟨b2, ⟨K, hK⟩, hb2⟩ := simple_l1 hb hn hN (show i < l.length by omega) hR1 i 0 (by omega)
  have hlt : i < l.length := by omega
  have hBi := at_bd hb hlt
  have hBn := at_bd hb (show (i + 1) % l.length < l.length from Nat.mod_lt _ (by omega))
  have hBl := at_bd hb (show (i + l.length - 1) % l.length < l.length from Nat.mod_lt _ (by omega))
  have t1 := tmod_in (i + 1) l.length (by omega)
  have t2 := tmod_in (i + l.length - 1) l.length (by omega)
  have hcross : shape_cross.f ((at_ l ((i + l.length - 1) % l.length)).f0 - (at_ l i).f0) ((at_ l ((i + l.length - 1) % l.length)).f1 - (at_ l i).f1) ((at_ l ((i + 1) % l.length)).f0 - (at_ l i).f0) ((at_ l ((i + 1) % l.length)).f1 - (at_ l i).f1) = some (cr (at_ l i) (at_ l ((i + l.length - 1) % l.length)) (at_ l ((i + 1) % l.length))) := by
   have := side_f hBi hBl hBn
   unfold shape_side.f at this
   rw [sub_f hBl hBi, sub_f hBn hBi] at this
   simpa using this
  have split_ : ∀ (P : Nat → Prop), (∀ i', i ≤ i' → i' < l.length → P i') ↔ (P i ∧ ∀ i', i + 1 ≤ i' → i' < l.length → P i') := by
   intro P
   constructor
   ·intro h; exact ⟨h i (Nat.le_refl _) hlt, fun j' h1 h2 => h j' (by omega) h2⟩
   ·rintro ⟨h0, h⟩ j' h1 h2
    rcases Nat.eq_or_lt_of_le h1 with rfl | h3
    ·exact h0
    ·exact h j' h3 h2
  by_cases e1 : at_ l i = at_ l ((i + 1) % l.length)
  ·refine ⟨false, ⟨1, fun k hk => ?_⟩, ⟨fun h => by simp at h, fun h => absurd e1 (h i (Nat.le_refl _) hlt).1⟩⟩
   obtain ⟨k, rfl⟩ : ∃ m, k = m + 1 := ⟨k - 1, by omega⟩
   dsimp only
   rw [shape_simple.l0, if_pos (by omega), if_neg (by omega), tmod_last i l.length hlt hN, tmod_nat i l.length (by omega), if_pos (by omega), if_pos (by omega), if_pos (by omega), if_pos (by omega), if_pos (by omega), if_pos (by omega), rd_at, rd_at, rd_at, pt_beq, if_pos (by simpa using e1)]
  ·by_cases e2 : (cr (at_ l i) (at_ l ((i + l.length - 1) % l.length)) (at_ l ((i + 1) % l.length)) = 0 ∧ 0 < ((at_ l ((i + l.length - 1) % l.length)).f0 - (at_ l i).f0) * ((at_ l ((i + 1) % l.length)).f0 - (at_ l i).f0) + ((at_ l ((i + l.length - 1) % l.length)).f1 - (at_ l i).f1) * ((at_ l ((i + 1) % l.length)).f1 - (at_ l i).f1))
   ·refine ⟨false, ⟨2, fun k hk => ?_⟩, ⟨fun h => by simp at h, fun h => absurd e2 (h i (Nat.le_refl _) hlt).2.1⟩⟩
    obtain ⟨k, rfl⟩ : ∃ m, k = m + 1 + 1 := ⟨k - 2, by omega⟩
    dsimp only
    rw [shape_simple.l0, if_pos (by omega), if_neg (by omega), tmod_last i l.length hlt hN, tmod_nat i l.length (by omega), if_pos (by omega), if_pos (by omega), if_pos (by omega), if_pos (by omega), if_pos (by omega), if_pos (by omega), rd_at, rd_at, rd_at, pt_beq, if_neg (by simpa using e1), sub_f hBl hBi, Option.bind_some, sub_f hBn hBi, Option.bind_some, hcross, Option.bind_some, if_pos e2.1, dot_f hBl hBn hBi, Option.bind_some, shape_simple.j1, if_pos (by simpa using e2.2)]
   ·refine ⟨b2, ⟨K + 2, fun k hk => ?_⟩, ?_⟩
    ·obtain ⟨k, rfl⟩ : ∃ m, k = m + 1 + 1 := ⟨k - 2, by omega⟩
     dsimp only
     rw [shape_simple.l0, if_pos (by omega), if_neg (by omega), tmod_last i l.length hlt hN, tmod_nat i l.length (by omega), if_pos (by omega), if_pos (by omega), if_pos (by omega), if_pos (by omega), if_pos (by omega), if_pos (by omega), rd_at, rd_at, rd_at, pt_beq, if_neg (by simpa using e1), sub_f hBl hBi, Option.bind_some, sub_f hBn hBi, Option.bind_some, hcross, Option.bind_some]
     have := hK k (by omega)
     by_cases h3 : cr (at_ l i) (at_ l ((i + l.length - 1) % l.length)) (at_ l ((i + 1) % l.length)) = 0
     ·rw [if_pos h3, dot_f hBl hBn hBi, Option.bind_some, shape_simple.j1, if_neg (by simpa using fun h4 => e2 ⟨h3, h4⟩)]
      exact this
     ·rw [if_neg h3, shape_simple.j1, if_neg (by simp)]
      exact this
    ·rw [split_, hb2, hb1]
     constructor
     ·rintro ⟨h1, h2⟩
      exact ⟨⟨e1, e2, fun j hj h3 h4 => h1 j (Nat.zero_le _) hj h3 h4⟩, h2⟩
     ·rintro ⟨⟨_, _, h1⟩, h2⟩
      exact ⟨fun j _ hj h3 h4 => h1 j hj h3 h4, h2⟩
theorem simple_run {l : List Pt} (hb : ∀ p ∈ l, Bd p) (hn : 3 ≤ l.length) (hN : l.length ≤ 1000000) : ∃ b, Rt (fun k => shape_simple.f k l) b ∧ (b = true ↔ Simple l) := by
 obtain ⟨b, hR, h⟩ := simple_l0 hb hn hN l.length 0 (by omega)
 refine ⟨b, hR, ?_⟩
 rw [← csimple_iff l hn, h]
 exact ⟨fun h i hi => h i (Nat.zero_le _) hi, fun h i _ hi => h i hi⟩
end Go.Proofs.Ythehmkpcddafnaa.M
end
