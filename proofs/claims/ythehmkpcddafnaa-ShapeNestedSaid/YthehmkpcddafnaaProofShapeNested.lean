/- The row of the law cracknellaw04_ShapeNested: for every input of its types it returns true, and the input reads as it did. -/
import Derived.Test.YthehmkpcddafnaaRows
import Derived.Test.YthehmkpcddafnaaQN1
import Derived.Test.YthehmkpcddafnaaQN5
import Derived.Test.YthehmkpcddafnaaQN7
import Derived.WalkKit
import Derived.ProofKit
import Derived.OpenShut
import Derived.ShutString
import Derived.ChangeOld
import Derived.Below
import Derived.SizedLaws
namespace Go.Proofs.Ythehmkpcddafnaa.shapeNested
open Go.ChangeShapes Go.WideShapes Go.ChangeAt Go.RowKit Go.Proofs.Ythehmkpcddafnaa.PG
theorem own : ownKnob Try.prog.godebug = none := by kernel_rfl
theorem laidOut : laidOutB Try.prog = true := by kernel_rfl
set_option maxRecDepth 100000 in
theorem lifted (os : Os) (started : os.Started) (H : Type) (enc : TypeId × Value → H) :
  ReturnsInHanded {} Try.checked os 5 .any (Rows.shapeNestedSpec.pre6 enc Try.prog Try.f5 Rows.shapeNestedRow.domain false) (Rows.shapeNestedSpec.post enc Try.prog Try.f5 false true false false) := by
 refine returnsInHanded_of_change_sized (C := Try.checked) own started (by kernel_rfl) Try.func5
  (ChangeSpec.witness6 (enc := enc) (C := Try.checked) false ⟨#[], #[.agg #[.int .u8 0, .int .u8 0], .slice none 0 0, .agg #[.int .i64 0, .int .i64 0]], []⟩ 8 (by kernel_rfl) (by kernel_rfl) (by kernel_rfl) (by kernel_rfl)) ?_
 intro W base args ds gs before hval0 hW hcnd _ _
 have hval : ∀ (j : Nat) t v, Try.f5.params[j]? = some t → args[j]? = some v → Value.okWide Try.prog W .any base t v := hval0
 have hW' := hW
 obtain ⟨p, q, hA0, hV, rfl, hfz, hnd⟩ := hW
 have hA : DataW.TrodAll enc Try.prog W 0 (fun _ => true) true Try.f5.params.toList args.toList ds p := hA0
 rw [Try.params5] at hA hval
 obtain ⟨v0, vs0, d0, ds0, p0, q0, hargs, rfl, rfl, h0, r0⟩ := trodAll_cons hA
 obtain ⟨v1, vs1, d1, ds1, p1, q1, rfl, rfl, rfl, h1, r1⟩ := trodAll_cons r0
 obtain ⟨v2, vs2, d2, ds2, p2, q2, rfl, rfl, rfl, h2, r2⟩ := trodAll_cons r1
 obtain ⟨rfl, rfl, rfl⟩ := trodAll_nil r2
 obtain rfl : args = #[v0, v1, v2] := by cases args; simp_all
 obtain ⟨rfl, rfl⟩ := trodVars_none hV
 obtain ⟨x0, z0, rfl, rfl, rfl, u0, y0, w0⟩ := R.arr2_arg Try.underlying39 Try.underlying5 (by kernel_rfl) (by kernel_rfl) (hval 0 39 v0 rfl rfl) h0
 obtain ⟨a1, len1, cap1, rfl⟩ := okWide_slice Try.underlying32 (hval 1 32 v1 rfl rfl)
 have lt1 : ∀ x ∈ p1, x.block < W.heap.size := by obtain ⟨m, hm⟩ := h1; exact DataW.trod_lt m _ _ _ hm
 obtain ⟨l1, rfl, c1, w1⟩ := R.rows_arg Try.underlying32 h1
 obtain ⟨a2, rfl, rfl, rfl, u2, y2, w2⟩ := R.pt_arg (hval 2 41 v2 rfl rfl) h2
 clear hA0 hval0
 obtain ⟨k, hk⟩ := M.nested_row x0 z0 u0 y0 l1 a2 u2 y2
 refine (cracknellaw04_ShapeNested.calls k x0 z0 a1 cap1 l1 a2.f0 a2.f1 true W w1 c1 hk rfl).mono fun e W' ⟨he, bel⟩ => ?_
 subst he
 exact ⟨_, rfl, _, _, _, [], _, [], hW', trodAll_mk1 (shut_bool Try.underlying4 _), (trodAll_cons_mk (w0 _ _) (trodAll_cons_mk (Below.trod laidOut (by kernel_rfl) (of_decide_eq_true (by kernel_rfl)) h1 bel lt1) (trodAll_cons_mk (w2 _ _) trodAll_mk0))), rfl, bel.frame _, fun h => by cases h⟩
theorem over : Rows.shapeNestedRow.holds Try.pinned (OpenSpec.ofChange Rows.shapeNestedSpec) :=
 OpenClaim.holds_of_wide 5 Try.f5 rfl rfl rfl rfl rfl rfl rfl ⟨rfl, rfl, rfl, rfl, rfl⟩ rfl rfl rfl rfl rfl (by kernel_rfl) Try.func5 (by kernel_rfl)
  (of_decide_eq_true (by kernel_rfl)) (by unfold Func.isWrapper; first | (rw [if_pos (by decide +kernel)]; kernel_rfl) | (rw [if_neg (by decide +kernel)]; exact ⟨rfl, rfl⟩))
  (fun os started H enc _ => lifted os started H enc)
theorem proved : Rows.ShapeNestedSaid := over
#print axioms proved
end Go.Proofs.Ythehmkpcddafnaa.shapeNested
namespace Go.Proofs.Ythehmkpcddafnaa
/-- The row, under a short name, for the claim. -/
theorem shapeNested_holds : Rows.ShapeNestedSaid := shapeNested.proved
end Go.Proofs.Ythehmkpcddafnaa
