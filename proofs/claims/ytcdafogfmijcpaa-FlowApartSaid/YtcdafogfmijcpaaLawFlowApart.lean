/-
  The statement FlowApart holds: for every input the Go function comes to true, and each argument reads as it did.
-/
import Derived.Test.YtcdafogfmijcpaaRows
import Derived.Test.YtcdafogfmijcpaaPureFlowApart
import Derived.Test.YtcdafogfmijcpaaAh19
namespace Go.Proofs.Ytcdafogfmijcpaa.flowApart
open Go.ChangeShapes Go.WideShapes Go.ChangeAt Go.RowKit Go.Proofs.YtcdafogfmijcpaaW.Ah
set_option linter.unusedVariables false
theorem own : ownKnob Try.prog.godebug = none := by kernel_rfl
theorem laidOut : laidOutB Try.prog = true := by kernel_rfl
set_option maxRecDepth 100000 in
theorem lifted (os : Os) (started : os.Started) (H : Type) (enc : TypeId × Value → H) :
    ReturnsInHanded {} Try.checked os 5 .any (Rows.flowApartSpec.pre6 enc Try.prog Try.f5 Rows.flowApartRow.domain false) (Rows.flowApartSpec.post enc Try.prog Try.f5 false true false false) := by
  refine returnsInHanded_of_change_sized (C := Try.checked) own started (by kernel_rfl) Try.func5
    (ChangeSpec.witness6 (enc := enc) (C := Try.checked) false ⟨#[], #[.agg #[.slice none 0 0, .slice none 0 0, .slice none 0 0], .int .u8 0], []⟩ 8 (by kernel_rfl) (by kernel_rfl) (by kernel_rfl) (by kernel_rfl)) ?_
  intro W base args ds gs before hval0 hW hcnd hsz0 _
  have hval : ∀ (j : Nat) t v, Try.f5.params[j]? = some t → args[j]? = some v → Value.okWide Try.prog W .any base t v := hval0
  have hW' := hW
  obtain ⟨p, q, hA0, hV, rfl, hfz, hnd⟩ := hW
  have hA : DataW.TrodAll enc Try.prog W 0 (fun _ => true) true [26, 5] args.toList ds p := hA0
  rw [Try.params5] at hval
  obtain ⟨rfl, rfl⟩ := trodVars_none hV
  obtain ⟨l, q1, q2, q3, q4⟩ := open_args T.ok hA (fun w hw => by have := List.all_eq_true.1 hsz0 w (weightsEach_more hw); simpa using this) (fun j t v ht hv => hval j t v (by simpa using ht) (by simpa using hv)) (by kernel_rfl)
  refine (law_calls T.ok (Pure.FlowApart l q4) q1 (by simpa using q2)).mono fun e W' ⟨he, bel⟩ => ?_
  subst he
  have hst : DataW.TrodAll enc Try.prog W' 0 (fun b => decide (b < W.heap.size)) true Try.f5.params.toList args.toList ds p := stay_args laidOut bel hA (by kernel_rfl)
  have hds := trodAll_len hA
  clear hA hA0 hval hval0 hV hsz0 hcnd q1 q4
  match ds, hds, hW', hst with
  | [d0, d1], _, hW', hst =>
    exact ⟨_, rfl, _, _, _, [], _, [], hW', trodAll_mk1 (shut_bool Try.underlying4 _), hst, rfl, bel.frame _, fun h => by cases h⟩
theorem over : Rows.flowApartRow.holds Try.pinned (OpenSpec.ofChange Rows.flowApartSpec) :=
  OpenClaim.holds_of_wide 5 Try.f5 rfl rfl rfl rfl rfl rfl rfl ⟨rfl, rfl, rfl, rfl, rfl⟩ rfl rfl rfl rfl rfl (by kernel_rfl) Try.func5 (by kernel_rfl)
    (of_decide_eq_true (by kernel_rfl)) (by unfold Func.isWrapper; first | (rw [if_pos (by decide +kernel)]; kernel_rfl) | (rw [if_neg (by decide +kernel)]; exact ⟨rfl, rfl⟩))
    (fun os started H enc _ => lifted os started H enc)
theorem proved : Rows.FlowApartSaid := over
#print axioms proved
end Go.Proofs.Ytcdafogfmijcpaa.flowApart
namespace Go.Proofs.Ytcdafogfmijcpaa
/-- The row, under a short name, for the claim. -/
theorem flowApart_holds : Rows.FlowApartSaid := flowApart.proved
end Go.Proofs.Ytcdafogfmijcpaa

