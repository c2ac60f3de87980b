/-
  StackPlays for every input.
-/
import Derived.Test.YtfflojbgikfbmaaSN
import Derived.Test.YtfflojbgikfbmaaTyp2
namespace Go.Proofs.Ytfflojbgikfbmaa
open Go.Proofs.YtfflojbgikfbmaaW.Ah
set_option linter.unusedVariables false

theorem typ_do (cs : List AV) (h : Typ T.T 77 cs) : ∃ x, cs = Sta.eD x ∧ (0 ≤ x.1 ∧ 0 ≤ x.2.1) := by
  obtain ⟨ps, rfl, hl, hf⟩ := typ_struct h T.t77 rfl (fun hs => hs _ T.t77 rfl)
  match ps, hl with
  | [a, b, c, d], _ =>
    obtain ⟨x, rfl, w1⟩ := typ_int (hf 0 _ _ rfl rfl) T.t5 rfl
    obtain ⟨y, rfl, w2⟩ := typ_int (hf 1 _ _ rfl rfl) T.t40 rfl
    obtain ⟨z, rfl, _⟩ := typ_int (hf 2 _ _ rfl rfl) T.t3 rfl
    obtain ⟨u, rfl, _⟩ := typ_int (hf 3 _ _ rfl rfl) T.t3 rfl
    simp [Lit.wf, IntKind.min, IntKind.max, IntKind.signed, IntKind.bits] at w1 w2
    exact ⟨(x, y, z, u), rfl, by simp; omega⟩

theorem Pure.StackPlays (l : List AV) (h : TypAs T.T [3, 72] l) : RunF Try.prog T.T 8 l (B true) := by
  cases h with
  | cons a1 h => cases h with
    | cons a2 h => cases h with
      | nil =>
        obtain ⟨m, rfl, w1⟩ := typA_int a1 T.t3 rfl
        obtain ⟨xs, rfl, hx⟩ := typA_slice Sta.eD (fun x => 0 ≤ x.1 ∧ 0 ≤ x.2.1) a2 T.t72 rfl T.t77 (by decide) typ_do
        exact Sta.plays m xs hx
end Go.Proofs.Ytfflojbgikfbmaa
