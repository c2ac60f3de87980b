/-
  HeapMoves for every input.
-/
import Derived.Test.YtfflojbgikfbmaaHR
import Derived.Test.YtfflojbgikfbmaaTyp2
namespace Go.Proofs.Ytfflojbgikfbmaa
open Go.Proofs.YtfflojbgikfbmaaW.Ah
set_option linter.unusedVariables false

theorem typ_head9 (cs : List AV) (h : Typ T.T 34 cs) : ∃ x : Int × Int × Int, cs = Hea.eH x ∧ True := by
  obtain ⟨ps, rfl, hl, hf⟩ := typ_struct h T.t34 rfl (fun hs => hs _ T.t34 rfl)
  match ps, hl with
  | [a, b, c], _ =>
    obtain ⟨x, rfl, _⟩ := typ_int (hf 0 _ _ rfl rfl) T.t3 rfl
    obtain ⟨y, rfl, _⟩ := typ_int (hf 1 _ _ rfl rfl) T.t3 rfl
    obtain ⟨z, rfl, _⟩ := typ_int (hf 2 _ _ rfl rfl) T.t3 rfl
    exact ⟨(x, y, z), rfl, trivial⟩

theorem Pure.HeapMoves (l : List AV) (h : TypAs T.T [62, 5] l) : RunF Try.prog T.T 9 l (B true) := by
  cases h with
  | cons a1 h => cases h with
    | cons a2 h => cases h with
      | nil =>
        obtain ⟨xs, rfl, _⟩ := typA_slice Hea.eH (fun _ => True) a1 T.t62 rfl T.t34 (by decide) typ_head9
        obtain ⟨u, rfl, w1⟩ := typA_int a2 T.t5 rfl
        exact Hea.moves xs u (by simp [Lit.wf, IntKind.min, IntKind.max, IntKind.signed, IntKind.bits] at w1; omega)
end Go.Proofs.Ytfflojbgikfbmaa
