/-
  The statement HeapBack, of any arguments.
-/
import Derived.Test.YtfflojbgikfbmaaKK
import Derived.Test.YtfflojbgikfbmaaAhW
namespace Go.Proofs.Ytfflojbgikfbmaa
open Go.Proofs.YtfflojbgikfbmaaW.Ah
set_option linter.unusedVariables false
set_option linter.unusedSimpArgs false
set_option maxRecDepth 8000

theorem bk3 (cs : List AV) (h : Typ T.T 3 cs) : ∃ x : Int, cs = [.sc (.int .i64 x)] := by
  obtain ⟨n, rfl, w⟩ := typ_int h T.t3 rfl
  exact ⟨n, rfl⟩
theorem bk34 (cs : List AV) (h : Typ T.T 34 cs) : ∃ x : Int × Int × Int, cs = Hea.eH x ∧ True := by
  obtain ⟨ps, rfl, hl, hf⟩ := typ_struct h T.t34 rfl (fun hs => hs _ T.t34 rfl)
  match ps, hl with
  | [p0, p1, p2], _ =>
    obtain ⟨x0, rfl⟩ := bk3 _ (hf 0 _ _ rfl rfl)
    obtain ⟨x1, rfl⟩ := bk3 _ (hf 1 _ _ rfl rfl)
    obtain ⟨x2, rfl⟩ := bk3 _ (hf 2 _ _ rfl rfl)
    exact ⟨(x0, x1, x2), by simp [Hea.eH], trivial⟩
theorem bk5 (cs : List AV) (h : Typ T.T 5 cs) : ∃ x : Int, cs = Hea.eY x ∧ (0 ≤ x ∧ x ≤ 255) := by
  obtain ⟨n, rfl, w⟩ := typ_int h T.t5 rfl
  refine ⟨n, rfl, ?_⟩
  have m3 : IntKind.u8.min = 0 := rfl
  have m4 : IntKind.u8.max = 255 := rfl
  have := w
  simp [Lit.wf] at this
  rw [m3, m4] at this
  exact this
theorem bk40 (cs : List AV) (h : Typ T.T 40 cs) : ∃ x : Int, cs = Sta.eU x ∧ True := by
  obtain ⟨n, rfl, w⟩ := typ_int h T.t40 rfl
  exact ⟨n, rfl, trivial⟩

theorem Pure.HeapBack (l : List AV) (h : TypAs T.T [34, 39, 35, 62] l) : RunF Try.prog T.T 11 l (B true) := by
  cases h with
  | cons h1 h => cases h with
    | cons h2 h => cases h with
      | cons h3 h => cases h with
        | cons h4 h => cases h with
          | nil =>
            obtain ⟨cs, rfl, g1⟩ := typA_agg h1 T.t34 rfl
            obtain ⟨x, rfl, _⟩ := bk34 _ g1
            obtain ⟨ws, rfl, _⟩ := typA_slice Sta.eU (fun _ => True) h2 T.t39 rfl T.t40 (by decide) bk40
            obtain ⟨bs, rfl, w3⟩ := typA_slice Hea.eY (fun x => 0 ≤ x ∧ x ≤ 255) h3 T.t35 rfl T.t5 (by decide) bk5
            obtain ⟨more, rfl, _⟩ := typA_slice Hea.eH (fun _ => True) h4 T.t62 rfl T.t34 (by decide) bk34
            exact Hea.back x ws bs more w3
end Go.Proofs.Ytfflojbgikfbmaa
