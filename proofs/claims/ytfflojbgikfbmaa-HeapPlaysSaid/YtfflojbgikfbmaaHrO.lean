/-
  A statement's arguments, as Lean has them.
-/
import Derived.Test.YtfflojbgikfbmaaHrT
import Derived.Test.YtfflojbgikfbmaaAhW
namespace Go.Proofs.Ytfflojbgikfbmaa.M
open Go.Proofs.YtfflojbgikfbmaaW.Ah Go.Proofs.Ytfflojbgikfbmaa
set_option linter.unusedVariables false
set_option linter.unusedSimpArgs false
set_option maxRecDepth 8000
def W3 (x : Int) : Prop := IntKind.i64.min ≤ x ∧ x ≤ IntKind.i64.max
theorem op3 (cs : List AV) (h : Typ T.T 3 cs) : ∃ x : Int, cs = c3 x ∧ W3 x := by
  obtain ⟨n, rfl, w⟩ := typ_int h T.t3 rfl
  exact ⟨n, rfl, by simpa [Lit.wf, W3] using w⟩
def W34 (x : api_Head) : Prop := W3 x.Kind ∧ W3 x.Tag ∧ W3 x.Count
theorem op34 (cs : List AV) (h : Typ T.T 34 cs) : ∃ x : api_Head, cs = c34 x ∧ W34 x := by
  obtain ⟨ps, rfl, hl, hf⟩ := typ_struct h T.t34 rfl (fun hs => hs _ T.t34 rfl)
  match ps, hl with
  | [p0, p1, p2], _ =>
    obtain ⟨x0, rfl, w0⟩ := op3 _ (hf 0 _ _ rfl rfl)
    obtain ⟨x1, rfl, w1⟩ := op3 _ (hf 1 _ _ rfl rfl)
    obtain ⟨x2, rfl, w2⟩ := op3 _ (hf 2 _ _ rfl rfl)
    exact ⟨⟨x0, x1, x2⟩, by simp [c34], ⟨w0, w1, w2⟩⟩
def W5 (x : Int) : Prop := IntKind.u8.min ≤ x ∧ x ≤ IntKind.u8.max
theorem op5 (cs : List AV) (h : Typ T.T 5 cs) : ∃ x : Int, cs = c5 x ∧ W5 x := by
  obtain ⟨n, rfl, w⟩ := typ_int h T.t5 rfl
  exact ⟨n, rfl, by simpa [Lit.wf, W5] using w⟩
def W35 (x : (List Int)) : Prop := x.length ≤ maxLen ∧ ∀ y ∈ x, W5 y
theorem op35 (cs : List AV) (h : Typ T.T 35 cs) : ∃ x : (List Int), cs = c35 x ∧ W35 x := by
  obtain ⟨x, rfl, w⟩ := typ_slice c5 W5 h T.t35 rfl T.t5 (by decide) op5
  exact ⟨x, rfl, w⟩
def W70 (x : Int) : Prop := IntKind.u32.min ≤ x ∧ x ≤ IntKind.u32.max
theorem op70 (cs : List AV) (h : Typ T.T 70 cs) : ∃ x : Int, cs = c70 x ∧ W70 x := by
  obtain ⟨n, rfl, w⟩ := typ_int h T.t70 rfl
  exact ⟨n, rfl, by simpa [Lit.wf, W70] using w⟩
def W40 (x : Int) : Prop := IntKind.u64.min ≤ x ∧ x ≤ IntKind.u64.max
theorem op40 (cs : List AV) (h : Typ T.T 40 cs) : ∃ x : Int, cs = c40 x ∧ W40 x := by
  obtain ⟨n, rfl, w⟩ := typ_int h T.t40 rfl
  exact ⟨n, rfl, by simpa [Lit.wf, W40] using w⟩
def W39 (x : (List Int)) : Prop := x.length ≤ maxLen ∧ ∀ y ∈ x, W40 y
theorem op39 (cs : List AV) (h : Typ T.T 39 cs) : ∃ x : (List Int), cs = c39 x ∧ W39 x := by
  obtain ⟨x, rfl, w⟩ := typ_slice c40 W40 h T.t39 rfl T.t40 (by decide) op40
  exact ⟨x, rfl, w⟩
def W4 (x : Bool) : Prop := True
theorem op4 (cs : List AV) (h : Typ T.T 4 cs) : ∃ x : Bool, cs = c4 x ∧ W4 x := by
  obtain ⟨b, rfl⟩ := typ_bool h T.t4 rfl
  exact ⟨b, rfl, trivial⟩
def W93 (x : api_Heap) : Prop := W39 x.Words ∧ W3 x.Half ∧ W4 x.Up ∧ W3 x.Next ∧ W4 x.On ∧ W3 x.Scan
theorem op93 (cs : List AV) (h : Typ T.T 93 cs) : ∃ x : api_Heap, cs = c93 x ∧ W93 x := by
  obtain ⟨ps, rfl, hl, hf⟩ := typ_struct h T.t93 rfl (fun hs => hs _ T.t93 rfl)
  match ps, hl with
  | [p0, p1, p2, p3, p4, p5], _ =>
    obtain ⟨x0, rfl, w0⟩ := op39 _ (hf 0 _ _ rfl rfl)
    obtain ⟨x1, rfl, w1⟩ := op3 _ (hf 1 _ _ rfl rfl)
    obtain ⟨x2, rfl, w2⟩ := op4 _ (hf 2 _ _ rfl rfl)
    obtain ⟨x3, rfl, w3⟩ := op3 _ (hf 3 _ _ rfl rfl)
    obtain ⟨x4, rfl, w4⟩ := op4 _ (hf 4 _ _ rfl rfl)
    obtain ⟨x5, rfl, w5⟩ := op3 _ (hf 5 _ _ rfl rfl)
    exact ⟨⟨x0, x1, x2, x3, x4, x5⟩, by simp [c93], ⟨w0, w1, w2, w3, w4, w5⟩⟩
def W113 (x : handloomlaw16_Do) : Prop := W5 x.Kind ∧ W34 x.X ∧ W39 x.L ∧ W40 x.W ∧ W3 x.I
theorem op113 (cs : List AV) (h : Typ T.T 113 cs) : ∃ x : handloomlaw16_Do, cs = c113 x ∧ W113 x := by
  obtain ⟨ps, rfl, hl, hf⟩ := typ_struct h T.t113 rfl (fun hs => hs _ T.t113 rfl)
  match ps, hl with
  | [p0, p1, p2, p3, p4], _ =>
    obtain ⟨x0, rfl, w0⟩ := op5 _ (hf 0 _ _ rfl rfl)
    obtain ⟨x1, rfl, w1⟩ := op34 _ (hf 1 _ _ rfl rfl)
    obtain ⟨x2, rfl, w2⟩ := op39 _ (hf 2 _ _ rfl rfl)
    obtain ⟨x3, rfl, w3⟩ := op40 _ (hf 3 _ _ rfl rfl)
    obtain ⟨x4, rfl, w4⟩ := op3 _ (hf 4 _ _ rfl rfl)
    exact ⟨⟨x0, x1, x2, x3, x4⟩, by simp [c113], ⟨w0, w1, w2, w3, w4⟩⟩
def W106 (x : (List handloomlaw16_Do)) : Prop := x.length ≤ maxLen ∧ ∀ y ∈ x, W113 y
theorem op106 (cs : List AV) (h : Typ T.T 106 cs) : ∃ x : (List handloomlaw16_Do), cs = c106 x ∧ W106 x := by
  obtain ⟨x, rfl, w⟩ := typ_slice c113 W113 h T.t106 rfl T.t113 (by decide) op113
  exact ⟨x, rfl, w⟩
theorem oa3 (a : AV) (h : TypA T.T 3 a) : ∃ x : Int, a = .sc (.int .i64 x) ∧ W3 x := by
  obtain ⟨x, e, w⟩ := op3 _ (typA_one h T.t3 rfl)
  cases e
  exact ⟨x, rfl, w⟩
theorem oa34 (a : AV) (h : TypA T.T 34 a) : ∃ x : api_Head, a = .agg (c34 x) ∧ W34 x := by
  obtain ⟨cs, rfl, h2⟩ := typA_agg h T.t34 rfl
  obtain ⟨x, rfl, w⟩ := op34 _ h2
  exact ⟨x, rfl, w⟩
theorem oa35 (a : AV) (h : TypA T.T 35 a) : ∃ x : (List Int), a = .ssl (encs c5 x) x.length false ∧ W35 x := by
  obtain ⟨x, e, w⟩ := op35 _ (typA_one h T.t35 rfl)
  cases e
  exact ⟨x, rfl, w⟩
theorem oa70 (a : AV) (h : TypA T.T 70 a) : ∃ x : Int, a = .sc (.int .u32 x) ∧ W70 x := by
  obtain ⟨x, e, w⟩ := op70 _ (typA_one h T.t70 rfl)
  cases e
  exact ⟨x, rfl, w⟩
theorem oa93 (a : AV) (h : TypA T.T 93 a) : ∃ x : api_Heap, a = .agg (c93 x) ∧ W93 x := by
  obtain ⟨cs, rfl, h2⟩ := typA_agg h T.t93 rfl
  obtain ⟨x, rfl, w⟩ := op93 _ h2
  exact ⟨x, rfl, w⟩
theorem oa106 (a : AV) (h : TypA T.T 106 a) : ∃ x : (List handloomlaw16_Do), a = .ssl (encs c113 x) x.length false ∧ W106 x := by
  obtain ⟨x, e, w⟩ := op106 _ (typA_one h T.t106 rfl)
  cases e
  exact ⟨x, rfl, w⟩
end Go.Proofs.Ytfflojbgikfbmaa.M
