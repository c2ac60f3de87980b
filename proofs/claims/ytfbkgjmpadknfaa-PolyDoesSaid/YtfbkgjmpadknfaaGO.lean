/-
  A statement's arguments, as Lean has them.
-/
import Derived.Test.YtfbkgjmpadknfaaGT
import Derived.Test.YtfbkgjmpadknfaaAhW
namespace Go.Proofs.Ytfbkgjmpadknfaa.M
open Go.Proofs.YtfbkgjmpadknfaaW.Ah Go.Proofs.Ytfbkgjmpadknfaa
set_option linter.unusedVariables false
set_option linter.unusedSimpArgs false
set_option maxRecDepth 8000
def W2 (x : Int) : Prop := IntKind.i64.min ≤ x ∧ x ≤ IntKind.i64.max
theorem op2 (cs : List AV) (h : Typ T.T 2 cs) : ∃ x : Int, cs = c2 x ∧ W2 x := by
  obtain ⟨n, rfl, w⟩ := typ_int h T.t2 rfl
  exact ⟨n, rfl, by simpa [Lit.wf, W2] using w⟩
def W3 (x : Int) : Prop := IntKind.i64.min ≤ x ∧ x ≤ IntKind.i64.max
theorem op3 (cs : List AV) (h : Typ T.T 3 cs) : ∃ x : Int, cs = c3 x ∧ W3 x := by
  obtain ⟨n, rfl, w⟩ := typ_int h T.t3 rfl
  exact ⟨n, rfl, by simpa [Lit.wf, W3] using w⟩
def W5 (x : Int) : Prop := IntKind.u8.min ≤ x ∧ x ≤ IntKind.u8.max
theorem op5 (cs : List AV) (h : Typ T.T 5 cs) : ∃ x : Int, cs = c5 x ∧ W5 x := by
  obtain ⟨n, rfl, w⟩ := typ_int h T.t5 rfl
  exact ⟨n, rfl, by simpa [Lit.wf, W5] using w⟩
def W95 (x : (Arr 12 Int)) : Prop := ∀ y ∈ x.1, W5 y
theorem op95 (cs : List AV) (h : Typ T.T 95 cs) : ∃ x : (Arr 12 Int), cs = c95 x ∧ W95 x := by
  obtain ⟨x, rfl, w⟩ := typ_arr c5 W5 h T.t95 rfl T.t5 rfl op5
  exact ⟨x, rfl, w⟩
def W97 (x : api_Term) : Prop := W95 x.Exps ∧ W2 x.Coef
theorem op97 (cs : List AV) (h : Typ T.T 97 cs) : ∃ x : api_Term, cs = c97 x ∧ W97 x := by
  obtain ⟨ps, rfl, hl, hf⟩ := typ_struct h T.t97 rfl (fun hs => hs _ T.t97 rfl)
  match ps, hl with
  | [p0, p1], _ =>
    obtain ⟨x0, rfl, w0⟩ := op95 _ (hf 0 _ _ rfl rfl)
    obtain ⟨x1, rfl, w1⟩ := op2 _ (hf 1 _ _ rfl rfl)
    exact ⟨⟨x0, x1⟩, by simp [c97], ⟨w0, w1⟩⟩
def W37 (x : (List api_Term)) : Prop := x.length ≤ maxLen ∧ ∀ y ∈ x, W97 y
theorem op37 (cs : List AV) (h : Typ T.T 37 cs) : ∃ x : (List api_Term), cs = c37 x ∧ W37 x := by
  obtain ⟨x, rfl, w⟩ := typ_slice c97 W97 h T.t37 rfl T.t97 (by decide) op97
  exact ⟨x, rfl, w⟩
def W39 (x : (List (List api_Term))) : Prop := x.length ≤ maxLen ∧ ∀ y ∈ x, W37 y
theorem op39 (cs : List AV) (h : Typ T.T 39 cs) : ∃ x : (List (List api_Term)), cs = c39 x ∧ W39 x := by
  obtain ⟨x, rfl, w⟩ := typ_slice c37 W37 h T.t39 rfl T.t37 (by decide) op37
  exact ⟨x, rfl, w⟩
def W45 (x : (List Int)) : Prop := x.length ≤ maxLen ∧ ∀ y ∈ x, W2 y
theorem op45 (cs : List AV) (h : Typ T.T 45 cs) : ∃ x : (List Int), cs = c45 x ∧ W45 x := by
  obtain ⟨x, rfl, w⟩ := typ_slice c2 W2 h T.t45 rfl T.t2 (by decide) op2
  exact ⟨x, rfl, w⟩
def W46 (x : Int) : Prop := IntKind.u32.min ≤ x ∧ x ≤ IntKind.u32.max
theorem op46 (cs : List AV) (h : Typ T.T 46 cs) : ∃ x : Int, cs = c46 x ∧ W46 x := by
  obtain ⟨n, rfl, w⟩ := typ_int h T.t46 rfl
  exact ⟨n, rfl, by simpa [Lit.wf, W46] using w⟩
def W50 (x : (List Int)) : Prop := x.length ≤ maxLen ∧ ∀ y ∈ x, W5 y
theorem op50 (cs : List AV) (h : Typ T.T 50 cs) : ∃ x : (List Int), cs = c50 x ∧ W50 x := by
  obtain ⟨x, rfl, w⟩ := typ_slice c5 W5 h T.t50 rfl T.t5 (by decide) op5
  exact ⟨x, rfl, w⟩
theorem oa2 (a : AV) (h : TypA T.T 2 a) : ∃ x : Int, a = .sc (.int .i64 x) ∧ W2 x := by
  obtain ⟨x, e, w⟩ := op2 _ (typA_one h T.t2 rfl)
  cases e
  exact ⟨x, rfl, w⟩
theorem oa3 (a : AV) (h : TypA T.T 3 a) : ∃ x : Int, a = .sc (.int .i64 x) ∧ W3 x := by
  obtain ⟨x, e, w⟩ := op3 _ (typA_one h T.t3 rfl)
  cases e
  exact ⟨x, rfl, w⟩
theorem oa5 (a : AV) (h : TypA T.T 5 a) : ∃ x : Int, a = .sc (.int .u8 x) ∧ W5 x := by
  obtain ⟨x, e, w⟩ := op5 _ (typA_one h T.t5 rfl)
  cases e
  exact ⟨x, rfl, w⟩
theorem oa37 (a : AV) (h : TypA T.T 37 a) : ∃ x : (List api_Term), a = .ssl (encs c97 x) x.length false ∧ W37 x := by
  obtain ⟨x, e, w⟩ := op37 _ (typA_one h T.t37 rfl)
  cases e
  exact ⟨x, rfl, w⟩
theorem oa39 (a : AV) (h : TypA T.T 39 a) : ∃ x : (List (List api_Term)), a = .ssl (encs c37 x) x.length false ∧ W39 x := by
  obtain ⟨x, e, w⟩ := op39 _ (typA_one h T.t39 rfl)
  cases e
  exact ⟨x, rfl, w⟩
theorem oa45 (a : AV) (h : TypA T.T 45 a) : ∃ x : (List Int), a = .ssl (encs c2 x) x.length false ∧ W45 x := by
  obtain ⟨x, e, w⟩ := op45 _ (typA_one h T.t45 rfl)
  cases e
  exact ⟨x, rfl, w⟩
theorem oa46 (a : AV) (h : TypA T.T 46 a) : ∃ x : Int, a = .sc (.int .u32 x) ∧ W46 x := by
  obtain ⟨x, e, w⟩ := op46 _ (typA_one h T.t46 rfl)
  cases e
  exact ⟨x, rfl, w⟩
theorem oa50 (a : AV) (h : TypA T.T 50 a) : ∃ x : (List Int), a = .ssl (encs c5 x) x.length false ∧ W50 x := by
  obtain ⟨x, e, w⟩ := op50 _ (typA_one h T.t50 rfl)
  cases e
  exact ⟨x, rfl, w⟩
end Go.Proofs.Ytfbkgjmpadknfaa.M
