/-
  A statement's arguments, as Lean has them.
-/
import Derived.Test.YtfflojbgikfbmaaGrT
import Derived.Test.YtfflojbgikfbmaaAhW
namespace Go.Proofs.Ytfflojbgikfbmaa.M
open Go.Proofs.YtfflojbgikfbmaaW.Ah Go.Proofs.Ytfflojbgikfbmaa
set_option linter.unusedVariables false
set_option linter.unusedSimpArgs false
set_option maxRecDepth 8000
def W2 (x : Int) : Prop := IntKind.i64.min ≤ x ∧ x ≤ IntKind.i64.max
theorem op2 (cs : List AV) (h : Typ T.T 2 cs) : ∃ x : Int, cs = c2 x ∧ W2 x := by
  obtain ⟨n, rfl, w⟩ := typ_int h T.t2 rfl
  exact ⟨n, rfl, by simpa [Lit.wf, W2] using w⟩
def W3 (x : Int) : Prop := IntKind.i64.min ≤ x ∧ x ≤ IntKind.i64.max
theorem op3 (cs : List AV) (h : Typ T.T 3 cs) : ∃ x : Int, cs = c3 x ∧ W3 x := by
  obtain ⟨n, rfl, w⟩ := typ_int h T.t3 rfl
  exact ⟨n, rfl, by simpa [Lit.wf, W3] using w⟩
def W34 (x : api_Head) : Prop := W3 x.Kind ∧ W3 x.Tag ∧ W3 x.Count
theorem op34 (cs : List AV) (h : Typ T.T 34 cs) : ∃ x : api_Head, cs = c34 x ∧ W34 x := by
  obtain ⟨ps, rfl, hl, hf⟩ := typ_struct h T.t34 rfl (fun hs => hs _ T.t34 rfl)
  match ps, hl with
  | [p0, p1, p2], _ =>
    obtain ⟨x0, rfl, w0⟩ := op3 _ (hf 0 _ _ rfl rfl)
    obtain ⟨x1, rfl, w1⟩ := op3 _ (hf 1 _ _ rfl rfl)
    obtain ⟨x2, rfl, w2⟩ := op3 _ (hf 2 _ _ rfl rfl)
    exact ⟨⟨x0, x1, x2⟩, by simp [c34], ⟨w0, w1, w2⟩⟩
def W5 (x : Int) : Prop := IntKind.u8.min ≤ x ∧ x ≤ IntKind.u8.max
theorem op5 (cs : List AV) (h : Typ T.T 5 cs) : ∃ x : Int, cs = c5 x ∧ W5 x := by
  obtain ⟨n, rfl, w⟩ := typ_int h T.t5 rfl
  exact ⟨n, rfl, by simpa [Lit.wf, W5] using w⟩
def W35 (x : (List Int)) : Prop := x.length ≤ reachBytes ∧ ∀ y ∈ x, W5 y
theorem op35 (cs : List AV) (h : Typ T.T 35 cs) : ∃ x : (List Int), cs = c35 x ∧ W35 x := by
  obtain ⟨x, rfl, w⟩ := typ_slice c5 W5 h T.t35 rfl T.t5 (by decide) op5
  exact ⟨x, rfl, w⟩
def W4 (x : Bool) : Prop := True
theorem op4 (cs : List AV) (h : Typ T.T 4 cs) : ∃ x : Bool, cs = c4 x ∧ W4 x := by
  obtain ⟨b, rfl⟩ := typ_bool h T.t4 rfl
  exact ⟨b, rfl, trivial⟩
def W31 (x : api_Edge) : Prop := W4 x.Is ∧ W3 x.Node ∧ W2 x.Num
theorem op31 (cs : List AV) (h : Typ T.T 31 cs) : ∃ x : api_Edge, cs = c31 x ∧ W31 x := by
  obtain ⟨ps, rfl, hl, hf⟩ := typ_struct h T.t31 rfl (fun hs => hs _ T.t31 rfl)
  match ps, hl with
  | [p0, p1, p2], _ =>
    obtain ⟨x0, rfl, w0⟩ := op4 _ (hf 0 _ _ rfl rfl)
    obtain ⟨x1, rfl, w1⟩ := op3 _ (hf 1 _ _ rfl rfl)
    obtain ⟨x2, rfl, w2⟩ := op2 _ (hf 2 _ _ rfl rfl)
    exact ⟨⟨x0, x1, x2⟩, by simp [c31], ⟨w0, w1, w2⟩⟩
def W23 (x : (List api_Edge)) : Prop := x.length ≤ reachBytes ∧ ∀ y ∈ x, W31 y
theorem op23 (cs : List AV) (h : Typ T.T 23 cs) : ∃ x : (List api_Edge), cs = c23 x ∧ W23 x := by
  obtain ⟨x, rfl, w⟩ := typ_slice c31 W31 h T.t23 rfl T.t31 (by decide) op31
  exact ⟨x, rfl, w⟩
def W37 (x : api_Node) : Prop := W34 x.Head ∧ W35 x.Bytes ∧ W23 x.Kids
theorem op37 (cs : List AV) (h : Typ T.T 37 cs) : ∃ x : api_Node, cs = c37 x ∧ W37 x := by
  obtain ⟨ps, rfl, hl, hf⟩ := typ_struct h T.t37 rfl (fun hs => hs _ T.t37 rfl)
  match ps, hl with
  | [p0, p1, p2], _ =>
    obtain ⟨x0, rfl, w0⟩ := op34 _ (hf 0 _ _ rfl rfl)
    obtain ⟨x1, rfl, w1⟩ := op35 _ (hf 1 _ _ rfl rfl)
    obtain ⟨x2, rfl, w2⟩ := op23 _ (hf 2 _ _ rfl rfl)
    exact ⟨⟨x0, x1, x2⟩, by simp [c37], ⟨w0, w1, w2⟩⟩
def W22 (x : (List api_Node)) : Prop := x.length ≤ reachBytes ∧ ∀ y ∈ x, W37 y
theorem op22 (cs : List AV) (h : Typ T.T 22 cs) : ∃ x : (List api_Node), cs = c22 x ∧ W22 x := by
  obtain ⟨x, rfl, w⟩ := typ_slice c37 W37 h T.t22 rfl T.t37 (by decide) op37
  exact ⟨x, rfl, w⟩
def W138 (x : (List Int)) : Prop := x.length ≤ reachBytes ∧ ∀ y ∈ x, W3 y
theorem op138 (cs : List AV) (h : Typ T.T 138 cs) : ∃ x : (List Int), cs = c138 x ∧ W138 x := by
  obtain ⟨x, rfl, w⟩ := typ_slice c3 W3 h T.t138 rfl T.t3 (by decide) op3
  exact ⟨x, rfl, w⟩
theorem oa2 (a : AV) (h : TypA T.T 2 a) : ∃ x : Int, a = .sc (.int .i64 x) ∧ W2 x := by
  obtain ⟨x, e, w⟩ := op2 _ (typA_one h T.t2 rfl)
  cases e
  exact ⟨x, rfl, w⟩
theorem oa3 (a : AV) (h : TypA T.T 3 a) : ∃ x : Int, a = .sc (.int .i64 x) ∧ W3 x := by
  obtain ⟨x, e, w⟩ := op3 _ (typA_one h T.t3 rfl)
  cases e
  exact ⟨x, rfl, w⟩
theorem oa22 (a : AV) (h : TypA T.T 22 a) : ∃ x : (List api_Node), a = .ssl (encs c37 x) x.length false ∧ W22 x := by
  obtain ⟨x, e, w⟩ := op22 _ (typA_one h T.t22 rfl)
  cases e
  exact ⟨x, rfl, w⟩
theorem oa23 (a : AV) (h : TypA T.T 23 a) : ∃ x : (List api_Edge), a = .ssl (encs c31 x) x.length false ∧ W23 x := by
  obtain ⟨x, e, w⟩ := op23 _ (typA_one h T.t23 rfl)
  cases e
  exact ⟨x, rfl, w⟩
theorem oa31 (a : AV) (h : TypA T.T 31 a) : ∃ x : api_Edge, a = .agg (c31 x) ∧ W31 x := by
  obtain ⟨cs, rfl, h2⟩ := typA_agg h T.t31 rfl
  obtain ⟨x, rfl, w⟩ := op31 _ h2
  exact ⟨x, rfl, w⟩
theorem oa35 (a : AV) (h : TypA T.T 35 a) : ∃ x : (List Int), a = .ssl (encs c5 x) x.length false ∧ W35 x := by
  obtain ⟨x, e, w⟩ := op35 _ (typA_one h T.t35 rfl)
  cases e
  exact ⟨x, rfl, w⟩
theorem oa37 (a : AV) (h : TypA T.T 37 a) : ∃ x : api_Node, a = .agg (c37 x) ∧ W37 x := by
  obtain ⟨cs, rfl, h2⟩ := typA_agg h T.t37 rfl
  obtain ⟨x, rfl, w⟩ := op37 _ h2
  exact ⟨x, rfl, w⟩
theorem oa138 (a : AV) (h : TypA T.T 138 a) : ∃ x : (List Int), a = .ssl (encs c3 x) x.length false ∧ W138 x := by
  obtain ⟨x, e, w⟩ := op138 _ (typA_one h T.t138 rfl)
  cases e
  exact ⟨x, rfl, w⟩
end Go.Proofs.Ytfflojbgikfbmaa.M
