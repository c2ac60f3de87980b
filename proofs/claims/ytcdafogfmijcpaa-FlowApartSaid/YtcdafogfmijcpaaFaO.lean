/-
  A statement's arguments, as Lean has them.
-/
import Derived.Test.YtcdafogfmijcpaaFaT
import Derived.Test.YtcdafogfmijcpaaAhW
namespace Go.Proofs.Ytcdafogfmijcpaa.M
open Go.Proofs.YtcdafogfmijcpaaW.Ah Go.Proofs.Ytcdafogfmijcpaa
set_option linter.unusedVariables false
set_option linter.unusedSimpArgs false
set_option maxRecDepth 8000
def W5 (x : Int) : Prop := IntKind.u8.min ≤ x ∧ x ≤ IntKind.u8.max
theorem op5 (cs : List AV) (h : Typ T.T 5 cs) : ∃ x : Int, cs = c5 x ∧ W5 x := by
  obtain ⟨n, rfl, w⟩ := typ_int h T.t5 rfl
  exact ⟨n, rfl, by simpa [Lit.wf, W5] using w⟩
def W9 (x : ByteArray) : Prop := x.size ≤ maxLen
theorem op9 (cs : List AV) (h : Typ T.T 9 cs) : ∃ x : ByteArray, cs = c9 x ∧ W9 x := by
  obtain ⟨b, rfl, w⟩ := typ_str h T.t9 rfl
  exact ⟨b, rfl, w⟩
def W3 (x : Int) : Prop := IntKind.i64.min ≤ x ∧ x ≤ IntKind.i64.max
theorem op3 (cs : List AV) (h : Typ T.T 3 cs) : ∃ x : Int, cs = c3 x ∧ W3 x := by
  obtain ⟨n, rfl, w⟩ := typ_int h T.t3 rfl
  exact ⟨n, rfl, by simpa [Lit.wf, W3] using w⟩
def W44 (x : api_Inst) : Prop := W3 x.Op ∧ W3 x.A ∧ W3 x.B ∧ W3 x.C
theorem op44 (cs : List AV) (h : Typ T.T 44 cs) : ∃ x : api_Inst, cs = c44 x ∧ W44 x := by
  obtain ⟨ps, rfl, hl, hf⟩ := typ_struct h T.t44 rfl (fun hs => hs _ T.t44 rfl)
  match ps, hl with
  | [p0, p1, p2, p3], _ =>
    obtain ⟨x0, rfl, w0⟩ := op3 _ (hf 0 _ _ rfl rfl)
    obtain ⟨x1, rfl, w1⟩ := op3 _ (hf 1 _ _ rfl rfl)
    obtain ⟨x2, rfl, w2⟩ := op3 _ (hf 2 _ _ rfl rfl)
    obtain ⟨x3, rfl, w3⟩ := op3 _ (hf 3 _ _ rfl rfl)
    exact ⟨⟨x0, x1, x2, x3⟩, by simp [c44], ⟨w0, w1, w2, w3⟩⟩
def W39 (x : (List api_Inst)) : Prop := x.length ≤ reachBytes ∧ ∀ y ∈ x, W44 y
theorem op39 (cs : List AV) (h : Typ T.T 39 cs) : ∃ x : (List api_Inst), cs = c39 x ∧ W39 x := by
  obtain ⟨x, rfl, w⟩ := typ_slice c44 W44 h T.t39 rfl T.t44 (by decide) op44
  exact ⟨x, rfl, w⟩
def W41 (x : api_Func) : Prop := W9 x.Name ∧ W3 x.Params ∧ W3 x.Slots ∧ W39 x.Code
theorem op41 (cs : List AV) (h : Typ T.T 41 cs) : ∃ x : api_Func, cs = c41 x ∧ W41 x := by
  obtain ⟨ps, rfl, hl, hf⟩ := typ_struct h T.t41 rfl (fun hs => hs _ T.t41 rfl)
  match ps, hl with
  | [p0, p1, p2, p3], _ =>
    obtain ⟨x0, rfl, w0⟩ := op9 _ (hf 0 _ _ rfl rfl)
    obtain ⟨x1, rfl, w1⟩ := op3 _ (hf 1 _ _ rfl rfl)
    obtain ⟨x2, rfl, w2⟩ := op3 _ (hf 2 _ _ rfl rfl)
    obtain ⟨x3, rfl, w3⟩ := op39 _ (hf 3 _ _ rfl rfl)
    exact ⟨⟨x0, x1, x2, x3⟩, by simp [c41], ⟨w0, w1, w2, w3⟩⟩
def W22 (x : (List api_Func)) : Prop := x.length ≤ reachBytes ∧ ∀ y ∈ x, W41 y
theorem op22 (cs : List AV) (h : Typ T.T 22 cs) : ∃ x : (List api_Func), cs = c22 x ∧ W22 x := by
  obtain ⟨x, rfl, w⟩ := typ_slice c41 W41 h T.t22 rfl T.t41 (by decide) op41
  exact ⟨x, rfl, w⟩
def W51 (x : (List Int)) : Prop := x.length ≤ reachBytes ∧ ∀ y ∈ x, W5 y
theorem op51 (cs : List AV) (h : Typ T.T 51 cs) : ∃ x : (List Int), cs = c51 x ∧ W51 x := by
  obtain ⟨x, rfl, w⟩ := typ_slice c5 W5 h T.t51 rfl T.t5 (by decide) op5
  exact ⟨x, rfl, w⟩
def W23 (x : (List (List Int))) : Prop := x.length ≤ reachBytes ∧ ∀ y ∈ x, W51 y
theorem op23 (cs : List AV) (h : Typ T.T 23 cs) : ∃ x : (List (List Int)), cs = c23 x ∧ W23 x := by
  obtain ⟨x, rfl, w⟩ := typ_slice c51 W51 h T.t23 rfl T.t51 (by decide) op51
  exact ⟨x, rfl, w⟩
def W47 (x : (List Int)) : Prop := x.length ≤ reachBytes ∧ ∀ y ∈ x, W3 y
theorem op47 (cs : List AV) (h : Typ T.T 47 cs) : ∃ x : (List Int), cs = c47 x ∧ W47 x := by
  obtain ⟨x, rfl, w⟩ := typ_slice c3 W3 h T.t47 rfl T.t3 (by decide) op3
  exact ⟨x, rfl, w⟩
def W24 (x : (List (List Int))) : Prop := x.length ≤ reachBytes ∧ ∀ y ∈ x, W47 y
theorem op24 (cs : List AV) (h : Typ T.T 24 cs) : ∃ x : (List (List Int)), cs = c24 x ∧ W24 x := by
  obtain ⟨x, rfl, w⟩ := typ_slice c47 W47 h T.t24 rfl T.t47 (by decide) op47
  exact ⟨x, rfl, w⟩
def W26 (x : api_Code) : Prop := W22 x.Funs ∧ W23 x.Texts ∧ W24 x.Tables
theorem op26 (cs : List AV) (h : Typ T.T 26 cs) : ∃ x : api_Code, cs = c26 x ∧ W26 x := by
  obtain ⟨ps, rfl, hl, hf⟩ := typ_struct h T.t26 rfl (fun hs => hs _ T.t26 rfl)
  match ps, hl with
  | [p0, p1, p2], _ =>
    obtain ⟨x0, rfl, w0⟩ := op22 _ (hf 0 _ _ rfl rfl)
    obtain ⟨x1, rfl, w1⟩ := op23 _ (hf 1 _ _ rfl rfl)
    obtain ⟨x2, rfl, w2⟩ := op24 _ (hf 2 _ _ rfl rfl)
    exact ⟨⟨x0, x1, x2⟩, by simp [c26], ⟨w0, w1, w2⟩⟩
theorem oa5 (a : AV) (h : TypA T.T 5 a) : ∃ x : Int, a = .sc (.int .u8 x) ∧ W5 x := by
  obtain ⟨x, e, w⟩ := op5 _ (typA_one h T.t5 rfl)
  cases e
  exact ⟨x, rfl, w⟩
theorem oa26 (a : AV) (h : TypA T.T 26 a) : ∃ x : api_Code, a = .agg (c26 x) ∧ W26 x := by
  obtain ⟨cs, rfl, h2⟩ := typA_agg h T.t26 rfl
  obtain ⟨x, rfl, w⟩ := op26 _ h2
  exact ⟨x, rfl, w⟩
end Go.Proofs.Ytcdafogfmijcpaa.M
