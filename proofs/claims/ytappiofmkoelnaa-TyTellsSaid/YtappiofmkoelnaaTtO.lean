/-
  A statement's arguments, as Lean has them.
-/
import Derived.Test.YtappiofmkoelnaaTtT
import Derived.Test.YtappiofmkoelnaaAhW
namespace Go.Proofs.Ytappiofmkoelnaa.M
open Go.Proofs.YtappiofmkoelnaaW.Ah Go.Proofs.Ytappiofmkoelnaa
set_option linter.unusedVariables false
set_option linter.unusedSimpArgs false
set_option maxRecDepth 8000
def W9 (x : ByteArray) : Prop := x.size ≤ maxLen
theorem op9 (cs : List AV) (h : Typ T.T 9 cs) : ∃ x : ByteArray, cs = c9 x ∧ W9 x := by
  obtain ⟨b, rfl, w⟩ := typ_str h T.t9 rfl
  exact ⟨b, rfl, w⟩
def W3 (x : Int) : Prop := IntKind.i64.min ≤ x ∧ x ≤ IntKind.i64.max
theorem op3 (cs : List AV) (h : Typ T.T 3 cs) : ∃ x : Int, cs = c3 x ∧ W3 x := by
  obtain ⟨n, rfl, w⟩ := typ_int h T.t3 rfl
  exact ⟨n, rfl, by simpa [Lit.wf, W3] using w⟩
def W29 (x : api_Pos) : Prop := W3 x.Line ∧ W3 x.Col
theorem op29 (cs : List AV) (h : Typ T.T 29 cs) : ∃ x : api_Pos, cs = c29 x ∧ W29 x := by
  obtain ⟨ps, rfl, hl, hf⟩ := typ_struct h T.t29 rfl (fun hs => hs _ T.t29 rfl)
  match ps, hl with
  | [p0, p1], _ =>
    obtain ⟨x0, rfl, w0⟩ := op3 _ (hf 0 _ _ rfl rfl)
    obtain ⟨x1, rfl, w1⟩ := op3 _ (hf 1 _ _ rfl rfl)
    exact ⟨⟨x0, x1⟩, by simp [c29], ⟨w0, w1⟩⟩
mutual
def W40 : api_Type → Prop
  | ⟨x0, x1, x2⟩ => W3 x0 ∧ W9 x1 ∧ (x2.length ≤ maxLen ∧ V40 x2)
def V40 : List api_Type → Prop
  | [] => True
  | x :: xs => W40 x ∧ V40 xs
end
theorem V40_iff : ∀ xs : List api_Type, V40 xs ↔ ∀ y ∈ xs, W40 y
  | [] => by simp [V40]
  | x :: xs => by simp [V40, V40_iff xs]
def W33 (x : (List api_Type)) : Prop := x.length ≤ maxLen ∧ ∀ y ∈ x, W40 y
theorem W40_iff (x : api_Type) : W40 x ↔ W3 x.Kind ∧ W9 x.Name ∧ W33 x.Parts := by
  cases x; simp only [W40, W33, V40_iff]
theorem opR33 {t : Nat} {cs : List AV} (h : Typ T.T t cs) : (t = 33 → ∃ x : (List api_Type), cs = c33 x ∧ W33 x) ∧ (t = 40 → ∃ x : api_Type, cs = c40 x ∧ W40 x) := by
  induction h with
  | bool b h1 h2 => exact ⟨(fun e => by subst e; rw [T.t33] at h1; cases h1; cases h2), (fun e => by subst e; rw [T.t40] at h1; cases h1; cases h2)⟩
  | int n h1 h2 h3 => exact ⟨(fun e => by subst e; rw [T.t33] at h1; cases h1; cases h2), (fun e => by subst e; rw [T.t40] at h1; cases h1; cases h2)⟩
  | str s h1 h2 h3 => exact ⟨(fun e => by subst e; rw [T.t33] at h1; cases h1; cases h2), (fun e => by subst e; rw [T.t40] at h1; cases h1; cases h2)⟩
  | arr xs h1 h2 => exact ⟨(fun e => by subst e; rw [T.t33] at h1; cases h1; cases h2), (fun e => by subst e; rw [T.t40] at h1; cases h1; cases h2)⟩
  | slice xs h1 h2 h4 h5 h6 h7 h8 ih =>
    refine ⟨?_, ?_⟩
    · intro e; subst e; rw [T.t33] at h1; cases h1; cases h2
      obtain ⟨ys, e1, e2, e3⟩ := rowsR (c := c40) (Pr := W40) (fun x hx => (ih x hx).2 rfl)
      exact ⟨ys, by rw [e1, e2], by omega, e3⟩
    · exact fun e => by subst e; rw [T.t40] at h1; cases h1; cases h2
  | struct ps h1 h2 h3 h4 ih =>
    refine ⟨?_, ?_⟩
    · exact fun e => by subst e; rw [T.t33] at h1; cases h1; cases h2
    · intro e; subst e; rw [T.t40] at h1; cases h1; cases h2
      match ps, h3 with
      | [p0, p1, p2], _ =>
        obtain ⟨x0, rfl, w0⟩ := op3 _ (h4 0 _ _ rfl rfl)
        obtain ⟨x1, rfl, w1⟩ := op9 _ (h4 1 _ _ rfl rfl)
        obtain ⟨x2, rfl, w2⟩ := (ih 2 _ _ rfl rfl).1 rfl
        exact ⟨⟨x0, x1, x2⟩, by simp [u40], (W40_iff _).2 ⟨w0, w1, w2⟩⟩
  | other cs hs => exact ⟨(fun e => absurd hs (by subst e; exact (fun hs => absurd (hs _ T.t33 _ T.t40) (by decide)))), (fun e => absurd hs (by subst e; exact (fun hs => hs _ T.t40 rfl)))⟩
theorem op33 (cs : List AV) (h : Typ T.T 33 cs) : ∃ x : (List api_Type), cs = c33 x ∧ W33 x := (opR33 h).1 rfl
theorem op40 (cs : List AV) (h : Typ T.T 40 cs) : ∃ x : api_Type, cs = c40 x ∧ W40 x := (opR33 h).2 rfl
def W35 (x : api_Con) : Prop := W9 x.Name ∧ W33 x.Fields
theorem op35 (cs : List AV) (h : Typ T.T 35 cs) : ∃ x : api_Con, cs = c35 x ∧ W35 x := by
  obtain ⟨ps, rfl, hl, hf⟩ := typ_struct h T.t35 rfl (fun hs => hs _ T.t35 rfl)
  match ps, hl with
  | [p0, p1], _ =>
    obtain ⟨x0, rfl, w0⟩ := op9 _ (hf 0 _ _ rfl rfl)
    obtain ⟨x1, rfl, w1⟩ := op33 _ (hf 1 _ _ rfl rfl)
    exact ⟨⟨x0, x1⟩, by simp [c35], ⟨w0, w1⟩⟩
def W30 (x : (List api_Con)) : Prop := x.length ≤ maxLen ∧ ∀ y ∈ x, W35 y
theorem op30 (cs : List AV) (h : Typ T.T 30 cs) : ∃ x : (List api_Con), cs = c30 x ∧ W30 x := by
  obtain ⟨x, rfl, w⟩ := typ_slice c35 W35 h T.t30 rfl T.t35 (by decide) op35
  exact ⟨x, rfl, w⟩
def W32 (x : api_Data) : Prop := W29 x.At ∧ W9 x.Name ∧ W30 x.Cons
theorem op32 (cs : List AV) (h : Typ T.T 32 cs) : ∃ x : api_Data, cs = c32 x ∧ W32 x := by
  obtain ⟨ps, rfl, hl, hf⟩ := typ_struct h T.t32 rfl (fun hs => hs _ T.t32 rfl)
  match ps, hl with
  | [p0, p1, p2], _ =>
    obtain ⟨x0, rfl, w0⟩ := op29 _ (hf 0 _ _ rfl rfl)
    obtain ⟨x1, rfl, w1⟩ := op9 _ (hf 1 _ _ rfl rfl)
    obtain ⟨x2, rfl, w2⟩ := op30 _ (hf 2 _ _ rfl rfl)
    exact ⟨⟨x0, x1, x2⟩, by simp [c32], ⟨w0, w1, w2⟩⟩
def W22 (x : (List api_Data)) : Prop := x.length ≤ maxLen ∧ ∀ y ∈ x, W32 y
theorem op22 (cs : List AV) (h : Typ T.T 22 cs) : ∃ x : (List api_Data), cs = c22 x ∧ W22 x := by
  obtain ⟨x, rfl, w⟩ := typ_slice c32 W32 h T.t22 rfl T.t32 (by decide) op32
  exact ⟨x, rfl, w⟩
def W77 (x : api_Param) : Prop := W9 x.Name ∧ W40 x.Type_
theorem op77 (cs : List AV) (h : Typ T.T 77 cs) : ∃ x : api_Param, cs = c77 x ∧ W77 x := by
  obtain ⟨ps, rfl, hl, hf⟩ := typ_struct h T.t77 rfl (fun hs => hs _ T.t77 rfl)
  match ps, hl with
  | [p0, p1], _ =>
    obtain ⟨x0, rfl, w0⟩ := op9 _ (hf 0 _ _ rfl rfl)
    obtain ⟨x1, rfl, w1⟩ := op40 _ (hf 1 _ _ rfl rfl)
    exact ⟨⟨x0, x1⟩, by simp [c77], ⟨w0, w1⟩⟩
def W73 (x : (List api_Param)) : Prop := x.length ≤ maxLen ∧ ∀ y ∈ x, W77 y
theorem op73 (cs : List AV) (h : Typ T.T 73 cs) : ∃ x : (List api_Param), cs = c73 x ∧ W73 x := by
  obtain ⟨x, rfl, w⟩ := typ_slice c77 W77 h T.t73 rfl T.t77 (by decide) op77
  exact ⟨x, rfl, w⟩
def W2 (x : Int) : Prop := IntKind.i64.min ≤ x ∧ x ≤ IntKind.i64.max
theorem op2 (cs : List AV) (h : Typ T.T 2 cs) : ∃ x : Int, cs = c2 x ∧ W2 x := by
  obtain ⟨n, rfl, w⟩ := typ_int h T.t2 rfl
  exact ⟨n, rfl, by simpa [Lit.wf, W2] using w⟩
def W5 (x : Int) : Prop := IntKind.u8.min ≤ x ∧ x ≤ IntKind.u8.max
theorem op5 (cs : List AV) (h : Typ T.T 5 cs) : ∃ x : Int, cs = c5 x ∧ W5 x := by
  obtain ⟨n, rfl, w⟩ := typ_int h T.t5 rfl
  exact ⟨n, rfl, by simpa [Lit.wf, W5] using w⟩
def W44 (x : (List Int)) : Prop := x.length ≤ maxLen ∧ ∀ y ∈ x, W5 y
theorem op44 (cs : List AV) (h : Typ T.T 44 cs) : ∃ x : (List Int), cs = c44 x ∧ W44 x := by
  obtain ⟨x, rfl, w⟩ := typ_slice c5 W5 h T.t44 rfl T.t5 (by decide) op5
  exact ⟨x, rfl, w⟩
mutual
def W87 : api_Pat → Prop
  | ⟨x0, x1, x2, x3, x4⟩ => W3 x0 ∧ W29 x1 ∧ W9 x2 ∧ W2 x3 ∧ (x4.length ≤ maxLen ∧ V87 x4)
def V87 : List api_Pat → Prop
  | [] => True
  | x :: xs => W87 x ∧ V87 xs
end
theorem V87_iff : ∀ xs : List api_Pat, V87 xs ↔ ∀ y ∈ xs, W87 y
  | [] => by simp [V87]
  | x :: xs => by simp [V87, V87_iff xs]
def W85 (x : (List api_Pat)) : Prop := x.length ≤ maxLen ∧ ∀ y ∈ x, W87 y
theorem W87_iff (x : api_Pat) : W87 x ↔ W3 x.Kind ∧ W29 x.At ∧ W9 x.Name ∧ W2 x.Num ∧ W85 x.Kids := by
  cases x; simp only [W87, W85, V87_iff]
theorem opR85 {t : Nat} {cs : List AV} (h : Typ T.T t cs) : (t = 85 → ∃ x : (List api_Pat), cs = c85 x ∧ W85 x) ∧ (t = 87 → ∃ x : api_Pat, cs = c87 x ∧ W87 x) := by
  induction h with
  | bool b h1 h2 => exact ⟨(fun e => by subst e; rw [T.t85] at h1; cases h1; cases h2), (fun e => by subst e; rw [T.t87] at h1; cases h1; cases h2)⟩
  | int n h1 h2 h3 => exact ⟨(fun e => by subst e; rw [T.t85] at h1; cases h1; cases h2), (fun e => by subst e; rw [T.t87] at h1; cases h1; cases h2)⟩
  | str s h1 h2 h3 => exact ⟨(fun e => by subst e; rw [T.t85] at h1; cases h1; cases h2), (fun e => by subst e; rw [T.t87] at h1; cases h1; cases h2)⟩
  | arr xs h1 h2 => exact ⟨(fun e => by subst e; rw [T.t85] at h1; cases h1; cases h2), (fun e => by subst e; rw [T.t87] at h1; cases h1; cases h2)⟩
  | slice xs h1 h2 h4 h5 h6 h7 h8 ih =>
    refine ⟨?_, ?_⟩
    · intro e; subst e; rw [T.t85] at h1; cases h1; cases h2
      obtain ⟨ys, e1, e2, e3⟩ := rowsR (c := c87) (Pr := W87) (fun x hx => (ih x hx).2 rfl)
      exact ⟨ys, by rw [e1, e2], by omega, e3⟩
    · exact fun e => by subst e; rw [T.t87] at h1; cases h1; cases h2
  | struct ps h1 h2 h3 h4 ih =>
    refine ⟨?_, ?_⟩
    · exact fun e => by subst e; rw [T.t85] at h1; cases h1; cases h2
    · intro e; subst e; rw [T.t87] at h1; cases h1; cases h2
      match ps, h3 with
      | [p0, p1, p2, p3, p4], _ =>
        obtain ⟨x0, rfl, w0⟩ := op3 _ (h4 0 _ _ rfl rfl)
        obtain ⟨x1, rfl, w1⟩ := op29 _ (h4 1 _ _ rfl rfl)
        obtain ⟨x2, rfl, w2⟩ := op9 _ (h4 2 _ _ rfl rfl)
        obtain ⟨x3, rfl, w3⟩ := op2 _ (h4 3 _ _ rfl rfl)
        obtain ⟨x4, rfl, w4⟩ := (ih 4 _ _ rfl rfl).1 rfl
        exact ⟨⟨x0, x1, x2, x3, x4⟩, by simp [u87], (W87_iff _).2 ⟨w0, w1, w2, w3, w4⟩⟩
  | other cs hs => exact ⟨(fun e => absurd hs (by subst e; exact (fun hs => absurd (hs _ T.t85 _ T.t87) (by decide)))), (fun e => absurd hs (by subst e; exact (fun hs => hs _ T.t87 rfl)))⟩
theorem op85 (cs : List AV) (h : Typ T.T 85 cs) : ∃ x : (List api_Pat), cs = c85 x ∧ W85 x := (opR85 h).1 rfl
theorem op87 (cs : List AV) (h : Typ T.T 87 cs) : ∃ x : api_Pat, cs = c87 x ∧ W87 x := (opR85 h).2 rfl
mutual
def W48 : api_Expr → Prop
  | ⟨x0, x1, x2, x3, x4, x5, x6⟩ => W3 x0 ∧ W29 x1 ∧ W2 x2 ∧ W44 x3 ∧ W9 x4 ∧ (x5.length ≤ maxLen ∧ V48 x5) ∧ (x6.length ≤ maxLen ∧ V89 x6)
def W89 : api_Arm → Prop
  | ⟨x0, x1⟩ => W87 x0 ∧ W48 x1
def V48 : List api_Expr → Prop
  | [] => True
  | x :: xs => W48 x ∧ V48 xs
def V89 : List api_Arm → Prop
  | [] => True
  | x :: xs => W89 x ∧ V89 xs
end
theorem V48_iff : ∀ xs : List api_Expr, V48 xs ↔ ∀ y ∈ xs, W48 y
  | [] => by simp [V48]
  | x :: xs => by simp [V48, V48_iff xs]
theorem V89_iff : ∀ xs : List api_Arm, V89 xs ↔ ∀ y ∈ xs, W89 y
  | [] => by simp [V89]
  | x :: xs => by simp [V89, V89_iff xs]
def W45 (x : (List api_Expr)) : Prop := x.length ≤ maxLen ∧ ∀ y ∈ x, W48 y
def W46 (x : (List api_Arm)) : Prop := x.length ≤ maxLen ∧ ∀ y ∈ x, W89 y
theorem W48_iff (x : api_Expr) : W48 x ↔ W3 x.Kind ∧ W29 x.At ∧ W2 x.Num ∧ W44 x.Bytes ∧ W9 x.Name ∧ W45 x.Kids ∧ W46 x.Arms := by
  cases x; simp only [W48, W45, W46, V48_iff, V89_iff]
theorem W89_iff (x : api_Arm) : W89 x ↔ W87 x.Pat ∧ W48 x.Body := by
  cases x; simp only [W89, W45, W46, V48_iff, V89_iff]
theorem opR45 {t : Nat} {cs : List AV} (h : Typ T.T t cs) : (t = 45 → ∃ x : (List api_Expr), cs = c45 x ∧ W45 x) ∧ (t = 46 → ∃ x : (List api_Arm), cs = c46 x ∧ W46 x) ∧ (t = 48 → ∃ x : api_Expr, cs = c48 x ∧ W48 x) ∧ (t = 89 → ∃ x : api_Arm, cs = c89 x ∧ W89 x) := by
  induction h with
  | bool b h1 h2 => exact ⟨(fun e => by subst e; rw [T.t45] at h1; cases h1; cases h2), (fun e => by subst e; rw [T.t46] at h1; cases h1; cases h2), (fun e => by subst e; rw [T.t48] at h1; cases h1; cases h2), (fun e => by subst e; rw [T.t89] at h1; cases h1; cases h2)⟩
  | int n h1 h2 h3 => exact ⟨(fun e => by subst e; rw [T.t45] at h1; cases h1; cases h2), (fun e => by subst e; rw [T.t46] at h1; cases h1; cases h2), (fun e => by subst e; rw [T.t48] at h1; cases h1; cases h2), (fun e => by subst e; rw [T.t89] at h1; cases h1; cases h2)⟩
  | str s h1 h2 h3 => exact ⟨(fun e => by subst e; rw [T.t45] at h1; cases h1; cases h2), (fun e => by subst e; rw [T.t46] at h1; cases h1; cases h2), (fun e => by subst e; rw [T.t48] at h1; cases h1; cases h2), (fun e => by subst e; rw [T.t89] at h1; cases h1; cases h2)⟩
  | arr xs h1 h2 => exact ⟨(fun e => by subst e; rw [T.t45] at h1; cases h1; cases h2), (fun e => by subst e; rw [T.t46] at h1; cases h1; cases h2), (fun e => by subst e; rw [T.t48] at h1; cases h1; cases h2), (fun e => by subst e; rw [T.t89] at h1; cases h1; cases h2)⟩
  | slice xs h1 h2 h4 h5 h6 h7 h8 ih =>
    refine ⟨?_, ?_, ?_, ?_⟩
    · intro e; subst e; rw [T.t45] at h1; cases h1; cases h2
      obtain ⟨ys, e1, e2, e3⟩ := rowsR (c := c48) (Pr := W48) (fun x hx => (ih x hx).2.2.1 rfl)
      exact ⟨ys, by rw [e1, e2], by omega, e3⟩
    · intro e; subst e; rw [T.t46] at h1; cases h1; cases h2
      obtain ⟨ys, e1, e2, e3⟩ := rowsR (c := c89) (Pr := W89) (fun x hx => (ih x hx).2.2.2 rfl)
      exact ⟨ys, by rw [e1, e2], by omega, e3⟩
    · exact fun e => by subst e; rw [T.t48] at h1; cases h1; cases h2
    · exact fun e => by subst e; rw [T.t89] at h1; cases h1; cases h2
  | struct ps h1 h2 h3 h4 ih =>
    refine ⟨?_, ?_, ?_, ?_⟩
    · exact fun e => by subst e; rw [T.t45] at h1; cases h1; cases h2
    · exact fun e => by subst e; rw [T.t46] at h1; cases h1; cases h2
    · intro e; subst e; rw [T.t48] at h1; cases h1; cases h2
      match ps, h3 with
      | [p0, p1, p2, p3, p4, p5, p6], _ =>
        obtain ⟨x0, rfl, w0⟩ := op3 _ (h4 0 _ _ rfl rfl)
        obtain ⟨x1, rfl, w1⟩ := op29 _ (h4 1 _ _ rfl rfl)
        obtain ⟨x2, rfl, w2⟩ := op2 _ (h4 2 _ _ rfl rfl)
        obtain ⟨x3, rfl, w3⟩ := op44 _ (h4 3 _ _ rfl rfl)
        obtain ⟨x4, rfl, w4⟩ := op9 _ (h4 4 _ _ rfl rfl)
        obtain ⟨x5, rfl, w5⟩ := (ih 5 _ _ rfl rfl).1 rfl
        obtain ⟨x6, rfl, w6⟩ := (ih 6 _ _ rfl rfl).2.1 rfl
        exact ⟨⟨x0, x1, x2, x3, x4, x5, x6⟩, by simp [u48], (W48_iff _).2 ⟨w0, w1, w2, w3, w4, w5, w6⟩⟩
    · intro e; subst e; rw [T.t89] at h1; cases h1; cases h2
      match ps, h3 with
      | [p0, p1], _ =>
        obtain ⟨x0, rfl, w0⟩ := op87 _ (h4 0 _ _ rfl rfl)
        obtain ⟨x1, rfl, w1⟩ := (ih 1 _ _ rfl rfl).2.2.1 rfl
        exact ⟨⟨x0, x1⟩, by simp [u89], (W89_iff _).2 ⟨w0, w1⟩⟩
  | other cs hs => exact ⟨(fun e => absurd hs (by subst e; exact (fun hs => absurd (hs _ T.t45 _ T.t48) (by decide)))), (fun e => absurd hs (by subst e; exact (fun hs => absurd (hs _ T.t46 _ T.t89) (by decide)))), (fun e => absurd hs (by subst e; exact (fun hs => hs _ T.t48 rfl))), (fun e => absurd hs (by subst e; exact (fun hs => hs _ T.t89 rfl)))⟩
theorem op45 (cs : List AV) (h : Typ T.T 45 cs) : ∃ x : (List api_Expr), cs = c45 x ∧ W45 x := (opR45 h).1 rfl
theorem op46 (cs : List AV) (h : Typ T.T 46 cs) : ∃ x : (List api_Arm), cs = c46 x ∧ W46 x := (opR45 h).2.1 rfl
theorem op48 (cs : List AV) (h : Typ T.T 48 cs) : ∃ x : api_Expr, cs = c48 x ∧ W48 x := (opR45 h).2.2.1 rfl
theorem op89 (cs : List AV) (h : Typ T.T 89 cs) : ∃ x : api_Arm, cs = c89 x ∧ W89 x := (opR45 h).2.2.2 rfl
def W75 (x : api_Fun) : Prop := W29 x.At ∧ W9 x.Name ∧ W73 x.Params ∧ W40 x.Result ∧ W48 x.Body
theorem op75 (cs : List AV) (h : Typ T.T 75 cs) : ∃ x : api_Fun, cs = c75 x ∧ W75 x := by
  obtain ⟨ps, rfl, hl, hf⟩ := typ_struct h T.t75 rfl (fun hs => hs _ T.t75 rfl)
  match ps, hl with
  | [p0, p1, p2, p3, p4], _ =>
    obtain ⟨x0, rfl, w0⟩ := op29 _ (hf 0 _ _ rfl rfl)
    obtain ⟨x1, rfl, w1⟩ := op9 _ (hf 1 _ _ rfl rfl)
    obtain ⟨x2, rfl, w2⟩ := op73 _ (hf 2 _ _ rfl rfl)
    obtain ⟨x3, rfl, w3⟩ := op40 _ (hf 3 _ _ rfl rfl)
    obtain ⟨x4, rfl, w4⟩ := op48 _ (hf 4 _ _ rfl rfl)
    exact ⟨⟨x0, x1, x2, x3, x4⟩, by simp [c75], ⟨w0, w1, w2, w3, w4⟩⟩
def W43 (x : (List api_Fun)) : Prop := x.length ≤ maxLen ∧ ∀ y ∈ x, W75 y
theorem op43 (cs : List AV) (h : Typ T.T 43 cs) : ∃ x : (List api_Fun), cs = c43 x ∧ W43 x := by
  obtain ⟨x, rfl, w⟩ := typ_slice c75 W75 h T.t43 rfl T.t75 (by decide) op75
  exact ⟨x, rfl, w⟩
def W79 (x : api_Hand) : Prop := W29 x.At ∧ W9 x.Name ∧ W77 x.Param ∧ W3 x.Cap ∧ W48 x.Body
theorem op79 (cs : List AV) (h : Typ T.T 79 cs) : ∃ x : api_Hand, cs = c79 x ∧ W79 x := by
  obtain ⟨ps, rfl, hl, hf⟩ := typ_struct h T.t79 rfl (fun hs => hs _ T.t79 rfl)
  match ps, hl with
  | [p0, p1, p2, p3, p4], _ =>
    obtain ⟨x0, rfl, w0⟩ := op29 _ (hf 0 _ _ rfl rfl)
    obtain ⟨x1, rfl, w1⟩ := op9 _ (hf 1 _ _ rfl rfl)
    obtain ⟨x2, rfl, w2⟩ := op77 _ (hf 2 _ _ rfl rfl)
    obtain ⟨x3, rfl, w3⟩ := op3 _ (hf 3 _ _ rfl rfl)
    obtain ⟨x4, rfl, w4⟩ := op48 _ (hf 4 _ _ rfl rfl)
    exact ⟨⟨x0, x1, x2, x3, x4⟩, by simp [c79], ⟨w0, w1, w2, w3, w4⟩⟩
def W49 (x : (List api_Hand)) : Prop := x.length ≤ maxLen ∧ ∀ y ∈ x, W79 y
theorem op49 (cs : List AV) (h : Typ T.T 49 cs) : ∃ x : (List api_Hand), cs = c49 x ∧ W49 x := by
  obtain ⟨x, rfl, w⟩ := typ_slice c79 W79 h T.t49 rfl T.t79 (by decide) op79
  exact ⟨x, rfl, w⟩
def W51 (x : api_Prog) : Prop := W22 x.Datas ∧ W43 x.Funs ∧ W3 x.Queue ∧ W3 x.Timers ∧ W40 x.State ∧ W3 x.Cap ∧ W48 x.Init ∧ W49 x.Hands
theorem op51 (cs : List AV) (h : Typ T.T 51 cs) : ∃ x : api_Prog, cs = c51 x ∧ W51 x := by
  obtain ⟨ps, rfl, hl, hf⟩ := typ_struct h T.t51 rfl (fun hs => hs _ T.t51 rfl)
  match ps, hl with
  | [p0, p1, p2, p3, p4, p5, p6, p7], _ =>
    obtain ⟨x0, rfl, w0⟩ := op22 _ (hf 0 _ _ rfl rfl)
    obtain ⟨x1, rfl, w1⟩ := op43 _ (hf 1 _ _ rfl rfl)
    obtain ⟨x2, rfl, w2⟩ := op3 _ (hf 2 _ _ rfl rfl)
    obtain ⟨x3, rfl, w3⟩ := op3 _ (hf 3 _ _ rfl rfl)
    obtain ⟨x4, rfl, w4⟩ := op40 _ (hf 4 _ _ rfl rfl)
    obtain ⟨x5, rfl, w5⟩ := op3 _ (hf 5 _ _ rfl rfl)
    obtain ⟨x6, rfl, w6⟩ := op48 _ (hf 6 _ _ rfl rfl)
    obtain ⟨x7, rfl, w7⟩ := op49 _ (hf 7 _ _ rfl rfl)
    exact ⟨⟨x0, x1, x2, x3, x4, x5, x6, x7⟩, by simp [c51], ⟨w0, w1, w2, w3, w4, w5, w6, w7⟩⟩
theorem oa9 (a : AV) (h : TypA T.T 9 a) : ∃ x : ByteArray, a = .sc (.string x) ∧ W9 x := by
  obtain ⟨x, e, w⟩ := op9 _ (typA_one h T.t9 rfl)
  cases e
  exact ⟨x, rfl, w⟩
theorem oa22 (a : AV) (h : TypA T.T 22 a) : ∃ x : (List api_Data), a = .ssl (encs c32 x) x.length false ∧ W22 x := by
  obtain ⟨x, e, w⟩ := op22 _ (typA_one h T.t22 rfl)
  cases e
  exact ⟨x, rfl, w⟩
theorem oa40 (a : AV) (h : TypA T.T 40 a) : ∃ x : api_Type, a = .agg (c40 x) ∧ W40 x := by
  obtain ⟨cs, rfl, h2⟩ := typA_agg h T.t40 rfl
  obtain ⟨x, rfl, w⟩ := op40 _ h2
  exact ⟨x, rfl, w⟩
theorem oa51 (a : AV) (h : TypA T.T 51 a) : ∃ x : api_Prog, a = .agg (c51 x) ∧ W51 x := by
  obtain ⟨cs, rfl, h2⟩ := typA_agg h T.t51 rfl
  obtain ⟨x, rfl, w⟩ := op51 _ h2
  exact ⟨x, rfl, w⟩
end Go.Proofs.Ytappiofmkoelnaa.M
