/-
  A statement's arguments, as Lean has them.
-/
import Derived.Test.YtappiofmkoelnaaTmT
import Derived.Test.YtappiofmkoelnaaAhW
namespace Go.Proofs.Ytappiofmkoelnaa.M
open Go.Proofs.YtappiofmkoelnaaW.Ah Go.Proofs.Ytappiofmkoelnaa
set_option linter.unusedVariables false
set_option linter.unusedSimpArgs false
set_option maxRecDepth 8000
def W3 (x : Int) : Prop := IntKind.i64.min ≤ x ∧ x ≤ IntKind.i64.max
theorem op3 (cs : List AV) (h : Typ T.T 3 cs) : ∃ x : Int, cs = c3 x ∧ W3 x := by
  obtain ⟨n, rfl, w⟩ := typ_int h T.t3 rfl
  exact ⟨n, rfl, by simpa [Lit.wf, W3] using w⟩
def W29 (x : api_Pos) : Prop := W3 x.Line ∧ W3 x.Col
theorem op29 (cs : List AV) (h : Typ T.T 29 cs) : ∃ x : api_Pos, cs = c29 x ∧ W29 x := by
  obtain ⟨ps, rfl, hl, hf⟩ := typ_struct h T.t29 rfl (fun hs => hs _ T.t29 rfl)
  match ps, hl with
  | [p0, p1], _ =>
    obtain ⟨x0, rfl, w0⟩ := op3 _ (hf 0 _ _ rfl rfl)
    obtain ⟨x1, rfl, w1⟩ := op3 _ (hf 1 _ _ rfl rfl)
    exact ⟨⟨x0, x1⟩, by simp [c29], ⟨w0, w1⟩⟩
def W9 (x : ByteArray) : Prop := x.size ≤ maxLen
theorem op9 (cs : List AV) (h : Typ T.T 9 cs) : ∃ x : ByteArray, cs = c9 x ∧ W9 x := by
  obtain ⟨b, rfl, w⟩ := typ_str h T.t9 rfl
  exact ⟨b, rfl, w⟩
mutual
def W40 : api_Type → Prop
  | ⟨x0, x1, x2⟩ => W3 x0 ∧ W9 x1 ∧ (x2.length ≤ maxLen ∧ V40 x2)
def V40 : List api_Type → Prop
  | [] => True
  | x :: xs => W40 x ∧ V40 xs
end
theorem V40_iff : ∀ xs : List api_Type, V40 xs ↔ ∀ y ∈ xs, W40 y
  | [] => by simp [V40]
  | x :: xs => by simp [V40, V40_iff xs]
def W33 (x : (List api_Type)) : Prop := x.length ≤ maxLen ∧ ∀ y ∈ x, W40 y
theorem W40_iff (x : api_Type) : W40 x ↔ W3 x.Kind ∧ W9 x.Name ∧ W33 x.Parts := by
  cases x; simp only [W40, W33, V40_iff]
theorem opR33 {t : Nat} {cs : List AV} (h : Typ T.T t cs) : (t = 33 → ∃ x : (List api_Type), cs = c33 x ∧ W33 x) ∧ (t = 40 → ∃ x : api_Type, cs = c40 x ∧ W40 x) := by
  induction h with
  | bool b h1 h2 => exact ⟨(fun e => by subst e; rw [T.t33] at h1; cases h1; cases h2), (fun e => by subst e; rw [T.t40] at h1; cases h1; cases h2)⟩
  | int n h1 h2 h3 => exact ⟨(fun e => by subst e; rw [T.t33] at h1; cases h1; cases h2), (fun e => by subst e; rw [T.t40] at h1; cases h1; cases h2)⟩
  | str s h1 h2 h3 => exact ⟨(fun e => by subst e; rw [T.t33] at h1; cases h1; cases h2), (fun e => by subst e; rw [T.t40] at h1; cases h1; cases h2)⟩
  | arr xs h1 h2 => exact ⟨(fun e => by subst e; rw [T.t33] at h1; cases h1; cases h2), (fun e => by subst e; rw [T.t40] at h1; cases h1; cases h2)⟩
  | slice xs h1 h2 h4 h5 h6 h7 h8 ih =>
    refine ⟨?_, ?_⟩
    · intro e; subst e; rw [T.t33] at h1; cases h1; cases h2
      obtain ⟨ys, e1, e2, e3⟩ := rowsR (c := c40) (Pr := W40) (fun x hx => (ih x hx).2 rfl)
      exact ⟨ys, by rw [e1, e2], by omega, e3⟩
    · exact fun e => by subst e; rw [T.t40] at h1; cases h1; cases h2
  | struct ps h1 h2 h3 h4 ih =>
    refine ⟨?_, ?_⟩
    · exact fun e => by subst e; rw [T.t33] at h1; cases h1; cases h2
    · intro e; subst e; rw [T.t40] at h1; cases h1; cases h2
      match ps, h3 with
      | [p0, p1, p2], _ =>
        obtain ⟨x0, rfl, w0⟩ := op3 _ (h4 0 _ _ rfl rfl)
        obtain ⟨x1, rfl, w1⟩ := op9 _ (h4 1 _ _ rfl rfl)
        obtain ⟨x2, rfl, w2⟩ := (ih 2 _ _ rfl rfl).1 rfl
        exact ⟨⟨x0, x1, x2⟩, by simp [u40], (W40_iff _).2 ⟨w0, w1, w2⟩⟩
  | other cs hs => exact ⟨(fun e => absurd hs (by subst e; exact (fun hs => absurd (hs _ T.t33 _ T.t40) (by decide)))), (fun e => absurd hs (by subst e; exact (fun hs => hs _ T.t40 rfl)))⟩
theorem op33 (cs : List AV) (h : Typ T.T 33 cs) : ∃ x : (List api_Type), cs = c33 x ∧ W33 x := (opR33 h).1 rfl
theorem op40 (cs : List AV) (h : Typ T.T 40 cs) : ∃ x : api_Type, cs = c40 x ∧ W40 x := (opR33 h).2 rfl
def W35 (x : api_Con) : Prop := W9 x.Name ∧ W33 x.Fields
theorem op35 (cs : List AV) (h : Typ T.T 35 cs) : ∃ x : api_Con, cs = c35 x ∧ W35 x := by
  obtain ⟨ps, rfl, hl, hf⟩ := typ_struct h T.t35 rfl (fun hs => hs _ T.t35 rfl)
  match ps, hl with
  | [p0, p1], _ =>
    obtain ⟨x0, rfl, w0⟩ := op9 _ (hf 0 _ _ rfl rfl)
    obtain ⟨x1, rfl, w1⟩ := op33 _ (hf 1 _ _ rfl rfl)
    exact ⟨⟨x0, x1⟩, by simp [c35], ⟨w0, w1⟩⟩
def W30 (x : (List api_Con)) : Prop := x.length ≤ reachBytes ∧ ∀ y ∈ x, W35 y
theorem op30 (cs : List AV) (h : Typ T.T 30 cs) : ∃ x : (List api_Con), cs = c30 x ∧ W30 x := by
  obtain ⟨x, rfl, w⟩ := typ_slice c35 W35 h T.t30 rfl T.t35 (by decide) op35
  exact ⟨x, rfl, w⟩
def W32 (x : api_Data) : Prop := W29 x.At ∧ W9 x.Name ∧ W30 x.Cons
theorem op32 (cs : List AV) (h : Typ T.T 32 cs) : ∃ x : api_Data, cs = c32 x ∧ W32 x := by
  obtain ⟨ps, rfl, hl, hf⟩ := typ_struct h T.t32 rfl (fun hs => hs _ T.t32 rfl)
  match ps, hl with
  | [p0, p1, p2], _ =>
    obtain ⟨x0, rfl, w0⟩ := op29 _ (hf 0 _ _ rfl rfl)
    obtain ⟨x1, rfl, w1⟩ := op9 _ (hf 1 _ _ rfl rfl)
    obtain ⟨x2, rfl, w2⟩ := op30 _ (hf 2 _ _ rfl rfl)
    exact ⟨⟨x0, x1, x2⟩, by simp [c32], ⟨w0, w1, w2⟩⟩
def W22 (x : (List api_Data)) : Prop := x.length ≤ reachBytes ∧ ∀ y ∈ x, W32 y
theorem op22 (cs : List AV) (h : Typ T.T 22 cs) : ∃ x : (List api_Data), cs = c22 x ∧ W22 x := by
  obtain ⟨x, rfl, w⟩ := typ_slice c32 W32 h T.t22 rfl T.t32 (by decide) op32
  exact ⟨x, rfl, w⟩
theorem oa22 (a : AV) (h : TypA T.T 22 a) : ∃ x : (List api_Data), a = .ssl (encs c32 x) x.length false ∧ W22 x := by
  obtain ⟨x, e, w⟩ := op22 _ (typA_one h T.t22 rfl)
  cases e
  exact ⟨x, rfl, w⟩
end Go.Proofs.Ytappiofmkoelnaa.M
