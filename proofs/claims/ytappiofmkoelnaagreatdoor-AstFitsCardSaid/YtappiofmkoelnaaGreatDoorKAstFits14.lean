/-
  For AstFits: texts of the road to it, 15 of 16.
-/
import Derived.Test.YtappiofmkoelnaaGreatDoorKAstFits13
section
namespace Go.Proofs.YtappiofmkoelnaaGreatDoor
open Go.Proofs.YtappiofmkoelnaaGreatDoorW.Ah
set_option linter.unusedVariables false
set_option linter.unusedSimpArgs false
theorem typ_str {T : Tab} {t : Nat} {i : TI} {cs : List AV} (h : Typ T t cs) (ht : T t = some i) (hk : i.k = .str) : ∃ s : ByteArray, cs = [.sc (.string s)] ∧ s.size ≤ maxLen := by
  cases h with
  | str s h1 h2 h3 => exact ⟨s, rfl, h3⟩
  | bool b h1 h2 => rw [ht] at h1; cases h1; rw [hk] at h2; cases h2
  | int n h1 h2 h3 => rw [ht] at h1; cases h1; rw [hk] at h2; cases h2
  | slice xs h1 h2 => rw [ht] at h1; cases h1; rw [hk] at h2; cases h2
  | struct ps h1 h2 => rw [ht] at h1; cases h1; rw [hk] at h2; cases h2
  | arr xs h1 h2 => rw [ht] at h1; cases h1; rw [hk] at h2; cases h2
  | other _ hs => have := hs i ht; rw [hk] at this; exact this.elim
theorem rows_of {α : Type} {c : α → List AV} {Pr : α → Prop} {T : Tab} {e : Nat} : ∀ {xs : List (List AV)}, (∀ x ∈ xs, Typ T e x) → (∀ cs, Typ T e cs → ∃ x, cs = c x ∧ Pr x) → ∃ ys : List α, xs.flatten = encs c ys ∧ xs.length = ys.length ∧ ∀ y ∈ ys, Pr y
  | [], _, _ => ⟨[], rfl, rfl, fun _ h => by cases h⟩
  | x :: xs, h, hel => by
    obtain ⟨ys, e1, e2, e3⟩ := rows_of (fun y hy => h y (List.mem_cons_of_mem _ hy)) hel
    obtain ⟨y, e4, e5⟩ := hel x (h x List.mem_cons_self)
    refine ⟨y :: ys, by rw [List.flatten_cons, e1, e4, encs_cons], by simp [e2], fun z hz => ?_⟩
    rcases List.mem_cons.1 hz with rfl | h
    · exact e5
    · exact e3 z h
theorem rowsR {α : Type} {c : α → List AV} {Pr : α → Prop} : ∀ {xs : List (List AV)}, (∀ x ∈ xs, ∃ y, x = c y ∧ Pr y) → ∃ ys : List α, xs.flatten = encs c ys ∧ xs.length = ys.length ∧ ∀ y ∈ ys, Pr y
  | [], _ => ⟨[], rfl, rfl, fun _ h => by cases h⟩
  | x :: xs, h => by
    obtain ⟨ys, e1, e2, e3⟩ := rowsR (fun y hy => h y (List.mem_cons_of_mem _ hy))
    obtain ⟨y, e4, e5⟩ := h x List.mem_cons_self
    refine ⟨y :: ys, by rw [List.flatten_cons, e1, e4, encs_cons], by simp [e2], fun z hz => ?_⟩
    rcases List.mem_cons.1 hz with rfl | h
    · exact e5
    · exact e3 z h
theorem typ_slice {α : Type} (c : α → List AV) (Pr : α → Prop) {T : Tab} {t e : Nat} {i ie : TI} {cs : List AV} (h : Typ T t cs) (ht : T t = some i) (hk : i.k = .slice e) (he : T e = some ie) (hz : 0 < ie.size) (hel : ∀ cs, Typ T e cs → ∃ x, cs = c x ∧ Pr x) (hby : 0 < ie.bytes := by decide) :
    ∃ xs : List α, cs = [.ssl (encs c xs) xs.length false] ∧ xs.length ≤ reachBytes ∧ ∀ x ∈ xs, Pr x := by
  cases h with
  | slice xs h1 h2 h4 h5 h6 h7 h8 =>
    rw [ht] at h1; cases h1; rw [hk] at h2; cases h2; rw [he] at h4; cases h4
    obtain ⟨ys, e1, e2, e3⟩ := rows_of h6 hel
    exact ⟨ys, by rw [e1, e2], by rw [← e2]; exact Nat.le_trans (Nat.le_mul_of_pos_right _ hby) h8.2, e3⟩
  | bool b h1 h2 => rw [ht] at h1; cases h1; rw [hk] at h2; cases h2
  | int n h1 h2 h3 => rw [ht] at h1; cases h1; rw [hk] at h2; cases h2
  | str s h1 h2 => rw [ht] at h1; cases h1; rw [hk] at h2; cases h2
  | struct ps h1 h2 => rw [ht] at h1; cases h1; rw [hk] at h2; cases h2
  | arr xs h1 h2 => rw [ht] at h1; cases h1; rw [hk] at h2; cases h2
  | other _ hs => have := hs i ht; rw [hk] at this; have := this ie he; omega
theorem typA_agg {T : Tab} {t : Nat} {i : TI} {a : AV} (h : TypA T t a) (ht : T t = some i) (hk : aggK i.k = true) : ∃ cs, a = .agg cs ∧ Typ T t cs := by
  obtain ⟨cs, i', h1, h2, h3⟩ := h
  rw [ht] at h1; cases h1
  rw [if_pos hk] at h3
  exact ⟨cs, h3, h2⟩
end Go.Proofs.YtappiofmkoelnaaGreatDoor
end
section
namespace Go.Proofs.YtappiofmkoelnaaGreatDoor.M
open Go.Proofs.YtappiofmkoelnaaGreatDoorW.Ah Go.Proofs.YtappiofmkoelnaaGreatDoor
set_option linter.unusedVariables false
set_option linter.unusedSimpArgs false
set_option maxRecDepth 8000
def W3 (x : Int) : Prop := IntKind.i64.min ≤ x ∧ x ≤ IntKind.i64.max
theorem op3 (cs : List AV) (h : Typ T.T 3 cs) : ∃ x : Int, cs = c3 x ∧ W3 x := by
  obtain ⟨n, rfl, w⟩ := typ_int h T.t3 rfl
  exact ⟨n, rfl, by simpa [Lit.wf, W3] using w⟩
def W9 (x : ByteArray) : Prop := x.size ≤ maxLen
theorem op9 (cs : List AV) (h : Typ T.T 9 cs) : ∃ x : ByteArray, cs = c9 x ∧ W9 x := by
  obtain ⟨b, rfl, w⟩ := typ_str h T.t9 rfl
  exact ⟨b, rfl, w⟩
mutual
def W26 : api_Type → Prop
  | ⟨x0, x1, x2⟩ => W3 x0 ∧ W9 x1 ∧ (x2.length ≤ maxLen ∧ V26 x2)
def V26 : List api_Type → Prop
  | [] => True
  | x :: xs => W26 x ∧ V26 xs
end
theorem V26_iff : ∀ xs : List api_Type, V26 xs ↔ ∀ y ∈ xs, W26 y
  | [] => by simp [V26]
  | x :: xs => by simp [V26, V26_iff xs]
def W24 (x : (List api_Type)) : Prop := x.length ≤ maxLen ∧ ∀ y ∈ x, W26 y
theorem W26_iff (x : api_Type) : W26 x ↔ W3 x.Kind ∧ W9 x.Name ∧ W24 x.Parts := by
  cases x; simp only [W26, W24, V26_iff]
theorem opR24 {t : Nat} {cs : List AV} (h : Typ T.T t cs) : (t = 24 → ∃ x : (List api_Type), cs = c24 x ∧ W24 x) ∧ (t = 26 → ∃ x : api_Type, cs = c26 x ∧ W26 x) := by
  induction h with
  | bool b h1 h2 => exact ⟨(fun e => by subst e; rw [T.t24] at h1; cases h1; cases h2), (fun e => by subst e; rw [T.t26] at h1; cases h1; cases h2)⟩
  | int n h1 h2 h3 => exact ⟨(fun e => by subst e; rw [T.t24] at h1; cases h1; cases h2), (fun e => by subst e; rw [T.t26] at h1; cases h1; cases h2)⟩
  | str s h1 h2 h3 => exact ⟨(fun e => by subst e; rw [T.t24] at h1; cases h1; cases h2), (fun e => by subst e; rw [T.t26] at h1; cases h1; cases h2)⟩
  | arr xs h1 h2 => exact ⟨(fun e => by subst e; rw [T.t24] at h1; cases h1; cases h2), (fun e => by subst e; rw [T.t26] at h1; cases h1; cases h2)⟩
  | slice xs h1 h2 h4 h5 h6 h7 h8 ih =>
    refine ⟨?_, ?_⟩
    · intro e; subst e; rw [T.t24] at h1; cases h1; cases h2
      obtain ⟨ys, e1, e2, e3⟩ := rowsR (c := c26) (Pr := W26) (fun x hx => (ih x hx).2 rfl)
      exact ⟨ys, by rw [e1, e2], by omega, e3⟩
    · exact fun e => by subst e; rw [T.t26] at h1; cases h1; cases h2
  | struct ps h1 h2 h3 h4 ih =>
    refine ⟨?_, ?_⟩
    · exact fun e => by subst e; rw [T.t24] at h1; cases h1; cases h2
    · intro e; subst e; rw [T.t26] at h1; cases h1; cases h2
      match ps, h3 with
      | [p0, p1, p2], _ =>
        obtain ⟨x0, rfl, w0⟩ := op3 _ (h4 0 _ _ rfl rfl)
        obtain ⟨x1, rfl, w1⟩ := op9 _ (h4 1 _ _ rfl rfl)
        obtain ⟨x2, rfl, w2⟩ := (ih 2 _ _ rfl rfl).1 rfl
        exact ⟨⟨x0, x1, x2⟩, by simp [u26], (W26_iff _).2 ⟨w0, w1, w2⟩⟩
  | other cs hs => exact ⟨(fun e => absurd hs (by subst e; exact (fun hs => absurd (hs _ T.t24 _ T.t26) (by decide)))), (fun e => absurd hs (by subst e; exact (fun hs => hs _ T.t26 rfl)))⟩
theorem op24 (cs : List AV) (h : Typ T.T 24 cs) : ∃ x : (List api_Type), cs = c24 x ∧ W24 x := (opR24 h).1 rfl
theorem op26 (cs : List AV) (h : Typ T.T 26 cs) : ∃ x : api_Type, cs = c26 x ∧ W26 x := (opR24 h).2 rfl
def W28 (x : api_Pos) : Prop := W3 x.Line ∧ W3 x.Col
theorem op28 (cs : List AV) (h : Typ T.T 28 cs) : ∃ x : api_Pos, cs = c28 x ∧ W28 x := by
  obtain ⟨ps, rfl, hl, hf⟩ := typ_struct h T.t28 rfl (fun hs => hs _ T.t28 rfl)
  match ps, hl with
  | [p0, p1], _ =>
    obtain ⟨x0, rfl, w0⟩ := op3 _ (hf 0 _ _ rfl rfl)
    obtain ⟨x1, rfl, w1⟩ := op3 _ (hf 1 _ _ rfl rfl)
    exact ⟨⟨x0, x1⟩, by simp [c28], ⟨w0, w1⟩⟩
def W2 (x : Int) : Prop := IntKind.i64.min ≤ x ∧ x ≤ IntKind.i64.max
theorem op2 (cs : List AV) (h : Typ T.T 2 cs) : ∃ x : Int, cs = c2 x ∧ W2 x := by
  obtain ⟨n, rfl, w⟩ := typ_int h T.t2 rfl
  exact ⟨n, rfl, by simpa [Lit.wf, W2] using w⟩
def W5 (x : Int) : Prop := IntKind.u8.min ≤ x ∧ x ≤ IntKind.u8.max
theorem op5 (cs : List AV) (h : Typ T.T 5 cs) : ∃ x : Int, cs = c5 x ∧ W5 x := by
  obtain ⟨n, rfl, w⟩ := typ_int h T.t5 rfl
  exact ⟨n, rfl, by simpa [Lit.wf, W5] using w⟩
def W29 (x : (List Int)) : Prop := x.length ≤ reachBytes ∧ ∀ y ∈ x, W5 y
theorem op29 (cs : List AV) (h : Typ T.T 29 cs) : ∃ x : (List Int), cs = c29 x ∧ W29 x := by
  obtain ⟨x, rfl, w⟩ := typ_slice c5 W5 h T.t29 rfl T.t5 (by decide) op5
  exact ⟨x, rfl, w⟩
mutual
def W39 : api_Pat → Prop
  | ⟨x0, x1, x2, x3, x4⟩ => W3 x0 ∧ W28 x1 ∧ W9 x2 ∧ W2 x3 ∧ (x4.length ≤ maxLen ∧ V39 x4)
def V39 : List api_Pat → Prop
  | [] => True
  | x :: xs => W39 x ∧ V39 xs
end
theorem V39_iff : ∀ xs : List api_Pat, V39 xs ↔ ∀ y ∈ xs, W39 y
  | [] => by simp [V39]
  | x :: xs => by simp [V39, V39_iff xs]
def W37 (x : (List api_Pat)) : Prop := x.length ≤ maxLen ∧ ∀ y ∈ x, W39 y
theorem W39_iff (x : api_Pat) : W39 x ↔ W3 x.Kind ∧ W28 x.At ∧ W9 x.Name ∧ W2 x.Num ∧ W37 x.Kids := by
  cases x; simp only [W39, W37, V39_iff]
theorem opR37 {t : Nat} {cs : List AV} (h : Typ T.T t cs) : (t = 37 → ∃ x : (List api_Pat), cs = c37 x ∧ W37 x) ∧ (t = 39 → ∃ x : api_Pat, cs = c39 x ∧ W39 x) := by
  induction h with
  | bool b h1 h2 => exact ⟨(fun e => by subst e; rw [T.t37] at h1; cases h1; cases h2), (fun e => by subst e; rw [T.t39] at h1; cases h1; cases h2)⟩
  | int n h1 h2 h3 => exact ⟨(fun e => by subst e; rw [T.t37] at h1; cases h1; cases h2), (fun e => by subst e; rw [T.t39] at h1; cases h1; cases h2)⟩
  | str s h1 h2 h3 => exact ⟨(fun e => by subst e; rw [T.t37] at h1; cases h1; cases h2), (fun e => by subst e; rw [T.t39] at h1; cases h1; cases h2)⟩
  | arr xs h1 h2 => exact ⟨(fun e => by subst e; rw [T.t37] at h1; cases h1; cases h2), (fun e => by subst e; rw [T.t39] at h1; cases h1; cases h2)⟩
  | slice xs h1 h2 h4 h5 h6 h7 h8 ih =>
    refine ⟨?_, ?_⟩
    · intro e; subst e; rw [T.t37] at h1; cases h1; cases h2
      obtain ⟨ys, e1, e2, e3⟩ := rowsR (c := c39) (Pr := W39) (fun x hx => (ih x hx).2 rfl)
      exact ⟨ys, by rw [e1, e2], by omega, e3⟩
    · exact fun e => by subst e; rw [T.t39] at h1; cases h1; cases h2
  | struct ps h1 h2 h3 h4 ih =>
    refine ⟨?_, ?_⟩
    · exact fun e => by subst e; rw [T.t37] at h1; cases h1; cases h2
    · intro e; subst e; rw [T.t39] at h1; cases h1; cases h2
      match ps, h3 with
      | [p0, p1, p2, p3, p4], _ =>
        obtain ⟨x0, rfl, w0⟩ := op3 _ (h4 0 _ _ rfl rfl)
        obtain ⟨x1, rfl, w1⟩ := op28 _ (h4 1 _ _ rfl rfl)
        obtain ⟨x2, rfl, w2⟩ := op9 _ (h4 2 _ _ rfl rfl)
        obtain ⟨x3, rfl, w3⟩ := op2 _ (h4 3 _ _ rfl rfl)
        obtain ⟨x4, rfl, w4⟩ := (ih 4 _ _ rfl rfl).1 rfl
        exact ⟨⟨x0, x1, x2, x3, x4⟩, by simp [u39], (W39_iff _).2 ⟨w0, w1, w2, w3, w4⟩⟩
  | other cs hs => exact ⟨(fun e => absurd hs (by subst e; exact (fun hs => absurd (hs _ T.t37 _ T.t39) (by decide)))), (fun e => absurd hs (by subst e; exact (fun hs => hs _ T.t39 rfl)))⟩
theorem op39 (cs : List AV) (h : Typ T.T 39 cs) : ∃ x : api_Pat, cs = c39 x ∧ W39 x := (opR37 h).2 rfl
mutual
def W33 : api_Expr → Prop
  | ⟨x0, x1, x2, x3, x4, x5, x6⟩ => W3 x0 ∧ W28 x1 ∧ W2 x2 ∧ W29 x3 ∧ W9 x4 ∧ (x5.length ≤ maxLen ∧ V33 x5) ∧ (x6.length ≤ maxLen ∧ V68 x6)
def W68 : api_Arm → Prop
  | ⟨x0, x1⟩ => W39 x0 ∧ W33 x1
def V33 : List api_Expr → Prop
  | [] => True
  | x :: xs => W33 x ∧ V33 xs
def V68 : List api_Arm → Prop
  | [] => True
  | x :: xs => W68 x ∧ V68 xs
end
theorem V33_iff : ∀ xs : List api_Expr, V33 xs ↔ ∀ y ∈ xs, W33 y
  | [] => by simp [V33]
  | x :: xs => by simp [V33, V33_iff xs]
theorem V68_iff : ∀ xs : List api_Arm, V68 xs ↔ ∀ y ∈ xs, W68 y
  | [] => by simp [V68]
  | x :: xs => by simp [V68, V68_iff xs]
def W30 (x : (List api_Expr)) : Prop := x.length ≤ maxLen ∧ ∀ y ∈ x, W33 y
def W31 (x : (List api_Arm)) : Prop := x.length ≤ maxLen ∧ ∀ y ∈ x, W68 y
theorem W33_iff (x : api_Expr) : W33 x ↔ W3 x.Kind ∧ W28 x.At ∧ W2 x.Num ∧ W29 x.Bytes ∧ W9 x.Name ∧ W30 x.Kids ∧ W31 x.Arms := by
  cases x; simp only [W33, W30, W31, V33_iff, V68_iff]
theorem W68_iff (x : api_Arm) : W68 x ↔ W39 x.Pat ∧ W33 x.Body := by
  cases x; simp only [W68, W30, W31, V33_iff, V68_iff]
theorem opR30 {t : Nat} {cs : List AV} (h : Typ T.T t cs) : (t = 30 → ∃ x : (List api_Expr), cs = c30 x ∧ W30 x) ∧ (t = 31 → ∃ x : (List api_Arm), cs = c31 x ∧ W31 x) ∧ (t = 33 → ∃ x : api_Expr, cs = c33 x ∧ W33 x) ∧ (t = 68 → ∃ x : api_Arm, cs = c68 x ∧ W68 x) := by
  induction h with
  | bool b h1 h2 => exact ⟨(fun e => by subst e; rw [T.t30] at h1; cases h1; cases h2), (fun e => by subst e; rw [T.t31] at h1; cases h1; cases h2), (fun e => by subst e; rw [T.t33] at h1; cases h1; cases h2), (fun e => by subst e; rw [T.t68] at h1; cases h1; cases h2)⟩
  | int n h1 h2 h3 => exact ⟨(fun e => by subst e; rw [T.t30] at h1; cases h1; cases h2), (fun e => by subst e; rw [T.t31] at h1; cases h1; cases h2), (fun e => by subst e; rw [T.t33] at h1; cases h1; cases h2), (fun e => by subst e; rw [T.t68] at h1; cases h1; cases h2)⟩
  | str s h1 h2 h3 => exact ⟨(fun e => by subst e; rw [T.t30] at h1; cases h1; cases h2), (fun e => by subst e; rw [T.t31] at h1; cases h1; cases h2), (fun e => by subst e; rw [T.t33] at h1; cases h1; cases h2), (fun e => by subst e; rw [T.t68] at h1; cases h1; cases h2)⟩
  | arr xs h1 h2 => exact ⟨(fun e => by subst e; rw [T.t30] at h1; cases h1; cases h2), (fun e => by subst e; rw [T.t31] at h1; cases h1; cases h2), (fun e => by subst e; rw [T.t33] at h1; cases h1; cases h2), (fun e => by subst e; rw [T.t68] at h1; cases h1; cases h2)⟩
  | slice xs h1 h2 h4 h5 h6 h7 h8 ih =>
    refine ⟨?_, ?_, ?_, ?_⟩
    · intro e; subst e; rw [T.t30] at h1; cases h1; cases h2
      obtain ⟨ys, e1, e2, e3⟩ := rowsR (c := c33) (Pr := W33) (fun x hx => (ih x hx).2.2.1 rfl)
      exact ⟨ys, by rw [e1, e2], by omega, e3⟩
    · intro e; subst e; rw [T.t31] at h1; cases h1; cases h2
      obtain ⟨ys, e1, e2, e3⟩ := rowsR (c := c68) (Pr := W68) (fun x hx => (ih x hx).2.2.2 rfl)
      exact ⟨ys, by rw [e1, e2], by omega, e3⟩
    · exact fun e => by subst e; rw [T.t33] at h1; cases h1; cases h2
    · exact fun e => by subst e; rw [T.t68] at h1; cases h1; cases h2
  | struct ps h1 h2 h3 h4 ih =>
    refine ⟨?_, ?_, ?_, ?_⟩
    · exact fun e => by subst e; rw [T.t30] at h1; cases h1; cases h2
    · exact fun e => by subst e; rw [T.t31] at h1; cases h1; cases h2
    · intro e; subst e; rw [T.t33] at h1; cases h1; cases h2
      match ps, h3 with
      | [p0, p1, p2, p3, p4, p5, p6], _ =>
        obtain ⟨x0, rfl, w0⟩ := op3 _ (h4 0 _ _ rfl rfl)
        obtain ⟨x1, rfl, w1⟩ := op28 _ (h4 1 _ _ rfl rfl)
        obtain ⟨x2, rfl, w2⟩ := op2 _ (h4 2 _ _ rfl rfl)
        obtain ⟨x3, rfl, w3⟩ := op29 _ (h4 3 _ _ rfl rfl)
        obtain ⟨x4, rfl, w4⟩ := op9 _ (h4 4 _ _ rfl rfl)
        obtain ⟨x5, rfl, w5⟩ := (ih 5 _ _ rfl rfl).1 rfl
        obtain ⟨x6, rfl, w6⟩ := (ih 6 _ _ rfl rfl).2.1 rfl
        exact ⟨⟨x0, x1, x2, x3, x4, x5, x6⟩, by simp [u33], (W33_iff _).2 ⟨w0, w1, w2, w3, w4, w5, w6⟩⟩
    · intro e; subst e; rw [T.t68] at h1; cases h1; cases h2
      match ps, h3 with
      | [p0, p1], _ =>
        obtain ⟨x0, rfl, w0⟩ := op39 _ (h4 0 _ _ rfl rfl)
        obtain ⟨x1, rfl, w1⟩ := (ih 1 _ _ rfl rfl).2.2.1 rfl
        exact ⟨⟨x0, x1⟩, by simp [u68], (W68_iff _).2 ⟨w0, w1⟩⟩
  | other cs hs => exact ⟨(fun e => absurd hs (by subst e; exact (fun hs => absurd (hs _ T.t30 _ T.t33) (by decide)))), (fun e => absurd hs (by subst e; exact (fun hs => absurd (hs _ T.t31 _ T.t68) (by decide)))), (fun e => absurd hs (by subst e; exact (fun hs => hs _ T.t33 rfl))), (fun e => absurd hs (by subst e; exact (fun hs => hs _ T.t68 rfl)))⟩
theorem op33 (cs : List AV) (h : Typ T.T 33 cs) : ∃ x : api_Expr, cs = c33 x ∧ W33 x := (opR30 h).2.2.1 rfl
def W92 (x : api_Con) : Prop := W9 x.Name ∧ W24 x.Fields
theorem op92 (cs : List AV) (h : Typ T.T 92 cs) : ∃ x : api_Con, cs = c92 x ∧ W92 x := by
  obtain ⟨ps, rfl, hl, hf⟩ := typ_struct h T.t92 rfl (fun hs => hs _ T.t92 rfl)
  match ps, hl with
  | [p0, p1], _ =>
    obtain ⟨x0, rfl, w0⟩ := op9 _ (hf 0 _ _ rfl rfl)
    obtain ⟨x1, rfl, w1⟩ := op24 _ (hf 1 _ _ rfl rfl)
    exact ⟨⟨x0, x1⟩, by simp [c92], ⟨w0, w1⟩⟩
def W70 (x : (List api_Con)) : Prop := x.length ≤ reachBytes ∧ ∀ y ∈ x, W92 y
theorem op70 (cs : List AV) (h : Typ T.T 70 cs) : ∃ x : (List api_Con), cs = c70 x ∧ W70 x := by
  obtain ⟨x, rfl, w⟩ := typ_slice c92 W92 h T.t70 rfl T.t92 (by decide) op92
  exact ⟨x, rfl, w⟩
def W72 (x : api_Data) : Prop := W28 x.At ∧ W9 x.Name ∧ W70 x.Cons
theorem op72 (cs : List AV) (h : Typ T.T 72 cs) : ∃ x : api_Data, cs = c72 x ∧ W72 x := by
  obtain ⟨ps, rfl, hl, hf⟩ := typ_struct h T.t72 rfl (fun hs => hs _ T.t72 rfl)
  match ps, hl with
  | [p0, p1, p2], _ =>
    obtain ⟨x0, rfl, w0⟩ := op28 _ (hf 0 _ _ rfl rfl)
    obtain ⟨x1, rfl, w1⟩ := op9 _ (hf 1 _ _ rfl rfl)
    obtain ⟨x2, rfl, w2⟩ := op70 _ (hf 2 _ _ rfl rfl)
    exact ⟨⟨x0, x1, x2⟩, by simp [c72], ⟨w0, w1, w2⟩⟩
def W22 (x : (List api_Data)) : Prop := x.length ≤ reachBytes ∧ ∀ y ∈ x, W72 y
theorem op22 (cs : List AV) (h : Typ T.T 22 cs) : ∃ x : (List api_Data), cs = c22 x ∧ W22 x := by
  obtain ⟨x, rfl, w⟩ := typ_slice c72 W72 h T.t22 rfl T.t72 (by decide) op72
  exact ⟨x, rfl, w⟩
def W81 (x : api_Param) : Prop := W9 x.Name ∧ W26 x.Type_
theorem op81 (cs : List AV) (h : Typ T.T 81 cs) : ∃ x : api_Param, cs = c81 x ∧ W81 x := by
  obtain ⟨ps, rfl, hl, hf⟩ := typ_struct h T.t81 rfl (fun hs => hs _ T.t81 rfl)
  match ps, hl with
  | [p0, p1], _ =>
    obtain ⟨x0, rfl, w0⟩ := op9 _ (hf 0 _ _ rfl rfl)
    obtain ⟨x1, rfl, w1⟩ := op26 _ (hf 1 _ _ rfl rfl)
    exact ⟨⟨x0, x1⟩, by simp [c81], ⟨w0, w1⟩⟩
def W75 (x : (List api_Param)) : Prop := x.length ≤ reachBytes ∧ ∀ y ∈ x, W81 y
theorem op75 (cs : List AV) (h : Typ T.T 75 cs) : ∃ x : (List api_Param), cs = c75 x ∧ W75 x := by
  obtain ⟨x, rfl, w⟩ := typ_slice c81 W81 h T.t75 rfl T.t81 (by decide) op81
  exact ⟨x, rfl, w⟩
def W77 (x : api_Fun) : Prop := W28 x.At ∧ W9 x.Name ∧ W75 x.Params ∧ W26 x.Result ∧ W33 x.Body
theorem op77 (cs : List AV) (h : Typ T.T 77 cs) : ∃ x : api_Fun, cs = c77 x ∧ W77 x := by
  obtain ⟨ps, rfl, hl, hf⟩ := typ_struct h T.t77 rfl (fun hs => hs _ T.t77 rfl)
  match ps, hl with
  | [p0, p1, p2, p3, p4], _ =>
    obtain ⟨x0, rfl, w0⟩ := op28 _ (hf 0 _ _ rfl rfl)
    obtain ⟨x1, rfl, w1⟩ := op9 _ (hf 1 _ _ rfl rfl)
    obtain ⟨x2, rfl, w2⟩ := op75 _ (hf 2 _ _ rfl rfl)
    obtain ⟨x3, rfl, w3⟩ := op26 _ (hf 3 _ _ rfl rfl)
    obtain ⟨x4, rfl, w4⟩ := op33 _ (hf 4 _ _ rfl rfl)
    exact ⟨⟨x0, x1, x2, x3, x4⟩, by simp [c77], ⟨w0, w1, w2, w3, w4⟩⟩
def W23 (x : (List api_Fun)) : Prop := x.length ≤ reachBytes ∧ ∀ y ∈ x, W77 y
theorem op23 (cs : List AV) (h : Typ T.T 23 cs) : ∃ x : (List api_Fun), cs = c23 x ∧ W23 x := by
  obtain ⟨x, rfl, w⟩ := typ_slice c77 W77 h T.t23 rfl T.t77 (by decide) op77
  exact ⟨x, rfl, w⟩
def W83 (x : api_Hand) : Prop := W28 x.At ∧ W9 x.Name ∧ W81 x.Param ∧ W3 x.Cap ∧ W33 x.Body
theorem op83 (cs : List AV) (h : Typ T.T 83 cs) : ∃ x : api_Hand, cs = c83 x ∧ W83 x := by
  obtain ⟨ps, rfl, hl, hf⟩ := typ_struct h T.t83 rfl (fun hs => hs _ T.t83 rfl)
  match ps, hl with
  | [p0, p1, p2, p3, p4], _ =>
    obtain ⟨x0, rfl, w0⟩ := op28 _ (hf 0 _ _ rfl rfl)
    obtain ⟨x1, rfl, w1⟩ := op9 _ (hf 1 _ _ rfl rfl)
    obtain ⟨x2, rfl, w2⟩ := op81 _ (hf 2 _ _ rfl rfl)
    obtain ⟨x3, rfl, w3⟩ := op3 _ (hf 3 _ _ rfl rfl)
    obtain ⟨x4, rfl, w4⟩ := op33 _ (hf 4 _ _ rfl rfl)
    exact ⟨⟨x0, x1, x2, x3, x4⟩, by simp [c83], ⟨w0, w1, w2, w3, w4⟩⟩
def W34 (x : (List api_Hand)) : Prop := x.length ≤ reachBytes ∧ ∀ y ∈ x, W83 y
theorem op34 (cs : List AV) (h : Typ T.T 34 cs) : ∃ x : (List api_Hand), cs = c34 x ∧ W34 x := by
  obtain ⟨x, rfl, w⟩ := typ_slice c83 W83 h T.t34 rfl T.t83 (by decide) op83
  exact ⟨x, rfl, w⟩
def W36 (x : api_Prog) : Prop := W22 x.Datas ∧ W23 x.Funs ∧ W3 x.Queue ∧ W3 x.Timers ∧ W26 x.State ∧ W3 x.Cap ∧ W33 x.Init ∧ W34 x.Hands
theorem op36 (cs : List AV) (h : Typ T.T 36 cs) : ∃ x : api_Prog, cs = c36 x ∧ W36 x := by
  obtain ⟨ps, rfl, hl, hf⟩ := typ_struct h T.t36 rfl (fun hs => hs _ T.t36 rfl)
  match ps, hl with
  | [p0, p1, p2, p3, p4, p5, p6, p7], _ =>
    obtain ⟨x0, rfl, w0⟩ := op22 _ (hf 0 _ _ rfl rfl)
    obtain ⟨x1, rfl, w1⟩ := op23 _ (hf 1 _ _ rfl rfl)
    obtain ⟨x2, rfl, w2⟩ := op3 _ (hf 2 _ _ rfl rfl)
    obtain ⟨x3, rfl, w3⟩ := op3 _ (hf 3 _ _ rfl rfl)
    obtain ⟨x4, rfl, w4⟩ := op26 _ (hf 4 _ _ rfl rfl)
    obtain ⟨x5, rfl, w5⟩ := op3 _ (hf 5 _ _ rfl rfl)
    obtain ⟨x6, rfl, w6⟩ := op33 _ (hf 6 _ _ rfl rfl)
    obtain ⟨x7, rfl, w7⟩ := op34 _ (hf 7 _ _ rfl rfl)
    exact ⟨⟨x0, x1, x2, x3, x4, x5, x6, x7⟩, by simp [c36], ⟨w0, w1, w2, w3, w4, w5, w6, w7⟩⟩
theorem oa26 (a : AV) (h : TypA T.T 26 a) : ∃ x : api_Type, a = .agg (c26 x) ∧ W26 x := by
  obtain ⟨cs, rfl, h2⟩ := typA_agg h T.t26 rfl
  obtain ⟨x, rfl, w⟩ := op26 _ h2
  exact ⟨x, rfl, w⟩
theorem oa33 (a : AV) (h : TypA T.T 33 a) : ∃ x : api_Expr, a = .agg (c33 x) ∧ W33 x := by
  obtain ⟨cs, rfl, h2⟩ := typA_agg h T.t33 rfl
  obtain ⟨x, rfl, w⟩ := op33 _ h2
  exact ⟨x, rfl, w⟩
theorem oa36 (a : AV) (h : TypA T.T 36 a) : ∃ x : api_Prog, a = .agg (c36 x) ∧ W36 x := by
  obtain ⟨cs, rfl, h2⟩ := typA_agg h T.t36 rfl
  obtain ⟨x, rfl, w⟩ := op36 _ h2
  exact ⟨x, rfl, w⟩
theorem oa39 (a : AV) (h : TypA T.T 39 a) : ∃ x : api_Pat, a = .agg (c39 x) ∧ W39 x := by
  obtain ⟨cs, rfl, h2⟩ := typA_agg h T.t39 rfl
  obtain ⟨x, rfl, w⟩ := op39 _ h2
  exact ⟨x, rfl, w⟩
end Go.Proofs.YtappiofmkoelnaaGreatDoor.M
end
section
namespace Go.Proofs.YtappiofmkoelnaaGreatDoor.M
open Go.Proofs.YtappiofmkoelnaaGreatDoorW.Ah Go.Proofs.YtappiofmkoelnaaGreatDoor
set_option linter.unusedVariables false
set_option linter.unusedSimpArgs false
theorem idx_nat {α : Type} (xs : List α) (k : Nat) : idx xs (k : Int) = xs[k]? := by simp [idx]
theorem wrapS (n : Nat) (h : n < 9223372036854775807) : IntKind.i64.wrap ((n : Int) + 1) = ((n + 1 : Nat) : Int) := wrap_succ n (by omega)
theorem wrap_ok {x : Int} (h1 : -9223372036854775808 ≤ x) (h2 : x ≤ 9223372036854775807) : IntKind.i64.wrap x = x := wrap64_id h1 (by omega)
theorem big {n : Nat} (h : n ≤ maxLen) : n ≤ 9223372036854775807 := Nat.le_trans h (by decide)
def Evt (p : Nat → Prop) : Prop := ∃ N, ∀ F, N ≤ F → p F
theorem Evt.of {p : Nat → Prop} (h : ∀ F, p F) : Evt p := ⟨0, fun F _ => h F⟩
theorem Evt.ge (n : Nat) : Evt (fun F => n ≤ F) := ⟨n, fun _ h => h⟩
theorem Evt.and {p q : Nat → Prop} (h : Evt p) (g : Evt q) : Evt (fun F => p F ∧ q F) :=
  let ⟨a, ha⟩ := h; let ⟨b, hb⟩ := g; ⟨max a b, fun F hF => ⟨ha F (by omega), hb F (by omega)⟩⟩
theorem Evt.mono {p q : Nat → Prop} (h : Evt p) (g : ∀ F, p F → q F) : Evt q := let ⟨a, ha⟩ := h; ⟨a, fun F hF => g F (ha F hF)⟩
theorem Evt.all {α : Type} {p : α → Nat → Prop} : ∀ {l : List α}, (∀ x ∈ l, Evt (p x)) → Evt (fun F => ∀ x ∈ l, p x F)
  | [], _ => .of fun F x hx => by cases hx
  | a :: l, h => ((h a (by simp)).and (Evt.all (l := l) fun x hx => h x (by simp [hx]))).mono fun F ⟨h1, h2⟩ x hx => by
    rcases List.mem_cons.1 hx with rfl | hx
    · exact h1
    · exact h2 x hx
theorem Evt.succ {p : Nat → Prop} (h : Evt p) : Evt (fun F => ∃ F', F = F' + 1 ∧ p F') := let ⟨a, ha⟩ := h; ⟨a + 1, fun F hF => ⟨F - 1, by omega, ha _ (by omega)⟩⟩
theorem Evt.ex {p : Nat → Prop} (h : Evt p) : ∃ F, p F := let ⟨a, ha⟩ := h; ⟨a, ha a (Nat.le_refl _)⟩
theorem loop_go {α σ β : Type} (xs : List α) (f : Nat → σ → Int → Option β) (P : Nat → σ → Prop) (R : Option β → Prop)
    (hend : ∀ n s, P xs.length s → R (f (n + 1) s (xs.length : Int)))
    (hstep : ∀ n s k x, xs[k]? = some x → P k s → (∀ s', P (k + 1) s' → R (f n s' ((k + 1 : Nat) : Int))) → R (f (n + 1) s (k : Int))) :
    ∀ (m n : Nat) (s : σ) (k : Nat), xs.length = k + m → m < n → P k s → R (f n s (k : Int))
  | 0, 0, s, k, _, hn, _ => by omega
  | 0, n + 1, s, k, e, _, hp => by
    rw [Nat.add_zero] at e
    subst e
    exact hend n s hp
  | m + 1, 0, s, k, _, hn, _ => by omega
  | m + 1, n + 1, s, k, e, hn, hp => by
    obtain ⟨x, hx⟩ : ∃ x, xs[k]? = some x := ⟨xs[k]'(by omega), by simp⟩
    exact hstep n s k x hx hp fun s' hs' => loop_go xs f P R hend hstep m n s' (k + 1) (by omega) (by omega) hs'
theorem loop_ok {α σ β : Type} (xs : List α) (f : Nat → σ → Int → Option β) (P : Nat → σ → Prop) (R : Option β → Prop)
    (hend : ∀ n s, P xs.length s → R (f (n + 1) s (xs.length : Int)))
    (hstep : ∀ n s k x, xs[k]? = some x → P k s → (∀ s', P (k + 1) s' → R (f n s' ((k + 1 : Nat) : Int))) → R (f (n + 1) s (k : Int)))
    (n : Nat) (s : σ) (hn : xs.length < n) (hp : P 0 s) : R (f n s 0) := by
  have := loop_go xs f P R hend hstep xs.length n s 0 (by omega) hn hp
  simpa using this
theorem lt_of_get {α : Type} {xs : List α} {k : Nat} {x : α} (h : xs[k]? = some x) : k < xs.length := (List.getElem?_eq_some_iff.1 h).1
theorem dec_lt {α : Type} {xs : List α} {k : Nat} {x : α} (h : xs[k]? = some x) : decide ((k : Int) < (xs.length : Int)) = true := by have := lt_of_get h; simp; omega
theorem dec_end {α : Type} (xs : List α) : decide ((xs.length : Int) < (xs.length : Int)) = false := by simp
theorem wrapK {α : Type} {xs : List α} {k : Nat} {x : α} (h : xs[k]? = some x) (hl : xs.length ≤ maxLen) : IntKind.i64.wrap ((k : Int) + 1) = ((k + 1 : Nat) : Int) := wrapS k (by have := lt_of_get h; have := big hl; omega)
theorem take_next {α : Type} {xs : List α} {k : Nat} {x : α} (h : xs[k]? = some x) : xs.take (k + 1) = xs.take k ++ [x] := by
  have := lt_of_get h
  rw [List.take_add_one, h]; rfl
mutual
def szT : api_Type → Nat
  | ⟨_, _, ps⟩ => 1 + szTs ps
def szTs : List api_Type → Nat
  | [] => 0
  | x :: xs => szT x + szTs xs
end
theorem szTs_append : ∀ (xs ys : List api_Type), szTs (xs ++ ys) = szTs xs + szTs ys
  | [], ys => by simp [szTs]
  | x :: xs, ys => by simp only [List.cons_append, szTs, szTs_append xs ys]; omega
def Left (v : Int) : Prop := -1099511627776 ≤ v ∧ v ≤ 1048576
theorem name_part (n : Nat) : 0 ≤ (if 1048576 < (n : Int) then 1048576 else (n : Int)) ∧ (if 1048576 < (n : Int) then 1048576 else (n : Int)) ≤ 1048576 := by
  split <;> omega
theorem lightType_ok : ∀ (t : api_Type), W26 t → Evt fun F => ∀ v, Left v → ∃ r, R04_LightType F t v = some r ∧ min v 0 - 1048577 ≤ r ∧ r ≤ v - 1 ∧ (0 ≤ r → (szT t : Int) ≤ v - r)
  | ⟨kd, nm, parts⟩, hw => by
    obtain ⟨_, _, hl, hp⟩ := (W26_iff _).1 hw
    have ih : ∀ p ∈ parts, Evt fun F => ∀ v, Left v → ∃ r, R04_LightType F p v = some r ∧ min v 0 - 1048577 ≤ r ∧ r ≤ v - 1 ∧ (0 ≤ r → (szT p : Int) ≤ v - r) := fun p hpm => lightType_ok p (hp p hpm)
    refine (((Evt.all ih).and (Evt.ge (parts.length + 1))).succ).mono ?_
    rintro F ⟨F', rfl, h1, h2⟩ v hv
    rw [R04_LightType, R04_LightType_B]
    have hn := name_part nm.size
    have hv' := hv
    unfold Left at hv'
    have e1 : IntKind.i64.wrap (v - 1) = v - 1 := wrap_ok (by omega) (by omega)
    rw [e1, wrap_ok (by simp only; omega) (by simp only; omega)]
    generalize hw0 : v - 1 - (if 1048576 < (nm.size : Int) then 1048576 else (nm.size : Int)) = w
    have hw1 : v - 1048577 ≤ w ∧ w ≤ v - 1 := by omega
    refine loop_ok parts (fun n s k => R04_LightType_L0 F' (R04_LightType F') ⟨kd, nm, parts⟩ n s k) (fun k s => s ≤ w ∧ min w 0 - 1048577 ≤ s ∧ (w < 0 → s = w) ∧ (0 ≤ s → (szTs (parts.take k) : Int) ≤ w - s))
      (fun o => ∃ r, o = some r ∧ min v 0 - 1048577 ≤ r ∧ r ≤ v - 1 ∧ (0 ≤ r → (szT ⟨kd, nm, parts⟩ : Int) ≤ v - r)) ?_ ?_ F' w (by omega) ⟨Int.le_refl _, by omega, fun _ => rfl, fun h => by simp [szTs]⟩
    · intro n s ⟨p1, p2, p3, p4⟩
      rw [R04_LightType_L0]
      simp only [dec_end, Bool.false_and, cond_false]
      rw [List.take_length] at p4
      exact ⟨s, rfl, by omega, by omega, fun h => by have := p4 h; simp only [szT]; omega⟩
    · intro n s k x hx ⟨p1, p2, p3, p4⟩ next
      rw [R04_LightType_L0]
      simp only [dec_lt hx, Bool.true_and]
      cases hs : decide (0 ≤ s) with
      | false =>
        simp only [decide_eq_false_iff_not] at hs
        exact ⟨s, rfl, by omega, by omega, fun h => absurd h hs⟩
      | true =>
        simp only [decide_eq_true_eq] at hs
        simp only [cond_true, idx_nat, hx, Option.bind_some]
        obtain ⟨r, hr, q1, q2, q3⟩ := h1 x (List.mem_of_getElem? hx) s ⟨by omega, by omega⟩
        rw [hr]
        simp only [Option.bind_some]
        rw [wrapK hx hl]
        refine next r ⟨by omega, by omega, by omega, fun h => ?_⟩
        rw [take_next hx, szTs_append]
        simp only [szTs]
        have := p4 hs
        have := q3 h
        omega
termination_by t => t
decreasing_by
  have := List.sizeOf_lt_of_mem hpm
  simp only [api_Type.mk.sizeOf_spec]
  omega
theorem lightPat_ok : ∀ (t : api_Pat), W39 t → Evt fun F => ∀ v, Left v → ∃ r, R04_LightPat F t v = some r ∧ min v 0 - 1048577 ≤ r ∧ r ≤ v - 1
  | ⟨kd, ps, nm, nu, parts⟩, hw => by
    obtain ⟨_, _, _, _, hl, hp⟩ := (W39_iff _).1 hw
    have ih : ∀ p ∈ parts, Evt fun F => ∀ v, Left v → ∃ r, R04_LightPat F p v = some r ∧ min v 0 - 1048577 ≤ r ∧ r ≤ v - 1 := fun p hpm => lightPat_ok p (hp p hpm)
    refine (((Evt.all ih).and (Evt.ge (parts.length + 1))).succ).mono ?_
    rintro F ⟨F', rfl, h1, h2⟩ v hv
    rw [R04_LightPat, R04_LightPat_B]
    have hn := name_part nm.size
    have hv' := hv
    unfold Left at hv'
    have e1 : IntKind.i64.wrap (v - 1) = v - 1 := wrap_ok (by omega) (by omega)
    rw [e1, wrap_ok (by simp only; omega) (by simp only; omega)]
    generalize hw0 : v - 1 - (if 1048576 < (nm.size : Int) then 1048576 else (nm.size : Int)) = w
    have hw1 : v - 1048577 ≤ w ∧ w ≤ v - 1 := by omega
    refine loop_ok parts (fun n s k => R04_LightPat_L0 F' (R04_LightPat F') ⟨kd, ps, nm, nu, parts⟩ n s k) (fun k s => s ≤ w ∧ min w 0 - 1048577 ≤ s ∧ (w < 0 → s = w))
      (fun o => ∃ r, o = some r ∧ min v 0 - 1048577 ≤ r ∧ r ≤ v - 1) ?_ ?_ F' w (by omega) ⟨Int.le_refl _, by omega, fun _ => rfl⟩
    · intro n s ⟨p1, p2, p3⟩
      rw [R04_LightPat_L0]
      simp only [dec_end, Bool.false_and, cond_false]
      exact ⟨s, rfl, by omega, by omega⟩
    · intro n s k x hx ⟨p1, p2, p3⟩ next
      rw [R04_LightPat_L0]
      simp only [dec_lt hx, Bool.true_and]
      cases hs : decide (0 ≤ s) with
      | false =>
        simp only [decide_eq_false_iff_not] at hs
        exact ⟨s, rfl, by omega, by omega⟩
      | true =>
        simp only [decide_eq_true_eq] at hs
        simp only [cond_true, idx_nat, hx, Option.bind_some]
        obtain ⟨r, hr, q1, q2⟩ := h1 x (List.mem_of_getElem? hx) s ⟨by omega, by omega⟩
        rw [hr]
        simp only [Option.bind_some]
        rw [wrapK hx hl]
        exact next r ⟨by omega, by omega, by omega⟩
termination_by t => t
decreasing_by
  have := List.sizeOf_lt_of_mem hpm
  simp only [api_Pat.mk.sizeOf_spec]
  omega
def LtE (v : Int) (o : Option Int) : Prop := ∃ r, o = some r ∧ (0 ≤ v → -3145730 ≤ r) ∧ (v < 0 → v - 2097153 ≤ r) ∧ r ≤ v - 1
theorem light_ok : ∀ (t : api_Expr), W33 t → Evt fun F => ∀ v, Left v → LtE v (R04_Light F t v)
  | ⟨kd, ps, nu, bs, nm, kids, arms⟩, hw => by
    obtain ⟨_, _, _, _, _, ⟨hl, hp⟩, ha, hq⟩ := (W33_iff _).1 hw
    have ih1 : ∀ p ∈ kids, Evt fun F => ∀ v, Left v → LtE v (R04_Light F p v) := fun p hpm => light_ok p (hp p hpm)
    have ih2 : ∀ p ∈ arms, Evt fun F => (∀ v, Left v → ∃ r, R04_LightPat F p.Pat v = some r ∧ min v 0 - 1048577 ≤ r ∧ r ≤ v - 1) ∧ (∀ v, Left v → LtE v (R04_Light F p.Body v)) := fun p hpa =>
      (lightPat_ok p.Pat ((W68_iff _).1 (hq p hpa)).1).and (light_ok p.Body ((W68_iff _).1 (hq p hpa)).2)
    refine (((Evt.all ih1).and (Evt.all ih2)).and ((Evt.ge (kids.length + 1)).and (Evt.ge (arms.length + 1))) |>.succ).mono ?_
    rintro F ⟨F', rfl, ⟨h1, h2⟩, h3, h4⟩ v hv
    rw [R04_Light, R04_Light_B]
    have hn := name_part nm.size
    have hb := name_part bs.length
    have hv' := hv
    unfold Left at hv'
    have e1 : IntKind.i64.wrap (v - 1) = v - 1 := wrap_ok (by omega) (by omega)
    rw [e1, wrap_ok (x := v - 1 - _) (by simp only; omega) (by simp only; omega), wrap_ok (by simp only; omega) (by simp only; omega)]
    simp only
    generalize hw0 : v - 1 - (if 1048576 < (bs.length : Int) then 1048576 else (bs.length : Int)) - (if 1048576 < (nm.size : Int) then 1048576 else (nm.size : Int)) = w
    have hw1 : v - 2097153 ≤ w ∧ w ≤ v - 1 := by omega
    simp only [joinM]
    have armsLoop : ∀ w2, w2 ≤ w → (0 ≤ v → -3145730 ≤ w2) → (w < 0 → w2 = w) → LtE v (R04_Light_L1 F' (R04_Light F') ⟨kd, ps, nu, bs, nm, kids, arms⟩ F' w2 0) := by
      intro w2 g1 g2 g3
      refine loop_ok arms (fun n s k => R04_Light_L1 F' (R04_Light F') ⟨kd, ps, nu, bs, nm, kids, arms⟩ n s k) (fun k s => s ≤ w ∧ (0 ≤ v → -3145730 ≤ s) ∧ (w < 0 → s = w)) (LtE v) ?_ ?_ F' w2 (by omega) ⟨g1, g2, g3⟩
      · intro n s ⟨p1, p2, p3⟩
        rw [R04_Light_L1]
        simp only [dec_end, Bool.false_and, cond_false]
        exact ⟨s, rfl, p2, fun h => by have := p3 (by omega); omega, by omega⟩
      · intro n s k x hx ⟨p1, p2, p3⟩ next
        rw [R04_Light_L1]
        simp only [dec_lt hx, Bool.true_and]
        cases hs : decide (0 ≤ s) with
        | false =>
          simp only [decide_eq_false_iff_not] at hs
          exact ⟨s, rfl, p2, fun h => by have := p3 (by omega); omega, by omega⟩
        | true =>
          simp only [decide_eq_true_eq] at hs
          simp only [cond_true, idx_nat, hx, Option.bind_some]
          obtain ⟨r, hr, q1, q2⟩ := (h2 x (List.mem_of_getElem? hx)).1 s ⟨by omega, by omega⟩
          rw [hr]
          simp only [Option.bind_some]
          obtain ⟨r2, hr2, q3, q4, q5⟩ := (h2 x (List.mem_of_getElem? hx)).2 r ⟨by omega, by omega⟩
          rw [hr2]
          simp only [Option.bind_some]
          rw [wrapK hx ha]
          exact next r2 ⟨by omega, fun h => by rcases Int.lt_or_le r 0 with h' | h'; have := q4 h'; omega; exact q3 h', by omega⟩
    refine loop_ok kids (fun n s k => R04_Light_L0 F' (R04_Light F') ⟨kd, ps, nu, bs, nm, kids, arms⟩ (fun v2 => R04_Light_L1 F' (R04_Light F') ⟨kd, ps, nu, bs, nm, kids, arms⟩ F' v2 0) n s k) (fun k s => s ≤ w ∧ (0 ≤ v → -3145730 ≤ s) ∧ (w < 0 → s = w)) (LtE v) ?_ ?_ F' w (by omega) ⟨Int.le_refl _, by omega, fun _ => rfl⟩
    · intro n s ⟨p1, p2, p3⟩
      rw [R04_Light_L0]
      simp only [dec_end, Bool.false_and, cond_false]
      exact armsLoop s p1 p2 p3
    · intro n s k x hx ⟨p1, p2, p3⟩ next
      rw [R04_Light_L0]
      simp only [dec_lt hx, Bool.true_and]
      cases hs : decide (0 ≤ s) with
      | false => exact armsLoop s p1 p2 p3
      | true =>
        simp only [decide_eq_true_eq] at hs
        simp only [cond_true, idx_nat, hx, Option.bind_some]
        obtain ⟨r, hr, q3, q4, q5⟩ := h1 x (List.mem_of_getElem? hx) s ⟨by omega, by omega⟩
        rw [hr]
        simp only [Option.bind_some]
        rw [wrapK hx hl]
        exact next r ⟨by omega, fun _ => q3 hs, by omega⟩
termination_by t => t
decreasing_by
  · have := List.sizeOf_lt_of_mem hpm
    simp only [api_Expr.mk.sizeOf_spec]
    omega
  · have := List.sizeOf_lt_of_mem hpa
    have : SizeOf.sizeOf p.Body < SizeOf.sizeOf p := by cases p; simp only [api_Arm.mk.sizeOf_spec]; omega
    simp only [api_Expr.mk.sizeOf_spec]
    omega
abbrev conT (c : api_Con) : api_Type := ⟨0, c.Name, c.Fields⟩
theorem conT_W {c : api_Con} (h : W92 c) : W26 (conT c) := (W26_iff _).2 ⟨(show IntKind.i64.min ≤ 0 ∧ 0 ≤ IntKind.i64.max by decide), h.1, h.2⟩
def szC (l : List api_Con) : Nat := l.foldr (fun c n => szT (conT c) + n) 0
def szD (l : List api_Data) : Nat := l.foldr (fun d n => 1 + szC d.Cons + n) 0
theorem szC_append : ∀ (xs ys : List api_Con), szC (xs ++ ys) = szC xs + szC ys
  | [], ys => by simp [szC]
  | x :: xs, ys => by have := szC_append xs ys; simp only [szC] at this ⊢; simp only [List.cons_append, List.foldr_cons, this]; omega
theorem szD_append : ∀ (xs ys : List api_Data), szD (xs ++ ys) = szD xs + szD ys
  | [], ys => by simp [szD]
  | x :: xs, ys => by have := szD_append xs ys; simp only [szD] at this ⊢; simp only [List.cons_append, List.foldr_cons, this]; omega
theorem szC_one (c : api_Con) : szC [c] = szT (conT c) := by simp [szC]
theorem szD_one (d : api_Data) : szD [d] = 1 + szC d.Cons := by simp [szD]
def LT (F : Nat) (t : api_Type) : Prop := ∀ v, Left v → ∃ r, R04_LightType F t v = some r ∧ min v 0 - 1048577 ≤ r ∧ r ≤ v - 1 ∧ (0 ≤ r → (szT t : Int) ≤ v - r)
def LE (F : Nat) (t : api_Expr) : Prop := ∀ v, Left v → LtE v (R04_Light F t v)
theorem consL {F : Nat} {p : api_Prog} {i : Nat} {d : api_Data} {K : Int → Option Int} (hd : p.Datas[i]? = some d) (hl : d.Cons.length ≤ maxLen) (hF : d.Cons.length < F) (h : ∀ c ∈ d.Cons, LT F (conT c)) (w : Int) (hw : -4294967296 ≤ w) (hw2 : w ≤ 1048576) {R : Option Int → Prop}
    (hK : ∀ s, s ≤ w → min w 0 - 1048577 ≤ s → (0 ≤ s → (szC d.Cons : Int) ≤ w - s) → R (K s)) : R (R04_LightProg_L1 F p (i : Int) K F w 0) := by
  refine loop_ok d.Cons (fun n s k => R04_LightProg_L1 F p (i : Int) K n s k) (fun k s => s ≤ w ∧ min w 0 - 1048577 ≤ s ∧ (w < 0 → s = w) ∧ (0 ≤ s → (szC (d.Cons.take k) : Int) ≤ w - s)) R ?_ ?_ F w hF ⟨Int.le_refl _, by omega, fun _ => rfl, fun h => by simp [szC]⟩
  · intro n s ⟨p1, p2, p3, p4⟩
    rw [R04_LightProg_L1]
    simp only [idx_nat, hd, Option.bind_some, dec_end, Bool.false_and, cond_false]
    rw [List.take_length] at p4
    exact hK s p1 p2 p4
  · intro n s k x hx ⟨p1, p2, p3, p4⟩ next
    rw [R04_LightProg_L1]
    simp only [idx_nat, hd, Option.bind_some, dec_lt hx, Bool.true_and]
    cases hs : decide (0 ≤ s) with
    | false =>
      simp only [decide_eq_false_iff_not] at hs
      exact hK s p1 p2 (fun h => absurd h hs)
    | true =>
      simp only [decide_eq_true_eq] at hs
      simp only [cond_true, hx, Option.bind_some]
      obtain ⟨r, hr, q1, q2, q3⟩ := h x (List.mem_of_getElem? hx) s ⟨by omega, by omega⟩
      rw [hr]
      simp only [Option.bind_some]
      rw [wrapK hx hl]
      refine next r ⟨by omega, by omega, by omega, fun h => ?_⟩
      rw [take_next hx, szC_append, szC_one]
      have := p4 hs
      have := q3 h
      omega
theorem datasL {F : Nat} {p : api_Prog} {K : Int → Option Int} (hl : p.Datas.length ≤ maxLen) (hF : p.Datas.length < F) (hc : ∀ d ∈ p.Datas, d.Cons.length ≤ maxLen ∧ d.Cons.length < F ∧ ∀ c ∈ d.Cons, LT F (conT c)) (w : Int) (hw : -4294967296 ≤ w) (hw2 : w ≤ 1048576) {R : Option Int → Prop}
    (hK : ∀ s, s ≤ w → min w 0 - 4194304 ≤ s → (0 ≤ s → (szD p.Datas : Int) ≤ w - s) → R (K s)) : R (R04_LightProg_L0 F p K F w 0) := by
  refine loop_ok p.Datas (fun n s k => R04_LightProg_L0 F p K n s k) (fun k s => s ≤ w ∧ min w 0 - 4194304 ≤ s ∧ (0 ≤ s → (szD (p.Datas.take k) : Int) ≤ w - s)) R ?_ ?_ F w hF ⟨Int.le_refl _, by omega, fun h => by simp [szD]⟩
  · intro n s ⟨p1, p2, p4⟩
    rw [R04_LightProg_L0]
    simp only [dec_end, Bool.false_and, cond_false]
    rw [List.take_length] at p4
    exact hK s p1 p2 p4
  · intro n s k x hx ⟨p1, p2, p4⟩ next
    rw [R04_LightProg_L0]
    simp only [dec_lt hx, Bool.true_and]
    cases hs : decide (0 ≤ s) with
    | false =>
      simp only [decide_eq_false_iff_not] at hs
      exact hK s p1 p2 (fun h => absurd h hs)
    | true =>
      simp only [decide_eq_true_eq] at hs
      simp only [cond_true, idx_nat, hx, Option.bind_some, joinM]
      obtain ⟨c1, c2, c3⟩ := hc x (List.mem_of_getElem? hx)
      have hn := name_part x.Name.size
      have e1 : IntKind.i64.wrap (s - 1) = s - 1 := wrap_ok (by omega) (by omega)
      rw [e1, wrap_ok (x := s - 1 - _) (by omega) (by omega)]
      refine consL hx c1 c2 c3 _ (by omega) (by omega) fun s' g1 g2 g3 => ?_
      rw [wrapK hx hl]
      refine next s' ⟨by omega, by omega, fun h => ?_⟩
      rw [take_next hx, szD_append, szD_one]
      have := p4 hs
      have := g3 h
      omega
theorem paramsL {F : Nat} {f : api_Fun} {K : Int → Option Int} (hl : f.Params.length ≤ maxLen) (hF : f.Params.length < F) (h : ∀ c ∈ f.Params, LT F c.Type_) (w : Int) (hw : -4294967296 ≤ w) (hw2 : w ≤ 1048576) {R : Option Int → Prop}
    (hK : ∀ s, s ≤ w → min w 0 - 4194304 ≤ s → R (K s)) : R (R04_LightProg_L3 F f K F w 0) := by
  refine loop_ok f.Params (fun n s k => R04_LightProg_L3 F f K n s k) (fun k s => s ≤ w ∧ min w 0 - 4194304 ≤ s) R ?_ ?_ F w hF ⟨Int.le_refl _, by omega⟩
  · intro n s ⟨p1, p2⟩
    rw [R04_LightProg_L3]
    simp only [dec_end, Bool.false_and, cond_false]
    exact hK s p1 p2
  · intro n s k x hx ⟨p1, p2⟩ next
    rw [R04_LightProg_L3]
    simp only [dec_lt hx, Bool.true_and]
    cases hs : decide (0 ≤ s) with
    | false => exact hK s p1 p2
    | true =>
      simp only [decide_eq_true_eq] at hs
      simp only [cond_true, idx_nat, hx, Option.bind_some]
      have hn := name_part x.Name.size
      rw [wrap_ok (by omega) (by omega)]
      obtain ⟨r, hr, q1, q2, q3⟩ := h x (List.mem_of_getElem? hx) (s - (if 1048576 < (x.Name.size : Int) then 1048576 else (x.Name.size : Int))) ⟨by omega, by omega⟩
      rw [hr]
      simp only [Option.bind_some]
      rw [wrapK hx hl]
      exact next r ⟨by omega, by omega⟩
theorem funsL {F : Nat} {p : api_Prog} {K : Int → Option Int} (hl : p.Funs.length ≤ maxLen) (hF : p.Funs.length < F) (hc : ∀ f ∈ p.Funs, f.Params.length ≤ maxLen ∧ f.Params.length < F ∧ (∀ c ∈ f.Params, LT F c.Type_) ∧ LT F f.Result ∧ LE F f.Body) (w : Int) (hw : -4294967296 ≤ w) (hw2 : w ≤ 1048576) {R : Option Int → Prop}
    (hK : ∀ s, s ≤ w → min w 0 - 16777216 ≤ s → R (K s)) : R (R04_LightProg_L2 F p K F w 0) := by
  refine loop_ok p.Funs (fun n s k => R04_LightProg_L2 F p K n s k) (fun k s => s ≤ w ∧ min w 0 - 16777216 ≤ s) R ?_ ?_ F w hF ⟨Int.le_refl _, by omega⟩
  · intro n s ⟨p1, p2⟩
    rw [R04_LightProg_L2]
    simp only [dec_end, Bool.false_and, cond_false]
    exact hK s p1 p2
  · intro n s k x hx ⟨p1, p2⟩ next
    rw [R04_LightProg_L2]
    simp only [dec_lt hx, Bool.true_and]
    cases hs : decide (0 ≤ s) with
    | false => exact hK s p1 p2
    | true =>
      simp only [decide_eq_true_eq] at hs
      simp only [cond_true, idx_nat, hx, Option.bind_some, joinM]
      obtain ⟨c1, c2, c3, c4, c5⟩ := hc x (List.mem_of_getElem? hx)
      have hn := name_part x.Name.size
      have e1 : IntKind.i64.wrap (s - 1) = s - 1 := wrap_ok (by omega) (by omega)
      rw [e1, wrap_ok (x := s - 1 - _) (by omega) (by omega)]
      obtain ⟨r, hr, q1, q2, q3⟩ := c4 (s - 1 - (if 1048576 < (x.Name.size : Int) then 1048576 else (x.Name.size : Int))) ⟨by omega, by omega⟩
      rw [hr]
      simp only [Option.bind_some]
      obtain ⟨r2, hr2, q4, q5, q6⟩ := c5 r ⟨by omega, by omega⟩
      rw [hr2]
      simp only [Option.bind_some]
      have hr2' : -8388608 ≤ r2 := by
        rcases Int.lt_or_le r 0 with h' | h'
        · have := q5 h'; omega
        · have := q4 h'; omega
      refine paramsL c1 c2 c3 _ (by omega) (by omega) fun s' g1 g2 => ?_
      rw [wrapK hx hl]
      exact next s' ⟨by omega, by omega⟩
theorem handsL {F : Nat} {p : api_Prog} (hl : p.Hands.length ≤ maxLen) (hF : p.Hands.length < F) (hc : ∀ f ∈ p.Hands, LT F f.Param.Type_ ∧ LE F f.Body) (w : Int) (hw : -4294967296 ≤ w) (hw2 : w ≤ 1048576) {R : Option Int → Prop}
    (hK : ∀ s, s ≤ w → R (some s)) : R (R04_LightProg_L4 F p F w 0) := by
  refine loop_ok p.Hands (fun n s k => R04_LightProg_L4 F p n s k) (fun k s => s ≤ w) R ?_ ?_ F w hF (Int.le_refl _)
  · intro n s p1
    rw [R04_LightProg_L4]
    simp only [dec_end, Bool.false_and, cond_false]
    exact hK s p1
  · intro n s k x hx p1 next
    rw [R04_LightProg_L4]
    simp only [dec_lt hx, Bool.true_and]
    cases hs : decide (0 ≤ s) with
    | false => exact hK s p1
    | true =>
      simp only [decide_eq_true_eq] at hs
      simp only [cond_true, idx_nat, hx, Option.bind_some]
      obtain ⟨c4, c5⟩ := hc x (List.mem_of_getElem? hx)
      have hn := name_part x.Name.size
      have hn2 := name_part x.Param.Name.size
      have e1 : IntKind.i64.wrap (s - 1) = s - 1 := wrap_ok (by omega) (by omega)
      rw [e1, wrap_ok (x := s - 1 - _) (by omega) (by omega), wrap_ok (by omega) (by omega)]
      obtain ⟨r, hr, q1, q2, q3⟩ := c4 (s - 1 - (if 1048576 < (x.Name.size : Int) then 1048576 else (x.Name.size : Int)) - (if 1048576 < (x.Param.Name.size : Int) then 1048576 else (x.Param.Name.size : Int))) ⟨by omega, by omega⟩
      rw [hr]
      simp only [Option.bind_some]
      obtain ⟨r2, hr2, q4, q5, q6⟩ := c5 r ⟨by omega, by omega⟩
      rw [hr2]
      simp only [Option.bind_some]
      rw [wrapK hx hl]
      exact next r2 (by omega)
theorem rl {n : Nat} (h : n ≤ reachBytes) : n ≤ maxLen := Nat.le_trans h (by decide)
theorem lightProg_ok (p : api_Prog) (hw : W36 p) (v : Int) (hv0 : 0 ≤ v) (hv1 : v ≤ 1048576) : Evt fun F => ∃ r, R04_LightProg F p v = some r ∧ (0 ≤ r → (szD p.Datas : Int) ≤ v) := by
  obtain ⟨⟨w1, w2⟩, ⟨w3, w4⟩, _, _, w5, _, w6, w7, w8⟩ := hw
  have hD : ∀ d ∈ p.Datas, Evt fun F => d.Cons.length ≤ maxLen ∧ d.Cons.length < F ∧ ∀ c ∈ d.Cons, LT F (conT c) := fun d hd => by
    obtain ⟨_, _, g1, g2⟩ := w2 d hd
    exact ((Evt.ge (d.Cons.length + 1)).and (Evt.all fun c hc => lightType_ok (conT c) (conT_W (g2 c hc)))).mono fun F ⟨a, b⟩ => ⟨rl g1, a, b⟩
  have hFn : ∀ f ∈ p.Funs, Evt fun F => f.Params.length ≤ maxLen ∧ f.Params.length < F ∧ (∀ c ∈ f.Params, LT F c.Type_) ∧ LT F f.Result ∧ LE F f.Body := fun f hf => by
    obtain ⟨_, _, ⟨g1, g2⟩, g3, g4⟩ := w4 f hf
    exact (((Evt.ge (f.Params.length + 1)).and (Evt.all fun c hc => lightType_ok c.Type_ (g2 c hc).2)).and ((lightType_ok f.Result g3).and (light_ok f.Body g4))).mono fun F ⟨⟨a, b⟩, c, d⟩ => ⟨rl g1, a, b, c, d⟩
  have hH : ∀ f ∈ p.Hands, Evt fun F => LT F f.Param.Type_ ∧ LE F f.Body := fun f hf => by
    obtain ⟨_, _, ⟨_, g3⟩, _, g4⟩ := w8 f hf
    exact (lightType_ok _ g3).and (light_ok f.Body g4)
  refine (((Evt.all hD).and ((Evt.all hFn).and (Evt.all hH))).and (((lightType_ok p.State w5).and (light_ok p.Init w6)).and ((Evt.ge (p.Datas.length + 1)).and ((Evt.ge (p.Funs.length + 1)).and (Evt.ge (p.Hands.length + 1)))))).mono ?_
  rintro F ⟨⟨a1, a2, a3⟩, ⟨a4, a5⟩, a6, a7, a8⟩
  rw [R04_LightProg]
  obtain ⟨r, hr, q1, q2, q3⟩ := a4 v ⟨by omega, by omega⟩
  rw [hr]
  simp only [Option.bind_some]
  obtain ⟨r2, hr2, q4, q5, q6⟩ := a5 r ⟨by omega, by omega⟩
  rw [hr2]
  simp only [Option.bind_some, joinM]
  have hr2' : -8388608 ≤ r2 := by
    rcases Int.lt_or_le r 0 with h' | h'
    · have := q5 h'; omega
    · have := q4 h'; omega
  refine datasL (rl w1) a6 a1 r2 (by omega) (by omega) (R := fun o => ∃ r, o = some r ∧ (0 ≤ r → (szD p.Datas : Int) ≤ v)) fun s g1 g2 g3 => ?_
  refine funsL (rl w3) a7 a2 s (by omega) (by omega) (R := fun o => ∃ r, o = some r ∧ (0 ≤ r → (szD p.Datas : Int) ≤ v)) fun s2 g4 g5 => ?_
  exact handsL (rl w7) a8 a3 s2 (by omega) (by omega) (R := fun o => ∃ r, o = some r ∧ (0 ≤ r → (szD p.Datas : Int) ≤ v)) fun s3 g6 => ⟨s3, rfl, fun h => by have := g3 (by omega); omega⟩
end Go.Proofs.YtappiofmkoelnaaGreatDoor.M
end
