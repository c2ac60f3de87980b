/-
  A statement's arguments, opened: rows, arrays, structs.
-/
import Derived.Test.YtcdafogfmijcpaaTyp2
import Derived.Test.YtcdafogfmijcpaaAhM
namespace Go.Proofs.Ytcdafogfmijcpaa
open Go.Proofs.YtcdafogfmijcpaaW.Ah
set_option linter.unusedVariables false
set_option linter.unusedSimpArgs false

theorem typ_bool {T : Tab} {t : Nat} {i : TI} {cs : List AV} (h : Typ T t cs) (ht : T t = some i) (hk : i.k = .bool) : ∃ b, cs = [.sc (.bool b)] := by
  cases h with
  | bool b h1 h2 => exact ⟨b, rfl⟩
  | int n h1 h2 h3 => rw [ht] at h1; cases h1; rw [hk] at h2; cases h2
  | str s h1 h2 => rw [ht] at h1; cases h1; rw [hk] at h2; cases h2
  | slice xs h1 h2 => rw [ht] at h1; cases h1; rw [hk] at h2; cases h2
  | struct ps h1 h2 => rw [ht] at h1; cases h1; rw [hk] at h2; cases h2
  | arr xs h1 h2 => rw [ht] at h1; cases h1; rw [hk] at h2; cases h2
  | other _ hs => have := hs i ht; rw [hk] at this; exact this.elim

theorem typ_str {T : Tab} {t : Nat} {i : TI} {cs : List AV} (h : Typ T t cs) (ht : T t = some i) (hk : i.k = .str) : ∃ s : ByteArray, cs = [.sc (.string s)] ∧ s.size ≤ maxLen := by
  cases h with
  | str s h1 h2 h3 => exact ⟨s, rfl, h3⟩
  | bool b h1 h2 => rw [ht] at h1; cases h1; rw [hk] at h2; cases h2
  | int n h1 h2 h3 => rw [ht] at h1; cases h1; rw [hk] at h2; cases h2
  | slice xs h1 h2 => rw [ht] at h1; cases h1; rw [hk] at h2; cases h2
  | struct ps h1 h2 => rw [ht] at h1; cases h1; rw [hk] at h2; cases h2
  | arr xs h1 h2 => rw [ht] at h1; cases h1; rw [hk] at h2; cases h2
  | other _ hs => have := hs i ht; rw [hk] at this; exact this.elim

theorem rows_of {α : Type} {c : α → List AV} {Pr : α → Prop} {T : Tab} {e : Nat} : ∀ {xs : List (List AV)}, (∀ x ∈ xs, Typ T e x) → (∀ cs, Typ T e cs → ∃ x, cs = c x ∧ Pr x) → ∃ ys : List α, xs.flatten = encs c ys ∧ xs.length = ys.length ∧ ∀ y ∈ ys, Pr y
  | [], _, _ => ⟨[], rfl, rfl, fun _ h => by cases h⟩
  | x :: xs, h, hel => by
    obtain ⟨ys, e1, e2, e3⟩ := rows_of (fun y hy => h y (List.mem_cons_of_mem _ hy)) hel
    obtain ⟨y, e4, e5⟩ := hel x (h x List.mem_cons_self)
    refine ⟨y :: ys, by rw [List.flatten_cons, e1, e4, encs_cons], by simp [e2], fun z hz => ?_⟩
    rcases List.mem_cons.1 hz with rfl | h
    · exact e5
    · exact e3 z h

theorem rowsR {α : Type} {c : α → List AV} {Pr : α → Prop} : ∀ {xs : List (List AV)}, (∀ x ∈ xs, ∃ y, x = c y ∧ Pr y) → ∃ ys : List α, xs.flatten = encs c ys ∧ xs.length = ys.length ∧ ∀ y ∈ ys, Pr y
  | [], _ => ⟨[], rfl, rfl, fun _ h => by cases h⟩
  | x :: xs, h => by
    obtain ⟨ys, e1, e2, e3⟩ := rowsR (fun y hy => h y (List.mem_cons_of_mem _ hy))
    obtain ⟨y, e4, e5⟩ := h x List.mem_cons_self
    refine ⟨y :: ys, by rw [List.flatten_cons, e1, e4, encs_cons], by simp [e2], fun z hz => ?_⟩
    rcases List.mem_cons.1 hz with rfl | h
    · exact e5
    · exact e3 z h

theorem typ_slice {α : Type} (c : α → List AV) (Pr : α → Prop) {T : Tab} {t e : Nat} {i ie : TI} {cs : List AV} (h : Typ T t cs) (ht : T t = some i) (hk : i.k = .slice e) (he : T e = some ie) (hz : 0 < ie.size) (hel : ∀ cs, Typ T e cs → ∃ x, cs = c x ∧ Pr x) (hby : 0 < ie.bytes := by decide) :
    ∃ xs : List α, cs = [.ssl (encs c xs) xs.length false] ∧ xs.length ≤ reachBytes ∧ ∀ x ∈ xs, Pr x := by
  cases h with
  | slice xs h1 h2 h4 h5 h6 h7 h8 =>
    rw [ht] at h1; cases h1; rw [hk] at h2; cases h2; rw [he] at h4; cases h4
    obtain ⟨ys, e1, e2, e3⟩ := rows_of h6 hel
    exact ⟨ys, by rw [e1, e2], by rw [← e2]; exact Nat.le_trans (Nat.le_mul_of_pos_right _ hby) h8.2, e3⟩
  | bool b h1 h2 => rw [ht] at h1; cases h1; rw [hk] at h2; cases h2
  | int n h1 h2 h3 => rw [ht] at h1; cases h1; rw [hk] at h2; cases h2
  | str s h1 h2 => rw [ht] at h1; cases h1; rw [hk] at h2; cases h2
  | struct ps h1 h2 => rw [ht] at h1; cases h1; rw [hk] at h2; cases h2
  | arr xs h1 h2 => rw [ht] at h1; cases h1; rw [hk] at h2; cases h2
  | other _ hs => have := hs i ht; rw [hk] at this; have := this ie he; omega

theorem typ_arr {α : Type} (c : α → List AV) (Pr : α → Prop) {T : Tab} {t n e : Nat} {i ie : TI} {cs : List AV} (h : Typ T t cs) (ht : T t = some i) (hk : i.k = .arr n e) (he : T e = some ie) (hz : n * ie.size = i.size) (hel : ∀ cs, Typ T e cs → ∃ x, cs = c x ∧ Pr x) :
    ∃ a : Arr n α, cs = encs c a.1 ∧ ∀ x ∈ a.1, Pr x := by
  cases h with
  | arr xs h1 h2 h4 h5 h6 h7 =>
    rw [ht] at h1; cases h1; rw [hk] at h2; cases h2
    obtain ⟨ys, e1, e2, e3⟩ := rows_of h6 hel
    exact ⟨⟨ys, by omega⟩, e1, e3⟩
  | bool b h1 h2 => rw [ht] at h1; cases h1; rw [hk] at h2; cases h2
  | int n h1 h2 h3 => rw [ht] at h1; cases h1; rw [hk] at h2; cases h2
  | str s h1 h2 => rw [ht] at h1; cases h1; rw [hk] at h2; cases h2
  | struct ps h1 h2 => rw [ht] at h1; cases h1; rw [hk] at h2; cases h2
  | slice xs h1 h2 => rw [ht] at h1; cases h1; rw [hk] at h2; cases h2
  | other _ hs => have := hs i ht; rw [hk] at this; exact absurd hz (this ie he)

theorem typA_one {T : Tab} {t : Nat} {i : TI} {a : AV} (h : TypA T t a) (ht : T t = some i) (hk : aggK i.k = false) : Typ T t [a] := by
  obtain ⟨cs, i', h1, h2, h3⟩ := h
  rw [ht] at h1; cases h1
  rw [hk] at h3
  simp at h3
  subst h3; exact h2
theorem typA_agg {T : Tab} {t : Nat} {i : TI} {a : AV} (h : TypA T t a) (ht : T t = some i) (hk : aggK i.k = true) : ∃ cs, a = .agg cs ∧ Typ T t cs := by
  obtain ⟨cs, i', h1, h2, h3⟩ := h
  rw [ht] at h1; cases h1
  rw [if_pos hk] at h3
  exact ⟨cs, h3, h2⟩
end Go.Proofs.Ytcdafogfmijcpaa
