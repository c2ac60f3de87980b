/-
  What a law's arguments look like.
-/
import Derived.Test.YtcdafogfmijcpaaAh19
namespace Go.Proofs.Ytcdafogfmijcpaa
open Go.Proofs.YtcdafogfmijcpaaW.Ah
set_option linter.unusedVariables false
set_option linter.unusedSimpArgs false

theorem typ_int {T : Tab} {t : Nat} {i : TI} {k : IntKind} {cs : List AV} (h : Typ T t cs) (ht : T t = some i) (hk : i.k = .int k) : ∃ n, cs = [.sc (.int k n)] ∧ (Lit.int k n).wf = true := by
  cases h with
  | int n h1 h2 h3 => rw [ht] at h1; cases h1; rw [hk] at h2; cases h2; exact ⟨n, rfl, h3⟩
  | bool b h1 h2 => rw [ht] at h1; cases h1; rw [hk] at h2; cases h2
  | str s h1 h2 => rw [ht] at h1; cases h1; rw [hk] at h2; cases h2
  | slice xs h1 h2 => rw [ht] at h1; cases h1; rw [hk] at h2; cases h2
  | struct ps h1 h2 => rw [ht] at h1; cases h1; rw [hk] at h2; cases h2
  | arr xs h1 h2 => rw [ht] at h1; cases h1; rw [hk] at h2; cases h2
  | other _ hs => have := hs i ht; rw [hk] at this; exact this.elim

theorem typA_int {T : Tab} {t : Nat} {i : TI} {k : IntKind} {a : AV} (h : TypA T t a) (ht : T t = some i) (hk : i.k = .int k) : ∃ n, a = .sc (.int k n) ∧ (Lit.int k n).wf = true := by
  obtain ⟨cs, i', h1, h2, h3⟩ := h
  rw [ht] at h1; cases h1
  rw [hk] at h3
  simp [aggK] at h3
  obtain ⟨n, e, hw⟩ := typ_int h2 ht hk
  rw [h3] at e; cases e
  exact ⟨n, rfl, hw⟩

theorem typA_ints {T : Tab} {t e : Nat} {i ie : TI} {k : IntKind} {a : AV} (h : TypA T t a) (ht : T t = some i) (hk : i.k = .slice e) (he : T e = some ie) (hz : ie.size = 1) (hke : ie.k = .int k) :
    ∃ xs : List Int, a = .ssl (encs (fun x => [.sc (.int k x)]) xs) xs.length false := by
  obtain ⟨cs, i', h1, h2, h3⟩ := h
  rw [ht] at h1; cases h1
  rw [hk] at h3
  simp [aggK] at h3
  subst h3
  generalize hc : [a] = cs at h2
  cases h2 with
  | slice xs h1 h2 h4 h5 h6 h7 h8 =>
    rw [ht] at h1; cases h1; rw [hk] at h2; cases h2
    cases hc
    have : ∃ ys : List Int, xs.flatten = encs (fun x => [.sc (.int k x)]) ys ∧ xs.length = ys.length := by
      clear h7 h8 hk ht h5
      induction xs with
      | nil => exact ⟨[], rfl, rfl⟩
      | cons x xs ih =>
        obtain ⟨ys, e1, e2⟩ := ih (fun y hy => h6 y (by simp [hy]))
        rw [he] at h4; cases h4
        obtain ⟨n, e3, _⟩ := typ_int (h6 x (by simp)) he hke
        exact ⟨n :: ys, by rw [List.flatten_cons, e1, e3, encs_cons], by simp [e2]⟩
    obtain ⟨ys, e1, e2⟩ := this
    exact ⟨ys, by rw [e1, e2]⟩
  | bool b h1 h2 => rw [ht] at h1; cases h1; rw [hk] at h2; cases h2
  | int n h1 h2 => rw [ht] at h1; cases h1; rw [hk] at h2; cases h2
  | str s h1 h2 => rw [ht] at h1; cases h1; rw [hk] at h2; cases h2
  | struct ps h1 h2 => rw [ht] at h1; cases h1; rw [hk] at h2; cases h2
  | arr xs h1 h2 => rw [ht] at h1; cases h1; rw [hk] at h2; cases h2
  | other _ hs => have := hs i ht; rw [hk] at this; exact absurd hz (by have := this ie he; omega)

end Go.Proofs.Ytcdafogfmijcpaa
