/-
  What a law's arguments look like: rows of structs.
-/
import Derived.Test.YtcdafogfmijcpaaTyp
import Derived.Test.YtcdafogfmijcpaaAh17
namespace Go.Proofs.Ytcdafogfmijcpaa
open Go.Proofs.YtcdafogfmijcpaaW.Ah
set_option linter.unusedVariables false
set_option linter.unusedSimpArgs false

theorem typ_struct {T : Tab} {t : Nat} {i : TI} {fs : List (Nat × Nat)} {cs : List AV} (h : Typ T t cs) (ht : T t = some i) (hk : i.k = .struct fs) (hs : ¬ shut T t) :
    ∃ ps : List (List AV), cs = ps.flatten ∧ ps.length = fs.length ∧ ∀ (k : Nat) f p, fs[k]? = some f → ps[k]? = some p → Typ T f.2 p := by
  cases h with
  | struct ps h1 h2 h3 h4 => rw [ht] at h1; cases h1; rw [hk] at h2; cases h2; exact ⟨ps, rfl, h3, h4⟩
  | bool b h1 h2 => rw [ht] at h1; cases h1; rw [hk] at h2; cases h2
  | int n h1 h2 => rw [ht] at h1; cases h1; rw [hk] at h2; cases h2
  | str s h1 h2 => rw [ht] at h1; cases h1; rw [hk] at h2; cases h2
  | slice xs h1 h2 => rw [ht] at h1; cases h1; rw [hk] at h2; cases h2
  | arr xs h1 h2 => rw [ht] at h1; cases h1; rw [hk] at h2; cases h2
  | other _ h1 => exact absurd h1 hs

theorem typA_slice {α : Type} (enc : α → List AV) (Pr : α → Prop) {T : Tab} {t e : Nat} {i ie : TI} {a : AV} (h : TypA T t a) (ht : T t = some i) (hk : i.k = .slice e) (he : T e = some ie) (hz : 0 < ie.size) (hel : ∀ cs, Typ T e cs → ∃ x, cs = enc x ∧ Pr x) :
    ∃ xs : List α, a = .ssl (encs enc xs) xs.length false ∧ ∀ x ∈ xs, Pr x := by
  obtain ⟨cs, i', h1, h2, h3⟩ := h
  rw [ht] at h1; cases h1
  rw [hk] at h3
  simp [aggK] at h3
  subst h3
  generalize hc : [a] = cs at h2
  cases h2 with
  | slice xs h1 h2 h4 h5 h6 h7 h8 =>
    rw [ht] at h1; cases h1; rw [hk] at h2; cases h2
    cases hc
    have : ∃ ys : List α, xs.flatten = encs enc ys ∧ xs.length = ys.length ∧ ∀ y ∈ ys, Pr y := by
      clear h7 h8 hk ht h5
      induction xs with
      | nil => exact ⟨[], rfl, rfl, fun _ h => by cases h⟩
      | cons x xs ih =>
        obtain ⟨ys, e1, e2, e3⟩ := ih (fun y hy => h6 y (by simp [hy]))
        obtain ⟨y, e4, e5⟩ := hel x (h6 x (by simp))
        refine ⟨y :: ys, by rw [List.flatten_cons, e1, e4, encs_cons], by simp [e2], fun z hz => ?_⟩
        rcases List.mem_cons.1 hz with rfl | h
        · exact e5
        · exact e3 z h
    obtain ⟨ys, e1, e2, e3⟩ := this
    exact ⟨ys, by rw [e1, e2], e3⟩
  | bool b h1 h2 => rw [ht] at h1; cases h1; rw [hk] at h2; cases h2
  | int n h1 h2 => rw [ht] at h1; cases h1; rw [hk] at h2; cases h2
  | str s h1 h2 => rw [ht] at h1; cases h1; rw [hk] at h2; cases h2
  | struct ps h1 h2 => rw [ht] at h1; cases h1; rw [hk] at h2; cases h2
  | arr xs h1 h2 => rw [ht] at h1; cases h1; rw [hk] at h2; cases h2
  | other _ hs => have := hs i ht; rw [hk] at this; exact absurd hz (by have := this ie he; omega)
end Go.Proofs.Ytcdafogfmijcpaa
