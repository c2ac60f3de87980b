/-
  A part from the front of a slice of one's own; a byte of a text.
-/
import Derived.Test.YtcdafogfmijcpaaAhM
namespace Go.Proofs.YtcdafogfmijcpaaW.Ah
set_option linter.unusedVariables false
set_option linter.unusedSimpArgs false

theorem OwnC.take {α : Type} {H : Mem} {ty z : Nat} {e : α → List AV} {o c : Option Nat} {xs : List α} (h : OwnC H ty z e o c xs) (m : Nat) : OwnC H ty z e o c (xs.take m) := by
  cases o with
  | none => have : xs = [] := h; subst this; simp [OwnC]
  | some i =>
    obtain ⟨ys, h1, h2⟩ := h
    have e1 : encs e xs = encs e (xs.take m) ++ encs e (xs.drop m) := by rw [← encs_append, List.take_append_drop]
    refine ⟨encs e (xs.drop m) ++ ys, by rw [h1, e1, List.append_assoc], fun k hk => ?_⟩
    obtain ⟨g1, g2⟩ := h2 k hk
    refine ⟨by rw [List.length_take]; omega, ?_⟩
    rw [e1, List.append_assoc] at g2
    exact g2

theorem vop_subO {T : Tab} {t : Nat → AV} {H : Mem} {s e : Nat} {i ie : TI} {α : Type} {c : α → List AV} {z : Nat} (hs : T s = some i) (hk : i.k = .slice e) (he : T e = some ie) (hz : ie.size = z) {x hi : Operand} {xs : List α} {h : Int} {kk : IntKind} {o cap : Option Nat}
    (hx : ev t x = slc o xs.length cap) (hO : OwnC H e z c o cap xs) (hh : ev t hi = .sc (.int kk h)) (h0 : 0 ≤ h) (h1 : h ≤ xs.length) : vop T t H (.slice s x none (some hi) none) = some (slc o (xs.take h.toNat).length cap) := by
  have hl : (xs.take h.toNat).length = h.toNat := by rw [List.length_take]; omega
  rw [hl]
  cases o with
  | none =>
    have : xs = [] := hO
    subst this
    have h00 : h = 0 := by simp at h1; omega
    subst h00
    simp only [vop, hs, hk, hx, slc, sizeT, he, bounds, optBound, boundOf, Option.map, hh]
    simp
  | some b =>
    obtain ⟨ys, b1, b2⟩ := hO
    have hlim : xs.length ≤ limOf H e z b 0 xs.length cap := by
      unfold limOf
      cases cap with
      | some q => exact (b2 q rfl).1
      | none => simp only [b1, if_true]; omega
    have hnat : natOk H e b cap = true := by
      unfold natOk
      cases cap with
      | some q => rfl
      | none => simp [b1]
    have hle : h ≤ limOf H e z b 0 xs.length cap := by omega
    simp only [vop, hs, hk, hx, sizeT, he, bounds, optBound, boundOf, hh, slc, hnat, if_true, Option.map, hz]
    rw [if_pos ⟨h0, hle⟩]
    simp
    cases cap <;> rfl

/-- The first of a row. -/
def takM {α : Type} (xs : List α) (h : Int) : Option (List α) := if 0 ≤ h ∧ h ≤ xs.length then some (xs.take h.toNat) else none
theorem takM_ok {α : Type} {xs ys : List α} {h : Int} (e : takM xs h = some ys) : 0 ≤ h ∧ h ≤ xs.length ∧ xs.take h.toNat = ys := by
  unfold takM at e
  split at e
  · next hc => cases e; exact ⟨hc.1, hc.2, rfl⟩
  · cases e

/-- A byte of a text. -/
def sidx (s : ByteArray) (k : Int) : Option Int := if 0 ≤ k ∧ k < s.size then some ((s.data.toList.getD k.toNat 0).toNat : Int) else none
theorem vop_sidx {T : Tab} {t : Nat → AV} {H : Mem} {s : Nat} {i : TI} (hs : T s = some i) (hk : i.k = .str) {x ix : Operand} {b : ByteArray} {k v : Int} {kk : IntKind} (hx : ev t x = .sc (.string b)) (hi : ev t ix = .sc (.int kk k)) (h : sidx b k = some v) : vop T t H (.index s x ix) = some (.sc (.int .u8 v)) := by
  unfold sidx at h
  split at h
  · next hc =>
    cases h
    simp only [vop, hs, hk, hx, hi]
    rw [if_pos hc]
  · cases h

/-- A row of bytes as a text. -/
theorem u8s_encs {c : Int → List AV} (hc : ∀ x, c x = [.sc (.int .u8 x)]) : ∀ xs : List Int, u8s (encs c xs) = some xs
  | [] => rfl
  | x :: xs => by
    rw [encs_cons, hc]
    show u8s (.sc (.int .u8 x) :: encs c xs) = _
    rw [u8s, u8s_encs hc xs]; rfl
theorem vop_text {T : Tab} {t : Nat → AV} {H : Mem} {s d e : Nat} {i j : TI} {c : Int → List AV} (hc : ∀ x, c x = [.sc (.int .u8 x)]) (hs : T s = some i) (hk : i.k = .slice e) (hd : T d = some j) (hkd : j.k = .str) (h8 : isU8 T e = true) {x : Operand} {xs : List Int} {f : Bool} (hx : ev t x = .ssl (encs c xs) xs.length f) : vop T t H (.convert s d x) = some (.sc (.string (textOf xs))) := by
  have key : ∀ l : List Int, (encs c l).length = l.length := fun l => by
    induction l with
    | nil => rfl
    | cons y ys ih => rw [encs_cons, hc, List.length_append, ih]; simp; omega
  simp only [vop, convAV, hs, hd, hk, hkd, hx]
  rw [List.take_of_length_le (by rw [key]; exact Nat.le_refl _), u8s_encs hc]
  simp [h8]
end Go.Proofs.YtcdafogfmijcpaaW.Ah
