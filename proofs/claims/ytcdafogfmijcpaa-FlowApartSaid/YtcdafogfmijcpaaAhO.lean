/-
  Slices that their holder owns, and appends to.
-/
import Derived.Test.YtcdafogfmijcpaaAh17
namespace Go.Proofs.YtcdafogfmijcpaaW.Ah
set_option linter.unusedVariables false
set_option linter.unusedSimpArgs false

/-- A slice variable: never filled, or a block from its begin. -/
def slv : Option Nat → Nat → AV
  | none, _ => .sc (.slice none 0 0)
  | some i, n => .osl i 0 n none

@[simp] theorem slv_none (n : Nat) : slv none n = .sc (.slice none 0 0) := rfl
@[simp] theorem slv_some (i n : Nat) : slv (some i) n = .osl i 0 n none := rfl

/-! The cells of what is not opened any further. -/
theorem cellsOf_sc (v : Value) : cellsOf (.sc v) = [.sc v] := rfl
theorem cellOk_sc (v : Value) : cellOk (.sc v) = v.oneCell' := rfl
theorem partOk_sc (v : Value) : partOk (.sc v) = v.oneCell' := rfl
theorem cellsOf_own (i o : Nat) : cellsOf (.own i o) = [.own i o] := rfl
theorem cellOk_own (i o : Nat) : cellOk (.own i o) = true := rfl
theorem partOk_own (i o : Nat) : partOk (.own i o) = true := rfl
theorem cellsOf_osl (i o n : Nat) (c : Option Nat) : cellsOf (.osl i o n c) = [.osl i o n c] := rfl
theorem cellOk_osl (i o n : Nat) (c : Option Nat) : cellOk (.osl i o n c) = true := rfl
theorem partOk_osl (i o n : Nat) (c : Option Nat) : partOk (.osl i o n c) = true := rfl
theorem cellsOf_sh (cs : List AV) : cellsOf (.sh cs) = [.sh cs] := rfl
theorem cellOk_sh (cs : List AV) : cellOk (.sh cs) = true := rfl
theorem partOk_sh (cs : List AV) : partOk (.sh cs) = true := rfl
theorem cellsOf_ssl (cs : List AV) (n : Nat) (f : Bool) : cellsOf (.ssl cs n f) = [.ssl cs n f] := rfl
theorem cellOk_ssl (cs : List AV) (n : Nat) (f : Bool) : cellOk (.ssl cs n f) = true := rfl
theorem partOk_ssl (cs : List AV) (n : Nat) (f : Bool) : partOk (.ssl cs n f) = true := rfl
theorem cellsOf_esl (f : Bool) : cellsOf (.esl f) = [.esl f] := rfl
theorem cellOk_esl (f : Bool) : cellOk (.esl f) = true := rfl
theorem partOk_esl (f : Bool) : partOk (.esl f) = true := rfl
theorem cellsOf_fn (f : Fn) (x y : List AV) : cellsOf (.fn f x y) = [.fn f x y] := rfl
theorem cellOk_fn (f : Fn) (x y : List AV) : cellOk (.fn f x y) = true := rfl
theorem partOk_fn (f : Fn) (x y : List AV) : partOk (.fn f x y) = true := rfl
theorem cellsOf_omap (i : Nat) : cellsOf (.omap i) = [.omap i] := rfl
theorem cellsOf_yld (i : Nat) : cellsOf (.yld i) = [.yld i] := rfl
theorem cellOk_omap (i : Nat) : cellOk (.omap i) = true := rfl
theorem cellOk_yld (i : Nat) : cellOk (.yld i) = true := rfl
theorem partOk_omap (i : Nat) : partOk (.omap i) = true := rfl
theorem partOk_yld (i : Nat) : partOk (.yld i) = true := rfl
theorem cellsOf_agg (cs : List AV) : cellsOf (.agg cs) = cs := rfl
theorem partOk_agg (cs : List AV) : partOk (.agg cs) = true := rfl
theorem cellsOf_slv (o : Option Nat) (n : Nat) : cellsOf (slv o n) = [slv o n] := by cases o <;> rfl
theorem cellOk_slv (o : Option Nat) (n : Nat) : cellOk (slv o n) = true := by cases o <;> rfl
theorem partOk_slv (o : Option Nat) (n : Nat) : partOk (slv o n) = true := by cases o <;> rfl

def Own {α : Type} (H : Mem) (ty : Nat) (e : α → List AV) : Option Nat → List α → Prop
  | none, xs => xs = []
  | some i, xs => ∃ ys, H i = some (.cells (encs e xs ++ ys) ty)

theorem Own.mono {α : Type} {H H' : Mem} {ty : Nat} {e : α → List AV} {o : Option Nat} {xs : List α} (h : Own H ty e o xs) (hk : ∀ i, o = some i → H' i = H i) : Own H' ty e o xs := by
  cases o with
  | none => exact h
  | some i =>
    obtain ⟨ys, h⟩ := h
    exact ⟨ys, by rw [hk i rfl, h]⟩

theorem Own.take {α : Type} {H : Mem} {ty : Nat} {e : α → List AV} {o : Option Nat} {xs : List α} (h : Own H ty e o xs) (k : Nat) : Own H ty e o (xs.take k) := by
  cases o with
  | none => simp only [Own] at h ⊢; subst h; simp
  | some i =>
    obtain ⟨ys, h⟩ := h
    refine ⟨encs e (xs.drop k) ++ ys, ?_⟩
    rw [h, ← List.append_assoc, ← encs_append, List.take_append_drop]

section
variable {α : Type} {e : α → List AV} {z : Nat} [hE : Enc e z]

theorem append_own {T : Tab} {st ty : Nat} {i ie : TI} (hst : T st = some i) (hk : i.k = .slice ty) (hty : T ty = some ie) (hz : ie.size = z) (hz0 : 0 < z) (hzero : ie.zero.length = ie.size) (hb : ie.bytes ≤ 2 ^ 20)
    {H : Mem} {n : Nat} {o : Option Nat} {xs : List α} (ho : Own H ty e o xs) (hn : ∀ i, o = some i → i < n) {y : AV} (ys : List α) (hy : elemsOf H z y = some (ys.length, encs e ys)) (hok : (encs e ys).all cellOk = true)
    (hr : (xs.length + ys.length) * ie.bytes ≤ roomMax) (hr' : xs.length + ys.length ≤ roomMax) :
    ∃ o' H' n', appendAV T H n st (slv o xs.length) y = some (slv o' (xs ++ ys).length, H', n') ∧ Own H' ty e o' (xs ++ ys) ∧ n ≤ n' ∧ (∀ i, o' = some i → (o = some i ∨ n ≤ i) ∧ i < n') ∧ (∀ j, j < n → o ≠ some j → H' j = H j) := by
  unfold appendAV
  rw [hst]; simp only [hk, hty, hz]
  cases o with
  | none =>
    simp only [Own] at ho
    subst ho
    have hel : elemsOf H z (.sc (.slice none 0 0)) = some (0, []) := rfl
    simp only [slv_none, hel, hy, List.nil_append]
    rw [if_pos ⟨by simpa using hr, by simpa using hr', hb, hz0, by omega, hok⟩]
    by_cases h0 : ys.length = 0
    · rw [if_pos h0]
      have : ys = [] := List.length_eq_zero_iff.1 h0
      subst this
      exact ⟨none, H, n, rfl, rfl, Nat.le_refl _, (fun i h => by cases h), fun j _ _ => rfl⟩
    · rw [if_neg h0]
      exact ⟨some n, _, n + 1, rfl, ⟨[], by rw [upd_same]; simp⟩, by omega, (fun i h => by cases h; exact ⟨.inr (Nat.le_refl _), by omega⟩), fun j hj _ => by rw [upd_ne _ _ (by omega)]⟩
  | some b =>
    obtain ⟨zs, ho⟩ := ho
    have hlt := hn b rfl
    have hel : elemsOf H z (.osl b 0 xs.length none) = some (xs.length, encs e xs) := by
      simp only [elemsOf, ho]
      rw [if_pos (by simp [length_encs])]
      simp only [List.drop_zero]
      rw [← length_encs (e := e) xs, List.take_left']
      rfl
    simp only [slv_some, hel, hy]
    rw [if_pos ⟨hr, hr', hb, hz0, by omega, hok⟩]
    simp only [ho, if_true, fitsC, true_and, Nat.zero_add]
    split
    · rename_i hle
      refine ⟨some b, upd H b (some (.cells (splice (encs e xs ++ zs) (xs.length * z) (encs e ys)) ty)), n, by simp, ⟨zs.drop (ys.length * z), ?_⟩, Nat.le_refl _, (fun i h => by cases h; exact ⟨.inl rfl, hlt⟩), fun j hj hne => by rw [upd_ne]; intro e; exact hne (by rw [e])⟩
      rw [upd_same]
      have h1 : splice (encs e xs ++ zs) (xs.length * z) (encs e ys) = encs e xs ++ encs e ys ++ zs.drop (ys.length * z) := by
        unfold splice
        rw [← length_encs (e := e) xs, List.take_left' rfl, length_encs ys, List.drop_append, List.drop_of_length_le (by omega), List.nil_append]
        congr 2
        omega
      rw [h1, encs_append]
    · refine ⟨some n, upd (upd H b none) n (some (.cells (encs e xs ++ encs e ys) ty)), n + 1, by simp, ⟨[], ?_⟩, by omega, (fun i h => by cases h; exact ⟨.inr (Nat.le_refl _), by omega⟩), fun j hj hne => ?_⟩
      · rw [upd_same, encs_append, List.append_nil]
      · rw [upd_ne _ _ (by omega), upd_ne _ _ (fun e => hne (by rw [e]))]

/-- An element of an owned row is loaded. -/
theorem part_own {T : Tab} {ty : Nat} {i : TI} (ht : T ty = some i) (hk : aggK i.k = true) (hz : i.size = z) (xs : List α) (ys : List AV) (k : Nat) (hlt : k < xs.length) :
    partOf T ty (encs e xs ++ ys) (k * z) = some (.agg (e xs[k])) := by
  have hle := Nat.mul_le_mul_right z (show k + 1 ≤ xs.length from hlt)
  rw [Nat.succ_mul] at hle
  unfold partOf
  rw [ht]
  simp only [hk, if_true, hz]
  rw [if_pos (by simp [length_encs]; omega), List.drop_append, List.take_append_of_le_length (by simp [length_encs]; omega), elem_encs xs k hlt]

/-- A cell of an element of an owned row. -/
theorem cell_own (xs : List α) (ys : List AV) (k q : Nat) (hlt : k < xs.length) (hq : q < z) : (encs e xs ++ ys)[k * z + q]? = (e xs[k])[q]? := by
  have hle := Nat.mul_le_mul_right z (show k + 1 ≤ xs.length from hlt)
  rw [Nat.succ_mul] at hle
  rw [List.getElem?_append_left (by simp [length_encs]; omega)]
  have := elem_encs (e := e) xs k hlt
  rw [← this, List.getElem?_take, if_pos hq, List.getElem?_drop]

theorem splice_own (xs : List α) (ys : List AV) (k : Nat) (hlt : k < xs.length) (x : α) : splice (encs e xs ++ ys) (k * z) (e x) = encs e (xs.set k x) ++ ys := by
  have hle := Nat.mul_le_mul_right z (show k + 1 ≤ xs.length from hlt)
  rw [Nat.succ_mul] at hle
  have := splice_encs (e := e) xs k hlt x
  unfold splice at this ⊢
  rw [List.take_append_of_le_length (by simp [length_encs]; omega), List.drop_append_of_le_length (by simp [length_encs, hE.len]; omega), ← List.append_assoc, this]
end

end Go.Proofs.YtcdafogfmijcpaaW.Ah
