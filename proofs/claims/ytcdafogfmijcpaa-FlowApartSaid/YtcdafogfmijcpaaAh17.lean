/-
  Rows of things, as cells.
-/
import Derived.Test.YtcdafogfmijcpaaAh16
namespace Go.Proofs.YtcdafogfmijcpaaW.Ah
set_option linter.unusedVariables false
set_option linter.unusedSimpArgs false

/-- The cells of a row of things. -/
def encs {α : Type} (e : α → List AV) (xs : List α) : List AV := xs.flatMap e

class Enc {α : Type} (e : α → List AV) (z : outParam Nat) : Prop where
  len : ∀ x, (e x).length = z

section
variable {α : Type} {e : α → List AV} {z : Nat} [h : Enc e z]

@[simp] theorem encs_nil : encs e [] = [] := rfl
theorem encs_cons (x : α) (xs : List α) : encs e (x :: xs) = e x ++ encs e xs := rfl
theorem encs_append (xs ys : List α) : encs e (xs ++ ys) = encs e xs ++ encs e ys := by simp [encs]
theorem encs_one (x : α) : encs e [x] = e x := by simp [encs]

@[simp] theorem length_encs (xs : List α) : (encs e xs).length = xs.length * z := by
  induction xs with
  | nil => simp [encs]
  | cons x xs ih => rw [encs_cons, List.length_append, ih, h.len]; simp [Nat.add_mul, Nat.add_comm]

theorem drop_encs (xs : List α) : ∀ (k : Nat), (encs e xs).drop (k * z) = encs e (xs.drop k) := by
  induction xs with
  | nil => intro k; simp [encs]
  | cons x xs ih =>
    intro k
    cases k with
    | zero => simp
    | succ k =>
      rw [encs_cons, List.drop_succ_cons, ← ih, Nat.succ_mul, Nat.add_comm, List.drop_append, h.len]
      rw [List.drop_of_length_le (by rw [h.len]; omega), List.nil_append]
      congr 1
      omega

theorem take_encs (xs : List α) : ∀ (k : Nat), (encs e xs).take (k * z) = encs e (xs.take k) := by
  induction xs with
  | nil => intro k; simp [encs]
  | cons x xs ih =>
    intro k
    cases k with
    | zero => simp
    | succ k =>
      rw [encs_cons, List.take_succ_cons, encs_cons, ← ih, Nat.succ_mul, List.take_append, h.len]
      rw [List.take_of_length_le (by rw [h.len]; omega)]
      congr 2
      omega

theorem elem_encs (xs : List α) (k : Nat) (hk : k < xs.length) : ((encs e xs).drop (k * z)).take z = e xs[k] := by
  rw [drop_encs]
  have := take_encs (e := e) (xs.drop k) 1
  rw [Nat.one_mul] at this
  rw [this, List.drop_eq_getElem_cons hk, List.take_succ_cons, List.take_zero, encs_one]

theorem splice_encs (xs : List α) (k : Nat) (hk : k < xs.length) (x : α) : splice (encs e xs) (k * z) (e x) = encs e (xs.set k x) := by
  unfold splice
  rw [h.len, take_encs, ← Nat.succ_mul, drop_encs, List.set_eq_take_append_cons_drop, if_pos hk, encs_append, encs_cons, List.append_assoc]

end

@[simp] theorem freeL_append (a b : List AV) : freeL (a ++ b) = (freeL a && freeL b) := by
  induction a with
  | nil => simp [freeL]
  | cons x a ih => simp [freeL, ih, Bool.and_assoc]

theorem freeL_encs {α : Type} {e : α → List AV} (he : ∀ x, freeL (e x) = true) (xs : List α) : freeL (encs e xs) = true := by
  induction xs with
  | nil => rfl
  | cons x xs ih => rw [encs_cons, freeL_append, he, ih]; rfl

/-- An element of a row is loaded. -/
theorem part_agg {T : Tab} {ty : Nat} {i : TI} (ht : T ty = some i) (hk : aggK i.k = true) {α : Type} {e : α → List AV} {z : Nat} [h : Enc e z] (hz : i.size = z) (xs : List α) (k : Nat) (hlt : k < xs.length) :
    partOf T ty ((encs e xs).drop (k * z)) 0 = some (.agg (e xs[k])) := by
  unfold partOf
  rw [ht]
  simp only [hk, if_true]
  rw [if_pos (by
    rw [hz, drop_encs, length_encs, List.length_drop]
    have := Nat.mul_le_mul_right z (show 1 ≤ xs.length - k by omega)
    omega), List.drop_zero, hz, elem_encs xs k hlt]

theorem part_one {T : Tab} {ty : Nat} {i : TI} (ht : T ty = some i) (hk : aggK i.k = false) {α : Type} {f : α → AV} [h : Enc (fun x => [f x]) 1] (xs : List α) (k : Nat) (hlt : k < xs.length) :
    partOf T ty ((encs (fun x => [f x]) xs).drop k) 0 = some (f xs[k]) := by
  unfold partOf
  rw [ht]
  simp only [hk, Bool.false_eq_true, if_false]
  have := elem_encs (e := fun x => [f x]) xs k hlt
  rw [Nat.mul_one] at this
  cases hd : (encs (fun x => [f x]) xs).drop k with
  | nil => rw [hd] at this; simp at this
  | cons a l => rw [hd] at this; simp at this; simp [this]

instance encOne {α : Type} (f : α → AV) : Enc (fun x => [f x]) 1 := ⟨fun _ => rfl⟩

theorem wrap64_id {x : Int} (h1 : -9223372036854775808 ≤ x) (h2 : x < 9223372036854775808) : IntKind.i64.wrap x = x := by
  simp [IntKind.wrap, IntKind.bits, IntKind.signed]; omega

theorem wrap_nat (m : Nat) (h : m < 9223372036854775808) : IntKind.i64.wrap (m : Int) = m := wrap64_id (by omega) (by omega)
theorem wrap_succ (m : Nat) (h : m + 1 < 9223372036854775808) : IntKind.i64.wrap ((m : Int) + 1) = ((m + 1 : Nat) : Int) := by rw [wrap64_id (by omega) (by omega)]; simp

end Go.Proofs.YtcdafogfmijcpaaW.Ah
