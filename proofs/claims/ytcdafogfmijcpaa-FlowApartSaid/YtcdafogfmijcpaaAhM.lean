/-
  What printed walks lean on: functions that may have no answer, and rows of cells.
-/
import Derived.Test.YtcdafogfmijcpaaAhE
namespace Go.Proofs.YtcdafogfmijcpaaW.Ah
set_option linter.unusedVariables false
set_option linter.unusedSimpArgs false
set_option linter.unusedSectionVars false

/-! Functions that may have no answer. -/
def idx {α : Type} (xs : List α) (i : Int) : Option α := if 0 ≤ i then xs[i.toNat]? else none
def joinM {κ β : Type} (k : κ) (f : κ → Option β) : Option β := f k
def quoM (k : IntKind) (x y : Int) : Option Int := if y = 0 then none else some (k.wrap (x.tdiv y))
def remM (x y : Int) : Option Int := if y = 0 then none else some (x.tmod y)
def appM {α : Type} (b : Nat) (xs ys : List α) : Option (List α) := if (xs.length + ys.length) * b ≤ roomMax ∧ xs.length + ys.length ≤ roomMax then some (xs ++ ys) else none
def makM {α : Type} (b : Nat) (z : α) (n : Int) : Option (List α) := if 0 ≤ n ∧ n.toNat * b ≤ roomMax ∧ n.toNat ≤ roomMax then some (List.replicate n.toNat z) else none
def xorAll (k : IntKind) (x : Int) : Int := k.wrap (BitVec.ofInt k.bits (if k.signed then -1 else k.max) ^^^ BitVec.ofInt k.bits x).toNat
def subM {α : Type} (xs : List α) (lo hi : Int) : Option (List α) := if 0 ≤ lo ∧ lo ≤ hi ∧ hi ≤ xs.length then some ((xs.drop lo.toNat).take (hi.toNat - lo.toNat)) else none

@[simp] def bandI (k : IntKind) (x y : Int) : Int := k.wrap (BitVec.ofInt k.bits x &&& BitVec.ofInt k.bits y).toNat
@[simp] def borI (k : IntKind) (x y : Int) : Int := k.wrap (BitVec.ofInt k.bits x ||| BitVec.ofInt k.bits y).toNat
@[simp] def bxorI (k : IntKind) (x y : Int) : Int := k.wrap (BitVec.ofInt k.bits x ^^^ BitVec.ofInt k.bits y).toNat
@[simp] def bandNotI (k : IntKind) (x y : Int) : Int := k.wrap (BitVec.ofInt k.bits x &&& ~~~(BitVec.ofInt k.bits y)).toNat
@[simp] def shlI (k : IntKind) (x y : Int) : Int := k.wrap (x * 2 ^ (min y.toNat k.bits))
@[simp] def shrI (k : IntKind) (x y : Int) : Int := x.fdiv (2 ^ (min y.toNat k.bits))
def shlM (k : IntKind) (x y : Int) : Option Int := if y < 0 then none else some (shlI k x y)
def shrM (k : IntKind) (x y : Int) : Option Int := if y < 0 then none else some (shrI k x y)
theorem bnd {α β : Type} {o : Option α} {f : α → Option β} {r : β} (h : o.bind f = some r) : ∃ x, o = some x ∧ f x = some r := by
  cases o with
  | none => cases h
  | some x => exact ⟨x, rfl, h⟩
theorem jnd {κ β : Type} {k : κ} {f : κ → Option β} {r : β} (h : joinM k f = some r) : ∃ K, K = k ∧ f K = some r := ⟨k, rfl, h⟩
theorem cT {β : Type} {b : Bool} {x y : Option β} {r : β} (hb : b = true) (h : (bif b then x else y) = some r) : x = some r := by subst hb; exact h
theorem cF {β : Type} {b : Bool} {x y : Option β} {r : β} (hb : b = false) (h : (bif b then x else y) = some r) : y = some r := by subst hb; exact h

theorem idx_ok {α : Type} {xs : List α} {i : Int} {x : α} (h : idx xs i = some x) : 0 ≤ i ∧ i < (xs.length : Int) ∧ i.toNat < xs.length ∧ xs[i.toNat]? = some x := by
  unfold idx at h
  split at h
  · rename_i hi
    have := (List.getElem?_eq_some_iff.1 h).1
    exact ⟨hi, by omega, this, h⟩
  · cases h

theorem quoM_ok {k : IntKind} {x y q : Int} (h : quoM k x y = some q) : ¬ y = 0 ∧ k.wrap (x.tdiv y) = q := by
  unfold quoM at h
  split at h
  · cases h
  · rename_i hy; cases h; exact ⟨hy, rfl⟩
theorem shlM_ok {k : IntKind} {x y q : Int} (h : shlM k x y = some q) : ¬ y < 0 ∧ k.wrap (x * 2 ^ (min y.toNat k.bits)) = q := by
  unfold shlM at h
  split at h
  · cases h
  · rename_i hy; cases h; exact ⟨hy, rfl⟩
theorem shrM_ok {k : IntKind} {x y q : Int} (h : shrM k x y = some q) : ¬ y < 0 ∧ x.fdiv (2 ^ (min y.toNat k.bits)) = q := by
  unfold shrM at h
  split at h
  · cases h
  · rename_i hy; cases h; exact ⟨hy, rfl⟩
theorem appM_ok {α : Type} {b : Nat} {xs ys zs : List α} (h : appM b xs ys = some zs) : (xs.length + ys.length) * b ≤ roomMax ∧ xs.length + ys.length ≤ roomMax ∧ xs ++ ys = zs := by
  unfold appM at h
  split at h
  · rename_i hc; cases h; exact ⟨hc.1, hc.2, rfl⟩
  · cases h
theorem makM_ok {α : Type} {b : Nat} {z : α} {n : Int} {zs : List α} (h : makM b z n = some zs) : 0 ≤ n ∧ n.toNat * b ≤ roomMax ∧ n.toNat ≤ roomMax ∧ List.replicate n.toNat z = zs := by
  unfold makM at h
  split at h
  · rename_i hc; cases h; exact ⟨hc.1, hc.2.1, hc.2.2, rfl⟩
  · cases h
theorem remM_ok {x y q : Int} (h : remM x y = some q) : ¬ y = 0 ∧ x.tmod y = q := by
  unfold remM at h
  split at h
  · cases h
  · rename_i hy; cases h; exact ⟨hy, rfl⟩

/-! Cells. -/
theorem partOf_drop {T : Tab} {ty : Nat} {i : TI} (ht : T ty = some i) (hz : 0 < i.size) (l : List AV) (o : Nat) : partOf T ty (l.drop o) 0 = partOf T ty l o := by
  unfold partOf
  rw [ht]
  simp only [Nat.zero_add, List.drop_zero, List.length_drop, List.getElem?_drop, Nat.add_zero]
  by_cases h : aggK i.k = true
  · rw [if_pos h, if_pos h]
    by_cases h2 : o + i.size ≤ l.length
    · rw [if_pos h2, if_pos (by omega)]
    · rw [if_neg h2, if_neg (by omega)]
  · rw [if_neg h, if_neg h]

section
variable {α : Type} {e : α → List AV} {z : Nat} [hE : Enc e z]
/-- Within an element. -/
theorem part_elem {T : Tab} {ty : Nat} {i : TI} (ht : T ty = some i) (hz : 0 < i.size) (hk : aggK i.k = true ∨ i.size = 1) {xs : List α} {k : Int} {x : α} (hx : idx xs k = some x) (ys : List AV) (o : Nat) (ho : o + i.size ≤ z) :
    partOf T ty (encs e xs ++ ys) (k.toNat * z + o) = partOf T ty (e x) o := by
  obtain ⟨h0, h1, h2, h3⟩ := idx_ok hx
  have hx' : xs[k.toNat] = x := by rw [List.getElem?_eq_getElem h2] at h3; cases h3; rfl
  have hle := Nat.mul_le_mul_right z (show k.toNat + 1 ≤ xs.length from h2)
  rw [Nat.succ_mul] at hle
  have hel := elem_encs (e := e) xs k.toNat h2
  rw [hx'] at hel
  unfold partOf
  rw [ht]
  simp only
  by_cases h : aggK i.k = true
  · rw [if_pos h, if_pos h, if_pos (by simp [length_encs]; omega), if_pos (by rw [hE.len]; omega)]
    rw [← hel, List.drop_take, List.take_take, Nat.min_eq_left (by omega), List.drop_drop, List.drop_append_of_le_length (by rw [length_encs (e := e)]; omega), List.take_append_of_le_length (by rw [List.length_drop, length_encs (e := e)]; omega)]
  · rw [if_neg h, if_neg h]
    have hs : i.size = 1 := hk.resolve_left h
    rw [← hel, List.getElem?_take, if_pos (by omega), List.getElem?_drop, List.getElem?_append_left (by rw [length_encs (e := e)]; omega)]

theorem part_elem0 {T : Tab} {ty : Nat} {i : TI} (ht : T ty = some i) (hz : 0 < i.size) (hk : aggK i.k = true ∨ i.size = 1) {xs : List α} {k : Int} {x : α} (hx : idx xs k = some x) (o : Nat) (ho : o + i.size ≤ z) :
    partOf T ty (encs e xs) (k.toNat * z + o) = partOf T ty (e x) o := by
  have := part_elem (e := e) (z := z) ht hz hk hx [] o ho
  rwa [List.append_nil] at this

theorem splice_elem {xs : List α} {k : Int} {x : α} (hx : idx xs k = some x) (ys : List AV) (y : α) : splice (encs e xs ++ ys) (k.toNat * z) (e y) = encs e (xs.set k.toNat y) ++ ys :=
  splice_own xs ys k.toNat (idx_ok hx).2.2.1 y
theorem splice_elem0 {xs : List α} {k : Int} {x : α} (hx : idx xs k = some x) (y : α) : splice (encs e xs) (k.toNat * z) (e y) = encs e (xs.set k.toNat y) :=
  splice_encs xs k.toNat (idx_ok hx).2.2.1 y
end

/-! Cells behind one another. -/
theorem part_all {T : Tab} {ty : Nat} {i : TI} (ht : T ty = some i) (hk : aggK i.k = true) {l : List AV} (hl : l.length = i.size) : partOf T ty l 0 = some (.agg l) := by
  unfold partOf
  rw [ht]
  simp only [hk, if_true, Nat.zero_add, hl, Nat.le_refl, List.drop_zero]
  rw [← hl, List.take_length]
theorem part_head {T : Tab} {ty : Nat} {i : TI} (ht : T ty = some i) (hz : 0 < i.size) {A B : List AV} {o : Nat} (ho : o + i.size ≤ A.length) : partOf T ty (A ++ B) o = partOf T ty A o := by
  unfold partOf
  rw [ht]
  simp only
  by_cases h : aggK i.k = true
  · rw [if_pos h, if_pos h, if_pos (by rw [List.length_append]; omega), if_pos ho, List.drop_append_of_le_length (by omega), List.take_append_of_le_length (by rw [List.length_drop]; omega)]
  · rw [if_neg h, if_neg h, List.getElem?_append_left (by omega)]
theorem part_skip {T : Tab} {ty : Nat} {i : TI} (ht : T ty = some i) {A B : List AV} {a o : Nat} (ha : A.length = a) : partOf T ty (A ++ B) (a + o) = partOf T ty B o := by
  subst ha
  unfold partOf
  rw [ht]
  simp only
  by_cases h : aggK i.k = true
  · rw [if_pos h, if_pos h]
    have e1 : List.drop (A.length + o) (A ++ B) = List.drop o B := by rw [← List.drop_drop, List.drop_left]
    by_cases h2 : o + i.size ≤ B.length
    · rw [if_pos h2, if_pos (by rw [List.length_append]; omega), e1]
    · rw [if_neg h2, if_neg (by rw [List.length_append]; omega)]
  · rw [if_neg h, if_neg h, List.getElem?_append_right (by omega)]
    congr 1; omega
theorem splice_all {l new : List AV} (h : l.length = new.length) : splice l 0 new = new := by
  unfold splice
  simp [← h]
theorem splice_head {A B new : List AV} {o : Nat} (h : o + new.length ≤ A.length) : splice (A ++ B) o new = splice A o new ++ B := by
  unfold splice
  rw [List.take_append_of_le_length (by omega), List.drop_append_of_le_length (by omega)]
  simp
theorem splice_skip {A B new : List AV} {a o : Nat} (h : A.length = a) : splice (A ++ B) (a + o) new = A ++ splice B o new := by
  subst h
  unfold splice
  rw [Nat.add_assoc, ← List.drop_drop, List.drop_left, List.take_append, List.take_of_length_le (by omega)]
  simp
theorem len_one (v : AV) : [v].length = 1 := rfl
theorem all_encs {α : Type} {e : α → List AV} (he : ∀ x, (e x).all cellOk = true) (xs : List α) : (encs e xs).all cellOk = true := by
  induction xs with
  | nil => rfl
  | cons x xs ih => rw [encs_cons, List.all_append, he, ih]; rfl

section
variable {α : Type} {c : α → List AV} {z : Nat} [hE : Enc c z]
theorem elems_row {H : Mem} {b ty : Nat} {xs : List α} (hb : H b = some (.cells (encs c xs) ty)) (cc : Option Nat) : elemsOf H z (.osl b 0 xs.length cc) = some (xs.length, encs c xs) := by
  simp only [elemsOf, hb]
  rw [if_pos (by rw [length_encs (e := c)]; omega), List.drop_zero, ← length_encs (e := c), List.take_length]
theorem elems_ssl {H : Mem} {xs : List α} {f : Bool} : elemsOf H z (.ssl (encs c xs) xs.length f) = some (xs.length, encs c xs) := by
  simp only [elemsOf]
  rw [if_pos (by rw [length_encs (e := c)]; exact Nat.le_refl _), ← length_encs (e := c), List.take_length]
theorem elems_own {H : Mem} {ty : Nat} {o : Option Nat} {xs : List α} (ho : Own H ty c o xs) : elemsOf H z (slv o xs.length) = some (xs.length, encs c xs) := by
  cases o with
  | none => have : xs = [] := ho; subst this; rfl
  | some i =>
    obtain ⟨ys, h⟩ := ho
    simp only [slv_some, elemsOf, h]
    rw [if_pos (by rw [List.length_append, length_encs (e := c)]; omega), List.drop_zero, ← length_encs (e := c), List.take_left' rfl]
theorem fill_one {w : List Value} {A : AV} {e : α} (hw : w.length = z) (hp : partOk A = true) (hc : cellsOf A = c e) : fillAV (fun j => some (j * z, z)) ((List.replicate 1 w).flatten.map .sc) [(0, A)] = some (encs c [e]) := by
  simp only [fillAV, hc, hE.len, hp]
  rw [if_pos ⟨trivial, trivial, by simp [hw]⟩]
  simp [encs, hw]
end

/-! A row of a fixed length. -/
def Arr (n : Nat) (α : Type) : Type := { l : List α // l.length = n }
namespace Arr
variable {n : Nat} {α : Type}
def set (a : Arr n α) (i : Int) (x : α) : Arr n α := ⟨a.1.set i.toNat x, by rw [List.length_set]; exact a.2⟩
def rep (n : Nat) (x : α) : Arr n α := ⟨List.replicate n x, List.length_replicate ..⟩
theorem ext {a b : Arr n α} (h : a.1 = b.1) : a = b := Subtype.ext h
end Arr

/-! Slices that their holder owns, of a room that may be known. -/
def slc : Option Nat → Nat → Option Nat → AV
  | none, _, _ => .sc (.slice none 0 0)
  | some i, n, c => .osl i 0 n c
@[simp] theorem slc_none (n : Nat) (c : Option Nat) : slc none n c = .sc (.slice none 0 0) := rfl
@[simp] theorem slc_some (i n : Nat) (c : Option Nat) : slc (some i) n c = .osl i 0 n c := rfl

def OwnC {α : Type} (H : Mem) (ty z : Nat) (e : α → List AV) (o c : Option Nat) (xs : List α) : Prop :=
  match o with
  | none => xs = []
  | some i => ∃ ys, H i = some (.cells (encs e xs ++ ys) ty) ∧ ∀ k, c = some k → xs.length ≤ k ∧ k * z ≤ (encs e xs ++ ys).length

theorem OwnC.mono {α : Type} {H H' : Mem} {ty z : Nat} {e : α → List AV} {o c : Option Nat} {xs : List α} (h : OwnC H ty z e o c xs) (hk : ∀ i, o = some i → H' i = H i) : OwnC H' ty z e o c xs := by
  cases o with
  | none => exact h
  | some i =>
    obtain ⟨ys, h, h2⟩ := h
    exact ⟨ys, by rw [hk i rfl, h], h2⟩

section
variable {α : Type} {e : α → List AV} {z : Nat} [hE : Enc e z]
theorem ownC_row {H : Mem} {ty b : Nat} {xs : List α} (h : H b = some (.cells (encs e xs) ty)) : OwnC H ty z e (some b) (some xs.length) xs :=
  ⟨[], by rw [List.append_nil]; exact h, fun k hk => by cases hk; rw [List.append_nil, length_encs (e := e)]; exact ⟨Nat.le_refl _, Nat.le_refl _⟩⟩

theorem ownC_open {H : Mem} {ty k : Nat} {o c : Option Nat} {xs : List α} (h : OwnC H ty z e o c xs) (hk : k < xs.length) : ∃ b, o = some b := by
  cases o with
  | none => have : xs = [] := h; subst this; simp at hk
  | some b => exact ⟨b, rfl⟩

theorem elems_ownC {H : Mem} {ty : Nat} {o c : Option Nat} {xs : List α} (ho : OwnC H ty z e o c xs) : elemsOf H z (slc o xs.length c) = some (xs.length, encs e xs) := by
  cases o with
  | none => have : xs = [] := ho; subst this; rfl
  | some i =>
    obtain ⟨ys, h, _⟩ := ho
    simp only [slc_some, elemsOf, h]
    rw [if_pos (by rw [List.length_append, length_encs (e := e)]; omega), List.drop_zero, ← length_encs (e := e), List.take_left' rfl]

theorem append_full {T : Tab} {st ty : Nat} {i ie : TI} (hst : T st = some i) (hk : i.k = .slice ty) (hty : T ty = some ie) (hz : ie.size = z) (hz0 : 0 < z) (hzero : ie.zero.length = ie.size) (hb : ie.bytes ≤ 2 ^ 20)
    {H : Mem} {n : Nat} (xs : List α) {y : AV} (ys : List α) (hy : elemsOf H z y = some (ys.length, encs e ys)) (hok : (encs e ys).all cellOk = true) (hne : 0 < ys.length)
    (hr : (xs.length + ys.length) * ie.bytes ≤ roomMax) (hr' : xs.length + ys.length ≤ roomMax) :
    ∃ o' c' H' n', appendAV T H n st (.ssl (encs e xs) xs.length true) y = some (slc o' (xs ++ ys).length c', H', n') ∧ OwnC H' ty z e o' c' (xs ++ ys) ∧ n ≤ n' ∧ (∀ i, o' = some i → n ≤ i ∧ i < n') ∧ (∀ j, j < n → H' j = H j) := by
  have hel : elemsOf H z (.ssl (encs e xs) xs.length true) = some (xs.length, encs e xs) := by
    simp only [elemsOf]
    rw [if_pos (by rw [length_encs (e := e)]; exact Nat.le_refl _), ← length_encs (e := e), List.take_length]
  unfold appendAV
  rw [hst]; simp only [hk, hty, hz, hel, hy]
  rw [if_pos ⟨hr, hr', hb, hz0, by omega, hok⟩, if_neg (by omega)]
  exact ⟨some n, none, upd H n (some (.cells (encs e xs ++ encs e ys) ty)), n + 1, by simp, ⟨[], by rw [upd_same, encs_append, List.append_nil], fun k hk => by cases hk⟩, by omega, (fun i h => by cases h; omega), fun j hj => by rw [upd_ne _ _ (by omega)]⟩

theorem append_ownC {T : Tab} {st ty : Nat} {i ie : TI} (hst : T st = some i) (hk : i.k = .slice ty) (hty : T ty = some ie) (hz : ie.size = z) (hz0 : 0 < z) (hzero : ie.zero.length = ie.size) (hb : ie.bytes ≤ 2 ^ 20)
    {H : Mem} {n : Nat} {o c : Option Nat} {xs : List α} (ho : OwnC H ty z e o c xs) (hn : ∀ i, o = some i → i < n) {y : AV} (ys : List α) (hy : elemsOf H z y = some (ys.length, encs e ys)) (hok : (encs e ys).all cellOk = true)
    (hr : (xs.length + ys.length) * ie.bytes ≤ roomMax) (hr' : xs.length + ys.length ≤ roomMax) :
    ∃ o' c' H' n', appendAV T H n st (slc o xs.length c) y = some (slc o' (xs ++ ys).length c', H', n') ∧ OwnC H' ty z e o' c' (xs ++ ys) ∧ n ≤ n' ∧ (∀ i, o' = some i → (o = some i ∨ n ≤ i) ∧ i < n') ∧ (∀ j, j < n → o ≠ some j → H' j = H j) := by
  have hel := elems_ownC ho
  unfold appendAV
  rw [hst]; simp only [hk, hty, hz, hel, hy]
  rw [if_pos ⟨hr, hr', hb, hz0, by omega, hok⟩]
  cases o with
  | none =>
    have h0 : xs = [] := ho
    subst h0
    simp only [slc_none, List.nil_append]
    by_cases h0 : ys.length = 0
    · rw [if_pos h0]
      have : ys = [] := List.length_eq_zero_iff.1 h0
      subst this
      exact ⟨none, none, H, n, rfl, rfl, Nat.le_refl _, (fun i h => by cases h), fun j _ _ => rfl⟩
    · rw [if_neg h0]
      exact ⟨some n, none, _, n + 1, rfl, ⟨[], by rw [upd_same, List.append_nil], fun k hk => by cases hk⟩, by omega, (fun i h => by cases h; exact ⟨.inr (Nat.le_refl _), by omega⟩), fun j hj _ => by rw [upd_ne _ _ (by omega)]⟩
  | some b =>
    obtain ⟨zs, ho, hc⟩ := ho
    have hlt := hn b rfl
    simp only [slc_some, ho, if_true, Nat.zero_add]
    have hlen : (encs e xs ++ zs).length = xs.length * z + zs.length := by rw [List.length_append, length_encs (e := e)]
    have hfresh : ∃ o' c' H' n', some (AV.osl n 0 (xs.length + ys.length) none, upd (upd H b none) n (some (Blk.cells (encs e xs ++ encs e ys) ty)), n + 1) = some (slc o' (xs ++ ys).length c', H', n') ∧ OwnC H' ty z e o' c' (xs ++ ys) ∧ n ≤ n' ∧ (∀ i, o' = some i → (some b = some i ∨ n ≤ i) ∧ i < n') ∧ (∀ j, j < n → some b ≠ some j → H' j = H j) :=
      ⟨some n, none, upd (upd H b none) n (some (Blk.cells (encs e xs ++ encs e ys) ty)), n + 1, by simp, ⟨[], by rw [upd_same, encs_append, List.append_nil], fun k hk => by cases hk⟩, by omega, (fun i h => by cases h; exact ⟨.inr (Nat.le_refl _), by omega⟩), fun j hj hne => by rw [upd_ne _ _ (by omega), upd_ne _ _ (fun e => hne (by rw [e]))]⟩
    have hfresh2 : ∃ o' c' H' n', some (AV.osl n 0 (xs.length + ys.length) none, upd H n (some (Blk.cells (encs e xs ++ encs e ys) ty)), n + 1) = some (slc o' (xs ++ ys).length c', H', n') ∧ OwnC H' ty z e o' c' (xs ++ ys) ∧ n ≤ n' ∧ (∀ i, o' = some i → (some b = some i ∨ n ≤ i) ∧ i < n') ∧ (∀ j, j < n → some b ≠ some j → H' j = H j) :=
      ⟨some n, none, upd H n (some (Blk.cells (encs e xs ++ encs e ys) ty)), n + 1, by simp, ⟨[], by rw [upd_same, encs_append, List.append_nil], fun k hk => by cases hk⟩, by omega, (fun i h => by cases h; exact ⟨.inr (Nat.le_refl _), by omega⟩), fun j hj hne => by rw [upd_ne _ _ (by omega)]⟩
    split
    · rename_i hle
      refine ⟨some b, c, upd H b (some (.cells (splice (encs e xs ++ zs) (xs.length * z) (encs e ys)) ty)), n, by simp, ?_, Nat.le_refl _, (fun i h => by cases h; exact ⟨.inl rfl, hlt⟩), fun j hj hne => by rw [upd_ne]; intro e; exact hne (by rw [e])⟩
      have h1 : splice (encs e xs ++ zs) (xs.length * z) (encs e ys) = encs e xs ++ encs e ys ++ zs.drop (ys.length * z) := by
        unfold splice
        rw [← length_encs (e := e) xs, List.take_left' rfl, length_encs ys, List.drop_append, List.drop_of_length_le (by omega), List.nil_append]
        congr 2
        omega
      refine ⟨zs.drop (ys.length * z), by rw [upd_same, h1, encs_append], fun k hk => ?_⟩
      have hk1 := hc k hk
      have hle2 := hle.2
      rw [hlen, Nat.add_mul] at hle2
      refine ⟨?_, ?_⟩
      · have := hle.1; rw [hk] at this; simp only [fitsC, decide_eq_true_eq] at this; rw [List.length_append]; exact this
      · rw [List.length_append, length_encs (e := e), List.length_append, Nat.add_mul, List.length_drop]; rw [hlen] at hk1; omega
    · rename_i hnle
      cases c with
      | none => exact hfresh
      | some c =>
        have hcc := hc c rfl
        simp only
        rw [if_neg (fun hle => hnle ⟨by simp [fitsC, hle], by have := Nat.mul_le_mul_right z hle; omega⟩)]
        exact hfresh2
end

/-! What is given away. -/
section
variable {T : Tab} {H : Mem} {ids : List Nat}
theorem vw_same {a : AV} : Vw T H ids a a := .inl rfl
theorem view_own {α : Type} {e : α → List AV} {z : Nat} [hE : Enc e z] (he : ∀ x, freeL (e x) = true) {o : Option Nat} {xs : List α} {ty : Nat} (ho : Own H ty e o xs) (hi : ∀ i, o = some i → i ∈ ids) : View T H ids (slv o xs.length) (.ssl (encs e xs) xs.length false) := by
  cases o with
  | none =>
    have : xs = [] := ho
    subst this
    exact .nilS
  | some i =>
    obtain ⟨ys, h⟩ := ho
    refine .oslF (encs e xs).length (hi i rfl) h ?_
    rw [List.drop_zero, List.take_left' rfl]
    exact .free (freeL_encs he xs)
theorem view_ownC {α : Type} {e : α → List AV} {z : Nat} [hE : Enc e z] (he : ∀ x, freeL (e x) = true) {o c : Option Nat} {xs : List α} {ty : Nat} (ho : OwnC H ty z e o c xs) (hi : ∀ i, o = some i → i ∈ ids) : View T H ids (slc o xs.length c) (.ssl (encs e xs) xs.length false) := by
  cases o with
  | none =>
    have : xs = [] := ho
    subst this
    exact .nilS
  | some i =>
    obtain ⟨ys, h, _⟩ := ho
    refine .oslF (encs e xs).length (hi i rfl) h ?_
    rw [List.drop_zero, List.take_left' rfl]
    exact .free (freeL_encs he xs)
theorem view_row {α : Type} {e : α → List AV} {z : Nat} [hE : Enc e z] (he : ∀ x, freeL (e x) = true) {b : Nat} {xs : List α} {ty : Nat} (hb : H b = some (.cells (encs e xs) ty)) (hi : b ∈ ids) (c : Option Nat) : View T H ids (.osl b 0 xs.length c) (.ssl (encs e xs) xs.length false) := by
  refine .oslF (encs e xs).length hi hb ?_
  rw [List.drop_zero, List.take_length]
  exact .free (freeL_encs he xs)
theorem view_rowF {α : Type} {e : α → List AV} {z : Nat} [hE : Enc e z] (he : ∀ x, freeL (e x) = true) {b : Nat} {xs : List α} {ty : Nat} (hb : H b = some (.cells (encs e xs) ty)) (hi : b ∈ ids) : View T H ids (.osl b 0 xs.length (some xs.length)) (.ssl (encs e xs) xs.length true) := by
  have := View.osl (T := T) (n := xs.length) (c := some xs.length) (o := 0) (cs' := encs e xs) (encs e xs).length hi hb (by rw [List.drop_zero, List.take_length]; exact .free (freeL_encs he xs))
  simpa using this
theorem viewL_mid {a x y b : List AV} (ha : freeL a = true) (hb : freeL b = true) (h : ViewL T H ids x y) : ViewL T H ids (a ++ x ++ b) (a ++ y ++ b) := by
  have key : ∀ {x y : List AV}, ViewL T H ids x y → ViewL T H ids (x ++ b) (y ++ b) := by
    intro x y h
    have k2 : ∀ (x y : List AV), ViewL T H ids x y → ViewL T H ids (x ++ b) (y ++ b) := by
      intro x
      induction x with
      | nil => intro y h; have := h.length; simp at this; subst this; exact .free hb
      | cons p x ih =>
        intro y h
        cases h with
        | free h => exact .free (by rw [freeL_append, h, hb]; rfl)
        | cons h1 h2 => exact .cons h1 (ih _ h2)
    exact k2 x y h
  rw [List.append_assoc, List.append_assoc]
  induction a with
  | nil => exact key h
  | cons p a ih =>
    simp only [freeL, Bool.and_eq_true] at ha
    exact .cons (.free ha.1) (ih ha.2)
theorem view_arr {α : Type} {e : α → List AV} {z n : Nat} [hE : Enc e z] (he : ∀ x, freeL (e x) = true) {b : Nat} {a : Arr n α} {ty : Nat} {cs : List AV} (hb : H b = some (.cells cs ty)) (hi : b ∈ ids) (hc : cs = encs e a.1) : View T H ids (.osl b 0 n (some n)) (.ssl (encs e a.1) a.1.length false) := by
  subst hc
  rw [a.2]
  refine .oslF (encs e a.1).length hi hb ?_
  rw [List.drop_zero, List.take_length]
  exact .free (freeL_encs he a.1)
theorem view_blk {cs : List AV} {i ty : Nat} (h : H i = some (.cells cs ty)) (hi : i ∈ ids) (hf : freeL cs = true) : View T H ids (.own i 0) (.sh cs) := .own hi h (by rw [List.drop_zero]; exact .free hf)
end

section
variable {P : Program} {T : Tab} {k : Nat} {st : List It} {t : Nat → AV} {H : Mem} {n : Nat} {C : Cont} {G : Array Oper} {l : List Oper}
theorem EvL.more {P : Program} {T : Tab} {k : Nat} {G : Array Oper} {l2 : List Oper} {s2 : St} : ∀ {l1 : List Oper} {s s1 : St}, EvL P T k G l1 s s1 → EvL P T k G l2 s1 s2 → EvL P T k G (l1 ++ l2) s s2
  | _, _, _, .nil, h => h
  | _, _, _, .skip a b c, h => .skip a b (EvL.more c h)
  | _, _, _, .op a b c d, h => .op a b c (EvL.more d h)
  | _, _, _, .weak ids hw c, h => .weak ids hw (EvL.more c h)

/-- The first operations; what is known behind them; then on. -/
theorem Stk.jo (m : Nat) (K : (Nat → AV) → Mem → Nat → Prop) (h1 : ∀ J : Nat → (Nat → AV) → Mem → Nat → Prop, (∀ t H n, K t H n → J 0 t H n) → Stk P T k (.ops G (l.take m) :: .loop J 1 :: st) t H n C) (h2 : ∀ t H n, K t H n → Stk P T k (.ops G (l.drop m) :: st) t H n C) : Stk P T k (.ops G l :: st) t H n C := by
  have h := h1 (fun _ => K) fun _ _ _ h => h
  have key : ∀ (l1 l2 : List Oper) (s : St) (Q : St → Prop), EvLQ P T k G l1 s (fun s => EvLQ P T k G l2 s Q) → EvLQ P T k G (l1 ++ l2) s Q := fun l1 l2 s Q ⟨s1, q1, s2, q2, q3⟩ => ⟨s2, EvL.more q1 q2, q3⟩
  have e : l = l.take m ++ l.drop m := (List.take_append_drop m l).symm
  rw [e]
  simp only [Stk] at h ⊢
  refine key _ _ _ _ ?_
  obtain ⟨s', q1, m', _, q2⟩ := h
  exact ⟨s', q1, by have := h2 _ _ _ q2; simp only [Stk] at this; exact this⟩

variable {cl : List Cls} {R : List Nat}
theorem Stk.jd (m : Nat) (K : (Nat → AV) → Mem → Nat → Prop) (h1 : ∀ J : Nat → (Nat → AV) → Mem → Nat → Prop, (∀ t H n, K t H n → J 0 t H n) → Stk P T k (.opsD G cl (R.take m) :: .loop J 1 :: st) t H n C) (h2 : ∀ t H n, K t H n → Stk P T k (.opsD G cl (R.drop m) :: st) t H n C) : Stk P T k (.opsD G cl R :: st) t H n C := by
  have h := h1 (fun _ => K) fun _ _ _ h => h
  have key : ∀ (l1 l2 : List Nat) (s s1 s2 : St), EvD P T k G cl l1 s s1 → EvD P T k G cl l2 s1 s2 → EvD P T k G cl (l1 ++ l2) s s2 := by
    intro l1 l2 s s1 s2 q1 q2
    induction l1 generalizing s with
    | nil => cases q1; exact q2
    | cons o l1 ih =>
      cases q1 with
      | skip a b c d => exact .skip a b c (ih _ d)
      | rd a b c d e f g => exact .rd a b c d e f (ih _ g)
      | mem a b c d e f g => exact .mem a b c d e f (ih _ g)
  have e : R = R.take m ++ R.drop m := (List.take_append_drop m R).symm
  rw [e]
  simp only [Stk] at h ⊢
  obtain ⟨s', q1, m', _, q2⟩ := h
  have := h2 _ _ _ q2
  simp only [Stk] at this
  obtain ⟨s2, q3, q4⟩ := this
  exact ⟨s2, key _ _ _ _ _ q1 q3, q4⟩

/-- A value is given away, with its blocks. -/
theorem Stk.wkf {x : It} (hx : match x with | .code _ => True | .ops _ _ => True | _ => False) (ids : List Nat) (a : Nat) (v : AV) (hv : Vw T H ids (t a) v) (h : ∀ t' H', t' = upd t a v → (∀ j, j ∉ ids → H' j = H j) → Stk P T k (x :: st) t' H' n C) : Stk P T k (x :: st) t H n C := by
  have ht : ∀ i, Vw T H ids (t i) (upd t a v i) := by
    intro i
    by_cases e : i = a
    · subst e; rw [upd_same]; exact hv
    · rw [upd_ne _ _ e]; exact .inl rfl
  have hw : Weak T ⟨t, H, n⟩ ⟨upd t a v, without H ids, n⟩ ids := ⟨ht, fun i => by
    by_cases e : i ∈ ids
    · exact .inl (by simp [without, e])
    · exact .inr ⟨e, .inl (by simp [without, e])⟩, Nat.le_refl _⟩
  have := h _ (without H ids) rfl (fun j hj => by simp [without, hj])
  cases x with
  | code c => simp only [Stk] at this ⊢; exact EvQ.weak ids hw this
  | ops G l => simp only [Stk] at this ⊢; exact EvLQ.weak ids hw this
  | _ => exact hx.elim

/-- One value is known otherwise. -/
theorem Stk.wk {x : It} (hx : match x with | .code _ => True | .ops _ _ => True | _ => False) (a : Nat) (v : AV) (hv : Vw T H [] (t a) v) (h : ∀ t', t' = upd t a v → Stk P T k (x :: st) t' H n C) : Stk P T k (x :: st) t H n C := by
  have ht : ∀ i, Vw T H [] (t i) (upd t a v i) := by
    intro i
    by_cases e : i = a
    · subst e; rw [upd_same]; exact hv
    · rw [upd_ne _ _ e]; exact .inl rfl
  have hw : Weak T ⟨t, H, n⟩ ⟨upd t a v, H, n⟩ [] := ⟨ht, fun i => .inr ⟨by simp, .inl rfl⟩, Nat.le_refl _⟩
  have := h _ rfl
  cases x with
  | code c => simp only [Stk] at this ⊢; exact EvQ.weak [] hw this
  | ops G l => simp only [Stk] at this ⊢; exact EvLQ.weak [] hw this
  | _ => exact hx.elim
end

section
variable {P : Program} {T : Tab} {k : Nat} {st : List It} {t : Nat → AV} {H H' : Mem} {n n' : Nat} {C : Cont} {G : Array Oper} {l : List Oper} {o : Oper} {v : AV} {cl : List Cls} {i : Nat} {R : List Nat}
theorem Stk.om (hv : mop T t H n o.op = some (v, H', n')) (h1 : wantedA G o t = some true) (h2 : dstOk k o = true) (h : ∀ t', t' = putA t o.dst v → Stk P T k (.ops G l :: st) t' H' n' C) : Stk P T k (.ops G (o :: l) :: st) t H n C := by
  have := h _ rfl
  simp only [Stk] at this ⊢
  exact EvLQ.op (s := ⟨t, H, n⟩) h1 h2 (.mop hv) this
theorem Stk.omD {S : List Nat} {b : Nat} (hcl : cl[i]? = some (.mem S b)) (hk : ∀ j, j < b → j ∉ S → H' j = H j) (h0 : G[i]? = some o) (hv : mop T t H n o.op = some (v, H', n')) (h1 : wantedA G o t = some true) (h2 : dstOk k o = true) (h : ∀ t', t' = putA t o.dst v → Stk P T k (.opsD G cl R :: st) t' H' n' C) : Stk P T k (.opsD G cl (i :: R) :: st) t H n C := by
  have := h _ rfl
  simp only [Stk] at this ⊢
  obtain ⟨s', q1, q2⟩ := this
  exact ⟨s', .mem h0 h1 h2 (.mop hv) hcl hk q1, q2⟩
theorem Stk.ov (hv : vop T t H o.op = some v) (h1 : wantedA G o t = some true) (h2 : dstOk k o = true) (h : ∀ t', t' = putA t o.dst v → Stk P T k (.ops G l :: st) t' H n C) : Stk P T k (.ops G (o :: l) :: st) t H n C := by
  have := h _ rfl
  simp only [Stk] at this ⊢
  exact EvLQ.op (s := ⟨t, H, n⟩) h1 h2 (.vop hv) this
theorem Stk.ovD {R' : List Nat} (hcl : cl[i]? = some (.rd R')) (hk : ∀ j ∈ readsOf t o.op, j ∈ R') (h0 : G[i]? = some o) (hv : vop T t H o.op = some v) (h1 : wantedA G o t = some true) (h2 : dstOk k o = true) (h : ∀ t', t' = putA t o.dst v → Stk P T k (.opsD G cl R :: st) t' H n C) : Stk P T k (.opsD G cl (i :: R) :: st) t H n C := by
  have := h _ rfl
  simp only [Stk] at this ⊢
  obtain ⟨s', q1, q2⟩ := this
  exact ⟨s', .rd h0 h1 h2 (.vop hv) hcl hk q1, q2⟩

theorem mop_alloc {ty : Nat} {i : TI} (ht : T ty = some i) {cs : List AV} (hc : i.zero.map .sc = cs) : mop T t H n (.alloc ty) = some (.own n 0, upd H n (some (.cells cs ty)), n + 1) := by
  subst hc; simp only [mop, ht]
theorem vw_zs {ids : List Nat} (v : Value) : Vw T H ids (.sc v) (zs v) := by
  unfold zs
  split
  · exact .inr (.inr .nilS)
  · exact .inl rfl
/-- A block of its own; that its slices are nil is let go. -/
theorem Stk.oz {ty : Nat} {i : TI} (ht : T ty = some i) {cs : List AV} (hc : i.zero.map zs = cs) (ho : o.op = .alloc ty) (h1 : wantedA G o t = some true) (h2 : dstOk k o = true)
    (h : ∀ t', t' = putA t o.dst (.own n 0) → Stk P T k (.ops G l :: st) t' (upd H n (some (.cells cs ty))) (n + 1) C) : Stk P T k (.ops G (o :: l) :: st) t H n C := by
  refine Stk.om (H' := upd H n (some (.cells (i.zero.map .sc) ty))) (n' := n + 1) (v := .own n 0) (by rw [ho]; exact mop_alloc ht rfl) h1 h2 (fun t' ht' => ?_)
  have hw : Weak T ⟨t', upd H n (some (.cells (i.zero.map .sc) ty)), n + 1⟩ ⟨t', upd H n (some (.cells cs ty)), n + 1⟩ [] := by
    refine ⟨fun i => .inl rfl, fun j => ?_, Nat.le_refl _⟩
    by_cases e : j = n
    · subst e
      refine .inr ⟨by simp, .inr ⟨_, _, ty, upd_same _ _ _, upd_same _ _ _, by rw [← hc]; simp, fun q a' ha => ?_⟩⟩
      rw [← hc, List.getElem?_map] at ha
      cases hz : i.zero[q]? with
      | none => rw [hz] at ha; cases ha
      | some v =>
        rw [hz] at ha; cases ha
        exact ⟨.sc v, by rw [List.getElem?_map, hz]; rfl, vw_zs v⟩
    · exact .inr ⟨by simp, .inl (by show upd _ _ _ _ = upd _ _ _ _; rw [upd_ne _ _ e, upd_ne _ _ e])⟩
  have := h t' ht'
  simp only [Stk] at this ⊢
  exact EvLQ.weak [] hw this
theorem mop_box {ty : Nat} {i : TI} (ht : T ty = some i) {x : Operand} {cs : List AV} (hp : partOk (ev t x) = true) (hc : cellsOf (ev t x) = cs) : mop T t H n (.box ty x) = some (.own n 0, upd H n (some (.cells cs ty)), n + 1) := by
  subst hc; simp only [mop, hp, ht]; rfl
theorem mop_store {ty z ety b o : Nat} {a x : Operand} {cs cs' : List AV} {v : AV} (hz : sizeT T ty = some z) (ha : ev t a = .own b o) (hb : H b = some (.cells cs ety)) (hv : ev t x = v) (hl : (cellsOf v).length = z) (hle : o + z ≤ cs.length) (hok : (cellsOf v).all cellOk = true) (hs : splice cs o (cellsOf v) = cs') :
    mop T t H n (.store ty a x) = some (.tup [], upd H b (some (.cells cs' ety)), n) := by
  subst hs hv
  simp only [mop, hz, ha, hb]
  rw [if_pos ⟨hl, hle, hok⟩]
theorem mop_append {x y : Operand} {s yt : Nat} {iy : TI} {e : Nat} (hy : T yt = some iy) (hk : iy.k = .slice e) : mop T t H n (.call ⟨.builtin .append, #[x, y], #[s, yt]⟩) = appendAV T H n s (ev t x) (ev t y) := by
  simp only [mop, List.map, hy, hk]
section
variable {α : Type} {c : α → List AV} {z : Nat} [hE : Enc c z]
theorem mop_build1 {ty e : Nat} {i ie : TI} (ht : T ty = some i) (hk : i.k = .slice e) (he : T e = some ie) (hz : ie.size = z) (h0 : 0 < z) (hl : ie.zero.length = ie.size) (hs : ie.size ≤ 2 ^ 24) {x : Operand} (y : α) (hp : partOk (ev t x) = true) (hc : cellsOf (ev t x) = c y) :
    mop T t H n (.buildSlice ty 1 #[(0, x)]) = some (.osl n 0 1 (some 1), upd H n (some (.cells (encs c [y]) e)), n + 1) := by
  simp only [mop, ht, hk, he, hz]
  rw [if_pos ⟨by omega, h0, by omega⟩]
  have := fill_one (c := c) (z := z) (w := ie.zero) (A := ev t x) (e := y) (by omega) hp hc
  simp only [List.map] at this ⊢
  rw [this]
theorem mop_make {ty e : Nat} {i ie : TI} (ht : T ty = some i) (hk : i.k = .slice e) (he : T e = some ie) (hz : ie.size = z) (h0 : 0 < z) (hl : ie.zero.length = ie.size) {x : Operand} {m : Int} (y : α) (hx : ev t x = I m) (hy : ie.zero.map .sc = c y) (h1 : 0 ≤ m) (h2 : m.toNat * ie.bytes ≤ roomMax) (h3 : m.toNat ≤ roomMax) :
    mop T t H n (.makeSlice ty x x) = some (.osl n 0 m.toNat (some m.toNat), upd H n (some (.cells (encs c (List.replicate m.toNat y)) e)), n + 1) := by
  have h2' : m * ie.bytes ≤ roomMax := by
    have := h2
    have e1 : (m.toNat : Int) = m := Int.toNat_of_nonneg h1
    rw [← e1]; exact_mod_cast this
  have h3' : m ≤ roomMax := by omega
  have hc : (List.replicate m.toNat ie.zero).flatten.map AV.sc = encs c (List.replicate m.toNat y) := by
    generalize m.toNat = q
    induction q with
    | zero => rfl
    | succ q ih => rw [List.replicate_succ, List.flatten_cons, List.map_append, ih, hy, List.replicate_succ, encs_cons]
  simp only [mop, ht, hk, he, hx]
  rw [if_pos ⟨h1, Int.le_refl _, h2', h3', by omega, hl⟩, hc]
end
end

/-! Structs that are built, part by part. -/
inductive FillTo (T : Tab) (fs : List (Nat × Nat)) : List AV → List (Nat × AV) → List AV → Prop
  | nil {cs : List AV} : FillTo T fs cs [] cs
  | cons {cs cs1 cs' new : List AV} {j off ft z : Nat} {v w : AV} {rest : List (Nat × AV)} : v = w → fs[j]? = some (off, ft) → sizeT T ft = some z → partOk w = true → cellsOf w = new → new.length = z → off + z ≤ cs.length → splice cs off new = cs1 → FillTo T fs cs1 rest cs' → FillTo T fs cs ((j, v) :: rest) cs'

theorem FillTo.eq {T : Tab} {fs : List (Nat × Nat)} {cs cs' : List AV} {ps : List (Nat × AV)} (h : FillTo T fs cs ps cs') :
    fillAV (fun j => match fs[j]? with | some (off, ft) => (match sizeT T ft with | some z => some (off, z) | none => none) | none => none) cs ps = some cs' := by
  induction h with
  | nil => rfl
  | cons h0 h1 h2 h3 h4 h5 h6 h7 _ ih =>
    subst h0 h4 h7
    simp only [fillAV, h1, h2]
    rw [if_pos ⟨h3, h5, h6⟩]
    rw [← h5]
    exact ih

theorem vop_build {T : Tab} {t : Nat → AV} {H : Mem} {ty : Nat} {i : TI} {fs : List (Nat × Nat)} (ht : T ty = some i) (hk : i.k = .struct fs) (hall : fs.all (fun f => (sizeT T f.2).isSome) = true) {ps : Array (Nat × Operand)} {cs cs' : List AV} (hz : i.zero.map zs = cs)
    (h : FillTo T fs cs (ps.toList.map fun p => (p.1, ev t p.2)) cs') (hm : (i.ex || i.zero.any isMapZ) = false := by rfl) : vop T t H (.build ty ps) = some (.agg cs') := by
  subst hz
  have hzb : zb i = i.zero.map zs := by unfold zb; rw [if_neg (by rw [hm]; decide)]
  simp only [vop, ht, hk, hzb]
  rw [if_pos hall]
  exact congrArg (Option.map AV.agg) h.eq

/-! Parts of slices. -/
theorem subM_ok {α : Type} {xs ys : List α} {l h : Int} (e : subM xs l h = some ys) : 0 ≤ l ∧ l ≤ h ∧ h ≤ xs.length ∧ (xs.drop l.toNat).take (h.toNat - l.toNat) = ys := by
  unfold subM at e
  split at e
  · rename_i hc; cases e; exact ⟨hc.1, hc.2.1, hc.2.2, rfl⟩
  · cases e

/-- A bound, if it is given. -/
def Bnd (t : Nat → AV) (o : Option Operand) (d v : Int) : Prop := (o = none ∧ v = d) ∨ ∃ x k, o = some x ∧ ev t x = .sc (.int k v)

theorem vop_sub {T : Tab} {t : Nat → AV} {H : Mem} {s e : Nat} {i ie : TI} {α : Type} {c : α → List AV} {z : Nat} [hE : Enc c z] (hs : T s = some i) (hk : i.k = .slice e) (he : T e = some ie) (hz : ie.size = z) {x : Operand} {lo hi : Option Operand} {xs ys : List α} {l h : Int}
    (hx : ev t x = .ssl (encs c xs) xs.length false) (hl : Bnd t lo 0 l) (hh : Bnd t hi xs.length h) (hm : subM xs l h = some ys) : vop T t H (.slice s x lo hi none) = some (.ssl (encs c ys) ys.length false) := by
  obtain ⟨h0, h1, h2, h3⟩ := subM_ok hm
  have hlen : ys.length = h.toNat - l.toNat := by rw [← h3, List.length_take, List.length_drop]; omega
  have b1 : optBound (hi.map (ev t)) xs.length xs.length = some h.toNat := by
    rcases hh with ⟨e1, e2⟩ | ⟨o, k, e1, e2⟩
    · subst e1; subst e2; simp [optBound]
    · subst e1; simp only [Option.map, optBound, e2, boundOf]; rw [if_pos ⟨by omega, h2⟩]
  have b2 : optBound (lo.map (ev t)) h.toNat 0 = some l.toNat := by
    rcases hl with ⟨e1, e2⟩ | ⟨o, k, e1, e2⟩
    · subst e1; subst e2; simp [optBound]
    · subst e1; simp only [Option.map, optBound, e2, boundOf]; rw [if_pos ⟨h0, by omega⟩]
  simp only [vop, hs, hk, hx, sizeT, he, Option.map, bounds]
  simp only [Option.map] at b1 b2
  rw [hz]
  simp only [Bool.false_eq_true, if_false, b1, b2]
  have e1 : (encs c xs).drop (l.toNat * z) = encs c (xs.drop l.toNat) := drop_encs xs l.toNat
  have e2 : (encs c (xs.drop l.toNat)).take ((h.toNat - l.toNat) * z) = encs c ((xs.drop l.toNat).take (h.toNat - l.toNat)) := take_encs _ _
  rw [e1, e2, h3, hlen]
  rfl

/-! Comparisons of rows. -/
theorem eqEls_ints {T : Tab} {e : Nat} {i : TI} {k : IntKind} (he : T e = some i) (hk : i.k = .int k) (d : Nat) : ∀ (m s : Nat) (xs ys : List Int), s + m = xs.length → xs.length = ys.length →
    eqT.eqEls T (d + 1) e 1 (List.range' s m) (encs (fun x => [AV.sc (.int k x)]) xs) (encs (fun x => [AV.sc (.int k x)]) ys) = some (xs.drop s == ys.drop s)
  | 0, s, xs, ys, h1, h2 => by
    simp only [List.range'_zero, eqT.eqEls]
    rw [List.drop_of_length_le (by omega), List.drop_of_length_le (by omega)]; rfl
  | m + 1, s, xs, ys, h1, h2 => by
    have hg : ∀ (zs : List Int), zs.length = xs.length → partOf T e (encs (fun x => [AV.sc (.int k x)]) zs) (s * 1) = some (.sc (.int k (zs.getD s 0))) := by
      intro zs hz
      have hs : s < zs.length := by omega
      unfold partOf
      rw [he]
      simp only [hk, aggK, Bool.false_eq_true, if_false, Nat.mul_one]
      have := elem_encs (e := fun x => [AV.sc (.int k x)]) zs s hs
      rw [Nat.mul_one] at this
      cases hd : (encs (fun x => [AV.sc (.int k x)]) zs).drop s with
      | nil => rw [hd] at this; simp at this
      | cons a l =>
        rw [hd] at this
        simp at this
        have hq : (encs (fun x => [AV.sc (.int k x)]) zs)[s]? = some a := by
          have := congrArg (fun q => q[0]?) hd
          simpa using this
        rw [hq, this]
        simp [List.getD, hs]
    rw [List.range'_succ, eqT.eqEls, hg xs rfl, hg ys h2.symm]
    have ih := eqEls_ints he hk d m (s + 1) xs ys (by omega) h2
    have e1 : ∀ a b : Int, eqT T (d + 1) e (.sc (.int k a)) (.sc (.int k b)) = some (a == b) := fun a b => by simp [eqT, he, hk]
    simp only [e1, ih]
    have hx : s < xs.length := by omega
    have hy : s < ys.length := by omega
    simp only [List.getD, List.getElem?_eq_getElem hx, List.getElem?_eq_getElem hy, Option.getD_some]
    rw [List.drop_eq_getElem_cons hx, List.drop_eq_getElem_cons hy]
    rfl

/-! Slices that are built, element by element. -/
inductive FillP (place : Nat → Option (Nat × Nat)) : List AV → List (Nat × AV) → List AV → Prop
  | nil {cs : List AV} : FillP place cs [] cs
  | cons {cs cs1 cs' new : List AV} {j off z : Nat} {v w : AV} {rest : List (Nat × AV)} : v = w → place j = some (off, z) → partOk w = true → cellsOf w = new → new.length = z → off + z ≤ cs.length → splice cs off new = cs1 → FillP place cs1 rest cs' → FillP place cs ((j, v) :: rest) cs'
theorem FillP.eq {place : Nat → Option (Nat × Nat)} {cs cs' : List AV} {ps : List (Nat × AV)} (h : FillP place cs ps cs') : fillAV place cs ps = some cs' := by
  induction h with
  | nil => rfl
  | cons h0 h1 h3 h4 h5 h6 h7 _ ih =>
    subst h0 h4 h7
    simp only [fillAV, h1]
    rw [if_pos ⟨h3, h5, h6⟩]
    rw [← h5]
    exact ih
theorem splice_next {α : Type} {c : α → List AV} {z : Nat} [hE : Enc c z] (ps : List α) (R : List AV) (y : α) {o : Nat} (ho : o = ps.length * z) (hR : z ≤ R.length) : splice (encs c ps ++ R) o (c y) = encs c (ps ++ [y]) ++ R.drop z := by
  subst ho
  unfold splice
  rw [← length_encs (e := c), List.take_left' rfl, hE.len, List.drop_append, List.drop_of_length_le (by omega), List.nil_append, encs_append, encs_one]
  congr 2
  omega
theorem mop_buildN {T : Tab} {t : Nat → AV} {H : Mem} {n : Nat} {α : Type} {c : α → List AV} {z : Nat} [hE : Enc c z] {ty e m : Nat} {i ie : TI} (ht : T ty = some i) (hk : i.k = .slice e) (he : T e = some ie) (hz : ie.size = z) (h0 : 0 < z) (hl : ie.zero.length = ie.size) (hs : m * ie.size ≤ 2 ^ 24) {ps : Array (Nat × Operand)} (ys : List α)
    (hy : ys.length = m) (h : FillP (fun j => some (j * z, z)) (encs c [] ++ (List.replicate m ie.zero).flatten.map .sc) (ps.toList.map fun p => (p.1, ev t p.2)) (encs c ys ++ [])) :
    mop T t H n (.buildSlice ty m ps) = some (.osl n 0 m (some m), upd H n (some (.cells (encs c ys) e)), n + 1) := by
  simp only [mop, ht, hk, he, hz]
  rw [hz] at hs hl
  rw [if_pos ⟨hs, h0, hl⟩]
  have := h.eq
  simp only [encs_nil, List.nil_append, List.append_nil] at this
  rw [this]

theorem RunF.nilArg {P : Program} {T : Tab} {f : FuncId} (pre post : List AV) {full : Bool} {r : AV} (h1 : ∀ a, (a = .sc (.slice none 0 0) ∨ a = .esl full) → RunF P T f (pre ++ a :: post) r) : RunF P T f (pre ++ .ssl [] 0 full :: post) r := by
  obtain ⟨H1, n1, a1⟩ := h1 _ (.inl rfl)
  obtain ⟨H2, n2, a2⟩ := h1 _ (.inr rfl)
  have key : ∀ {args : List AV} {H' : Mem} {n' m : Nat}, n' ≤ m → Run P T f args (fun _ => none) 0 r H' n' → Run P T f args (fun _ => none) 0 r (fun _ => none) m := by
    intro args H' n' m hm h
    exact Run.weak [] h ⟨fun i => .inl rfl, fun i => .inl rfl, hm⟩ (.inl rfl)
  exact ⟨fun _ => none, max n1 n2, Run.nilArg pre post (key (Nat.le_max_left _ _) a1) (key (Nat.le_max_right _ _) a2)⟩

theorem vop_len {T : Tab} {t : Nat → AV} {H : Mem} {α : Type} {c : α → List AV} {z ty e ety : Nat} {i : TI} {x : Operand} {o cc : Option Nat} {xs : List α} (ht : T ty = some i) (hk : i.k = .slice e) (hx : ev t x = slc o xs.length cc) (ho : OwnC H ety z c o cc xs) : vop T t H (.call ⟨.builtin .len, #[x], #[ty]⟩) = some (I xs.length) := by
  simp only [vop, List.map, hx, ht, hk]
  cases o with
  | none => have : xs = [] := ho; subst this; rfl
  | some b => rfl

end Go.Proofs.YtcdafogfmijcpaaW.Ah
