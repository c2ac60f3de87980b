/-
  Heads, their words, bytes as words, and which heaps can be, are the document's.
-/
import Derived.Test.YtfflojbgikfbmaaHrM
import Derived.Test.YtfflojbgikfbmaaHrO
namespace Go.Proofs.Ytfflojbgikfbmaa.M
open Go.Proofs.YtfflojbgikfbmaaW.Ah Go.Proofs.Ytfflojbgikfbmaa
set_option linter.unusedVariables false
set_option linter.unusedSimpArgs false

theorem idx_nat {α : Type} (xs : List α) (k : Nat) : idx xs (k : Int) = xs[k]? := by simp [idx]
theorem wrap_ok {x : Int} (h1 : -9223372036854775808 ≤ x) (h2 : x ≤ 9223372036854775807) : IntKind.i64.wrap x = x := wrap64_id h1 (by omega)
theorem wrapU_ok {x : Int} (h1 : 0 ≤ x) (h2 : x ≤ 18446744073709551615) : IntKind.u64.wrap x = x := by
  simp only [IntKind.wrap, IntKind.bits, IntKind.signed]
  simp
  omega

/-! Heads. -/
def canB (x : api_Head) : Bool := bif x.Kind == 0 then (((decide (0 ≤ x.Tag)) && (decide (x.Tag ≤ 15))) && (decide (0 < x.Count))) && (decide (x.Count ≤ 6)) else bif x.Kind == 1 then ((x.Tag == 0) && (decide (0 ≤ x.Count))) && (decide (x.Count ≤ 64)) else false
theorem can_ok (F : Nat) (x : api_Head) : heap_can F x = some (canB x) := by
  rw [heap_can, canB]
  cases x.Kind == 0 <;> cases x.Kind == 1 <;> rfl
theorem can16_ok (F : Nat) (x : api_Head) : R16_can F x = some (canB x) := by
  rw [R16_can, canB]
  cases h0 : x.Kind == 0 <;> cases h1 : x.Kind == 1
  · rfl
  · rfl
  · simp only [cond_true, cond_false, Bool.true_and]
    have : decide (1 ≤ x.Count) = decide (0 < x.Count) := by congr 1
    rw [this]
  · simp at h0 h1; omega
theorem can_iff {x : api_Head} (h : canB x = true) : (x.Kind = 0 ∨ x.Kind = 1) ∧ 0 ≤ x.Tag ∧ x.Tag ≤ 15 ∧ 0 ≤ x.Count ∧ x.Count ≤ 64 := by
  unfold canB at h
  cases h0 : x.Kind == 0 with
  | true => rw [h0] at h; simp at h h0; omega
  | false =>
    cases h1 : x.Kind == 1 with
    | true => rw [h0, h1] at h; simp at h h1; omega
    | false => rw [h0, h1] at h; simp at h
def headV (x : api_Head) : Int := x.Count + 256 * x.Tag + 65536 * x.Kind

theorem or_small : ∀ k < 2, ∀ t < 16, ∀ c < 65, borI .i64 (borI .i64 ((k : Nat) * 65536 : Nat) ((t : Nat) * 256 : Nat)) (c : Nat) = ((c + 256 * t + 65536 * k : Nat) : Int) := by decide +kernel

theorem head_ok (F : Nat) (x : api_Head) : heap_Head F x = some (bif canB x then (headV x, true) else (0, false)) := by
  rw [heap_Head, can_ok]
  simp only [Option.bind_some]
  cases h : canB x with
  | false => rfl
  | true =>
    obtain ⟨h1, h2, h3, h4, h5⟩ := can_iff h
    simp only [Bool.not_true, cond_false, cond_true]
    rw [wrap_ok (x := x.Kind * 65536) (by omega) (by omega), wrap_ok (x := x.Tag * 256) (by omega) (by omega)]
    have := or_small x.Kind.toNat (by omega) x.Tag.toNat (by omega) x.Count.toNat (by omega)
    rw [show ((x.Kind.toNat * 65536 : Nat) : Int) = x.Kind * 65536 by omega, show ((x.Tag.toNat * 256 : Nat) : Int) = x.Tag * 256 by omega, show ((x.Count.toNat : Nat) : Int) = x.Count by omega] at this
    rw [this, wrapU_ok (by omega) (by omega)]
    simp only [headV]
    congr 2
    omega
theorem head16_ok (F : Nat) (x : api_Head) : R16_Head F x = some (bif canB x then (headV x, true) else (0, false)) := by
  rw [R16_Head, can16_ok]
  simp only [Option.bind_some]
  cases h : canB x with
  | false => rfl
  | true =>
    obtain ⟨h1, h2, h3, h4, h5⟩ := can_iff h
    simp only [Bool.not_true, cond_false, cond_true]
    have e1 : IntKind.u64.wrap x.Count = x.Count := wrapU_ok (by omega) (by omega)
    have e2 : IntKind.u64.wrap x.Tag = x.Tag := wrapU_ok (by omega) (by omega)
    have e3 : IntKind.u64.wrap x.Kind = x.Kind := wrapU_ok (by omega) (by omega)
    have e4 : IntKind.u64.wrap (256 * x.Tag) = 256 * x.Tag := wrapU_ok (by omega) (by omega)
    have e5 : IntKind.u64.wrap (65536 * x.Kind) = 65536 * x.Kind := wrapU_ok (by omega) (by omega)
    have e6 : IntKind.u64.wrap (x.Count + 256 * x.Tag) = x.Count + 256 * x.Tag := wrapU_ok (by omega) (by omega)
    have e7 : IntKind.u64.wrap (x.Count + 256 * x.Tag + 65536 * x.Kind) = x.Count + 256 * x.Tag + 65536 * x.Kind := wrapU_ok (by omega) (by omega)
    rw [e1, e2, e3, e4, e5, e6, e7]
    rfl

theorem band_mod {a : Int} (k : Nat) (hk : k ≤ 60) (h1 : 0 ≤ a) (h2 : a ≤ 18446744073709551615) : bandI .u64 a ((2 ^ k - 1 : Nat) : Int) = a % (2 ^ k : Nat) := by
  have hp : 2 ^ k ≤ 2 ^ 60 := Nat.pow_le_pow_right (by omega) hk
  have h60 : (2 : Nat) ^ 60 = 1152921504606846976 := by decide
  have hpos : 0 < 2 ^ k := Nat.two_pow_pos k
  obtain ⟨n, rfl⟩ : ∃ n : Nat, a = n := ⟨a.toNat, by omega⟩
  have e : ((BitVec.ofInt 64 (n : Int) &&& BitVec.ofInt 64 ((2 ^ k - 1 : Nat) : Int)).toNat) = n % 2 ^ k := by
    rw [BitVec.toNat_and]
    have h64 : (2 : Nat) ^ 64 = 18446744073709551616 := by decide
    have e1 : (BitVec.ofInt 64 (n : Int)).toNat = n := by
      rw [BitVec.toNat_ofInt]; omega
    have e2 : (BitVec.ofInt 64 ((2 ^ k - 1 : Nat) : Int)).toNat = 2 ^ k - 1 := by
      rw [BitVec.toNat_ofInt]; omega
    rw [e1, e2, Nat.and_two_pow_sub_one_eq_mod]
  show IntKind.u64.wrap (((BitVec.ofInt 64 (n : Int) &&& BitVec.ofInt 64 ((2 ^ k - 1 : Nat) : Int)).toNat : Nat) : Int) = _
  rw [e]
  have := Nat.mod_lt n hpos
  rw [wrapU_ok (by omega) (by omega)]
  omega

/-- What a word says. -/
def readH (w : Int) : api_Head := ⟨w / 65536 % 16, w / 256 % 256, w % 256⟩
def isRead (w : Int) : Bool := decide (w < 1048576) && canB (readH w)
def readV (w : Int) : api_Head × Bool := bif isRead w then (readH w, true) else (⟨0, 0, 0⟩, false)

theorem read_ok (F : Nat) {w : Int} (h1 : 0 ≤ w) (h2 : w ≤ 18446744073709551615) : heap_Read F w = some (readV w) := by
  rw [heap_Read]
  have t1 : w.tdiv 65536 = w / 65536 := Int.tdiv_eq_ediv_of_nonneg h1
  have t2 : w.tdiv 256 = w / 256 := Int.tdiv_eq_ediv_of_nonneg h1
  have e1 : IntKind.u64.wrap (w / 65536) = w / 65536 := wrapU_ok (by omega) (by omega)
  have e2 : IntKind.u64.wrap (w / 256) = w / 256 := wrapU_ok (by omega) (by omega)
  have b1 : bandI .u64 (w / 65536) 15 = w / 65536 % 16 := band_mod 4 (by omega) (by omega) (by omega)
  have b2 : bandI .u64 (w / 256) 255 = w / 256 % 256 := band_mod 8 (by omega) (by omega) (by omega)
  have b3 : bandI .u64 w 255 = w % 256 := band_mod 8 (by omega) (by omega) (by omega)
  rw [t1, t2, e1, e2, b1, b2, b3, wrap_ok (x := w / 65536 % 16) (by omega) (by omega), wrap_ok (x := w / 256 % 256) (by omega) (by omega), wrap_ok (x := w % 256) (by omega) (by omega)]
  show (heap_Head F (readH w)).bind _ = _
  rw [head_ok]
  simp only [Option.bind_some, readV, isRead]
  cases hc : canB (readH w) with
  | false => simp
  | true =>
    obtain ⟨g1, g2, g3, g4, g5⟩ := can_iff hc
    simp only [readH] at g1 g2 g3 g4 g5
    have hv : headV (readH w) = w % 256 + 256 * (w / 256 % 256) + 65536 * (w / 65536 % 16) := rfl
    cases hl : decide (w < 1048576) with
    | true =>
      simp only [decide_eq_true_eq] at hl
      have : headV (readH w) = w := by rw [hv]; omega
      rw [this]; simp; rfl
    | false =>
      simp only [decide_eq_false_iff_not] at hl
      have h9 : headV (readH w) ≠ w := by rw [hv]; omega
      have : (headV (readH w) != w) = true := by simp [h9]
      simp only [cond_true, this, Bool.or_true]
      rfl

theorem read16_ok (F : Nat) {w : Int} (h1 : 0 ≤ w) (h2 : w ≤ 18446744073709551615) : R16_Read F w = some (readV w) := by
  rw [R16_Read]
  simp only [readV, isRead]
  cases hl : decide (w < 1048576) with
  | false =>
    have : decide (1048576 ≤ w) = true := by simp at hl ⊢; omega
    rw [this]; rfl
  | true =>
    have : decide (1048576 ≤ w) = false := by simp at hl ⊢; omega
    rw [this]
    simp only [decide_eq_true_eq] at hl
    have t1 : w.tdiv 65536 = w / 65536 := Int.tdiv_eq_ediv_of_nonneg h1
    have t2 : w.tdiv 256 = w / 256 := Int.tdiv_eq_ediv_of_nonneg h1
    have t3 : w.tmod 256 = w % 256 := Int.tmod_eq_emod_of_nonneg h1
    have e1 : IntKind.u64.wrap (w / 65536) = w / 65536 := wrapU_ok (by omega) (by omega)
    have e2 : IntKind.u64.wrap (w / 256) = w / 256 := wrapU_ok (by omega) (by omega)
    have t4 : (w / 256).tmod 256 = w / 256 % 256 := Int.tmod_eq_emod_of_nonneg (by omega)
    rw [t1, t2, t3, e1, e2, t4, wrap_ok (x := w / 65536) (by omega) (by omega), wrap_ok (x := w / 256 % 256) (by omega) (by omega), wrap_ok (x := w % 256) (by omega) (by omega)]
    have er : (⟨w / 65536, w / 256 % 256, w % 256⟩ : api_Head) = readH w := by
      simp only [readH]; congr 1; omega
    rw [er]
    simp only [cond_false, can16_ok, Option.bind_some, Bool.true_and]
    cases canB (readH w) <;> rfl

def sizeV (x : api_Head) : Int := bif canB x then 2 + (bif x.Kind == 1 then (x.Count + 7) / 8 else x.Count) else 0
theorem size_ok (F : Nat) (x : api_Head) : heap_Size F x = some (sizeV x) := by
  rw [heap_Size, can_ok]
  simp only [Option.bind_some, sizeV]
  cases h : canB x with
  | false => rfl
  | true =>
    obtain ⟨h1, h2, h3, h4, h5⟩ := can_iff h
    simp only [Bool.not_true, cond_false, cond_true, heap_body]
    cases hk : x.Kind == 1 with
    | false => simp only [cond_false, Option.bind_some]; rw [wrap_ok (by omega) (by omega)]
    | true =>
      simp only [cond_true, Option.bind_some]
      rw [wrap_ok (x := x.Count + 7) (by omega) (by omega)]
      have : shrI .i64 (x.Count + 7) 3 = (x.Count + 7) / 8 := by
        show (x.Count + 7).fdiv (2 ^ 3) = _
        rw [Int.fdiv_eq_ediv_of_nonneg _ (by decide)]
        rfl
      rw [this, wrap_ok (by omega) (by omega)]
theorem size16_ok (F : Nat) (x : api_Head) : R16_Size F x = some (sizeV x) := by
  rw [R16_Size, can16_ok]
  simp only [Option.bind_some, sizeV]
  cases h : canB x with
  | false => rfl
  | true =>
    obtain ⟨h1, h2, h3, h4, h5⟩ := can_iff h
    simp only [Bool.not_true, cond_false, cond_true]
    cases hk : x.Kind == 1 with
    | false => simp only [cond_false]; rw [wrap_ok (by omega) (by omega)]
    | true =>
      simp only [cond_true]
      have t : (x.Count + 7).tdiv 8 = (x.Count + 7) / 8 := Int.tdiv_eq_ediv_of_nonneg (by omega)
      rw [wrap_ok (x := x.Count + 7) (by omega) (by omega), t, wrap_ok (x := (x.Count + 7) / 8) (by omega) (by omega), wrap_ok (by omega) (by omega)]
theorem size_ge {w : Int} (h : (readV w).2 = true) : 2 ≤ sizeV (readV w).1 ∧ sizeV (readV w).1 ≤ 100 := by
  simp only [readV] at h ⊢
  cases hr : isRead w with
  | false => rw [hr] at h; cases h
  | true =>
    simp only [isRead, Bool.and_eq_true] at hr
    obtain ⟨h1, h2, h3, h4, h5⟩ := can_iff hr.2
    simp only [cond_true, sizeV, hr.2]
    cases (readH w).Kind == 1 <;> simp only [cond_true, cond_false] <;> omega

/-! Which heaps can be. -/
theorem ptr_eq (F : Nat) (a : Int) : word_Ptr F a = R01_Ptr F a := by
  rw [word_Ptr, R01_Ptr]
  congr 1
  show IntKind.u64.wrap (IntKind.u64.wrap a * 2 ^ (min 1 64)) = _
  congr 1
  simp; omega

theorem fit_loop (F : Nat) (a : api_Heap) (hw : ∀ w ∈ a.Words, 0 ≤ w ∧ w ≤ 18446744073709551615) (hlen : a.Words.length ≤ 500) (hn0 : 1 ≤ a.Next) (hn : a.Next ≤ a.Words.length) {K R : Bool → Option Bool} (hK : ∀ s, K s = R (s || (a.Scan == a.Next)))
    : ∀ (n : Nat) (v : Int) (s : Bool), 0 ≤ v → v ≤ a.Next + 200 → heap_Fit_L0 F a K n v s = R16_Fit_L0 F a R n (s || (a.Scan == a.Next)) v
  | 0, v, s, _, _ => rfl
  | n + 1, v, s, h0, h1 => by
    rw [heap_Fit_L0, R16_Fit_L0]
    cases hc : decide (v < a.Next) with
    | false => simp only [cond_false]; exact hK s
    | true =>
      simp only [decide_eq_true_eq] at hc
      obtain ⟨k, rfl⟩ : ∃ k : Nat, v = k := ⟨v.toNat, by omega⟩
      obtain ⟨w, hwk⟩ : ∃ w, a.Words[k]? = some w := ⟨a.Words[k]'(by omega), by simp⟩
      obtain ⟨g1, g2⟩ := hw w (List.mem_of_getElem? hwk)
      simp only [cond_true, idx_nat, hwk, Option.bind_some, read_ok F g1 g2, read16_ok F g1 g2, joinM, size_ok, size16_ok, ptr_eq]
      cases hr : (readV w).2 with
      | false => rfl
      | true =>
        obtain ⟨q1, q2⟩ := size_ge hr
        simp only [Bool.not_true, cond_false]
        have e1 : IntKind.i64.wrap ((k : Int) + sizeV (readV w).1) = (k : Int) + sizeV (readV w).1 := wrap_ok (by omega) (by omega)
        have e2 : IntKind.i64.wrap (a.Next - (k : Int)) = a.Next - k := wrap_ok (by omega) (by omega)
        have e3 : decide (a.Next < (k : Int) + sizeV (readV w).1) = decide (a.Next - (k : Int) < sizeV (readV w).1) := by
          congr 1; apply propext; omega
        have e4 : IntKind.i64.wrap ((k : Int) + 1) = ((k + 1 : Nat) : Int) := wrap_ok (by omega) (by omega)
        rw [e1, e2, e3]
        cases hs : decide (a.Next - (k : Int) < sizeV (readV w).1) with
        | true => rfl
        | false =>
          simp only [decide_eq_false_iff_not] at hs
          obtain ⟨w2, hw2⟩ : ∃ w2, a.Words[k + 1]? = some w2 := ⟨a.Words[k + 1]'(by omega), by simp⟩
          simp only [cond_false, e4, idx_nat, hw2, Option.bind_some]
          simp only [R01_Ptr, Option.bind_some]
          cases hp : (w2 != IntKind.u64.wrap (2 * IntKind.u64.wrap (IntKind.u32.wrap (k : Int)))) with
          | true => rfl
          | false =>
            simp only [cond_false]
            rw [fit_loop F a hw hlen hn0 hn hK n _ _ (by omega) (by omega)]
            congr 1
            have : ((k : Int) == a.Scan) = (a.Scan == (k : Int)) := by
              cases h : (a.Scan == (k : Int)) with
              | true => simp at h ⊢; omega
              | false => simp at h ⊢; omega
            rw [this]
            cases s <;> cases (a.Scan == a.Next) <;> cases (a.Scan == (k : Int)) <;> rfl

theorem fit_some (F : Nat) (a : api_Heap) (hw : ∀ w ∈ a.Words, 0 ≤ w ∧ w ≤ 18446744073709551615) (hlen : a.Words.length ≤ 500) (hn : a.Next ≤ a.Words.length) {K : Bool → Option Bool} (hK : ∀ s, ∃ b, K s = some b)
    : ∀ (n : Nat) (v : Int) (s : Bool), 0 ≤ v → v ≤ a.Next + 200 → (a.Next + 201 - v).toNat < n → ∃ b, heap_Fit_L0 F a K n v s = some b
  | 0, v, s, _, _, h => by omega
  | n + 1, v, s, h0, h1, h2 => by
    rw [heap_Fit_L0]
    cases hc : decide (v < a.Next) with
    | false => simp only [cond_false]; exact hK s
    | true =>
      simp only [decide_eq_true_eq] at hc
      obtain ⟨k, rfl⟩ : ∃ k : Nat, v = k := ⟨v.toNat, by omega⟩
      obtain ⟨w, hwk⟩ : ∃ w, a.Words[k]? = some w := ⟨a.Words[k]'(by omega), by simp⟩
      obtain ⟨g1, g2⟩ := hw w (List.mem_of_getElem? hwk)
      simp only [cond_true, idx_nat, hwk, Option.bind_some, read_ok F g1 g2, joinM, size_ok]
      cases hr : (readV w).2 with
      | false => exact ⟨_, rfl⟩
      | true =>
        obtain ⟨q1, q2⟩ := size_ge hr
        simp only [Bool.not_true, cond_false]
        have e1 : IntKind.i64.wrap ((k : Int) + sizeV (readV w).1) = (k : Int) + sizeV (readV w).1 := wrap_ok (by omega) (by omega)
        have e4 : IntKind.i64.wrap ((k : Int) + 1) = ((k + 1 : Nat) : Int) := wrap_ok (by omega) (by omega)
        rw [e1]
        cases hs : decide (a.Next < (k : Int) + sizeV (readV w).1) with
        | true => exact ⟨_, rfl⟩
        | false =>
          simp only [decide_eq_false_iff_not] at hs
          obtain ⟨w2, hw2⟩ : ∃ w2, a.Words[k + 1]? = some w2 := ⟨a.Words[k + 1]'(by omega), by simp⟩
          simp only [cond_false, e4, idx_nat, hw2, Option.bind_some, word_Ptr]
          cases hp : (w2 != shlI .u64 (IntKind.u64.wrap (IntKind.u32.wrap (k : Int))) 1) with
          | true => exact ⟨_, rfl⟩
          | false =>
            simp only [cond_false]
            exact fit_some F a hw hlen hn hK n _ _ (by omega) (by omega) (by omega)

theorem fit_ok (F : Nat) (hF : 2000 ≤ F) (a : api_Heap) (hw : ∀ w ∈ a.Words, 0 ≤ w ∧ w ≤ 18446744073709551615) (hlen : a.Words.length ≤ 500) (w3 : W3 a.Next) : ∃ b, heap_Fit F a = some b ∧ R16_Fit F a = some b := by
  rw [heap_Fit, R16_Fit]
  simp only [joinM]
  cases hc : (((decide (a.Half < 16)) || (decide (16384 < a.Half))) || ((a.Words.length : Int) != (IntKind.i64.wrap ((IntKind.i64.wrap (2 * a.Half)) + 1)))) with
  | true => exact ⟨_, rfl, rfl⟩
  | false =>
    simp only [Bool.or_eq_false_iff, decide_eq_false_iff_not, bne_eq_false_iff_eq] at hc
    obtain ⟨⟨c1, c2⟩, c3⟩ := hc
    have e0 : IntKind.i64.wrap (2 * a.Half) = 2 * a.Half := wrap_ok (by omega) (by omega)
    rw [e0, wrap_ok (by omega) (by omega)] at c3
    obtain ⟨w, hw0⟩ : ∃ w, a.Words[0]? = some w := ⟨a.Words[0]'(by omega), by simp⟩
    have hi : idx a.Words 0 = some w := by rw [show (0 : Int) = ((0 : Nat) : Int) from rfl, idx_nat, hw0]
    simp only [cond_false, hi, Option.bind_some]
    cases hz : (w != 0) with
    | true => exact ⟨_, rfl, rfl⟩
    | false =>
      have hbeg : heap_begin F a = R16_first F a := by rw [heap_begin, R16_first]
      obtain ⟨bg, hb, hb1, hb2⟩ : ∃ bg, R16_first F a = some bg ∧ 1 ≤ bg ∧ bg ≤ a.Half + 1 := by
        rw [R16_first]
        cases a.Up with
        | true => exact ⟨_, rfl, by rw [wrap_ok (by omega) (by omega)]; omega, by rw [wrap_ok (by omega) (by omega)]; omega⟩
        | false => exact ⟨1, rfl, by omega, by omega⟩
      unfold W3 at w3
      have i1 : IntKind.i64.min = -9223372036854775808 := rfl
      have i2 : IntKind.i64.max = 9223372036854775807 := rfl
      rw [i1, i2] at w3
      simp only [cond_false, hbeg, hb, Option.bind_some]
      cases hn : decide (a.Next < bg) with
      | true => exact ⟨_, rfl, rfl⟩
      | false =>
        simp only [decide_eq_false_iff_not] at hn
        have e1 : IntKind.i64.wrap (a.Next - bg) = a.Next - bg := wrap_ok (by omega) (by omega)
        have e2 : IntKind.i64.wrap (bg + a.Half) = bg + a.Half := wrap_ok (by omega) (by omega)
        have e3 : decide (a.Half < a.Next - bg) = decide (bg + a.Half < a.Next) := by congr 1; apply propext; omega
        rw [e1, e2, e3]
        cases hh : decide (bg + a.Half < a.Next) with
        | true => exact ⟨_, rfl, rfl⟩
        | false =>
          simp only [decide_eq_false_iff_not] at hh
          simp only [Bool.or_false, cond_false]
          have key := fit_loop F a hw hlen (by omega) (by omega) (K := fun v7 => some ((a.On && (v7 || (a.Scan == a.Next))) || ((!a.On) && (a.Scan == 0)))) (R := fun v7 => bif (!a.On) then (some (a.Scan == 0)) else (some v7)) (fun s => by cases a.On <;> cases s <;> cases (a.Scan == a.Next) <;> cases (a.Scan == 0) <;> rfl) F bg false (by omega) (by omega)
          obtain ⟨b, hbb⟩ := fit_some F a hw hlen (by omega) (K := fun v7 => some ((a.On && (v7 || (a.Scan == a.Next))) || ((!a.On) && (a.Scan == 0)))) (fun s => ⟨_, rfl⟩) F bg false (by omega) (by omega) (by omega)
          refine ⟨b, hbb, ?_⟩
          rw [key] at hbb
          simpa using hbb

end Go.Proofs.Ytfflojbgikfbmaa.M
