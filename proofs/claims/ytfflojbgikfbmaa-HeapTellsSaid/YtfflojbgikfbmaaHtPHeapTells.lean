/-
  Heads, their words, bytes as words, and which heaps can be, are the document's.
-/
import Derived.Test.YtfflojbgikfbmaaHtM
import Derived.Test.YtfflojbgikfbmaaHtO
namespace Go.Proofs.Ytfflojbgikfbmaa.M
open Go.Proofs.YtfflojbgikfbmaaW.Ah Go.Proofs.Ytfflojbgikfbmaa
set_option linter.unusedVariables false
set_option linter.unusedSimpArgs false

theorem idx_nat {α : Type} (xs : List α) (k : Nat) : idx xs (k : Int) = xs[k]? := by simp [idx]
theorem wrap_ok {x : Int} (h1 : -9223372036854775808 ≤ x) (h2 : x ≤ 9223372036854775807) : IntKind.i64.wrap x = x := wrap64_id h1 (by omega)
theorem wrapU_ok {x : Int} (h1 : 0 ≤ x) (h2 : x ≤ 18446744073709551615) : IntKind.u64.wrap x = x := by
  simp only [IntKind.wrap, IntKind.bits, IntKind.signed]
  simp
  omega

/-! Heads. -/
def canB (x : api_Head) : Bool := bif x.Kind == 0 then (((decide (0 ≤ x.Tag)) && (decide (x.Tag ≤ 15))) && (decide (0 < x.Count))) && (decide (x.Count ≤ 6)) else bif x.Kind == 1 then ((x.Tag == 0) && (decide (0 ≤ x.Count))) && (decide (x.Count ≤ 64)) else false
theorem can_ok (F : Nat) (x : api_Head) : heap_can F x = some (canB x) := by
  rw [heap_can, canB]
  cases x.Kind == 0 <;> cases x.Kind == 1 <;> rfl
theorem can16_ok (F : Nat) (x : api_Head) : R16_can F x = some (canB x) := by
  rw [R16_can, canB]
  cases h0 : x.Kind == 0 <;> cases h1 : x.Kind == 1
  · rfl
  · rfl
  · simp only [cond_true, cond_false, Bool.true_and]
    have : decide (1 ≤ x.Count) = decide (0 < x.Count) := by congr 1
    rw [this]
  · simp at h0 h1; omega
theorem can_iff {x : api_Head} (h : canB x = true) : (x.Kind = 0 ∨ x.Kind = 1) ∧ 0 ≤ x.Tag ∧ x.Tag ≤ 15 ∧ 0 ≤ x.Count ∧ x.Count ≤ 64 := by
  unfold canB at h
  cases h0 : x.Kind == 0 with
  | true => rw [h0] at h; simp at h h0; omega
  | false =>
    cases h1 : x.Kind == 1 with
    | true => rw [h0, h1] at h; simp at h h1; omega
    | false => rw [h0, h1] at h; simp at h
def headV (x : api_Head) : Int := x.Count + 256 * x.Tag + 65536 * x.Kind

theorem or_small : ∀ k < 2, ∀ t < 16, ∀ c < 65, borI .i64 (borI .i64 ((k : Nat) * 65536 : Nat) ((t : Nat) * 256 : Nat)) (c : Nat) = ((c + 256 * t + 65536 * k : Nat) : Int) := by decide +kernel

theorem head_ok (F : Nat) (x : api_Head) : heap_Head F x = some (bif canB x then (headV x, true) else (0, false)) := by
  rw [heap_Head, can_ok]
  simp only [Option.bind_some]
  cases h : canB x with
  | false => rfl
  | true =>
    obtain ⟨h1, h2, h3, h4, h5⟩ := can_iff h
    simp only [Bool.not_true, cond_false, cond_true]
    rw [wrap_ok (x := x.Kind * 65536) (by omega) (by omega), wrap_ok (x := x.Tag * 256) (by omega) (by omega)]
    have := or_small x.Kind.toNat (by omega) x.Tag.toNat (by omega) x.Count.toNat (by omega)
    rw [show ((x.Kind.toNat * 65536 : Nat) : Int) = x.Kind * 65536 by omega, show ((x.Tag.toNat * 256 : Nat) : Int) = x.Tag * 256 by omega, show ((x.Count.toNat : Nat) : Int) = x.Count by omega] at this
    rw [this, wrapU_ok (by omega) (by omega)]
    simp only [headV]
    congr 2
    omega
theorem head16_ok (F : Nat) (x : api_Head) : R16_Head F x = some (bif canB x then (headV x, true) else (0, false)) := by
  rw [R16_Head, can16_ok]
  simp only [Option.bind_some]
  cases h : canB x with
  | false => rfl
  | true =>
    obtain ⟨h1, h2, h3, h4, h5⟩ := can_iff h
    simp only [Bool.not_true, cond_false, cond_true]
    have e1 : IntKind.u64.wrap x.Count = x.Count := wrapU_ok (by omega) (by omega)
    have e2 : IntKind.u64.wrap x.Tag = x.Tag := wrapU_ok (by omega) (by omega)
    have e3 : IntKind.u64.wrap x.Kind = x.Kind := wrapU_ok (by omega) (by omega)
    have e4 : IntKind.u64.wrap (256 * x.Tag) = 256 * x.Tag := wrapU_ok (by omega) (by omega)
    have e5 : IntKind.u64.wrap (65536 * x.Kind) = 65536 * x.Kind := wrapU_ok (by omega) (by omega)
    have e6 : IntKind.u64.wrap (x.Count + 256 * x.Tag) = x.Count + 256 * x.Tag := wrapU_ok (by omega) (by omega)
    have e7 : IntKind.u64.wrap (x.Count + 256 * x.Tag + 65536 * x.Kind) = x.Count + 256 * x.Tag + 65536 * x.Kind := wrapU_ok (by omega) (by omega)
    rw [e1, e2, e3, e4, e5, e6, e7]
    rfl

theorem band_mod {a : Int} (k : Nat) (hk : k ≤ 60) (h1 : 0 ≤ a) (h2 : a ≤ 18446744073709551615) : bandI .u64 a ((2 ^ k - 1 : Nat) : Int) = a % (2 ^ k : Nat) := by
  have hp : 2 ^ k ≤ 2 ^ 60 := Nat.pow_le_pow_right (by omega) hk
  have h60 : (2 : Nat) ^ 60 = 1152921504606846976 := by decide
  have hpos : 0 < 2 ^ k := Nat.two_pow_pos k
  obtain ⟨n, rfl⟩ : ∃ n : Nat, a = n := ⟨a.toNat, by omega⟩
  have e : ((BitVec.ofInt 64 (n : Int) &&& BitVec.ofInt 64 ((2 ^ k - 1 : Nat) : Int)).toNat) = n % 2 ^ k := by
    rw [BitVec.toNat_and]
    have h64 : (2 : Nat) ^ 64 = 18446744073709551616 := by decide
    have e1 : (BitVec.ofInt 64 (n : Int)).toNat = n := by
      rw [BitVec.toNat_ofInt]; omega
    have e2 : (BitVec.ofInt 64 ((2 ^ k - 1 : Nat) : Int)).toNat = 2 ^ k - 1 := by
      rw [BitVec.toNat_ofInt]; omega
    rw [e1, e2, Nat.and_two_pow_sub_one_eq_mod]
  show IntKind.u64.wrap (((BitVec.ofInt 64 (n : Int) &&& BitVec.ofInt 64 ((2 ^ k - 1 : Nat) : Int)).toNat : Nat) : Int) = _
  rw [e]
  have := Nat.mod_lt n hpos
  rw [wrapU_ok (by omega) (by omega)]
  omega

/-- What a word says. -/
def readH (w : Int) : api_Head := ⟨w / 65536 % 16, w / 256 % 256, w % 256⟩
def isRead (w : Int) : Bool := decide (w < 1048576) && canB (readH w)
def readV (w : Int) : api_Head × Bool := bif isRead w then (readH w, true) else (⟨0, 0, 0⟩, false)

theorem read_ok (F : Nat) {w : Int} (h1 : 0 ≤ w) (h2 : w ≤ 18446744073709551615) : heap_Read F w = some (readV w) := by
  rw [heap_Read]
  have t1 : w.tdiv 65536 = w / 65536 := Int.tdiv_eq_ediv_of_nonneg h1
  have t2 : w.tdiv 256 = w / 256 := Int.tdiv_eq_ediv_of_nonneg h1
  have e1 : IntKind.u64.wrap (w / 65536) = w / 65536 := wrapU_ok (by omega) (by omega)
  have e2 : IntKind.u64.wrap (w / 256) = w / 256 := wrapU_ok (by omega) (by omega)
  have b1 : bandI .u64 (w / 65536) 15 = w / 65536 % 16 := band_mod 4 (by omega) (by omega) (by omega)
  have b2 : bandI .u64 (w / 256) 255 = w / 256 % 256 := band_mod 8 (by omega) (by omega) (by omega)
  have b3 : bandI .u64 w 255 = w % 256 := band_mod 8 (by omega) (by omega) (by omega)
  rw [t1, t2, e1, e2, b1, b2, b3, wrap_ok (x := w / 65536 % 16) (by omega) (by omega), wrap_ok (x := w / 256 % 256) (by omega) (by omega), wrap_ok (x := w % 256) (by omega) (by omega)]
  show (heap_Head F (readH w)).bind _ = _
  rw [head_ok]
  simp only [Option.bind_some, readV, isRead]
  cases hc : canB (readH w) with
  | false => simp
  | true =>
    obtain ⟨g1, g2, g3, g4, g5⟩ := can_iff hc
    simp only [readH] at g1 g2 g3 g4 g5
    have hv : headV (readH w) = w % 256 + 256 * (w / 256 % 256) + 65536 * (w / 65536 % 16) := rfl
    cases hl : decide (w < 1048576) with
    | true =>
      simp only [decide_eq_true_eq] at hl
      have : headV (readH w) = w := by rw [hv]; omega
      rw [this]; simp; rfl
    | false =>
      simp only [decide_eq_false_iff_not] at hl
      have h9 : headV (readH w) ≠ w := by rw [hv]; omega
      have : (headV (readH w) != w) = true := by simp [h9]
      simp only [cond_true, this, Bool.or_true]
      rfl

theorem read16_ok (F : Nat) {w : Int} (h1 : 0 ≤ w) (h2 : w ≤ 18446744073709551615) : R16_Read F w = some (readV w) := by
  rw [R16_Read]
  simp only [readV, isRead]
  cases hl : decide (w < 1048576) with
  | false =>
    have : decide (1048576 ≤ w) = true := by simp at hl ⊢; omega
    rw [this]; rfl
  | true =>
    have : decide (1048576 ≤ w) = false := by simp at hl ⊢; omega
    rw [this]
    simp only [decide_eq_true_eq] at hl
    have t1 : w.tdiv 65536 = w / 65536 := Int.tdiv_eq_ediv_of_nonneg h1
    have t2 : w.tdiv 256 = w / 256 := Int.tdiv_eq_ediv_of_nonneg h1
    have t3 : w.tmod 256 = w % 256 := Int.tmod_eq_emod_of_nonneg h1
    have e1 : IntKind.u64.wrap (w / 65536) = w / 65536 := wrapU_ok (by omega) (by omega)
    have e2 : IntKind.u64.wrap (w / 256) = w / 256 := wrapU_ok (by omega) (by omega)
    have t4 : (w / 256).tmod 256 = w / 256 % 256 := Int.tmod_eq_emod_of_nonneg (by omega)
    rw [t1, t2, t3, e1, e2, t4, wrap_ok (x := w / 65536) (by omega) (by omega), wrap_ok (x := w / 256 % 256) (by omega) (by omega), wrap_ok (x := w % 256) (by omega) (by omega)]
    have er : (⟨w / 65536, w / 256 % 256, w % 256⟩ : api_Head) = readH w := by
      simp only [readH]; congr 1; omega
    rw [er]
    simp only [cond_false, can16_ok, Option.bind_some, Bool.true_and]
    cases canB (readH w) <;> rfl

def sizeV (x : api_Head) : Int := bif canB x then 2 + (bif x.Kind == 1 then (x.Count + 7) / 8 else x.Count) else 0
theorem size_ok (F : Nat) (x : api_Head) : heap_Size F x = some (sizeV x) := by
  rw [heap_Size, can_ok]
  simp only [Option.bind_some, sizeV]
  cases h : canB x with
  | false => rfl
  | true =>
    obtain ⟨h1, h2, h3, h4, h5⟩ := can_iff h
    simp only [Bool.not_true, cond_false, cond_true, heap_body]
    cases hk : x.Kind == 1 with
    | false => simp only [cond_false, Option.bind_some]; rw [wrap_ok (by omega) (by omega)]
    | true =>
      simp only [cond_true, Option.bind_some]
      rw [wrap_ok (x := x.Count + 7) (by omega) (by omega)]
      have : shrI .i64 (x.Count + 7) 3 = (x.Count + 7) / 8 := by
        show (x.Count + 7).fdiv (2 ^ 3) = _
        rw [Int.fdiv_eq_ediv_of_nonneg _ (by decide)]
        rfl
      rw [this, wrap_ok (by omega) (by omega)]
theorem size16_ok (F : Nat) (x : api_Head) : R16_Size F x = some (sizeV x) := by
  rw [R16_Size, can16_ok]
  simp only [Option.bind_some, sizeV]
  cases h : canB x with
  | false => rfl
  | true =>
    obtain ⟨h1, h2, h3, h4, h5⟩ := can_iff h
    simp only [Bool.not_true, cond_false, cond_true]
    cases hk : x.Kind == 1 with
    | false => simp only [cond_false]; rw [wrap_ok (by omega) (by omega)]
    | true =>
      simp only [cond_true]
      have t : (x.Count + 7).tdiv 8 = (x.Count + 7) / 8 := Int.tdiv_eq_ediv_of_nonneg (by omega)
      rw [wrap_ok (x := x.Count + 7) (by omega) (by omega), t, wrap_ok (x := (x.Count + 7) / 8) (by omega) (by omega), wrap_ok (by omega) (by omega)]
theorem size_ge {w : Int} (h : (readV w).2 = true) : 2 ≤ sizeV (readV w).1 ∧ sizeV (readV w).1 ≤ 100 := by
  simp only [readV] at h ⊢
  cases hr : isRead w with
  | false => rw [hr] at h; cases h
  | true =>
    simp only [isRead, Bool.and_eq_true] at hr
    obtain ⟨h1, h2, h3, h4, h5⟩ := can_iff hr.2
    simp only [cond_true, sizeV, hr.2]
    cases (readH w).Kind == 1 <;> simp only [cond_true, cond_false] <;> omega

/-! Which heaps can be. -/
theorem ptr_eq (F : Nat) (a : Int) : word_Ptr F a = R01_Ptr F a := by
  rw [word_Ptr, R01_Ptr]
  congr 1
  show IntKind.u64.wrap (IntKind.u64.wrap a * 2 ^ (min 1 64)) = _
  congr 1
  simp; omega

theorem fit_loop (F : Nat) (a : api_Heap) (hw : ∀ w ∈ a.Words, 0 ≤ w ∧ w ≤ 18446744073709551615) (hlen : a.Words.length ≤ 500) (hn0 : 1 ≤ a.Next) (hn : a.Next ≤ a.Words.length) {K R : Bool → Option Bool} (hK : ∀ s, K s = R (s || (a.Scan == a.Next)))
    : ∀ (n : Nat) (v : Int) (s : Bool), 0 ≤ v → v ≤ a.Next + 200 → heap_Fit_L0 F a K n v s = R16_Fit_L0 F a R n (s || (a.Scan == a.Next)) v
  | 0, v, s, _, _ => rfl
  | n + 1, v, s, h0, h1 => by
    rw [heap_Fit_L0, R16_Fit_L0]
    cases hc : decide (v < a.Next) with
    | false => simp only [cond_false]; exact hK s
    | true =>
      simp only [decide_eq_true_eq] at hc
      obtain ⟨k, rfl⟩ : ∃ k : Nat, v = k := ⟨v.toNat, by omega⟩
      obtain ⟨w, hwk⟩ : ∃ w, a.Words[k]? = some w := ⟨a.Words[k]'(by omega), by simp⟩
      obtain ⟨g1, g2⟩ := hw w (List.mem_of_getElem? hwk)
      simp only [cond_true, idx_nat, hwk, Option.bind_some, read_ok F g1 g2, read16_ok F g1 g2, joinM, size_ok, size16_ok, ptr_eq]
      cases hr : (readV w).2 with
      | false => rfl
      | true =>
        obtain ⟨q1, q2⟩ := size_ge hr
        simp only [Bool.not_true, cond_false]
        have e1 : IntKind.i64.wrap ((k : Int) + sizeV (readV w).1) = (k : Int) + sizeV (readV w).1 := wrap_ok (by omega) (by omega)
        have e2 : IntKind.i64.wrap (a.Next - (k : Int)) = a.Next - k := wrap_ok (by omega) (by omega)
        have e3 : decide (a.Next < (k : Int) + sizeV (readV w).1) = decide (a.Next - (k : Int) < sizeV (readV w).1) := by
          congr 1; apply propext; omega
        have e4 : IntKind.i64.wrap ((k : Int) + 1) = ((k + 1 : Nat) : Int) := wrap_ok (by omega) (by omega)
        rw [e1, e2, e3]
        cases hs : decide (a.Next - (k : Int) < sizeV (readV w).1) with
        | true => rfl
        | false =>
          simp only [decide_eq_false_iff_not] at hs
          obtain ⟨w2, hw2⟩ : ∃ w2, a.Words[k + 1]? = some w2 := ⟨a.Words[k + 1]'(by omega), by simp⟩
          simp only [cond_false, e4, idx_nat, hw2, Option.bind_some]
          simp only [R01_Ptr, Option.bind_some]
          cases hp : (w2 != IntKind.u64.wrap (2 * IntKind.u64.wrap (IntKind.u32.wrap (k : Int)))) with
          | true => rfl
          | false =>
            simp only [cond_false]
            rw [fit_loop F a hw hlen hn0 hn hK n _ _ (by omega) (by omega)]
            congr 1
            have : ((k : Int) == a.Scan) = (a.Scan == (k : Int)) := by
              cases h : (a.Scan == (k : Int)) with
              | true => simp at h ⊢; omega
              | false => simp at h ⊢; omega
            rw [this]
            cases s <;> cases (a.Scan == a.Next) <;> cases (a.Scan == (k : Int)) <;> rfl

theorem fit_some (F : Nat) (a : api_Heap) (hw : ∀ w ∈ a.Words, 0 ≤ w ∧ w ≤ 18446744073709551615) (hlen : a.Words.length ≤ 500) (hn : a.Next ≤ a.Words.length) {K : Bool → Option Bool} (hK : ∀ s, ∃ b, K s = some b)
    : ∀ (n : Nat) (v : Int) (s : Bool), 0 ≤ v → v ≤ a.Next + 200 → (a.Next + 201 - v).toNat < n → ∃ b, heap_Fit_L0 F a K n v s = some b
  | 0, v, s, _, _, h => by omega
  | n + 1, v, s, h0, h1, h2 => by
    rw [heap_Fit_L0]
    cases hc : decide (v < a.Next) with
    | false => simp only [cond_false]; exact hK s
    | true =>
      simp only [decide_eq_true_eq] at hc
      obtain ⟨k, rfl⟩ : ∃ k : Nat, v = k := ⟨v.toNat, by omega⟩
      obtain ⟨w, hwk⟩ : ∃ w, a.Words[k]? = some w := ⟨a.Words[k]'(by omega), by simp⟩
      obtain ⟨g1, g2⟩ := hw w (List.mem_of_getElem? hwk)
      simp only [cond_true, idx_nat, hwk, Option.bind_some, read_ok F g1 g2, joinM, size_ok]
      cases hr : (readV w).2 with
      | false => exact ⟨_, rfl⟩
      | true =>
        obtain ⟨q1, q2⟩ := size_ge hr
        simp only [Bool.not_true, cond_false]
        have e1 : IntKind.i64.wrap ((k : Int) + sizeV (readV w).1) = (k : Int) + sizeV (readV w).1 := wrap_ok (by omega) (by omega)
        have e4 : IntKind.i64.wrap ((k : Int) + 1) = ((k + 1 : Nat) : Int) := wrap_ok (by omega) (by omega)
        rw [e1]
        cases hs : decide (a.Next < (k : Int) + sizeV (readV w).1) with
        | true => exact ⟨_, rfl⟩
        | false =>
          simp only [decide_eq_false_iff_not] at hs
          obtain ⟨w2, hw2⟩ : ∃ w2, a.Words[k + 1]? = some w2 := ⟨a.Words[k + 1]'(by omega), by simp⟩
          simp only [cond_false, e4, idx_nat, hw2, Option.bind_some, word_Ptr]
          cases hp : (w2 != shlI .u64 (IntKind.u64.wrap (IntKind.u32.wrap (k : Int))) 1) with
          | true => exact ⟨_, rfl⟩
          | false =>
            simp only [cond_false]
            exact fit_some F a hw hlen hn hK n _ _ (by omega) (by omega) (by omega)

theorem fit_ok (F : Nat) (hF : 2000 ≤ F) (a : api_Heap) (hw : ∀ w ∈ a.Words, 0 ≤ w ∧ w ≤ 18446744073709551615) (hlen : a.Words.length ≤ 500) (w3 : W3 a.Next) : ∃ b, heap_Fit F a = some b ∧ R16_Fit F a = some b := by
  rw [heap_Fit, R16_Fit]
  simp only [joinM]
  cases hc : (((decide (a.Half < 16)) || (decide (16384 < a.Half))) || ((a.Words.length : Int) != (IntKind.i64.wrap ((IntKind.i64.wrap (2 * a.Half)) + 1)))) with
  | true => exact ⟨_, rfl, rfl⟩
  | false =>
    simp only [Bool.or_eq_false_iff, decide_eq_false_iff_not, bne_eq_false_iff_eq] at hc
    obtain ⟨⟨c1, c2⟩, c3⟩ := hc
    have e0 : IntKind.i64.wrap (2 * a.Half) = 2 * a.Half := wrap_ok (by omega) (by omega)
    rw [e0, wrap_ok (by omega) (by omega)] at c3
    obtain ⟨w, hw0⟩ : ∃ w, a.Words[0]? = some w := ⟨a.Words[0]'(by omega), by simp⟩
    have hi : idx a.Words 0 = some w := by rw [show (0 : Int) = ((0 : Nat) : Int) from rfl, idx_nat, hw0]
    simp only [cond_false, hi, Option.bind_some]
    cases hz : (w != 0) with
    | true => exact ⟨_, rfl, rfl⟩
    | false =>
      have hbeg : heap_begin F a = R16_first F a := by rw [heap_begin, R16_first]
      obtain ⟨bg, hb, hb1, hb2⟩ : ∃ bg, R16_first F a = some bg ∧ 1 ≤ bg ∧ bg ≤ a.Half + 1 := by
        rw [R16_first]
        cases a.Up with
        | true => exact ⟨_, rfl, by rw [wrap_ok (by omega) (by omega)]; omega, by rw [wrap_ok (by omega) (by omega)]; omega⟩
        | false => exact ⟨1, rfl, by omega, by omega⟩
      unfold W3 at w3
      have i1 : IntKind.i64.min = -9223372036854775808 := rfl
      have i2 : IntKind.i64.max = 9223372036854775807 := rfl
      rw [i1, i2] at w3
      simp only [cond_false, hbeg, hb, Option.bind_some]
      cases hn : decide (a.Next < bg) with
      | true => exact ⟨_, rfl, rfl⟩
      | false =>
        simp only [decide_eq_false_iff_not] at hn
        have e1 : IntKind.i64.wrap (a.Next - bg) = a.Next - bg := wrap_ok (by omega) (by omega)
        have e2 : IntKind.i64.wrap (bg + a.Half) = bg + a.Half := wrap_ok (by omega) (by omega)
        have e3 : decide (a.Half < a.Next - bg) = decide (bg + a.Half < a.Next) := by congr 1; apply propext; omega
        rw [e1, e2, e3]
        cases hh : decide (bg + a.Half < a.Next) with
        | true => exact ⟨_, rfl, rfl⟩
        | false =>
          simp only [decide_eq_false_iff_not] at hh
          simp only [Bool.or_false, cond_false]
          have key := fit_loop F a hw hlen (by omega) (by omega) (K := fun v7 => some ((a.On && (v7 || (a.Scan == a.Next))) || ((!a.On) && (a.Scan == 0)))) (R := fun v7 => bif (!a.On) then (some (a.Scan == 0)) else (some v7)) (fun s => by cases a.On <;> cases s <;> cases (a.Scan == a.Next) <;> cases (a.Scan == 0) <;> rfl) F bg false (by omega) (by omega)
          obtain ⟨b, hbb⟩ := fit_some F a hw hlen (by omega) (K := fun v7 => some ((a.On && (v7 || (a.Scan == a.Next))) || ((!a.On) && (a.Scan == 0)))) (fun s => ⟨_, rfl⟩) F bg false (by omega) (by omega) (by omega)
          refine ⟨b, hbb, ?_⟩
          rw [key] at hbb
          simpa using hbb

/-! Bytes as words. -/
/-- A row of bytes, as a number. -/
def num : List Int → Nat
  | [] => 0
  | x :: xs => x.toNat + 256 * num xs
theorem num_snoc (x : Int) : ∀ xs : List Int, num (xs ++ [x]) = num xs + 256 ^ xs.length * x.toNat
  | [] => by simp [num]
  | y :: ys => by
    rw [List.cons_append, num, num, num_snoc x ys, List.length_cons, Nat.pow_succ, Nat.mul_add]
    rw [show 256 ^ ys.length * 256 * x.toNat = 256 * (256 ^ ys.length * x.toNat) by rw [Nat.mul_comm (256 ^ ys.length), Nat.mul_assoc]]
    omega
theorem num_lt : ∀ xs : List Int, (∀ x ∈ xs, 0 ≤ x ∧ x ≤ 255) → num xs < 256 ^ xs.length
  | [], _ => by simp [num]
  | y :: ys, h => by
    have := num_lt ys fun x hx => h x (.tail _ hx)
    have := h y (.head _)
    rw [num, List.length_cons, Nat.pow_succ]
    omega
theorem bor_add (k a b : Nat) (hb : b < 2 ^ k) (hs : 2 ^ k * a + b < 2 ^ 64) : borI .u64 ((2 ^ k * a : Nat) : Int) (b : Int) = ((2 ^ k * a + b : Nat) : Int) := by
  have h64 : (2 : Nat) ^ 64 = 18446744073709551616 := by decide
  have e : (BitVec.ofInt 64 ((2 ^ k * a : Nat) : Int) ||| BitVec.ofInt 64 (b : Int)).toNat = 2 ^ k * a + b := by
    rw [BitVec.toNat_or]
    have e1 : (BitVec.ofInt 64 ((2 ^ k * a : Nat) : Int)).toNat = 2 ^ k * a := by
      rw [BitVec.toNat_ofInt]; omega
    have e2 : (BitVec.ofInt 64 (b : Int)).toNat = b := by
      rw [BitVec.toNat_ofInt]; omega
    rw [e1, e2, Nat.two_pow_add_eq_or_of_lt hb]
  show IntKind.u64.wrap (((BitVec.ofInt 64 ((2 ^ k * a : Nat) : Int) ||| BitVec.ofInt 64 (b : Int)).toNat : Nat) : Int) = _
  rw [e, wrapU_ok (by omega) (by omega)]
theorem pow256 (j : Nat) : (2 : Nat) ^ (8 * j) = 256 ^ j := by rw [Nat.pow_mul]
theorem byte_at {j : Nat} {x : Int} (h0 : 0 ≤ x) (h1 : x ≤ 255) (hj : j ≤ 7) : IntKind.u64.wrap (IntKind.u64.wrap x * 2 ^ (min (8 * j) 64)) = ((256 ^ j * x.toNat : Nat) : Int) ∧ 256 ^ j * x.toNat < 256 ^ (j + 1) := by
  have hP : 256 ^ j * 256 ^ (7 - j) = 256 ^ 7 := by rw [← Nat.pow_add]; congr 1; omega
  have hpos : 0 < 256 ^ j := Nat.pow_pos (by omega)
  have hpos2 : 0 < 256 ^ (7 - j) := Nat.pow_pos (by omega)
  have hlt : 256 ^ j * x.toNat < 256 ^ (j + 1) := by
    rw [Nat.pow_succ]
    exact Nat.mul_lt_mul_of_pos_left (by omega) hpos
  have hle : 256 ^ (j + 1) ≤ 256 ^ 8 := Nat.pow_le_pow_right (by omega) (by omega)
  have h8 : (256 : Nat) ^ 8 = 18446744073709551616 := by decide
  have e2 : ((2 : Int) ^ (min (8 * j) 64)) = ((256 ^ j : Nat) : Int) := by
    rw [Nat.min_eq_left (by omega), ← pow256]; simp
  have ex : x * ((256 ^ j : Nat) : Int) = ((256 ^ j * x.toNat : Nat) : Int) := by
    rw [Nat.mul_comm]
    have : x = (x.toNat : Int) := by omega
    rw [Int.natCast_mul, ← this]
  refine ⟨?_, hlt⟩
  rw [wrapU_ok (x := x) (by omega) (by omega), e2, ex]
  exact wrapU_ok (by omega) (by omega)
theorem orB_ok {q j : Nat} {x : Int} (h0 : 0 ≤ x) (h1 : x ≤ 255) (hj : j ≤ 7) (hq : q < 256 ^ (7 - j)) : orB ((256 ^ (j + 1) * q : Nat) : Int) x (j : Int) = ((256 ^ j * (x.toNat + 256 * q) : Nat) : Int) := by
  obtain ⟨b1, b2⟩ := byte_at h0 h1 hj
  have hP : 256 ^ (j + 1) * 256 ^ (7 - j) = 256 ^ 8 := by rw [← Nat.pow_add]; congr 1; omega
  have hb : 256 ^ (j + 1) * (q + 1) ≤ 256 ^ (j + 1) * 256 ^ (7 - j) := Nat.mul_le_mul_left _ hq
  have h8 : (256 : Nat) ^ 8 = 2 ^ 64 := by decide
  rw [hP, h8, Nat.mul_add] at hb
  have e : 256 ^ j * (x.toNat + 256 * q) = 256 ^ (j + 1) * q + 256 ^ j * x.toNat := by
    rw [Nat.mul_add, Nat.pow_succ, Nat.mul_assoc]; omega
  have hw : IntKind.i64.wrap (8 * (j : Int)) = ((8 * j : Nat) : Int) := by
    rw [wrap_ok (by omega) (by omega)]; omega
  rw [orB, hw, Int.toNat_natCast, b1, e]
  have := bor_add (8 * (j + 1)) q (256 ^ j * x.toNat) (by rw [pow256]; exact b2) (by rw [pow256]; omega)
  rw [pow256] at this
  exact this
theorem wv_ok (xs : List Int) (hx : ∀ x ∈ xs, 0 ≤ x ∧ x ≤ 255) (hl : xs.length ≤ 8) : ∀ m, m ≤ xs.length → wv xs m = ((256 ^ (xs.length - m) * num (xs.drop (xs.length - m)) : Nat) : Int)
  | 0, _ => by simp [wv, num]
  | m + 1, h => by
    rw [wv, wv_ok xs hx hl m (by omega)]
    obtain ⟨x, hxx⟩ : ∃ x, xs[xs.length - 1 - m]? = some x := ⟨xs[xs.length - 1 - m]'(by omega), by simp⟩
    obtain ⟨g1, g2⟩ := hx x (List.mem_of_getElem? hxx)
    have ed : xs.getD (xs.length - 1 - m) 0 = x := by simp [List.getD, hxx]
    have e1 : xs.length - m = (xs.length - 1 - m) + 1 := by omega
    have hlt := num_lt (xs.drop (xs.length - m)) fun y hy => hx y (List.mem_of_mem_drop hy)
    rw [List.length_drop] at hlt
    have hle : 256 ^ (xs.length - (xs.length - m)) ≤ 256 ^ (7 - (xs.length - 1 - m)) := Nat.pow_le_pow_right (by omega) (by omega)
    rw [ed, show xs.length - (m + 1) = xs.length - 1 - m by omega]
    have hd : xs.drop (xs.length - 1 - m) = x :: xs.drop (xs.length - m) := by
      have hlt2 : xs.length - 1 - m < xs.length := by omega
      rw [List.drop_eq_getElem_cons hlt2, e1]
      congr 1
      have := List.getElem?_eq_getElem hlt2
      rw [hxx] at this
      exact (Option.some.inj this).symm
    rw [hd, num]
    have := orB_ok (q := num (xs.drop (xs.length - m))) (j := xs.length - 1 - m) g1 g2 (by omega) (by omega)
    rw [← e1] at this
    exact this
theorem wordOf_ok (xs : List Int) (hx : ∀ x ∈ xs, 0 ≤ x ∧ x ≤ 255) (hl : xs.length ≤ 8) : wordOf xs = (num xs : Int) := by
  rw [wordOf, wv_ok xs hx hl _ (Nat.le_refl _)]
  simp

/-- The words, when i bytes are in. -/
def wst (xs : List Int) (W i : Nat) : List Int := (List.range' 0 W).map fun k => (num (ch (xs.take i) k) : Int)
theorem wst_length (xs : List Int) (W i : Nat) : (wst xs W i).length = W := by simp [wst]
theorem wst_get (xs : List Int) (W i k : Nat) (h : k < W) : (wst xs W i)[k]? = some (num (ch (xs.take i) k) : Int) := by
  simp [wst, h]
theorem ch_snoc (xs : List Int) (i k : Nat) (x : Int) (hx : xs[i]? = some x) : ch (xs.take (i + 1)) k = if k = i / 8 then ch (xs.take i) k ++ [x] else ch (xs.take i) k := by
  have hlt : i < xs.length := (List.getElem?_eq_some_iff.1 hx).1
  have ht : xs.take (i + 1) = xs.take i ++ [x] := by
    rw [List.take_add_one, hx]; rfl
  have hlen : (xs.take i).length = i := by simp; omega
  rw [ht]
  unfold ch
  generalize xs.take i = ys at hlen ⊢
  split
  · next h =>
    subst h
    rw [List.drop_append_of_le_length (by omega)]
    rw [List.take_of_length_le (by rw [List.length_append, List.length_drop]; simp; omega), List.take_of_length_le (by rw [List.length_drop]; omega)]
  · next h =>
    rcases Nat.lt_or_gt_of_ne h with h | h
    · rw [List.drop_append_of_le_length (by omega)]
      rw [List.take_append_of_le_length (by rw [List.length_drop]; omega)]
    · rw [List.drop_eq_nil_of_le (by rw [List.length_append]; simp; omega), List.drop_eq_nil_of_le (by omega)]
theorem wst_step (xs : List Int) (W i : Nat) (x : Int) (hx : xs[i]? = some x) (hW : i / 8 < W) : wst xs W (i + 1) = (wst xs W i).set (i / 8) ((num (ch (xs.take i) (i / 8)) + 256 ^ (i % 8) * x.toNat : Nat) : Int) := by
  have hlt : i < xs.length := (List.getElem?_eq_some_iff.1 hx).1
  have hcl : (ch (xs.take i) (i / 8)).length = i % 8 := by rw [ch_length]; simp; omega
  refine List.ext_getElem? fun k => ?_
  rw [List.getElem?_set, wst_length]
  by_cases hk : k < W
  · rw [wst_get _ _ _ _ hk, wst_get _ _ _ _ hk, ch_snoc xs i k x hx]
    by_cases h : k = i / 8
    · subst h
      simp only [if_true, hW]
      rw [num_snoc, hcl]
    · rw [if_neg h, if_neg (fun e => h e.symm)]
  · have h1 : (wst xs W (i + 1))[k]? = none := List.getElem?_eq_none (by rw [wst_length]; omega)
    have h2 : (wst xs W i)[k]? = none := List.getElem?_eq_none (by rw [wst_length]; omega)
    rw [h1, h2, if_neg (by omega)]

theorem pack16_loop (F : Nat) (xs : List Int) (hx : ∀ x ∈ xs, 0 ≤ x ∧ x ≤ 255) (hl : xs.length ≤ 64) : ∀ (n i : Nat), i ≤ xs.length → xs.length - i < n → R16_Pack_L0 F xs n i (wst xs ((xs.length + 7) / 8) i) = some (wst xs ((xs.length + 7) / 8) xs.length)
  | 0, i, _, h => by omega
  | n + 1, i, h, hn => by
    rw [R16_Pack_L0]
    cases hc : decide ((i : Int) < (xs.length : Int)) with
    | false =>
      simp only [decide_eq_false_iff_not] at hc
      have : i = xs.length := by omega
      subst this
      rfl
    | true =>
      simp only [decide_eq_true_eq] at hc
      obtain ⟨x, hxx⟩ : ∃ x, xs[i]? = some x := ⟨xs[i]'(by omega), by simp⟩
      obtain ⟨g1, g2⟩ := hx x (List.mem_of_getElem? hxx)
      have hW : i / 8 < (xs.length + 7) / 8 := by omega
      have t1 : ((i : Int)).tdiv 8 = ((i / 8 : Nat) : Int) := by rw [Int.tdiv_eq_ediv_of_nonneg (by omega)]; omega
      have t2 : ((i : Int)).tmod 8 = ((i % 8 : Nat) : Int) := by rw [Int.tmod_eq_emod_of_nonneg (by omega)]; omega
      have e1 : IntKind.i64.wrap ((i / 8 : Nat) : Int) = ((i / 8 : Nat) : Int) := wrap_ok (by omega) (by omega)
      have e2 : IntKind.i64.wrap (8 * ((i % 8 : Nat) : Int)) = ((8 * (i % 8) : Nat) : Int) := by rw [wrap_ok (by omega) (by omega)]; omega
      have e3 : IntKind.u64.wrap ((8 * (i % 8) : Nat) : Int) = ((8 * (i % 8) : Nat) : Int) := wrapU_ok (by omega) (by omega)
      have e4 : IntKind.i64.wrap ((i : Int) + 1) = ((i + 1 : Nat) : Int) := wrap_ok (by omega) (by omega)
      obtain ⟨b1, b2⟩ := byte_at (j := i % 8) g1 g2 (by omega)
      have hs : shlM .u64 (IntKind.u64.wrap x) ((8 * (i % 8) : Nat) : Int) = some ((256 ^ (i % 8) * x.toNat : Nat) : Int) := by
        rw [shlM, if_neg (by omega), shlI, Int.toNat_natCast, ← b1]
        rfl
      have hch : num (ch (xs.take i) (i / 8)) < 256 ^ (i % 8) := by
        have := num_lt (ch (xs.take i) (i / 8)) fun y hy => hx y (List.mem_of_mem_take (List.mem_of_mem_drop (List.mem_of_mem_take hy)))
        rw [ch_length] at this
        refine Nat.lt_of_lt_of_le this (Nat.pow_le_pow_right (by omega) ?_)
        simp
        omega
      have hsum : num (ch (xs.take i) (i / 8)) + 256 ^ (i % 8) * x.toNat < 256 ^ 8 := by
        have hle : 256 ^ (i % 8 + 1) ≤ 256 ^ 8 := Nat.pow_le_pow_right (by omega) (by omega)
        have h1 : 256 ^ (i % 8) * (x.toNat + 1) ≤ 256 ^ (i % 8) * 256 := Nat.mul_le_mul_left _ (by omega)
        rw [← Nat.pow_succ, Nat.mul_add] at h1
        omega
      have h8 : (256 : Nat) ^ 8 = 18446744073709551616 := by decide
      have ew : IntKind.u64.wrap (((num (ch (xs.take i) (i / 8)) : Nat) : Int) + ((256 ^ (i % 8) * x.toNat : Nat) : Int)) = ((num (ch (xs.take i) (i / 8)) + 256 ^ (i % 8) * x.toNat : Nat) : Int) := by
        rw [← Int.natCast_add]
        exact wrapU_ok (by omega) (by omega)
      simp only [cond_true, t1, t2, e1, e2, e3, e4, idx_nat, wst_get _ _ _ _ hW, hxx, Option.bind_some, hs, ew, Int.toNat_natCast]
      rw [← wst_step xs _ i x hxx hW]
      exact pack16_loop F xs hx hl n (i + 1) (by omega) (by omega)

theorem pack16_ok (F : Nat) (hF : 100 ≤ F) (xs : List Int) (hx : ∀ x ∈ xs, 0 ≤ x ∧ x ≤ 255) (hlen : xs.length ≤ 1000) : R16_Pack F xs = some (packL xs) := by
  rw [R16_Pack, packL]
  by_cases h : 64 < xs.length
  · rw [if_pos h, show decide (64 < (xs.length : Int)) = true by simp; omega]; rfl
  · rw [if_neg h, show decide (64 < (xs.length : Int)) = false by simp; omega]
    have e1 : IntKind.i64.wrap ((xs.length : Int) + 7) = (xs.length : Int) + 7 := wrap_ok (by omega) (by omega)
    have e2 : ((xs.length : Int) + 7).tdiv 8 = (((xs.length + 7) / 8 : Nat) : Int) := by rw [Int.tdiv_eq_ediv_of_nonneg (by omega)]; omega
    have e3 : IntKind.i64.wrap (((xs.length + 7) / 8 : Nat) : Int) = (((xs.length + 7) / 8 : Nat) : Int) := wrap_ok (by omega) (by omega)
    have hm : makM 8 (0 : Int) (((xs.length + 7) / 8 : Nat) : Int) = some (List.replicate ((xs.length + 7) / 8) 0) := by
      rw [makM, if_pos]
      · rw [Int.toNat_natCast]
      · have : roomMax = 2 ^ 46 := rfl
        simp only [Int.toNat_natCast]
        omega
    rw [e1, e2, e3, hm]
    simp only [cond_false, Option.bind_some]
    have e0 : List.replicate ((xs.length + 7) / 8) (0 : Int) = wst xs ((xs.length + 7) / 8) 0 := by
      refine List.ext_getElem? fun k => ?_
      by_cases hk : k < (xs.length + 7) / 8
      · rw [wst_get _ _ _ _ hk]; simp [hk, ch, num]
      · rw [List.getElem?_eq_none (by simp; omega), List.getElem?_eq_none (by rw [wst_length]; omega)]
    have := pack16_loop F xs hx (by omega) F 0 (by omega) (by omega)
    rw [e0]
    refine Eq.trans this ?_
    congr 1
    rw [wst, ws]
    refine List.map_congr_left fun k hk => ?_
    rw [List.take_of_length_le (Nat.le_refl _)]
    exact (wordOf_ok _ (fun y hy => hx y (List.mem_of_mem_drop (List.mem_of_mem_take hy))) (by simp; omega)).symm

theorem same_loop (F : Nat) (xs : List Int) (K : Unit → Option Bool) (hl : xs.length ≤ 1000) : ∀ (n i : Nat), i ≤ xs.length → xs.length - i < n → L16_HeapTells_L0 F xs xs K n i = K ()
  | 0, i, _, h => by omega
  | n + 1, i, h, hn => by
    rw [L16_HeapTells_L0]
    cases hc : decide ((i : Int) < (xs.length : Int)) with
    | false => rfl
    | true =>
      simp only [decide_eq_true_eq] at hc
      obtain ⟨x, hxx⟩ : ∃ x, xs[i]? = some x := ⟨xs[i]'(by omega), by simp⟩
      have e4 : IntKind.i64.wrap ((i : Int) + 1) = ((i + 1 : Nat) : Int) := wrap_ok (by omega) (by omega)
      simp only [cond_true, idx_nat, hxx, Option.bind_some, bne_self_eq_false, cond_false, e4]
      exact same_loop F xs K hl n (i + 1) (by omega) (by omega)

theorem holds_HeapTells (x0 : api_Head) (x1 : Int) (x2 : List Int) (x3 : api_Heap) (w0 : W34 x0) (w1 : W40 x1) (w2 : W35 x2) (w3 : W93 x3) : ∃ F, L16_HeapTells F x0 x1 x2 x3 = some true := by
  obtain ⟨F, hF⟩ : ∃ F : Nat, 3000 ≤ F := ⟨_, Nat.le_refl _⟩
  refine ⟨F, ?_⟩
  rw [L16_HeapTells]
  by_cases hlen : (300 : Int) < (x2.length : Int)
  · rw [show decide (300 < (x2.length : Int)) = true by simp; omega]
    simp only [joinM, cond_true, L16_awake, Option.bind_some]
  · rw [show decide (300 < (x2.length : Int)) = false by simp; omega]
    simp only [joinM, cond_false, L16_tiny, Option.bind_some]
    cases ht : decide ((x3.Words.length : Int) ≤ 500) with
    | false => simp only [Bool.not_false, cond_true, L16_awake, Option.bind_some]
    | true =>
      simp only [decide_eq_true_eq] at ht
      obtain ⟨u1, u2⟩ := w1
      have m1 : IntKind.u64.min = 0 := rfl
      have m2 : IntKind.u64.max = 18446744073709551615 := rfl
      have m3 : IntKind.u8.min = 0 := rfl
      have m4 : IntKind.u8.max = 255 := rfl
      rw [m1] at u1; rw [m2] at u2
      have hx : ∀ x ∈ x2, 0 ≤ x ∧ x ≤ 255 := fun x hx => by
        have := w2.2 x hx
        unfold W5 at this
        rw [m3, m4] at this
        exact this
      have hw : ∀ w ∈ x3.Words, 0 ≤ w ∧ w ≤ 18446744073709551615 := fun w h => by
        have := w3.1.2 w h
        unfold W40 at this
        rw [m1, m2] at this
        exact this
      obtain ⟨b, hb1, hb2⟩ := fit_ok F (by omega) x3 hw (by omega) w3.2.2.2.1
      simp only [Bool.not_true, cond_false, head_ok, head16_ok, read_ok _ u1 u2, read16_ok _ u1 u2, heap_Pack, pack16_ok F (by omega) x2 hx (by omega), Option.bind_some, size_ok, size16_ok, hb1, hb2, bne_self_eq_false, beq_self_eq_true, Bool.and_self, cond_true]
      have hpl : (packL x2).length ≤ 1000 := by
        unfold packL
        split
        · simp
        · rw [ws_length]; omega
      have := same_loop F (packL x2) (K := fun _ => some true) hpl F 0 (by omega) (by omega)
      exact this

end Go.Proofs.Ytfflojbgikfbmaa.M
