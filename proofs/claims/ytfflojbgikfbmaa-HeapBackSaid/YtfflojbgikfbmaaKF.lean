/-
  Heads, their words; a heap in which records were made can be.
-/
import Derived.Test.YtfflojbgikfbmaaHbM
import Derived.Test.YtfflojbgikfbmaaKMc
namespace Go.Proofs.Ytfflojbgikfbmaa.M
open Go.Proofs.YtfflojbgikfbmaaW.Ah Go.Proofs.Ytfflojbgikfbmaa
set_option linter.unusedVariables false
set_option linter.unusedSimpArgs false

theorem idx_nat {α : Type} (xs : List α) (k : Nat) : idx xs (k : Int) = xs[k]? := by simp [idx]
theorem wrap_ok {x : Int} (h1 : -9223372036854775808 ≤ x) (h2 : x ≤ 9223372036854775807) : IntKind.i64.wrap x = x := wrap64_id h1 (by omega)
theorem wrapU_ok {x : Int} (h1 : 0 ≤ x) (h2 : x ≤ 18446744073709551615) : IntKind.u64.wrap x = x := by
  simp only [IntKind.wrap, IntKind.bits, IntKind.signed]
  simp
  omega

/-! Heads. -/
def canB (x : api_Head) : Bool := bif x.Kind == 0 then (((decide (0 ≤ x.Tag)) && (decide (x.Tag ≤ 15))) && (decide (0 < x.Count))) && (decide (x.Count ≤ 6)) else bif x.Kind == 1 then ((x.Tag == 0) && (decide (0 ≤ x.Count))) && (decide (x.Count ≤ 64)) else false
theorem can_ok (F : Nat) (x : api_Head) : heap_can F x = some (canB x) := by
  rw [heap_can, canB]
  cases x.Kind == 0 <;> cases x.Kind == 1 <;> rfl
theorem can_iff {x : api_Head} (h : canB x = true) : (x.Kind = 0 ∨ x.Kind = 1) ∧ 0 ≤ x.Tag ∧ x.Tag ≤ 15 ∧ 0 ≤ x.Count ∧ x.Count ≤ 64 := by
  unfold canB at h
  cases h0 : x.Kind == 0 with
  | true => rw [h0] at h; simp at h h0; omega
  | false =>
    cases h1 : x.Kind == 1 with
    | true => rw [h0, h1] at h; simp at h h1; omega
    | false => rw [h0, h1] at h; simp at h
def headV (x : api_Head) : Int := x.Count + 256 * x.Tag + 65536 * x.Kind

theorem or_small : ∀ k < 2, ∀ t < 16, ∀ c < 65, borI .i64 (borI .i64 ((k : Nat) * 65536 : Nat) ((t : Nat) * 256 : Nat)) (c : Nat) = ((c + 256 * t + 65536 * k : Nat) : Int) := by decide +kernel

theorem head_ok (F : Nat) (x : api_Head) : heap_Head F x = some (bif canB x then (headV x, true) else (0, false)) := by
  rw [heap_Head, can_ok]
  simp only [Option.bind_some]
  cases h : canB x with
  | false => rfl
  | true =>
    obtain ⟨h1, h2, h3, h4, h5⟩ := can_iff h
    simp only [Bool.not_true, cond_false, cond_true]
    rw [wrap_ok (x := x.Kind * 65536) (by omega) (by omega), wrap_ok (x := x.Tag * 256) (by omega) (by omega)]
    have := or_small x.Kind.toNat (by omega) x.Tag.toNat (by omega) x.Count.toNat (by omega)
    rw [show ((x.Kind.toNat * 65536 : Nat) : Int) = x.Kind * 65536 by omega, show ((x.Tag.toNat * 256 : Nat) : Int) = x.Tag * 256 by omega, show ((x.Count.toNat : Nat) : Int) = x.Count by omega] at this
    rw [this, wrapU_ok (by omega) (by omega)]
    simp only [headV]
    congr 2
    omega
theorem band_mod {a : Int} (k : Nat) (hk : k ≤ 60) (h1 : 0 ≤ a) (h2 : a ≤ 18446744073709551615) : bandI .u64 a ((2 ^ k - 1 : Nat) : Int) = a % (2 ^ k : Nat) := by
  have hp : 2 ^ k ≤ 2 ^ 60 := Nat.pow_le_pow_right (by omega) hk
  have h60 : (2 : Nat) ^ 60 = 1152921504606846976 := by decide
  have hpos : 0 < 2 ^ k := Nat.two_pow_pos k
  obtain ⟨n, rfl⟩ : ∃ n : Nat, a = n := ⟨a.toNat, by omega⟩
  have e : ((BitVec.ofInt 64 (n : Int) &&& BitVec.ofInt 64 ((2 ^ k - 1 : Nat) : Int)).toNat) = n % 2 ^ k := by
    rw [BitVec.toNat_and]
    have h64 : (2 : Nat) ^ 64 = 18446744073709551616 := by decide
    have e1 : (BitVec.ofInt 64 (n : Int)).toNat = n := by
      rw [BitVec.toNat_ofInt]; omega
    have e2 : (BitVec.ofInt 64 ((2 ^ k - 1 : Nat) : Int)).toNat = 2 ^ k - 1 := by
      rw [BitVec.toNat_ofInt]; omega
    rw [e1, e2, Nat.and_two_pow_sub_one_eq_mod]
  show IntKind.u64.wrap (((BitVec.ofInt 64 (n : Int) &&& BitVec.ofInt 64 ((2 ^ k - 1 : Nat) : Int)).toNat : Nat) : Int) = _
  rw [e]
  have := Nat.mod_lt n hpos
  rw [wrapU_ok (by omega) (by omega)]
  omega

/-- What a word says. -/
def readH (w : Int) : api_Head := ⟨w / 65536 % 16, w / 256 % 256, w % 256⟩
def isRead (w : Int) : Bool := decide (w < 1048576) && canB (readH w)
def readV (w : Int) : api_Head × Bool := bif isRead w then (readH w, true) else (⟨0, 0, 0⟩, false)

theorem read_ok (F : Nat) {w : Int} (h1 : 0 ≤ w) (h2 : w ≤ 18446744073709551615) : heap_Read F w = some (readV w) := by
  rw [heap_Read]
  have t1 : w.tdiv 65536 = w / 65536 := Int.tdiv_eq_ediv_of_nonneg h1
  have t2 : w.tdiv 256 = w / 256 := Int.tdiv_eq_ediv_of_nonneg h1
  have e1 : IntKind.u64.wrap (w / 65536) = w / 65536 := wrapU_ok (by omega) (by omega)
  have e2 : IntKind.u64.wrap (w / 256) = w / 256 := wrapU_ok (by omega) (by omega)
  have b1 : bandI .u64 (w / 65536) 15 = w / 65536 % 16 := band_mod 4 (by omega) (by omega) (by omega)
  have b2 : bandI .u64 (w / 256) 255 = w / 256 % 256 := band_mod 8 (by omega) (by omega) (by omega)
  have b3 : bandI .u64 w 255 = w % 256 := band_mod 8 (by omega) (by omega) (by omega)
  rw [t1, t2, e1, e2, b1, b2, b3, wrap_ok (x := w / 65536 % 16) (by omega) (by omega), wrap_ok (x := w / 256 % 256) (by omega) (by omega), wrap_ok (x := w % 256) (by omega) (by omega)]
  show (heap_Head F (readH w)).bind _ = _
  rw [head_ok]
  simp only [Option.bind_some, readV, isRead]
  cases hc : canB (readH w) with
  | false => simp
  | true =>
    obtain ⟨g1, g2, g3, g4, g5⟩ := can_iff hc
    simp only [readH] at g1 g2 g3 g4 g5
    have hv : headV (readH w) = w % 256 + 256 * (w / 256 % 256) + 65536 * (w / 65536 % 16) := rfl
    cases hl : decide (w < 1048576) with
    | true =>
      simp only [decide_eq_true_eq] at hl
      have : headV (readH w) = w := by rw [hv]; omega
      rw [this]; simp; rfl
    | false =>
      simp only [decide_eq_false_iff_not] at hl
      have h9 : headV (readH w) ≠ w := by rw [hv]; omega
      have : (headV (readH w) != w) = true := by simp [h9]
      simp only [cond_true, this, Bool.or_true]
      rfl

def sizeV (x : api_Head) : Int := bif canB x then 2 + (bif x.Kind == 1 then (x.Count + 7) / 8 else x.Count) else 0
theorem size_ok (F : Nat) (x : api_Head) : heap_Size F x = some (sizeV x) := by
  rw [heap_Size, can_ok]
  simp only [Option.bind_some, sizeV]
  cases h : canB x with
  | false => rfl
  | true =>
    obtain ⟨h1, h2, h3, h4, h5⟩ := can_iff h
    simp only [Bool.not_true, cond_false, cond_true, heap_body]
    cases hk : x.Kind == 1 with
    | false => simp only [cond_false, Option.bind_some]; rw [wrap_ok (by omega) (by omega)]
    | true =>
      simp only [cond_true, Option.bind_some]
      rw [wrap_ok (x := x.Count + 7) (by omega) (by omega)]
      have : shrI .i64 (x.Count + 7) 3 = (x.Count + 7) / 8 := by
        show (x.Count + 7).fdiv (2 ^ 3) = _
        rw [Int.fdiv_eq_ediv_of_nonneg _ (by decide)]
        rfl
      rw [this, wrap_ok (by omega) (by omega)]
theorem size_ge {w : Int} (h : (readV w).2 = true) : 2 ≤ sizeV (readV w).1 ∧ sizeV (readV w).1 ≤ 100 := by
  simp only [readV] at h ⊢
  cases hr : isRead w with
  | false => rw [hr] at h; cases h
  | true =>
    simp only [isRead, Bool.and_eq_true] at hr
    obtain ⟨h1, h2, h3, h4, h5⟩ := can_iff hr.2
    simp only [cond_true, sizeV, hr.2]
    cases (readH w).Kind == 1 <;> simp only [cond_true, cond_false] <;> omega

open Go.Proofs.Ytfflojbgikfbmaa.Hea (hv body size Chain Hp size_can body_le)

theorem can_B {k t c : Int} (h : Hea.Can k t c) : canB ⟨k, t, c⟩ = true := by
  unfold Hea.Can at h
  unfold canB
  rcases h with h | h
  · simp [h.1]; omega
  · simp [h.1]; omega
theorem read_hv {k t c : Int} (h : Hea.Can k t c) : readV (hv k t c) = (⟨k, t, c⟩, true) := by
  have h2 := h
  unfold Hea.Can at h2
  have e : readH (hv k t c) = ⟨k, t, c⟩ := by
    unfold readH hv
    congr 1 <;> omega
  have l : decide (hv k t c < 1048576) = true := decide_eq_true (by unfold hv; omega)
  simp only [readV, isRead, e, l, can_B h, Bool.and_self, cond_true]
theorem size_eq {k t c : Int} (h : Hea.Can k t c) : sizeV ⟨k, t, c⟩ = (size k t c : Int) := by
  have h2 := h
  unfold Hea.Can at h2
  rw [size_can h]
  unfold sizeV
  rw [can_B h]
  unfold body
  rcases h2 with h2 | h2
  · have h3 : (k == 1) = false := by simp; omega
    simp only [h3, cond_true, cond_false]
    rw [if_neg (by omega)]
    omega
  · have h3 : (k == 1) = true := by simp; omega
    simp only [h3, cond_true]
    rw [if_pos (by omega)]
    omega
theorem fitC_loop (F : Nat) (a : api_Heap) {K : Bool → Option Bool} {at_ b : Nat} (h : Chain a.Words at_ b) (hb : a.Next = b) (hsz : b ≤ 1000) (hlen : a.Words.length ≤ 1000) (hK : ∀ s, K s = some true) : ∀ (n : Nat) (s : Bool), b - at_ < n → heap_Fit_L0 F a K n at_ s = some true := by
  induction h with
  | nil c =>
    intro n s hn
    obtain ⟨m, rfl⟩ : ∃ m, n = m + 1 := ⟨n - 1, by omega⟩
    rw [heap_Fit_L0, show decide ((c : Int) < a.Next) = false by simp; omega]
    exact hK s
  | @cons c b x hc h1 h2 h ih =>
    intro n s hn
    obtain ⟨m, rfl⟩ : ∃ m, n = m + 1 := ⟨n - 1, by omega⟩
    have hle := h.le
    have hs2 := size_can hc
    have hcn := hc
    unfold Hea.Can at hcn
    have hl1 : c < a.Words.length := (List.getElem?_eq_some_iff.1 h1).1
    have r1 : 0 ≤ hv x.1 x.2.1 x.2.2 := by unfold hv; omega
    have r2 : hv x.1 x.2.1 x.2.2 ≤ 18446744073709551615 := by unfold hv; omega
    have e1 : IntKind.i64.wrap ((c : Int) + (size x.1 x.2.1 x.2.2 : Int)) = ((c + size x.1 x.2.1 x.2.2 : Nat) : Int) := by rw [wrap_ok (by omega) (by omega)]; omega
    have e4 : IntKind.i64.wrap ((c : Int) + 1) = ((c + 1 : Nat) : Int) := wrap_ok (by omega) (by omega)
    have e5 : IntKind.u32.wrap (c : Int) = (c : Int) := Hea.ptrH c (by omega)
    have e6 : IntKind.u64.wrap (c : Int) = (c : Int) := wrapU_ok (by omega) (by omega)
    have e7 : shlI .u64 (c : Int) 1 = ((2 * c : Nat) : Int) := by
      show IntKind.u64.wrap ((c : Int) * 2 ^ (min 1 64)) = _
      rw [wrapU_ok (by simp; omega) (by simp; omega)]
      simp; omega
    rw [heap_Fit_L0, show decide ((c : Int) < a.Next) = true by simp; omega]
    simp only [cond_true, idx_nat, h1, Option.bind_some, read_ok F r1 r2, read_hv hc, joinM, size_ok, size_eq hc, Bool.not_true, cond_false, e1]
    rw [show decide (a.Next < ((c + size x.1 x.2.1 x.2.2 : Nat) : Int)) = false by simp; omega]
    simp only [cond_false, e4, idx_nat, h2, Option.bind_some, word_Ptr, e5, e6, e7, bne_self_eq_false]
    exact ih hb hsz m _ (by omega)
theorem fitC (F : Nat) (hF : 500 ≤ F) (h : Hp) (g : Hea.Good h) (ok : h.Ok) : heap_Fit F ⟨h.ws, 200, false, h.next, false, 0⟩ = some true := by
  obtain ⟨h1, h2, h3, h4⟩ := g.to ok
  have hi : idx h.ws 0 = some 0 := by rw [show (0 : Int) = ((0 : Nat) : Int) from rfl, idx_nat, g.w0]; rfl
  have e1 : IntKind.i64.wrap (IntKind.i64.wrap (2 * 200) + 1) = 401 := by decide
  have e2 : ((h.ws.length : Int) != 401) = false := by simp; omega
  have e3 : decide ((h.next : Int) < 1) = false := by simp; omega
  have e4 : IntKind.i64.wrap ((h.next : Int) - 1) = (h.next : Int) - 1 := wrap_ok (by omega) (by omega)
  have e5 : decide ((200 : Int) < (h.next : Int) - 1) = false := by simp; omega
  have e6 : decide ((200 : Int) < 16) = false := rfl
  have e7 : decide ((16384 : Int) < 200) = false := rfl
  rw [heap_Fit]
  simp only [joinM, e1, e2, e6, e7, Bool.or_self, cond_false, hi, Option.bind_some, bne_self_eq_false, heap_begin, e3, e4, e5]
  have := fitC_loop F ⟨h.ws, 200, false, h.next, false, 0⟩ (K := fun v7 => some ((false && (v7 || ((0 : Int) == (h.next : Int)))) || ((!false) && ((0 : Int) == 0)))) g.ch rfl (by omega) (by show h.ws.length ≤ 1000; omega) (fun s => rfl) F false (by omega)
  exact this

end Go.Proofs.Ytfflojbgikfbmaa.M
