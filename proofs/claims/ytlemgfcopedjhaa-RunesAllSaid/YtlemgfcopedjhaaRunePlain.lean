/- Plain facts on runes in texts: what the model's reader of UTF-8 tells at a place, case by case. -/
import Derived.Laws.RangeAny
import Derived.Test.YtlemgfcopedjhaaWWords
namespace Go.Proofs.Ytlemgfcopedjhaa.RunePlain
open Go.RowKit Go.Proofs.YtlemgfcopedjhaaW.PrintWords
/-- A byte as a number; behind the end: 0. -/
def by_ (s : ByteArray) (i : Nat) : Nat := if h : i < s.size then (s[i]'h).toNat else 0
theorem by_lt (s : ByteArray) (i : Nat) : by_ s i < 256 := by
  unfold by_
  split
  · exact UInt8.toNat_lt _
  · omega
theorem by_get (s : ByteArray) (i : Nat) : (s.get! i).toNat = by_ s i := by
  unfold by_
  split
  · rename_i h
    congr 1
    show s.get! i = _
    simp [ByteArray.get!, getElem!_pos, h]
    rfl
  · rename_i h
    have : ¬ i < s.data.size := h
    have e : s.data[i]! = default := getElem!_neg s.data i this
    show (s.data[i]!).toNat = 0
    rw [e]; rfl
theorem bt_by (s : ByteArray) (i : Nat) : bt s (i : Int) = (by_ s i : Int) := by
  unfold bt by_
  simp only [Int.toNat_natCast]
  split <;> rfl
/-- A byte that goes on. -/
def cont (s : ByteArray) (j : Nat) : Prop := j < s.size ∧ 128 ≤ by_ s j ∧ by_ s j < 192
instance (s : ByteArray) (j : Nat) : Decidable (cont s j) := by unfold cont; infer_instance
/-- A rune's number that can be. -/
def scal (c : Nat) : Prop := c < 55296 ∨ (57344 ≤ c ∧ c ≤ 1114111)
instance (c : Nat) : Decidable (scal c) := by unfold scal; infer_instance
/-- What stands at a place: a rune and how many bytes it has, or none. -/
def one (s : ByteArray) (i : Nat) : Option (Nat × Nat) :=
  if by_ s i < 128 then some (by_ s i, 1)
  else if 192 ≤ by_ s i ∧ by_ s i < 224 ∧ cont s (i + 1) then
    let c := (by_ s i - 192) * 64 + (by_ s (i + 1) - 128)
    if 128 ≤ c then some (c, 2) else none
  else if 224 ≤ by_ s i ∧ by_ s i < 240 ∧ cont s (i + 1) ∧ cont s (i + 2) then
    let c := (by_ s i - 224) * 4096 + (by_ s (i + 1) - 128) * 64 + (by_ s (i + 2) - 128)
    if 2048 ≤ c ∧ scal c then some (c, 3) else none
  else if 240 ≤ by_ s i ∧ by_ s i < 248 ∧ cont s (i + 1) ∧ cont s (i + 2) ∧ cont s (i + 3) then
    let c := (by_ s i - 240) * 262144 + (by_ s (i + 1) - 128) * 4096 + (by_ s (i + 2) - 128) * 64 + (by_ s (i + 3) - 128)
    if 65536 ≤ c ∧ scal c then some (c, 4) else none
  else none
theorem cont_iff (s : ByteArray) (j : Nat) : (decide (j < s.size) && by_ s j / 64 == 2) = decide (cont s j) := by
  rw [Bool.eq_iff_iff, Bool.and_eq_true, decide_eq_true_eq, beq_iff_eq, decide_eq_true_eq]
  unfold cont
  constructor
  · rintro ⟨a, b⟩; exact ⟨a, by omega, by omega⟩
  · rintro ⟨a, b, c⟩; exact ⟨a, by omega⟩
theorem valid_iff (c : Nat) : Utf8.valid (c : Int) = decide (scal c) := by
  unfold Utf8.valid
  rw [Bool.eq_iff_iff, decide_eq_true_eq]
  simp only [Bool.or_eq_true, Bool.and_eq_true, decide_eq_true_eq]
  unfold scal
  omega
theorem decode_one (s : ByteArray) (i : Nat) : Utf8.decode s i = (one s i).getD (65533, 1) := by
  have h0 := by_lt s i
  have h1 := by_lt s (i + 1)
  have h2 := by_lt s (i + 2)
  have h3 := by_lt s (i + 3)
  unfold Utf8.decode one
  simp only [by_get, valid_iff, Nat.add_zero, Utf8.runeError]
  simp only [cont_iff]
  by_cases c0 : by_ s i < 128
  · rw [if_pos c0, if_pos c0]; rfl
  rw [if_neg c0, if_neg c0]
  by_cases c1 : 192 ≤ by_ s i ∧ by_ s i < 224 ∧ cont s (i + 1)
  · have d1 : (by_ s i / 32 == 6 && decide (cont s (i + 1))) = true := by
      simp only [Bool.and_eq_true, decide_eq_true_eq, beq_iff_eq]; exact ⟨by omega, c1.2.2⟩
    rw [if_pos d1, if_pos c1]
    obtain ⟨a1, a2, a3, a4, a5⟩ := c1
    have e : (by_ s i % 32) * 64 + by_ s (i + 1) % 64 = (by_ s i - 192) * 64 + (by_ s (i + 1) - 128) := by omega
    simp only [e, ge_iff_le]
    split <;> rfl
  have d1 : ¬ (by_ s i / 32 == 6 && decide (cont s (i + 1))) = true := by
    simp only [Bool.and_eq_true, decide_eq_true_eq, beq_iff_eq]; intro h; exact c1 ⟨by omega, by omega, h.2⟩
  rw [if_neg d1, if_neg c1]
  by_cases c2 : 224 ≤ by_ s i ∧ by_ s i < 240 ∧ cont s (i + 1) ∧ cont s (i + 2)
  · have d2 : (by_ s i / 16 == 14 && decide (cont s (i + 1)) && decide (cont s (i + 2))) = true := by
      simp only [Bool.and_eq_true, decide_eq_true_eq, beq_iff_eq]; exact ⟨⟨by omega, c2.2.2.1⟩, c2.2.2.2⟩
    rw [if_pos d2, if_pos c2]
    obtain ⟨a1, a2, ⟨a3, a4, a5⟩, ⟨a6, a7, a8⟩⟩ := c2
    have e : (by_ s i % 16) * 4096 + (by_ s (i + 1) % 64) * 64 + by_ s (i + 2) % 64 = (by_ s i - 224) * 4096 + (by_ s (i + 1) - 128) * 64 + (by_ s (i + 2) - 128) := by omega
    simp only [e, ge_iff_le, Bool.and_eq_true, decide_eq_true_eq]
    split <;> rfl
  have d2 : ¬ (by_ s i / 16 == 14 && decide (cont s (i + 1)) && decide (cont s (i + 2))) = true := by
    simp only [Bool.and_eq_true, decide_eq_true_eq, beq_iff_eq]; intro h; exact c2 ⟨by omega, by omega, h.1.2, h.2⟩
  rw [if_neg d2, if_neg c2]
  by_cases c3 : 240 ≤ by_ s i ∧ by_ s i < 248 ∧ cont s (i + 1) ∧ cont s (i + 2) ∧ cont s (i + 3)
  · have d3 : (by_ s i / 8 == 30 && decide (cont s (i + 1)) && decide (cont s (i + 2)) && decide (cont s (i + 3))) = true := by
      simp only [Bool.and_eq_true, decide_eq_true_eq, beq_iff_eq]; exact ⟨⟨⟨by omega, c3.2.2.1⟩, c3.2.2.2.1⟩, c3.2.2.2.2⟩
    rw [if_pos d3, if_pos c3]
    obtain ⟨a1, a2, ⟨a3, a4, a5⟩, ⟨a6, a7, a8⟩, ⟨a9, a10, a11⟩⟩ := c3
    have e : (by_ s i % 8) * 262144 + (by_ s (i + 1) % 64) * 4096 + (by_ s (i + 2) % 64) * 64 + by_ s (i + 3) % 64 = (by_ s i - 240) * 262144 + (by_ s (i + 1) - 128) * 4096 + (by_ s (i + 2) - 128) * 64 + (by_ s (i + 3) - 128) := by omega
    simp only [e, ge_iff_le, Bool.and_eq_true, decide_eq_true_eq]
    split <;> rfl
  have d3 : ¬ (by_ s i / 8 == 30 && decide (cont s (i + 1)) && decide (cont s (i + 2)) && decide (cont s (i + 3))) = true := by
    simp only [Bool.and_eq_true, decide_eq_true_eq, beq_iff_eq]; intro h; exact c3 ⟨by omega, by omega, h.1.1.2, h.1.2, h.2⟩
  rw [if_neg d3, if_neg c3]
  rfl
/-- A rune that stands at a place: its bytes lie in the text, and it is one. -/
theorem one_bd (s : ByteArray) (i : Nat) (hi : i < s.size) {c n : Nat} (h : one s i = some (c, n)) : 1 ≤ n ∧ n ≤ 4 ∧ i + n ≤ s.size ∧ scal c := by
  have h0 := by_lt s i
  unfold one at h
  split at h
  · simp only [Option.some.injEq, Prod.mk.injEq] at h; unfold scal; omega
  split at h
  · rename_i c1
    obtain ⟨a1, a2, a3, a4, a5⟩ := c1
    simp only at h
    split at h
    · simp only [Option.some.injEq, Prod.mk.injEq] at h; unfold scal; omega
    · cases h
  split at h
  · rename_i c1
    obtain ⟨a1, a2, ⟨a3, a4, a5⟩, ⟨a6, a7, a8⟩⟩ := c1
    simp only at h
    split at h
    · rename_i hs; simp only [Option.some.injEq, Prod.mk.injEq] at h; obtain ⟨rfl, rfl⟩ := h; exact ⟨by omega, by omega, by omega, hs.2⟩
    · cases h
  split at h
  · rename_i c1
    obtain ⟨a1, a2, ⟨a3, a4, a5⟩, ⟨a6, a7, a8⟩, ⟨a9, a10, a11⟩⟩ := c1
    simp only at h
    split at h
    · rename_i hs; simp only [Option.some.injEq, Prod.mk.injEq] at h; obtain ⟨rfl, rfl⟩ := h; exact ⟨by omega, by omega, by omega, hs.2⟩
    · cases h
  · cases h
/-- The rune 65533 has three bytes, just these. -/
theorem one_bad (s : ByteArray) (i : Nat) : (∃ n, one s i = some (65533, n)) ↔ i + 2 < s.size ∧ by_ s i = 239 ∧ by_ s (i + 1) = 191 ∧ by_ s (i + 2) = 189 := by
  have h0 := by_lt s i
  have h1 := by_lt s (i + 1)
  have h2 := by_lt s (i + 2)
  have h3 := by_lt s (i + 3)
  constructor
  · rintro ⟨n, h⟩
    unfold one at h
    split at h
    · simp only [Option.some.injEq, Prod.mk.injEq] at h; omega
    split at h
    · rename_i c1
      obtain ⟨a1, a2, a3, a4, a5⟩ := c1
      simp only at h
      split at h
      · simp only [Option.some.injEq, Prod.mk.injEq] at h; omega
      · cases h
    split at h
    · rename_i c1
      obtain ⟨a1, a2, ⟨a3, a4, a5⟩, ⟨a6, a7, a8⟩⟩ := c1
      simp only at h
      split at h
      · simp only [Option.some.injEq, Prod.mk.injEq] at h; omega
      · cases h
    split at h
    · rename_i c1
      obtain ⟨a1, a2, ⟨a3, a4, a5⟩, ⟨a6, a7, a8⟩, ⟨a9, a10, a11⟩⟩ := c1
      simp only at h
      split at h
      · simp only [Option.some.injEq, Prod.mk.injEq] at h; omega
      · cases h
    · cases h
  · rintro ⟨hs, a, b, c⟩
    refine ⟨3, ?_⟩
    unfold one
    rw [if_neg (by omega), if_neg (by omega), if_pos ⟨by omega, by omega, ⟨by omega, by omega, by omega⟩, ⟨by omega, by omega, by omega⟩⟩]
    simp only [a, b, c]
    rfl
end Go.Proofs.Ytlemgfcopedjhaa.RunePlain
