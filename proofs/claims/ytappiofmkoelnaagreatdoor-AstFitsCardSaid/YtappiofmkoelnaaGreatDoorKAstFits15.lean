/-
  For AstFits: texts of the road to it, 16 of 16.
-/
import Derived.Test.YtappiofmkoelnaaGreatDoorKAstFits14
import Derived.Laws.RangeAny
import Derived.Lib.ValidLaws
import Derived.Laws.Strings
section
namespace Go.Proofs.YtappiofmkoelnaaGreatDoor.M
open Go.Lib
set_option linter.unusedVariables false
def by_ (s : ByteArray) (i : Nat) : Nat := if h : i < s.size then (s[i]'h).toNat else 0
theorem by_lt (s : ByteArray) (i : Nat) : by_ s i < 256 := by
  unfold by_
  split
  · exact UInt8.toNat_lt _
  · omega
theorem by_get (s : ByteArray) (i : Nat) : (s.get! i).toNat = by_ s i := by
  unfold by_
  split
  · rename_i h
    congr 1
    show s.get! i = _
    simp [ByteArray.get!, getElem!_pos, h]
    rfl
  · rename_i h
    have : ¬ i < s.data.size := h
    have e : s.data[i]! = default := getElem!_neg s.data i this
    show (s.data[i]!).toNat = 0
    rw [e]; rfl
def cont (s : ByteArray) (j : Nat) : Prop := j < s.size ∧ 128 ≤ by_ s j ∧ by_ s j < 192
instance (s : ByteArray) (j : Nat) : Decidable (cont s j) := by unfold cont; infer_instance
def scal (c : Nat) : Prop := c < 55296 ∨ (57344 ≤ c ∧ c ≤ 1114111)
instance (c : Nat) : Decidable (scal c) := by unfold scal; infer_instance
def one (s : ByteArray) (i : Nat) : Option (Nat × Nat) :=
  if by_ s i < 128 then some (by_ s i, 1)
  else if 192 ≤ by_ s i ∧ by_ s i < 224 ∧ cont s (i + 1) then
    let c := (by_ s i - 192) * 64 + (by_ s (i + 1) - 128)
    if 128 ≤ c then some (c, 2) else none
  else if 224 ≤ by_ s i ∧ by_ s i < 240 ∧ cont s (i + 1) ∧ cont s (i + 2) then
    let c := (by_ s i - 224) * 4096 + (by_ s (i + 1) - 128) * 64 + (by_ s (i + 2) - 128)
    if 2048 ≤ c ∧ scal c then some (c, 3) else none
  else if 240 ≤ by_ s i ∧ by_ s i < 248 ∧ cont s (i + 1) ∧ cont s (i + 2) ∧ cont s (i + 3) then
    let c := (by_ s i - 240) * 262144 + (by_ s (i + 1) - 128) * 4096 + (by_ s (i + 2) - 128) * 64 + (by_ s (i + 3) - 128)
    if 65536 ≤ c ∧ scal c then some (c, 4) else none
  else none
theorem cont_iff (s : ByteArray) (j : Nat) : (decide (j < s.size) && by_ s j / 64 == 2) = decide (cont s j) := by
  rw [Bool.eq_iff_iff, Bool.and_eq_true, decide_eq_true_eq, beq_iff_eq, decide_eq_true_eq]
  unfold cont
  constructor
  · rintro ⟨a, b⟩; exact ⟨a, by omega, by omega⟩
  · rintro ⟨a, b, c⟩; exact ⟨a, by omega⟩
theorem valid_iff (c : Nat) : Utf8.valid (c : Int) = decide (scal c) := by
  unfold Utf8.valid
  rw [Bool.eq_iff_iff, decide_eq_true_eq]
  simp only [Bool.or_eq_true, Bool.and_eq_true, decide_eq_true_eq]
  unfold scal
  omega
theorem decode_one (s : ByteArray) (i : Nat) : Utf8.decode s i = (one s i).getD (65533, 1) := by
  have h0 := by_lt s i
  have h1 := by_lt s (i + 1)
  have h2 := by_lt s (i + 2)
  have h3 := by_lt s (i + 3)
  unfold Utf8.decode one
  simp only [by_get, valid_iff, Nat.add_zero, Utf8.runeError]
  simp only [cont_iff]
  by_cases c0 : by_ s i < 128
  · rw [if_pos c0, if_pos c0]; rfl
  rw [if_neg c0, if_neg c0]
  by_cases c1 : 192 ≤ by_ s i ∧ by_ s i < 224 ∧ cont s (i + 1)
  · have d1 : (by_ s i / 32 == 6 && decide (cont s (i + 1))) = true := by
      simp only [Bool.and_eq_true, decide_eq_true_eq, beq_iff_eq]; exact ⟨by omega, c1.2.2⟩
    rw [if_pos d1, if_pos c1]
    obtain ⟨a1, a2, a3, a4, a5⟩ := c1
    have e : (by_ s i % 32) * 64 + by_ s (i + 1) % 64 = (by_ s i - 192) * 64 + (by_ s (i + 1) - 128) := by omega
    simp only [e, ge_iff_le]
    split <;> rfl
  have d1 : ¬ (by_ s i / 32 == 6 && decide (cont s (i + 1))) = true := by
    simp only [Bool.and_eq_true, decide_eq_true_eq, beq_iff_eq]; intro h; exact c1 ⟨by omega, by omega, h.2⟩
  rw [if_neg d1, if_neg c1]
  by_cases c2 : 224 ≤ by_ s i ∧ by_ s i < 240 ∧ cont s (i + 1) ∧ cont s (i + 2)
  · have d2 : (by_ s i / 16 == 14 && decide (cont s (i + 1)) && decide (cont s (i + 2))) = true := by
      simp only [Bool.and_eq_true, decide_eq_true_eq, beq_iff_eq]; exact ⟨⟨by omega, c2.2.2.1⟩, c2.2.2.2⟩
    rw [if_pos d2, if_pos c2]
    obtain ⟨a1, a2, ⟨a3, a4, a5⟩, ⟨a6, a7, a8⟩⟩ := c2
    have e : (by_ s i % 16) * 4096 + (by_ s (i + 1) % 64) * 64 + by_ s (i + 2) % 64 = (by_ s i - 224) * 4096 + (by_ s (i + 1) - 128) * 64 + (by_ s (i + 2) - 128) := by omega
    simp only [e, ge_iff_le, Bool.and_eq_true, decide_eq_true_eq]
    split <;> rfl
  have d2 : ¬ (by_ s i / 16 == 14 && decide (cont s (i + 1)) && decide (cont s (i + 2))) = true := by
    simp only [Bool.and_eq_true, decide_eq_true_eq, beq_iff_eq]; intro h; exact c2 ⟨by omega, by omega, h.1.2, h.2⟩
  rw [if_neg d2, if_neg c2]
  by_cases c3 : 240 ≤ by_ s i ∧ by_ s i < 248 ∧ cont s (i + 1) ∧ cont s (i + 2) ∧ cont s (i + 3)
  · have d3 : (by_ s i / 8 == 30 && decide (cont s (i + 1)) && decide (cont s (i + 2)) && decide (cont s (i + 3))) = true := by
      simp only [Bool.and_eq_true, decide_eq_true_eq, beq_iff_eq]; exact ⟨⟨⟨by omega, c3.2.2.1⟩, c3.2.2.2.1⟩, c3.2.2.2.2⟩
    rw [if_pos d3, if_pos c3]
    obtain ⟨a1, a2, ⟨a3, a4, a5⟩, ⟨a6, a7, a8⟩, ⟨a9, a10, a11⟩⟩ := c3
    have e : (by_ s i % 8) * 262144 + (by_ s (i + 1) % 64) * 4096 + (by_ s (i + 2) % 64) * 64 + by_ s (i + 3) % 64 = (by_ s i - 240) * 262144 + (by_ s (i + 1) - 128) * 4096 + (by_ s (i + 2) - 128) * 64 + (by_ s (i + 3) - 128) := by omega
    simp only [e, ge_iff_le, Bool.and_eq_true, decide_eq_true_eq]
    split <;> rfl
  have d3 : ¬ (by_ s i / 8 == 30 && decide (cont s (i + 1)) && decide (cont s (i + 2)) && decide (cont s (i + 3))) = true := by
    simp only [Bool.and_eq_true, decide_eq_true_eq, beq_iff_eq]; intro h; exact c3 ⟨by omega, by omega, h.1.1.2, h.1.2, h.2⟩
  rw [if_neg d3, if_neg c3]
  rfl
theorem one_bd (s : ByteArray) (i : Nat) (hi : i < s.size) {c n : Nat} (h : one s i = some (c, n)) : 1 ≤ n ∧ n ≤ 4 ∧ i + n ≤ s.size ∧ scal c := by
  have h0 := by_lt s i
  unfold one at h
  split at h
  · simp only [Option.some.injEq, Prod.mk.injEq] at h; unfold scal; omega
  split at h
  · rename_i c1
    obtain ⟨a1, a2, a3, a4, a5⟩ := c1
    simp only at h
    split at h
    · simp only [Option.some.injEq, Prod.mk.injEq] at h; unfold scal; omega
    · cases h
  split at h
  · rename_i c1
    obtain ⟨a1, a2, ⟨a3, a4, a5⟩, ⟨a6, a7, a8⟩⟩ := c1
    simp only at h
    split at h
    · rename_i hs; simp only [Option.some.injEq, Prod.mk.injEq] at h; obtain ⟨rfl, rfl⟩ := h; exact ⟨by omega, by omega, by omega, hs.2⟩
    · cases h
  split at h
  · rename_i c1
    obtain ⟨a1, a2, ⟨a3, a4, a5⟩, ⟨a6, a7, a8⟩, ⟨a9, a10, a11⟩⟩ := c1
    simp only at h
    split at h
    · rename_i hs; simp only [Option.some.injEq, Prod.mk.injEq] at h; obtain ⟨rfl, rfl⟩ := h; exact ⟨by omega, by omega, by omega, hs.2⟩
    · cases h
  · cases h
theorem by_list (s : ByteArray) (i : Nat) : (s.data.toList.getD i 0).toNat = by_ s i := by
  unfold by_
  split
  · rename_i h
    have : i < s.data.toList.length := by simpa using h
    rw [List.getD_eq_getElem?_getD, List.getElem?_eq_getElem this]; rfl
  · rename_i h
    have : ¬ i < s.data.toList.length := by simpa using h
    rw [List.getD_eq_getElem?_getD, List.getElem?_eq_none (by omega)]; rfl
def tl (s : ByteArray) (i : Nat) : ByteArray := ⟨(s.data.toList.drop i).toArray⟩
theorem tl_by (s : ByteArray) (i k : Nat) : by_ (tl s i) k = by_ s (i + k) := by
  rw [← by_list, ← by_list]
  simp [tl, List.getD_eq_getElem?_getD]
theorem tl_size (s : ByteArray) (i : Nat) : (tl s i).size = s.size - i := by
  show ((s.data.toList.drop i).toArray).size = _
  simp
theorem tl_cont (s : ByteArray) (i k : Nat) : cont (tl s i) k ↔ cont s (i + k) := by
  unfold cont
  rw [tl_by, tl_size]
  omega
theorem tl_one (s : ByteArray) (i : Nat) : one (tl s i) 0 = one s i := by
  unfold one
  simp only [tl_by, tl_cont, Nat.add_zero, Nat.zero_add]
theorem decodeL_tl (s : ByteArray) (i : Nat) : decodeL (s.data.toList.drop i) = (one s i).getD (65533, 1) := by
  rw [← tl_one]; exact decode_one (tl s i) 0
theorem one_not_bad {s : ByteArray} {i c n : Nat} (h : one s i = some (c, n)) : ¬ (c = 65533 ∧ n = 1) := by
  have h0 := by_lt s i
  rintro ⟨rfl, rfl⟩
  unfold one at h
  split at h
  · simp only [Option.some.injEq, Prod.mk.injEq] at h; omega
  split at h
  · simp only at h
    split at h
    · simp only [Option.some.injEq, Prod.mk.injEq] at h; omega
    · cases h
  split at h
  · simp only at h
    split at h
    · simp only [Option.some.injEq, Prod.mk.injEq] at h; omega
    · cases h
  split at h
  · simp only at h
    split at h
    · simp only [Option.some.injEq, Prod.mk.injEq] at h; omega
    · cases h
  · cases h
def rn (s : ByteArray) : Nat → Nat → Option (List Nat)
  | 0, _ => some []
  | f + 1, i => if i < s.size then (match one s i with | none => none | some (c, n) => (rn s f (i + n)).map (c :: ·)) else some []
def runesOf (s : ByteArray) : Option (List Nat) := rn s (s.size + 1) 0
theorem validD_rn (s : ByteArray) : ∀ (f i : Nat), s.size < i + f → validD (s.data.toList.drop i) = (rn s f i).isSome
  | 0, i, h => by
    have : s.data.toList.drop i = [] := List.drop_eq_nil_of_le (by show s.data.toList.length ≤ i; simp; omega)
    rw [this, rn]; rfl
  | f + 1, i, h => by
    rw [rn]
    split
    · rename_i hi
      have hne : s.data.toList.drop i ≠ [] := fun e => by
        have := List.drop_eq_nil_iff.1 e
        have e2 : s.data.toList.length = s.size := by simp
        omega
      rw [validD_step _ hne, decodeL_tl]
      cases ho : one s i with
      | none => simp
      | some p =>
        obtain ⟨c, n⟩ := p
        have hb := one_bd s i hi ho
        simp only [Option.getD_some]
        rw [if_neg (one_not_bad ho), List.drop_drop]
        have := validD_rn s f (i + n) (by omega)
        rw [this, Option.isSome_map]
    · rename_i hi
      have : s.data.toList.drop i = [] := List.drop_eq_nil_of_le (by have e2 : s.data.toList.length = s.size := by simp
                                                                     omega)
      rw [this]; rfl
theorem validD_runes (s : ByteArray) : validD s.data.toList = (runesOf s).isSome := by
  have := validD_rn s (s.size + 1) 0 (by omega)
  simpa [runesOf] using this
def scalZ (r : Int) : Bool := ((decide (0 ≤ r)) && (decide (r ≤ 1114111))) && ((decide (r < 55296)) || (decide (57343 < r)))
def lowZ (r : Int) : Bool := (decide (97 ≤ r) && decide (r ≤ 122)) || (decide (128 ≤ r) && scalZ r)
def upZ (r : Int) : Bool := decide (65 ≤ r) && decide (r ≤ 90)
def partZ (r : Int) : Bool := ((lowZ r || upZ r) || (decide (48 ≤ r) && decide (r ≤ 57))) || (r == 95)
def fstZ (up : Bool) (r : Int) : Bool := if up then upZ r else lowZ r
def fstL (up : Bool) : List Nat → Bool
  | [] => true
  | c :: _ => fstZ up c
def wordL : List ByteArray := [⟨#[99, 97, 112]⟩, ⟨#[100, 111]⟩, ⟨#[101, 108, 115, 101]⟩, ⟨#[101, 110, 100]⟩, ⟨#[102, 111, 114]⟩, ⟨#[102, 117, 110]⟩, ⟨#[105, 102]⟩, ⟨#[105, 110]⟩, ⟨#[108, 101, 116]⟩, ⟨#[109, 97, 116, 99, 104]⟩, ⟨#[111, 102]⟩, ⟨#[111, 110]⟩, ⟨#[113, 117, 101, 117, 101]⟩, ⟨#[115, 116, 97, 116, 101]⟩, ⟨#[116, 104, 101, 110]⟩, ⟨#[116, 105, 109, 101, 114, 115]⟩, ⟨#[116, 121, 112, 101]⟩, ⟨#[119, 105, 116, 104]⟩]
def wordP (s : ByteArray) : Bool := wordL.any fun w => s.toList == w.toList
def namedP (s : ByteArray) (up : Bool) : Bool :=
  match runesOf s with
  | none => false
  | some l => l.all (fun c => partZ c) && fstL up l && decide (l.length ≤ 24) && decide (0 < l.length) && !wordP s
end Go.Proofs.YtappiofmkoelnaaGreatDoor.M
namespace Go.Proofs.YtappiofmkoelnaaGreatDoor.M
open Go.Proofs.YtappiofmkoelnaaGreatDoorW.Ah Go.Proofs.YtappiofmkoelnaaGreatDoor
set_option linter.unusedVariables false
set_option linter.unusedSimpArgs false
theorem validRune_ok (F : Nat) (r : Int) : unicode_utf8_ValidRune F r = some (scalZ r) := by
  unfold unicode_utf8_ValidRune scalZ
  by_cases h1 : 0 ≤ r <;> by_cases h2 : r < 55296 <;> by_cases h3 : 57343 < r <;> by_cases h4 : r ≤ 1114111 <;> simp [h1, h2, h3, h4] <;> omega
theorem scalar_ok (F : Nat) (r : Int) : R02_scalar F r = some (scalZ r) := rfl
theorem low_ok (F : Nat) (r : Int) : runes_Low F r = some (lowZ r) := by
  unfold runes_Low lowZ
  simp only [joinM, validRune_ok, Option.bind_some]
  cases (decide (97 ≤ r) && decide (r ≤ 122)) <;> cases decide (128 ≤ r) <;> rfl
theorem rlow_ok (F : Nat) (r : Int) : R02_Low F r = some (lowZ r) := by
  unfold R02_Low lowZ
  simp only [joinM, scalar_ok, Option.bind_some]
  cases (decide (97 ≤ r) && decide (r ≤ 122)) <;> cases decide (128 ≤ r) <;> rfl
theorem part_ok (F : Nat) (r : Int) : lex_part F r = some (partZ r) := by
  unfold lex_part partZ
  simp only [joinM, low_ok, runes_Up, runes_Digit, Option.bind_some, upZ]
  cases lowZ r <;> cases (decide (65 ≤ r) && decide (r ≤ 90)) <;> cases (decide (48 ≤ r) && decide (r ≤ 57)) <;> rfl
theorem rpart_ok (F : Nat) (r : Int) : R03_part F r = some (partZ r) := by
  unfold R03_part partZ
  simp only [joinM, rlow_ok, R02_Up, R02_Digit, Option.bind_some, upZ]
  cases lowZ r <;> cases (decide (65 ≤ r) && decide (r ≤ 90)) <;> cases (decide (48 ≤ r) && decide (r ≤ 57)) <;> rfl
theorem bif_any {l : List ByteArray} {x w : ByteArray} : (bif (x.toList == w.toList) then some true else some (l.any fun v => x.toList == v.toList)) = some ((w :: l).any fun v => x.toList == v.toList) := by
  simp only [List.any_cons]; cases (x.toList == w.toList) <;> rfl
theorem word_ok (F : Nat) (s : ByteArray) : lex_Word F s = some (wordP s) := by
  unfold lex_Word wordP wordL
  have e0 : some false = some (([] : List ByteArray).any fun v => s.toList == v.toList) := rfl
  rw [e0]
  repeat rw [bif_any]
theorem rword_ok (F : Nat) (s : ByteArray) : R03_Word F s = some (wordP s) := word_ok F s
theorem sidx_by {s : ByteArray} {j : Nat} (h : j < s.size) : sidx s (j : Int) = some (by_ s j : Int) := by
  unfold sidx
  rw [if_pos ⟨by omega, by omega⟩]
  simp only [Int.toNat_natCast, by_list]
theorem w64_id {x : Int} (h1 : -9223372036854775808 ≤ x) (h2 : x ≤ 9223372036854775807) : IntKind.i64.wrap x = x := wrap_ok h1 h2
theorem w32_id {x : Int} (h1 : -2147483648 ≤ x) (h2 : x ≤ 2147483647) : IntKind.i32.wrap x = x := by
  simp [IntKind.wrap, IntKind.bits, IntKind.signed]; omega
theorem w8_id {x : Int} (h1 : 0 ≤ x) (h2 : x ≤ 255) : IntKind.u8.wrap x = x := by
  simp [IntKind.wrap, IntKind.bits, IntKind.signed]; omega
theorem tail_step (F m : Nat) (s : ByteArray) (a n r : Int) (j : Nat) (h : (j : Int) < a + n) (h0 : 0 ≤ a + n) (hb : a + n < 1000000) (hr : 0 ≤ r) (hr2 : r < 262144) :
    R02_tail_L0 F s a n (m + 1) r j = if cont s j then R02_tail_L0 F s a n m (r * 64 + ((by_ s j : Int) - 128)) ((j + 1 : Nat) : Int) else some (0, false) := by
  rw [R02_tail_L0]
  have hy := by_lt s j
  rw [w64_id (by omega) (by omega), decide_eq_true h]
  simp only [cond_true, joinM]
  by_cases hs : j < s.size
  · rw [decide_eq_false (by omega), sidx_by hs]
    simp only [cond_false, Option.bind_some]
    by_cases h1 : (by_ s j : Int) < 128
    · rw [decide_eq_true h1, if_neg (by unfold cont; omega)]; rfl
    rw [decide_eq_false h1]
    simp only [cond_false]
    by_cases h2 : (191 : Int) < by_ s j
    · rw [decide_eq_true h2, if_neg (by unfold cont; omega)]; rfl
    rw [decide_eq_false h2, if_pos (by unfold cont; omega)]
    simp only [cond_false]
    rw [w8_id (by omega) (by omega), w32_id (x := r * 64) (by omega) (by omega), w32_id (x := (by_ s j : Int) - 128) (by omega) (by omega), w32_id (by omega) (by omega), w64_id (by omega) (by omega)]
    rfl
  · rw [decide_eq_true (by omega), if_neg (by unfold cont; omega)]; rfl
theorem tail_end (F m : Nat) (s : ByteArray) (a n r : Int) (j : Nat) (h : (j : Int) = a + n) (hb : a + n < 1000000) :
    R02_tail_L0 F s a n (m + 1) r j = some (r, true) := by
  rw [R02_tail_L0, w64_id (by omega) (by omega), decide_eq_false (by omega)]; rfl
theorem tail1 (F : Nat) (hF : 4 ≤ F) (s : ByteArray) (j : Nat) (hj : j < 900000) : R02_tail F s (j : Int) 1 = if cont s j then some ((by_ s j : Int) - 128, true) else some (0, false) := by
  obtain ⟨k, rfl⟩ : ∃ k, F = k + 4 := ⟨F - 4, by omega⟩
  unfold R02_tail
  rw [tail_step _ (k + 3) _ _ _ _ _ (by omega) (by omega) (by omega) (by omega) (by omega)]
  split
  · rw [tail_end _ _ _ _ _ _ _ (by omega) (by omega)]; congr 2; omega
  · rfl
theorem tail2 (F : Nat) (hF : 4 ≤ F) (s : ByteArray) (j : Nat) (hj : j < 900000) : R02_tail F s (j : Int) 2 = if cont s j ∧ cont s (j + 1) then some (((by_ s j : Int) - 128) * 64 + ((by_ s (j + 1) : Int) - 128), true) else some (0, false) := by
  obtain ⟨k, rfl⟩ : ∃ k, F = k + 4 := ⟨F - 4, by omega⟩
  unfold R02_tail
  rw [tail_step _ (k + 3) _ _ _ _ _ (by omega) (by omega) (by omega) (by omega) (by omega)]
  by_cases c1 : cont s j
  · have h1 := c1
    have hl := by_lt s j
    unfold cont at h1
    rw [if_pos c1, tail_step _ (k + 2) _ _ _ _ _ (by omega) (by omega) (by omega) (by omega) (by omega)]
    by_cases c2 : cont s (j + 1)
    · rw [if_pos c2, if_pos ⟨c1, c2⟩, tail_end _ _ _ _ _ _ _ (by omega) (by omega)]; congr 2; omega
    · rw [if_neg c2, if_neg (fun h => c2 h.2)]
  · rw [if_neg c1, if_neg (fun h => c1 h.1)]
theorem tail3 (F : Nat) (hF : 4 ≤ F) (s : ByteArray) (j : Nat) (hj : j < 900000) : R02_tail F s (j : Int) 3 = if cont s j ∧ cont s (j + 1) ∧ cont s (j + 2) then some (((by_ s j : Int) - 128) * 4096 + ((by_ s (j + 1) : Int) - 128) * 64 + ((by_ s (j + 2) : Int) - 128), true) else some (0, false) := by
  obtain ⟨k, rfl⟩ : ∃ k, F = k + 4 := ⟨F - 4, by omega⟩
  unfold R02_tail
  rw [tail_step _ (k + 3) _ _ _ _ _ (by omega) (by omega) (by omega) (by omega) (by omega)]
  by_cases c1 : cont s j
  · have h1 := c1
    unfold cont at h1
    rw [if_pos c1, tail_step _ (k + 2) _ _ _ _ _ (by omega) (by omega) (by omega) (by omega) (by omega)]
    by_cases c2 : cont s (j + 1)
    · have h2 := c2
      unfold cont at h2
      rw [if_pos c2, tail_step _ (k + 1) _ _ _ _ _ (by omega) (by omega) (by omega) (by omega) (by omega)]
      by_cases c3 : cont s (j + 1 + 1)
      · have e : by_ s (j + 1 + 1) = by_ s (j + 2) := rfl
        rw [if_pos c3, if_pos ⟨c1, c2, c3⟩, tail_end _ _ _ _ _ _ _ (by omega) (by omega)]; congr 2; omega
      · rw [if_neg c3, if_neg (fun h => c3 h.2.2)]
    · rw [if_neg c2, if_neg (fun h => c2 h.2.1)]
  · rw [if_neg c1, if_neg (fun h => c1 h.1)]
def oneZ (s : ByteArray) (i : Nat) : Int × Int := match one s i with | some (c, n) => ((c : Int), (n : Int)) | none => (0, 0)
theorem scalZ_dec (c : Nat) : scalZ (c : Int) = decide (scal c) := by
  rw [Bool.eq_iff_iff, decide_eq_true_eq]; unfold scalZ scal; simp only [Bool.and_eq_true, Bool.or_eq_true, decide_eq_true_eq]; constructor <;> intro h <;> omega
theorem sh6 (x : Int) (h0 : 0 ≤ x) (h1 : x < 32) : shlM .i32 x (IntKind.u64.wrap (IntKind.i64.wrap (6 * 1))) = some (x * 64) := by
  have e : IntKind.u64.wrap (IntKind.i64.wrap (6 * 1)) = 6 := by decide
  rw [e]; unfold shlM shlI; simp [IntKind.bits]; rw [w32_id (by omega) (by omega)]
theorem sh12 (x : Int) (h0 : 0 ≤ x) (h1 : x < 16) : shlM .i32 x (IntKind.u64.wrap (IntKind.i64.wrap (6 * 2))) = some (x * 4096) := by
  have e : IntKind.u64.wrap (IntKind.i64.wrap (6 * 2)) = 12 := by decide
  rw [e]; unfold shlM shlI; simp [IntKind.bits]; rw [w32_id (by omega) (by omega)]
theorem sh18 (x : Int) (h0 : 0 ≤ x) (h1 : x < 8) : shlM .i32 x (IntKind.u64.wrap (IntKind.i64.wrap (6 * 3))) = some (x * 262144) := by
  have e : IntKind.u64.wrap (IntKind.i64.wrap (6 * 3)) = 18 := by decide
  rw [e]; unfold shlM shlI; simp [IntKind.bits]; rw [w32_id (by omega) (by omega)]
theorem one_last (F : Nat) (v : Int) (least m c : Nat) (hv : v = (c : Int)) (hc : c < 2097152) (hm : m ≤ 3) : (joinM (fun (v11 : Bool) => bif v11 then (some ((0 : Int), (0 : Int))) else (some ((IntKind.i32.wrap v), (IntKind.i64.wrap ((m : Int) + 1))))) fun K2 =>
    bif ((!true) || (decide ((IntKind.i32.wrap v) < (least : Int)))) then (K2 true) else ((R02_scalar F (IntKind.i32.wrap v)).bind fun x12 => K2 (!x12))) = some (if least ≤ c ∧ scal c then ((c : Int), ((m + 1 : Nat) : Int)) else (0, 0)) := by
  subst hv
  rw [w32_id (by omega) (by omega), w64_id (by omega) (by omega)]
  simp only [joinM, Bool.not_true, Bool.false_or, scalar_ok, Option.bind_some, scalZ_dec]
  by_cases h1 : least ≤ c
  · rw [decide_eq_false (by omega)]
    by_cases h2 : scal c
    · rw [decide_eq_true h2, if_pos ⟨h1, h2⟩]; simp
    · rw [decide_eq_false h2, if_neg (fun h => h2 h.2)]; rfl
  · rw [decide_eq_true (by omega), if_neg (fun h => h1 h.1)]; rfl
theorem one_ok (F : Nat) (hF : 4 ≤ F) (s : ByteArray) (i : Nat) (hi : i < s.size) (hb : i < 100000) : R02_One F s (i : Int) = some (oneZ s i) := by
  have h0 := by_lt s i
  unfold R02_One oneZ one
  rw [sidx_by hi]
  simp only [Option.bind_some]
  by_cases c0 : by_ s i < 128
  · rw [decide_eq_true (by omega), if_pos c0, w32_id (by omega) (by omega)]; rfl
  rw [decide_eq_false (by omega), if_neg c0]
  simp only [cond_false]
  have ei : IntKind.i64.wrap ((i : Int) + 1) = ((i + 1 : Nat) : Int) := by rw [w64_id (by omega) (by omega)]; rfl
  rw [joinM]
  by_cases d1 : 192 ≤ by_ s i ∧ by_ s i < 224
  · rw [decide_eq_true (by omega), decide_eq_true (by omega)]
    simp only [Bool.and_self, cond_true]
    rw [ei, tail1 F hF s (i + 1) (by omega), w32_id (x := by_ s i) (by omega) (by omega), w32_id (by omega) (by omega), sh6 _ (by omega) (by omega)]
    by_cases c1 : cont s (i + 1)
    · rw [if_pos c1, if_pos ⟨d1.1, d1.2, c1⟩]
      have h1 := c1
      unfold cont at h1
      simp only [Option.bind_some]
      refine (one_last F _ 128 1 ((by_ s i - 192) * 64 + (by_ s (i + 1) - 128)) (by omega) (by omega) (by omega)).trans ?_
      have hs : scal ((by_ s i - 192) * 64 + (by_ s (i + 1) - 128)) := by unfold scal; omega
      by_cases c2 : 128 ≤ (by_ s i - 192) * 64 + (by_ s (i + 1) - 128)
      · rw [if_pos ⟨c2, hs⟩, if_pos c2]
      · rw [if_neg (fun h => c2 h.1), if_neg c2]
    · rw [if_neg c1, if_neg (fun h => c1 h.2.2), if_neg (by omega), if_neg (by omega)]
      rfl
  rw [if_neg (fun h => d1 ⟨h.1, h.2.1⟩)]
  have g1 : (decide ((192 : Int) ≤ (by_ s i : Int)) && decide ((by_ s i : Int) < 224)) = false := by
    rw [Bool.eq_false_iff]; intro h; simp only [Bool.and_eq_true, decide_eq_true_eq] at h; omega
  rw [g1]
  simp only [cond_false]
  by_cases d2 : 224 ≤ by_ s i ∧ by_ s i < 240
  · rw [decide_eq_true (by omega), decide_eq_true (by omega)]
    simp only [Bool.and_self, cond_true]
    rw [ei, tail2 F hF s (i + 1) (by omega), show i + 1 + 1 = i + 2 from rfl, w32_id (x := by_ s i) (by omega) (by omega), w32_id (by omega) (by omega), sh12 _ (by omega) (by omega)]
    by_cases c1 : cont s (i + 1) ∧ cont s (i + 2)
    · rw [if_pos c1, if_pos ⟨d2.1, d2.2, c1.1, c1.2⟩]
      have h1 := c1.1
      have h2 := c1.2
      unfold cont at h1 h2
      simp only [Option.bind_some]
      refine (one_last F _ 2048 2 ((by_ s i - 224) * 4096 + (by_ s (i + 1) - 128) * 64 + (by_ s (i + 2) - 128)) (by omega) (by omega) (by omega)).trans ?_
      split <;> rfl
    · rw [if_neg c1, if_neg (fun h => c1 h.2.2), if_neg (by omega)]
      rfl
  rw [if_neg (fun h => d2 ⟨h.1, h.2.1⟩)]
  have g2 : (decide ((224 : Int) ≤ (by_ s i : Int)) && decide ((by_ s i : Int) < 240)) = false := by
    rw [Bool.eq_false_iff]; intro h; simp only [Bool.and_eq_true, decide_eq_true_eq] at h; omega
  rw [g2]
  simp only [cond_false]
  by_cases d3 : 240 ≤ by_ s i ∧ by_ s i < 248
  · rw [decide_eq_true (by omega), decide_eq_true (by omega)]
    simp only [Bool.and_self, cond_true]
    rw [ei, tail3 F hF s (i + 1) (by omega), show i + 1 + 1 = i + 2 from rfl, show i + 1 + 2 = i + 3 from rfl, w32_id (x := by_ s i) (by omega) (by omega), w32_id (by omega) (by omega), sh18 _ (by omega) (by omega)]
    by_cases c1 : cont s (i + 1) ∧ cont s (i + 2) ∧ cont s (i + 3)
    · rw [if_pos c1, if_pos ⟨d3.1, d3.2, c1.1, c1.2.1, c1.2.2⟩]
      have h1 := c1.1
      have h2 := c1.2.1
      have h3 := c1.2.2
      unfold cont at h1 h2 h3
      simp only [Option.bind_some]
      refine (one_last F _ 65536 3 ((by_ s i - 240) * 262144 + (by_ s (i + 1) - 128) * 4096 + (by_ s (i + 2) - 128) * 64 + (by_ s (i + 3) - 128)) (by omega) (by omega) (by omega)).trans ?_
      split <;> rfl
    · rw [if_neg c1, if_neg (fun h => c1 h.2.2)]
      rfl
  rw [if_neg (fun h => d3 ⟨h.1, h.2.1⟩)]
  have g3 : (decide ((240 : Int) ≤ (by_ s i : Int)) && decide ((by_ s i : Int) < 248)) = false := by
    rw [Bool.eq_false_iff]; intro h; simp only [Bool.and_eq_true, decide_eq_true_eq] at h; omega
  rw [g3]; rfl
end Go.Proofs.YtappiofmkoelnaaGreatDoor.M
namespace Go.Proofs.YtappiofmkoelnaaGreatDoor.M
open Go.Proofs.YtappiofmkoelnaaGreatDoorW.Ah Go.Proofs.YtappiofmkoelnaaGreatDoor
set_option linter.unusedVariables false
set_option linter.unusedSimpArgs false
def chk (s : ByteArray) (up : Bool) (f n i : Nat) : Option Nat :=
  match rn s f i with
  | none => none
  | some l => if (l.all (fun c => partZ c) && (decide (n ≠ 0) || fstL up l)) && decide (n + l.length ≤ 24) then some (n + l.length) else none
theorem chk_end (s : ByteArray) (up : Bool) (f n i : Nat) (hi : s.size ≤ i) (hn : n ≤ 24) : chk s up f n i = some n := by
  have : rn s f i = some [] := by cases f with
    | zero => rfl
    | succ f => rw [rn, if_neg (by omega)]
  unfold chk; rw [this]; simp [fstL, hn]
theorem fst_ok (F : Nat) (up : Bool) (r : Int) (K : Bool → Option Bool) :
    (joinM (fun (v12 : Bool) => joinM (fun (v14 : Bool) => K v14) fun K7 => bif v12 then (K7 true) else (joinM (fun (v15 : Bool) => K7 v15) fun K8 => bif (!up) then ((R02_Low F r).bind fun x16 => K8 (!x16)) else (K8 false))) fun K6 =>
      bif up then ((R02_Up F r).bind fun x13 => K6 (!x13)) else (K6 false)) = K (!fstZ up r) := by
  simp only [joinM, rlow_ok, R02_Up, Option.bind_some, fstZ]
  cases up
  · rfl
  · simp only [cond_true, Bool.not_true, cond_false, if_true, upZ]
    cases (decide (65 ≤ r) && decide (r ≤ 90)) <;> rfl
theorem rnamed_loop (F : Nat) (hF : 4 ≤ F) (s : ByteArray) (up : Bool) (K1 : Int → Option Bool) : ∀ (f m n i : Nat), s.size < i + f → i ≤ 4 * n → n ≤ 24 → 26 ≤ m + n →
    R03_Named_L0 F s up K1 m (n : Int) (i : Int) = match chk s up f n i with | some N => K1 (N : Int) | none => some false
  | f, 0, n, i, _, _, _, h => by omega
  | 0, m + 1, n, i, h1, h2, h3, h4 => by
    rw [R03_Named_L0, decide_eq_false (by omega), chk_end s up 0 n i (by omega) h3]; rfl
  | f + 1, m + 1, n, i, h1, h2, h3, h4 => by
    rw [R03_Named_L0]
    by_cases hi : i < s.size
    · rw [decide_eq_true (by omega), one_ok F hF s i hi (by omega)]
      simp only [cond_true, Option.bind_some]
      unfold oneZ chk
      rw [rn, if_pos hi]
      cases ho : one s i with
      | none => rfl
      | some p =>
        obtain ⟨c, k⟩ := p
        have hb := one_bd s i hi ho
        simp only [rpart_ok, Option.bind_some]
        have hk : ((k : Int) == 0) = false := by rw [Bool.eq_false_iff]; intro h; rw [beq_iff_eq] at h; omega
        rw [hk]
        simp only [joinM, cond_false]
        have stop : ∀ o : Option (List Nat), (∀ l, o = some l → ((l.all (fun c => partZ c) && (decide (n ≠ 0) || fstL up l)) && decide (n + l.length ≤ 24)) = false) → (match (match o with | none => none | some l => if ((l.all (fun c => partZ c) && (decide (n ≠ 0) || fstL up l)) && decide (n + l.length ≤ 24)) = true then some (n + l.length) else none : Option Nat) with | some N => K1 (N : Int) | none => some false) = some false := by
          intro o h
          cases o with
          | none => rfl
          | some l => simp only [h l rfl]; rfl
        cases hp : partZ (c : Int) with
        | false =>
          simp only [Bool.not_false, cond_true, Bool.true_or]
          refine (stop _ ?_).symm
          intro l hl
          obtain ⟨l', _, rfl⟩ := Option.map_eq_some_iff.1 hl
          simp [hp]
        | true =>
          simp only [Bool.not_true]
          have hcont : (bif (decide ((24 : Int) ≤ (n : Int))) then some false else R03_Named_L0 F s up K1 m (IntKind.i64.wrap ((n : Int) + 1)) (IntKind.i64.wrap ((i : Int) + (k : Int)))) =
              match (match (rn s f (i + k)).map (c :: ·) with | none => none | some l => if ((l.all (fun c => partZ c)) && decide (n + l.length ≤ 24)) = true then some (n + l.length) else none : Option Nat) with | some N => K1 (N : Int) | none => some false := by
            by_cases h24 : 24 ≤ n
            · rw [decide_eq_true (by omega)]
              cases rn s f (i + k) with
              | none => rfl
              | some l =>
                have : decide (n + (c :: l).length ≤ 24) = false := by simp; omega
                simp only [Option.map_some, this, Bool.and_false]; rfl
            · rw [decide_eq_false (by omega), w64_id (by omega) (by omega), w64_id (by omega) (by omega)]
              have := rnamed_loop F hF s up K1 f m (n + 1) (i + k) (by omega) (by omega) (by omega) (by omega)
              simp only [cond_false]
              rw [show ((n : Int) + 1) = ((n + 1 : Nat) : Int) by simp, show ((i : Int) + (k : Int)) = ((i + k : Nat) : Int) by simp, this]
              unfold chk
              cases rn s f (i + k) with
              | none => rfl
              | some l =>
                have e : n + 1 + l.length = n + (c :: l).length := by simp; omega
                simp only [Option.map_some, e, List.all_cons, hp, Bool.true_and, decide_true, Bool.true_or, Bool.and_true, ne_eq, Nat.add_eq_zero_iff, Nat.one_ne_zero, and_false, not_false_eq_true]
          by_cases hn : n = 0
          · subst hn
            have h0 : (((0 : Nat) : Int) == 0) = true := rfl
            rw [h0]
            simp only [cond_true]
            have := fst_ok F up (c : Int) (fun v => bif (v || decide ((24 : Int) ≤ ((0 : Nat) : Int))) then some false else R03_Named_L0 F s up K1 m (IntKind.i64.wrap (((0 : Nat) : Int) + 1)) (IntKind.i64.wrap ((i : Int) + (k : Int))))
            simp only [joinM] at this
            refine this.trans ?_
            cases hf : fstZ up (c : Int) with
            | false =>
              simp only [Bool.not_false, Bool.true_or, cond_true]
              refine (stop _ ?_).symm
              intro l hl
              obtain ⟨l', _, rfl⟩ := Option.map_eq_some_iff.1 hl
              simp [fstL, hf]
            | true =>
              simp only [Bool.not_true, Bool.false_or]
              refine hcont.trans ?_
              cases rn s f (i + k) with
              | none => rfl
              | some l => simp [fstL, hf]
          · have h0 : ((n : Int) == 0) = false := by rw [Bool.eq_false_iff]; intro h; rw [beq_iff_eq] at h; omega
            rw [h0]
            simp only [cond_false, Bool.false_or]
            refine hcont.trans ?_
            have hd : decide (n ≠ 0) = true := decide_eq_true hn
            cases rn s f (i + k) with
            | none => rfl
            | some l => simp only [hd, Bool.true_or, Bool.and_true]
    · rw [decide_eq_false (by omega), chk_end s up (f + 1) n i (by omega) h3]; rfl
theorem rnamed_ok (F : Nat) (hF : 26 ≤ F) (s : ByteArray) (up : Bool) : R03_Named F s up = some (namedP s up) := by
  unfold R03_Named
  rw [joinM]
  have := rnamed_loop F (by omega) s up (fun v1 => joinM (fun (v18 : Bool) => some v18) fun K9 => bif (decide (0 < v1)) then ((R03_Word F s).bind fun x19 => K9 (!x19)) else (K9 false)) (s.size + 1) F 0 0 (by omega) (by omega) (by omega) (by omega)
  refine this.trans ?_
  unfold chk namedP runesOf
  cases rn s (s.size + 1) 0 with
  | none => rfl
  | some l =>
    simp only [rword_ok, Option.bind_some, joinM, Nat.zero_add, ne_eq, not_true_eq_false, decide_false, Bool.false_or]
    cases h1 : (l.all (fun c => partZ c) && fstL up l) && decide (l.length ≤ 24) with
    | false => simp
    | true =>
      simp only [if_true, Bool.true_and]
      by_cases h2 : 0 < l.length
      · rw [decide_eq_true (show (0 : Int) < ((l.length : Nat) : Int) by omega), decide_eq_true h2]; rfl
      · rw [decide_eq_false (show ¬ (0 : Int) < ((l.length : Nat) : Int) by omega), decide_eq_false h2]; rfl
theorem rn_len (s : ByteArray) : ∀ (f i : Nat) (l : List Nat), i ≤ s.size → rn s f i = some l → i + l.length ≤ s.size
  | 0, i, l, hi, h => by cases h; simpa using hi
  | f + 1, i, l, hi, h => by
    rw [rn] at h
    split at h
    · rename_i hlt
      cases ho : one s i with
      | none => rw [ho] at h; cases h
      | some p =>
        obtain ⟨c, n⟩ := p
        rw [ho] at h
        have hb := one_bd s i hlt ho
        obtain ⟨l', hl, rfl⟩ := Option.map_eq_some_iff.1 h
        have := rn_len s f (i + n) l' (by omega) hl
        simp only [List.length_cons]; omega
    · cases h; simpa using hi
theorem decode_some {s : ByteArray} {i c n : Nat} (h : one s i = some (c, n)) : Utf8.decode s i = (c, n) := by rw [decode_one, h]; rfl
theorem count_loop (F : Nat) (s : ByteArray) (hs : s.size ≤ maxLen) : ∀ (f m v i : Nat) (l : List Nat), s.size < i + f → i ≤ s.size → v ≤ i → f < m → rn s f i = some l → unicode_utf8_RuneCountInString_L0 F s m (v : Int) i = some ((v + l.length : Nat) : Int)
  | f, 0, _, _, _, _, _, _, h, _ => by omega
  | 0, m + 1, v, i, l, h1, h2, _, _, _ => by omega
  | f + 1, m + 1, v, i, l, h1, h2, h3, h4, h => by
    rw [unicode_utf8_RuneCountInString_L0]
    rw [rn] at h
    split at h
    · rename_i hlt
      cases ho : one s i with
      | none => rw [ho] at h; cases h
      | some p =>
        obtain ⟨c, n⟩ := p
        rw [ho] at h
        have hb := one_bd s i hlt ho
        obtain ⟨l', hl, rfl⟩ := Option.map_eq_some_iff.1 h
        rw [decide_eq_true hlt, decode_some ho]
        simp only [cond_true]
        have hm : s.size ≤ 9223372036854775807 := big hs
        rw [wrapS v (by omega)]
        have := count_loop F s hs f m (v + 1) (i + n) l' (by omega) (by omega) (by omega) (by omega) hl
        rw [this]; simp only [List.length_cons]; congr 2; omega
    · rename_i hlt
      cases h
      rw [decide_eq_false hlt]; simp
theorem pfst_ok (F : Nat) (up : Bool) (r : Int) (K : Bool → Option Bool) :
    (joinM (fun (v15 : Bool) => joinM (fun (v17 : Bool) => K v17) fun K8 => bif v15 then (K8 true) else (joinM (fun (v18 : Bool) => K8 v18) fun K9 => bif (!up) then ((runes_Low F r).bind fun x19 => K9 (!x19)) else (K9 false))) fun K7 =>
      bif up then ((runes_Up F r).bind fun x16 => K7 (!x16)) else (K7 false)) = K (!fstZ up r) := by
  simp only [joinM, low_ok, runes_Up, Option.bind_some, fstZ]
  cases up
  · rfl
  · simp only [cond_true, Bool.not_true, cond_false, if_true, upZ]
    cases (decide (65 ≤ r) && decide (r ≤ 90)) <;> rfl
theorem named_loop (F : Nat) (s : ByteArray) (up : Bool) : ∀ (f m i : Nat) (l : List Nat), s.size < i + f → i ≤ s.size → f < m → rn s f i = some l → lex_Named_L0 F s up m i = some (l.all (fun c => partZ c) && (decide (i ≠ 0) || fstL up l))
  | f, 0, _, _, _, _, h, _ => by omega
  | 0, m + 1, i, l, h1, h2, _, _ => by omega
  | f + 1, m + 1, i, l, h1, h2, h4, h => by
    rw [lex_Named_L0]
    rw [rn] at h
    split at h
    · rename_i hlt
      cases ho : one s i with
      | none => rw [ho] at h; cases h
      | some p =>
        obtain ⟨c, n⟩ := p
        rw [ho] at h
        have hb := one_bd s i hlt ho
        obtain ⟨l', hl, rfl⟩ := Option.map_eq_some_iff.1 h
        rw [decide_eq_true hlt, decode_some ho]
        simp only [cond_true, part_ok, Option.bind_some, joinM]
        have ih := named_loop F s up f m (i + n) l' (by omega) (by omega) (by omega) hl
        rw [ih, decide_eq_true (show i + n ≠ 0 by omega)]
        cases hp : partZ (c : Int) with
        | false => simp [hp]
        | true =>
          simp only [Bool.not_true, cond_false, List.all_cons, hp, Bool.true_and, Bool.true_or, Bool.and_true]
          by_cases h0 : i = 0
          · subst h0
            have e0 : (((0 : Nat) : Int) == 0) = true := rfl
            rw [e0]
            simp only [cond_true]
            have := pfst_ok F up (c : Int) (fun v => bif v then some false else some (l'.all fun c => partZ c))
            simp only [joinM] at this
            refine this.trans ?_
            cases hf : fstZ up (c : Int) <;> simp [fstL, hf]
          · have e0 : ((i : Int) == 0) = false := by rw [Bool.eq_false_iff]; intro h; rw [beq_iff_eq] at h; omega
            rw [e0, decide_eq_true h0]
            simp
    · rename_i hlt
      cases h
      rw [decide_eq_false hlt]; simp [fstL]
theorem named_ok (F : Nat) (s : ByteArray) (hs : s.size ≤ maxLen) (hF : s.size + 2 < F) (up : Bool) : lex_Named F s up = some (namedP s up) := by
  unfold lex_Named
  have hv : unicode_utf8_ValidString F s = some (runesOf s).isSome := by
    unfold unicode_utf8_ValidString; rw [decide_eq_true hs, validD_runes]; rfl
  simp only [joinM, word_ok, hv, Option.bind_some]
  unfold namedP
  cases ho : runesOf s with
  | none =>
    simp only [Option.isSome_none, Bool.not_false]
    cases (s.toList == (⟨#[]⟩ : ByteArray).toList) <;> cases wordP s <;> rfl
  | some l =>
    have hc : unicode_utf8_RuneCountInString F s = some ((l.length : Nat) : Int) := by
      unfold unicode_utf8_RuneCountInString
      have := count_loop F s hs (s.size + 1) F 0 0 l (by omega) (by omega) (by omega) (by omega) ho
      simpa using this
    have hn := named_loop F s up (s.size + 1) F 0 l (by omega) (by omega) (by omega) ho
    simp only [hc, hn, Option.isSome_some, Bool.not_true, Option.bind_some, ne_eq, not_true_eq_false, decide_false, Bool.false_or]
    have he : (s.toList == (⟨#[]⟩ : ByteArray).toList) = decide (l.length = 0) := by
      have h1 : (s.toList == (⟨#[]⟩ : ByteArray).toList) = decide (s.size = 0) := by
        rw [ByteArray.toList_eq, ByteArray.toList_eq]
        have e2 : s.data.toList.length = s.size := by simp
        cases hd : s.data.toList with
        | nil => rw [hd] at e2; simp at e2; simp [← e2]
        | cons a r => rw [hd] at e2; simp at e2; have : s.size ≠ 0 := by omega
                      simp [this]
      rw [h1, decide_eq_decide]
      have hl := rn_len s _ 0 l (by omega) ho
      constructor
      · intro h; omega
      · intro h
        unfold runesOf at ho
        rw [rn] at ho
        split at ho
        · rename_i hlt
          cases h1 : one s 0 with
          | none => rw [h1] at ho; cases ho
          | some p =>
            obtain ⟨c, n⟩ := p
            rw [h1] at ho
            obtain ⟨l', _, rfl⟩ := Option.map_eq_some_iff.1 ho
            simp at h
        · omega
    rw [he]
    by_cases h0 : l.length = 0
    · have : decide (0 < l.length) = false := by simp [h0]
      rw [decide_eq_true h0, this]; simp
    · have : decide (0 < l.length) = true := by simp; omega
      rw [decide_eq_false h0, this]
      cases wordP s with
      | true => simp
      | false =>
        simp only [cond_false, Bool.not_false, Bool.and_true]
        by_cases h24 : l.length ≤ 24
        · rw [decide_eq_false (by omega), decide_eq_true h24]; simp
        · rw [decide_eq_true (by omega), decide_eq_false h24]; simp
end Go.Proofs.YtappiofmkoelnaaGreatDoor.M
end
section
namespace Go.Proofs.YtappiofmkoelnaaGreatDoor.M
open Go.Proofs.YtappiofmkoelnaaGreatDoorW.Ah Go.Proofs.YtappiofmkoelnaaGreatDoor
set_option linter.unusedVariables false
set_option linter.unusedSimpArgs false
theorem pick {α β : Type} [Inhabited β] {xs : List α} {P : α → β → Prop} (h : ∀ x ∈ xs, ∃ q, P x q) : ∃ Q : α → β, ∀ x ∈ xs, P x (Q x) := by
  classical
  exact ⟨fun x => if g : ∃ q, P x q then g.choose else default, fun x hx => by simp only [dif_pos (h x hx)]; exact (h x hx).choose_spec⟩
theorem find_ok {α : Type} (xs : List α) (φ : α → Option Bool) (q : α → Bool) (f : Nat → Int → Option Int) (hf : ∀ m v, f (m + 1) v = bif (decide (v < (xs.length : Int))) then ((idx xs v).bind fun x4 => (φ x4).bind fun x5 => bif x5 then (some v) else (f m (IntKind.i64.wrap (v + 1)))) else (some (-1)))
    (hφ : ∀ x ∈ xs, φ x = some (q x)) (hl : xs.length ≤ maxLen) (n : Nat) (hn : xs.length < n) : ∃ r, f n 0 = some r ∧ decide (0 ≤ r) = xs.any q := by
  refine loop_ok xs (fun n (_ : Unit) v => f n v) (fun k _ => (xs.take k).any q = false) (fun o => ∃ r, o = some r ∧ decide (0 ≤ r) = xs.any q) ?_ ?_ n () hn (by simp)
  · intro n s hp
    rw [hf, dec_end, cond_false]
    rw [List.take_length] at hp
    exact ⟨-1, rfl, by rw [hp]; rfl⟩
  · intro n s k x hx hp next
    rw [hf, dec_lt hx, cond_true, idx_nat, hx, Option.bind_some, hφ x (List.mem_of_getElem? hx), Option.bind_some]
    cases hq : q x with
    | true =>
      refine ⟨k, rfl, ?_⟩
      rw [List.any_eq_true.2 ⟨x, List.mem_of_getElem? hx, hq⟩]; simp
    | false =>
      rw [cond_false, wrapK hx hl]
      exact next () (by rw [take_next hx, List.any_append, hp]; simp [hq])
theorem every_ok {α : Type} (xs : List α) (φ : α → Option Bool) (q : α → Bool) (f : Nat → Int → Option Int) (hf : ∀ m v, f (m + 1) v = bif (decide (v < (xs.length : Int))) then ((idx xs v).bind fun x4 => ((φ x4).bind fun x2 => some (!x2)).bind fun x5 => bif x5 then (some v) else (f m (IntKind.i64.wrap (v + 1)))) else (some (-1)))
    (hφ : ∀ x ∈ xs, φ x = some (q x)) (hl : xs.length ≤ maxLen) (n : Nat) (hn : xs.length < n) (a b : Int) :
    (joinM (fun (v2 : Bool) => some v2) fun K1 => bif ((decide (a ≤ (xs.length : Int))) && (decide ((xs.length : Int) ≤ b))) then (((f n 0).bind fun x1 => some (decide (0 ≤ x1))).bind fun x3 => K1 (!x3)) else (K1 false)) = some (((decide (a ≤ (xs.length : Int))) && (decide ((xs.length : Int) ≤ b))) && xs.all q) := by
  obtain ⟨r, hr, h2⟩ := find_ok xs (fun x => (φ x).bind fun x2 => some (!x2)) (fun x => !q x) f hf (fun x hx => by simp only [hφ x hx, Option.bind_some]) hl n hn
  have h3 : (xs.any fun x => !q x) = !xs.all q := by rw [List.not_all_eq_any_not]
  simp only [joinM, hr, Option.bind_some, h2, h3]
  cases ((decide (a ≤ (xs.length : Int))) && (decide ((xs.length : Int) ≤ b))) <;> simp
theorem all_ok {α β : Type} (xs : List α) (q : α → Bool) (f : Nat → Int → Option Bool) (g : Int → α → Option Bool → Option Bool) (K : Option Bool)
    (hf : ∀ m v, f (m + 1) v = bif (decide (v < (xs.length : Int))) then ((idx xs v).bind fun x => g v x (f m (IntKind.i64.wrap (v + 1)))) else K)
    (hg : ∀ (k : Nat) x, xs[k]? = some x → ∀ c, g k x c = bif q x then c else some false) (hl : xs.length ≤ maxLen) (n : Nat) (hn : xs.length < n) : f n 0 = bif xs.all q then K else some false := by
  refine loop_ok xs (fun n (_ : Unit) v => f n v) (fun k _ => (xs.take k).all q = true) (fun o => o = bif xs.all q then K else some false) ?_ ?_ n () hn (by simp)
  · intro n s hp
    rw [hf, dec_end, cond_false]
    rw [List.take_length] at hp
    rw [hp, cond_true]
  · intro n s k x hx hp next
    rw [hf, dec_lt hx, cond_true, idx_nat, hx, Option.bind_some, hg k x hx, wrapK hx hl]
    cases hq : q x with
    | true => rw [cond_true]; exact next () (by rw [take_next hx, List.all_append, hp]; simp [hq])
    | false =>
      have : xs.all q = false := by rw [← Bool.not_eq_true, List.all_eq_true]; intro h; have := h x (List.mem_of_getElem? hx); rw [hq] at this; cases this
      rw [this]; rfl
theorem all10_ok {α β : Type} (xs : List α) (q : α → Bool) (f : Nat → Int → Option Bool) (g : Int → α → Option Bool → Option Bool) (K : Option Bool)
    (hf : ∀ m v, f (m + 1) v = bif ((decide (v < (xs.length : Int))) && (decide (v < 10))) then ((idx xs v).bind fun x => g v x (f m (IntKind.i64.wrap (v + 1)))) else K)
    (hg : ∀ (k : Nat) x, xs[k]? = some x → ∀ c, g k x c = bif q x then c else some false) (hl : xs.length ≤ maxLen) (n : Nat) (hn : xs.length < n) : f n 0 = bif (xs.take 10).all q then K else some false := by
  refine loop_ok xs (fun n (_ : Unit) v => f n v) (fun k _ => k ≤ 10 ∧ (xs.take k).all q = true) (fun o => o = bif (xs.take 10).all q then K else some false) ?_ ?_ n () hn ⟨by omega, by simp⟩
  · intro n s ⟨h10, hp⟩
    rw [hf, dec_end, Bool.false_and, cond_false]
    rw [List.take_length] at hp
    rw [List.take_of_length_le h10, hp, cond_true]
  · intro n s k x hx ⟨h10, hp⟩ next
    rw [hf, dec_lt hx, Bool.true_and]
    by_cases h : k = 10
    · subst h
      rw [hp]; rfl
    · rw [decide_eq_true (by omega), cond_true, idx_nat, hx, Option.bind_some, hg k x hx, wrapK hx hl]
      cases hq : q x with
      | true => rw [cond_true]; exact next () ⟨by omega, by rw [take_next hx, List.all_append, hp]; simp [hq]⟩
      | false =>
        have : (xs.take 10).all q = false := by
          rw [← Bool.not_eq_true, List.all_eq_true]; intro h
          have := h x (List.mem_of_getElem? (i := k) (by rw [List.getElem?_take, if_pos (by omega), hx])); rw [hq] at this; cases this
        rw [this]; rfl
def declP (s : ByteArray) : Bool := (namedP s false && (!(s.toList == (⟨#[105, 110, 116]⟩ : ByteArray).toList))) && (!(s.toList == (⟨#[98, 121, 116, 101, 115]⟩ : ByteArray).toList))
def calledP (s : ByteArray) : Bool := (((declP s && (!(s.toList == (⟨#[108, 101, 110]⟩ : ByteArray).toList))) && (!(s.toList == (⟨#[97, 116]⟩ : ByteArray).toList))) && (!(s.toList == (⟨#[99, 97, 116]⟩ : ByteArray).toList))) && (!(s.toList == (⟨#[99, 117, 116]⟩ : ByteArray).toList))
section names
variable (F : Nat) (s : ByteArray) (hs : s.size ≤ maxLen) (hF : s.size + 2 < F) (hF2 : 26 ≤ F)
include hs hF in
theorem small_ok : ast_small F s = some (namedP s false) := by rw [ast_small, named_ok F s hs hF]; rfl
include hs hF in
theorem great_ok : ast_great F s = some (namedP s true) := by rw [ast_great, named_ok F s hs hF]; rfl
include hs hF in
theorem declared_ok : ast_declared F s = some (declP s) := by rw [ast_declared, small_ok F s hs hF]; rfl
include hF2 in
theorem rsmall_ok : R04_Small F s = some (declP s) := by rw [R04_Small, rnamed_ok F hF2]; rfl
include hF2 in
theorem rcalled_ok : R04_Called F s = some (calledP s) := by rw [R04_Called, rsmall_ok F s hF2]; rfl
include hs hF in
theorem called_ok : ast_called F s = some (calledP s) := by
  rw [ast_called]
  simp only [joinM, small_ok F s hs hF, Option.bind_some]
  unfold calledP declP
  generalize (s.toList == (⟨#[105, 110, 116]⟩ : ByteArray).toList) = b1
  generalize (s.toList == (⟨#[98, 121, 116, 101, 115]⟩ : ByteArray).toList) = b2
  generalize (s.toList == (⟨#[108, 101, 110]⟩ : ByteArray).toList) = b3
  generalize (s.toList == (⟨#[97, 116]⟩ : ByteArray).toList) = b4
  generalize (s.toList == (⟨#[99, 97, 116]⟩ : ByteArray).toList) = b5
  generalize (s.toList == (⟨#[99, 117, 116]⟩ : ByteArray).toList) = b6
  generalize namedP s false = b0
  revert b0 b1 b2 b3 b4 b5 b6
  decide
end names
def NameF (s : ByteArray) (F : Nat) : Prop := s.size ≤ maxLen ∧ s.size + 2 < F ∧ 26 ≤ F
theorem nameF {s : ByteArray} (h : s.size ≤ maxLen) : Evt (NameF s) := ((Evt.ge (s.size + 3)).and (Evt.ge 26)).mono fun F ⟨a, b⟩ => ⟨h, by omega, b⟩
theorem wrapD {d : Int} (h0 : ¬ d < 1) (h : d ≤ 64) : IntKind.i64.wrap (d - 1) = d - 1 := wrap_ok (by omega) (by omega)
theorem everyT {F : Nat} {xs : List api_Type} {φ : api_Type → Option Bool} {q : api_Type → Bool} (h : ∀ x ∈ xs, φ x = some (q x)) (hl : xs.length ≤ maxLen) (hF : xs.length < F) (a b : Int) : ast_every_api_Type F xs a b φ = some (((decide (a ≤ (xs.length : Int))) && (decide ((xs.length : Int) ≤ b))) && xs.all q) :=
  every_ok xs φ q (fun n v => slices_IndexFunc_api_Type_api_Type_L0 F xs (fun y0 => ast_every_api_Type_1 F y0 φ) n v) (fun _ _ => rfl) h hl F hF a b
theorem fitT : ∀ (t : api_Type), W26 t → ∃ q : Int → Bool, Evt fun F => ∀ d : Int, d ≤ 64 → ast_depth_fitType F d t = some (q d) ∧ R04_fitType F t d = some (q d)
  | ⟨kd, nm, parts⟩, hw => by
    obtain ⟨_, hnm, hl, hp⟩ := (W26_iff _).1 hw
    have ih : ∀ p ∈ parts, ∃ q : Int → Bool, Evt fun F => ∀ d : Int, d ≤ 64 → ast_depth_fitType F d p = some (q d) ∧ R04_fitType F p d = some (q d) := fun p hpm => fitT p (hp p hpm)
    obtain ⟨Q, hQ⟩ := pick ih
    refine ⟨fun d => bif decide (d < 1) then false else bif (kd == 0) || (kd == 1) then (nm.toList == (⟨#[]⟩ : ByteArray).toList) && ((parts.length : Int) == 0) else bif kd == 2 then declP nm && ((parts.length : Int) == 0) else bif kd == 3 then (nm.toList == (⟨#[]⟩ : ByteArray).toList) && (((decide (2 ≤ (parts.length : Int))) && (decide ((parts.length : Int) ≤ 6))) && parts.all fun p => Q p (d - 1)) else false, ?_⟩
    refine (((Evt.all hQ).and (nameF hnm)).and (Evt.ge (parts.length + 1)) |>.succ).mono ?_
    rintro F ⟨F', rfl, ⟨h1, n1, n2, n3⟩, h2⟩ d hd
    rw [ast_depth_fitType, ast_depth_fitType_B, R04_fitType, R04_fitType_B]
    by_cases hd1 : d < 1
    · simp [hd1]
    rw [decide_eq_false hd1, wrapD hd1 hd]
    dsimp only
    simp only [decide_eq_false hd1, cond_false, joinM, declared_ok F' nm n1 n2, rsmall_ok F' nm n3, Option.bind_some]
    have e1 := everyT (F := F') (xs := parts) (φ := fun y0 => ast_depth_fitType F' (d - 1) y0) (q := fun p => Q p (d - 1)) (fun x hx => (h1 x hx (d - 1) (by omega)).1) hl (by omega) 2 6
    rw [e1]
    have e2 : R04_fitType_L0 F' (R04_fitType F') ⟨kd, nm, parts⟩ d F' 0 = bif parts.all (fun p => Q p (d - 1)) then some true else some false := by
      refine all_ok (β := Unit) parts (fun p => Q p (d - 1)) (fun n v => R04_fitType_L0 F' (R04_fitType F') ⟨kd, nm, parts⟩ d n v) (fun v x c => (R04_fitType F' x (d - 1)).bind fun x14 => bif (!x14) then (some false) else c) (some true) ?_ ?_ hl F' (by omega)
      · intro m v
        show R04_fitType_L0 F' (R04_fitType F') ⟨kd, nm, parts⟩ d (m + 1) v = _
        rw [R04_fitType_L0, wrapD hd1 hd]
      · intro k x hx c
        show ((R04_fitType F' x (d - 1)).bind _) = _
        rw [(h1 x (List.mem_of_getElem? hx) (d - 1) (by omega)).2]
        cases Q x (d - 1) <;> rfl
    rw [e2]
    cases h0 : kd == 0 with
    | true => simp only [cond_true, Bool.true_or]; refine ⟨?_, ?_⟩ <;> first | rfl | trivial
    | false =>
      cases h10 : kd == 1 with
      | true => simp only [cond_true, cond_false, Bool.or_true]; refine ⟨?_, ?_⟩ <;> first | rfl | trivial
      | false =>
        cases h20 : kd == 2 with
        | true => simp only [cond_true, cond_false, Bool.or_self]; refine ⟨?_, ?_⟩ <;> first | rfl | trivial
        | false =>
          cases h30 : kd == 3 with
          | false => simp
          | true =>
            simp only [cond_true, cond_false, Bool.or_self]
            by_cases g2 : (2 : Int) ≤ (parts.length : Int)
            · by_cases g6 : (parts.length : Int) ≤ 6
              · rw [decide_eq_true g2, decide_eq_true g6, decide_eq_false (p := (parts.length : Int) < 2) (by omega), decide_eq_false (p := 6 < (parts.length : Int)) (by omega)]
                cases (nm.toList == (⟨#[]⟩ : ByteArray).toList) <;> cases (parts.all fun p => Q p (d - 1)) <;> exact ⟨rfl, rfl⟩
              · rw [decide_eq_true g2, decide_eq_false g6, decide_eq_true (p := 6 < (parts.length : Int)) (by omega)]
                cases (nm.toList == (⟨#[]⟩ : ByteArray).toList) <;> simp
            · rw [decide_eq_false g2, decide_eq_true (p := (parts.length : Int) < 2) (by omega)]
              cases (nm.toList == (⟨#[]⟩ : ByteArray).toList) <;> simp
termination_by t => t
decreasing_by
  have := List.sizeOf_lt_of_mem hpm
  simp only [api_Type.mk.sizeOf_spec]
  omega
end Go.Proofs.YtappiofmkoelnaaGreatDoor.M
namespace Go.Proofs.YtappiofmkoelnaaGreatDoor.M
open Go.Proofs.YtappiofmkoelnaaGreatDoorW.Ah Go.Proofs.YtappiofmkoelnaaGreatDoor
set_option linter.unusedVariables false
set_option linter.unusedSimpArgs false
theorem everyP {F : Nat} {xs : List api_Pat} {φ : api_Pat → Option Bool} {q : api_Pat → Bool} (h : ∀ x ∈ xs, φ x = some (q x)) (hl : xs.length ≤ maxLen) (hF : xs.length < F) (a b : Int) : ast_every_api_Pat F xs a b φ = some (((decide (a ≤ (xs.length : Int))) && (decide ((xs.length : Int) ≤ b))) && xs.all q) :=
  every_ok xs φ q (fun n v => slices_IndexFunc_api_Pat_api_Pat_L0 F xs (fun y0 => ast_every_api_Pat_1 F y0 φ) n v) (fun _ _ => rfl) h hl F hF a b
theorem everyE {F : Nat} {xs : List api_Expr} {φ : api_Expr → Option Bool} {q : api_Expr → Bool} (h : ∀ x ∈ xs, φ x = some (q x)) (hl : xs.length ≤ maxLen) (hF : xs.length < F) (a b : Int) : ast_every_api_Expr F xs a b φ = some (((decide (a ≤ (xs.length : Int))) && (decide ((xs.length : Int) ≤ b))) && xs.all q) :=
  every_ok xs φ q (fun n v => slices_IndexFunc_api_Expr_api_Expr_L0 F xs (fun y0 => ast_every_api_Expr_1 F y0 φ) n v) (fun _ _ => rfl) h hl F hF a b
theorem everyA {F : Nat} {xs : List api_Arm} {φ : api_Arm → Option Bool} {q : api_Arm → Bool} (h : ∀ x ∈ xs, φ x = some (q x)) (hl : xs.length ≤ maxLen) (hF : xs.length < F) (a b : Int) : ast_every_api_Arm F xs a b φ = some (((decide (a ≤ (xs.length : Int))) && (decide ((xs.length : Int) ≤ b))) && xs.all q) :=
  every_ok xs φ q (fun n v => slices_IndexFunc_api_Arm_api_Arm_L0 F xs (fun y0 => ast_every_api_Arm_1 F y0 φ) n v) (fun _ _ => rfl) h hl F hF a b
theorem number_ok (F : Nat) (n : Int) : ast_number F n = R04_number F n := by
  rw [ast_number, R04_number, Bool.and_comm]
theorem number_some (F : Nat) (n : Int) : R04_number F n = some (decide ((-4611686018427387903) ≤ n) && decide (n ≤ 4611686018427387903)) := rfl
def patP (kd : Int) (nm : ByteArray) (nu : Int) (n : Nat) : Bool :=
  bif kd == 0 then (nm.toList == (⟨#[]⟩ : ByteArray).toList) && ((n : Int) == 0)
  else bif kd == 1 then namedP nm false && ((n : Int) == 0)
  else bif kd == 2 then ((nm.toList == (⟨#[]⟩ : ByteArray).toList) && ((n : Int) == 0)) && (decide ((-4611686018427387903) ≤ nu) && decide (nu ≤ 4611686018427387903))
  else bif kd == 3 then namedP nm true && decide ((n : Int) ≤ 6)
  else bif kd == 4 then ((nm.toList == (⟨#[]⟩ : ByteArray).toList) && decide (2 ≤ (n : Int))) && decide ((n : Int) ≤ 6)
  else false
theorem patP_le {kd : Int} {nm : ByteArray} {nu : Int} {n : Nat} (h : patP kd nm nu n = true) : n ≤ 6 := by
  unfold patP at h
  generalize (kd == 0) = b0, (kd == 1) = b1, (kd == 2) = b2, (kd == 3) = b3, (kd == 4) = b4 at h
  cases b0
  · cases b1
    · cases b2
      · cases b3
        · cases b4
          · cases h
          · simp only [cond_true, cond_false, Bool.and_eq_true, decide_eq_true_eq] at h; omega
        · simp only [cond_true, cond_false, Bool.and_eq_true, decide_eq_true_eq] at h; omega
      · simp only [cond_true, cond_false, Bool.and_eq_true, decide_eq_true_eq, beq_iff_eq] at h; omega
    · simp only [cond_true, cond_false, Bool.and_eq_true, decide_eq_true_eq, beq_iff_eq] at h; omega
  · simp only [cond_true, cond_false, Bool.and_eq_true, decide_eq_true_eq, beq_iff_eq] at h; omega
theorem zero_le0 (n : Nat) : ((decide ((0 : Int) ≤ (n : Int))) && (decide ((n : Int) ≤ 0))) = ((n : Int) == 0) := by
  rw [Bool.eq_iff_iff]; simp
theorem zero_le6 (n : Nat) : ((decide ((0 : Int) ≤ (n : Int))) && (decide ((n : Int) ≤ 6))) = decide ((n : Int) ≤ 6) := by
  rw [Bool.eq_iff_iff]; simp
theorem fitP : ∀ (t : api_Pat), W39 t → ∃ q : Int → Bool, Evt fun F => ∀ d : Int, d ≤ 64 → ast_depth_fitPat F d t = some (q d) ∧ R04_fitPat F t d = some (q d)
  | ⟨kd, ps, nm, nu, kids⟩, hw => by
    obtain ⟨_, _, hnm, _, hl, hp⟩ := (W39_iff _).1 hw
    have ih : ∀ p ∈ kids, ∃ q : Int → Bool, Evt fun F => ∀ d : Int, d ≤ 64 → ast_depth_fitPat F d p = some (q d) ∧ R04_fitPat F p d = some (q d) := fun p hpm => fitP p (hp p hpm)
    obtain ⟨Q, hQ⟩ := pick ih
    refine ⟨fun d => bif (decide (d < 1)) || ((nu != 0) && (kd != 2)) then false else patP kd nm nu kids.length && kids.all fun p => Q p (d - 1), ?_⟩
    refine (((Evt.all hQ).and (nameF hnm)).and (Evt.ge (kids.length + 1)) |>.succ).mono ?_
    rintro F ⟨F', rfl, ⟨h1, n1, n2, n3⟩, h2⟩ d hd
    rw [ast_depth_fitPat, ast_depth_fitPat_B, R04_fitPat, R04_fitPat_B]
    dsimp only at hnm n1 n2 hl hp ⊢
    have e0 : ((kd != 2) && (nu != 0)) = ((nu != 0) && (kd != 2)) := Bool.and_comm _ _
    rw [e0]
    cases hc : (decide (d < 1)) || ((nu != 0) && (kd != 2)) with
    | true => exact ⟨rfl, rfl⟩
    | false =>
    have hd1 : ¬ d < 1 := by rw [Bool.or_eq_false_iff] at hc; simpa using hc.1
    rw [wrapD hd1 hd]
    simp only [cond_false, joinM, small_ok F' nm n1 n2, great_ok F' nm n1 n2, rnamed_ok F' n3, number_ok, Option.bind_some]
    have e1 : ∀ a b, _ := everyP (F := F') (xs := kids) (φ := fun y0 => ast_depth_fitPat F' (d - 1) y0) (q := fun p => Q p (d - 1)) (fun x hx => (h1 x hx (d - 1) (by omega)).1) hl (by omega)
    simp only [e1, number_some, Option.bind_some]
    have e2 : ∀ K3 : Unit → Option Bool, R04_fitPat_L0 F' (R04_fitPat F') ⟨kd, ps, nm, nu, kids⟩ d K3 F' 0 = bif (kids.take 10).all (fun p => Q p (d - 1)) then K3 () else some false := by
      intro K3
      refine all10_ok (β := Unit) kids (fun p => Q p (d - 1)) (fun n v => R04_fitPat_L0 F' (R04_fitPat F') ⟨kd, ps, nm, nu, kids⟩ d K3 n v) (fun v x c => (R04_fitPat F' x (d - 1)).bind fun x14 => bif (!x14) then (some false) else c) (K3 ()) ?_ ?_ hl F' (by omega)
      · intro m v
        show R04_fitPat_L0 F' (R04_fitPat F') ⟨kd, ps, nm, nu, kids⟩ d K3 (m + 1) v = _
        rw [R04_fitPat_L0, wrapD hd1 hd]
      · intro k x hx c
        show ((R04_fitPat F' x (d - 1)).bind _) = _
        rw [(h1 x (List.mem_of_getElem? hx) (d - 1) (by omega)).2]
        cases Q x (d - 1) <;> rfl
    rw [e2]
    have eB : (bif kd == 0 then some ((nm.toList == (⟨#[]⟩ : ByteArray).toList) && ((kids.length : Int) == 0))
      else bif kd == 1 then some (namedP nm false && ((kids.length : Int) == 0))
      else bif kd == 2 then (bif (nm.toList == (⟨#[]⟩ : ByteArray).toList) && ((kids.length : Int) == 0) then some (decide ((-4611686018427387903) ≤ nu) && decide (nu ≤ 4611686018427387903)) else some false)
      else bif kd == 3 then some (namedP nm true && decide ((kids.length : Int) ≤ 6))
      else bif kd == 4 then some (((nm.toList == (⟨#[]⟩ : ByteArray).toList) && decide (2 ≤ (kids.length : Int))) && decide ((kids.length : Int) ≤ 6))
      else some false) = some (patP kd nm nu kids.length) := by
      unfold patP
      cases kd == 0 <;> cases kd == 1 <;> cases kd == 2 <;> cases kd == 3 <;> cases kd == 4 <;> try rfl
      all_goals (simp only [cond_true, cond_false]; cases (nm.toList == (⟨#[]⟩ : ByteArray).toList) && ((kids.length : Int) == 0) <;> rfl)
    rw [eB]
    constructor
    · unfold patP
      cases kd == 0 with
      | true => simp only [cond_true, zero_le0]; cases (nm.toList == (⟨#[]⟩ : ByteArray).toList) <;> simp
      | false =>
      cases kd == 1 with
      | true => simp only [cond_true, cond_false, zero_le0]; cases namedP nm false <;> simp
      | false =>
      cases kd == 2 with
      | true =>
        simp only [cond_true, cond_false, zero_le0]
        cases (nm.toList == (⟨#[]⟩ : ByteArray).toList)
        · simp
        · cases (decide ((-4611686018427387903) ≤ nu) && decide (nu ≤ 4611686018427387903)) <;> simp
      | false =>
      cases kd == 3 with
      | true => simp only [cond_true, cond_false, zero_le6]; cases namedP nm true <;> simp
      | false =>
      cases kd == 4 with
      | true => simp only [cond_true, cond_false]; cases (nm.toList == (⟨#[]⟩ : ByteArray).toList) <;> simp
      | false => rfl
    · cases hp : patP kd nm nu kids.length with
      | false => cases (kids.take 10).all (fun p => Q p (d - 1)) <;> rfl
      | true =>
        rw [List.take_of_length_le (Nat.le_trans (patP_le hp) (by decide)), Bool.true_and]
        cases kids.all (fun p => Q p (d - 1)) <;> rfl
termination_by t => t
decreasing_by
  have := List.sizeOf_lt_of_mem hpm
  simp only [api_Pat.mk.sizeOf_spec]
  omega
end Go.Proofs.YtappiofmkoelnaaGreatDoor.M
namespace Go.Proofs.YtappiofmkoelnaaGreatDoor.M
open Go.Proofs.YtappiofmkoelnaaGreatDoorW.Ah Go.Proofs.YtappiofmkoelnaaGreatDoor
set_option linter.unusedVariables false
set_option linter.unusedSimpArgs false
def argsP (n : Int) : Int := bif n == 8 then 1 else bif n == 11 then 3 else 2
theorem args_ok (F : Nat) (n : Int) : ast_args F n = some (argsP n) := by
  rw [ast_args]; unfold argsP; cases n == 8 <;> cases n == 11 <;> rfl
theorem rargs_ok (F : Nat) (n : Int) : R04_Args F n = some (argsP n) := args_ok F n
def numP (n : Int) : Bool := decide ((-4611686018427387903) ≤ n) && decide (n ≤ 4611686018427387903)
abbrev noName (s : ByteArray) : Bool := s.toList == (⟨#[]⟩ : ByteArray).toList
abbrev stateN (s : ByteArray) : Bool := s.toList == (⟨#[115, 116, 97, 116, 101]⟩ : ByteArray).toList
def aloneP (e : api_Expr) : Bool :=
  bif ((e.Kind != 8) && decide (0 < (e.Arms.length : Int))) || ((e.Kind != 1) && decide (0 < (e.Bytes.length : Int))) then false
  else bif e.Kind == 0 then (noName e.Name && ((e.Kids.length : Int) == 0)) && numP e.Num
  else bif e.Kind == 1 then ((noName e.Name && ((e.Kids.length : Int) == 0)) && (e.Num == 0)) && decide ((e.Bytes.length : Int) ≤ 64)
  else bif e.Kind == 2 then ((e.Num == 0) && ((e.Kids.length : Int) == 0)) && (namedP e.Name false || stateN e.Name)
  else bif e.Kind == 3 then ((e.Num == 0) && namedP e.Name true) && decide ((e.Kids.length : Int) ≤ 6)
  else bif e.Kind == 4 then (((e.Num == 0) && noName e.Name) && decide (2 ≤ (e.Kids.length : Int))) && decide ((e.Kids.length : Int) ≤ 6)
  else bif e.Kind == 5 then (((e.Num == 0) && calledP e.Name) && decide (1 ≤ (e.Kids.length : Int))) && decide ((e.Kids.length : Int) ≤ 6)
  else bif e.Kind == 6 then ((e.Num == 0) && namedP e.Name false) && ((e.Kids.length : Int) == 2)
  else bif e.Kind == 7 then ((e.Num == 0) && noName e.Name) && ((e.Kids.length : Int) == 3)
  else bif e.Kind == 8 then ((((e.Num == 0) && noName e.Name) && ((e.Kids.length : Int) == 1)) && decide (1 ≤ (e.Arms.length : Int))) && decide ((e.Arms.length : Int) ≤ 32)
  else bif e.Kind == 9 then ((noName e.Name && decide (0 ≤ e.Num)) && decide (e.Num < 12)) && ((e.Kids.length : Int) == argsP e.Num)
  else bif e.Kind == 10 then ((decide (0 ≤ e.Num) && decide (e.Num ≤ 1000)) && namedP e.Name false) && ((e.Kids.length : Int) == 2)
  else false
theorem pos_iff {α : Type} (xs : List α) : ((xs.length : Int) == 0) = !decide (0 < (xs.length : Int)) := by
  rw [Bool.eq_iff_iff]; simp
theorem same_le (a b : Int) : ((decide (a ≤ b)) && (decide (b ≤ a))) = (b == a) := by
  rw [Bool.eq_iff_iff]; simp; omega
theorem all_nil {α : Type} {xs : List α} {q : α → Bool} (h : decide (0 < (xs.length : Int)) = false) : xs.all q = true := by
  cases xs with
  | nil => rfl
  | cons a l => simp at h
theorem alone_ok (F : Nat) (hF : 26 ≤ F) (e : api_Expr) : R04_alone F e = some (aloneP e) := by
  rw [R04_alone]
  unfold aloneP
  simp only [rnamed_ok F hF, rcalled_ok F _ hF, rargs_ok, number_some, Option.bind_some, joinM]
  rw [show (decide ((-4611686018427387903) ≤ e.Num) && decide (e.Num ≤ 4611686018427387903)) = numP e.Num from rfl]
  cases hh : ((e.Kind != 8) && decide (0 < (e.Arms.length : Int))) || ((e.Kind != 1) && decide (0 < (e.Bytes.length : Int))) with
  | true => rfl
  | false =>
  simp only [cond_false]
  rw [Bool.or_eq_false_iff] at hh
  cases h0 : e.Kind == 0 with
  | true => simp only [cond_true]; cases (noName e.Name && ((e.Kids.length : Int) == 0)) <;> rfl
  | false =>
  cases h1 : e.Kind == 1 with
  | true => rfl
  | false =>
  have hb : ((e.Bytes.length : Int) == 0) = true := by
    rw [pos_iff]; have := hh.2; rw [show (e.Kind != 1) = true by simp [bne, h1]] at this; simpa using this
  simp only [cond_false, hb, Bool.and_true]
  cases h2 : e.Kind == 2 with
  | true => simp only [cond_true]; cases ((e.Num == 0) && ((e.Kids.length : Int) == 0)) <;> rfl
  | false =>
  simp only [cond_false]
  cases h3 : e.Kind == 3 with
  | true => simp only [cond_true]; cases (e.Num == 0) <;> rfl
  | false =>
  simp only [cond_false]
  cases h4 : e.Kind == 4 with
  | true => rfl
  | false =>
  simp only [cond_false]
  cases h5 : e.Kind == 5 with
  | true => simp only [cond_true]; cases (e.Num == 0) <;> rfl
  | false =>
  simp only [cond_false]
  cases h6 : e.Kind == 6 with
  | true => simp only [cond_true]; cases (e.Num == 0) <;> rfl
  | false =>
  simp only [cond_false]
  cases h7 : e.Kind == 7 with
  | true => rfl
  | false =>
  simp only [cond_false]
  cases h8 : e.Kind == 8 with
  | true => rfl
  | false =>
  simp only [cond_false]
  cases h9 : e.Kind == 9 with
  | true => simp only [cond_true]; cases ((noName e.Name && decide (0 ≤ e.Num)) && decide (e.Num < 12)) <;> rfl
  | false =>
  simp only [cond_false]
  cases h10 : e.Kind == 10 with
  | true => simp only [cond_true]; cases (decide (0 ≤ e.Num) && decide (e.Num ≤ 1000)) <;> rfl
  | false => rfl
set_option maxHeartbeats 1000000 in
theorem astB (F : Nat) (e : api_Expr) (hn : NameF e.Name F) (d : Int) (hd1 : ¬ d < 1) (ρ : Int → api_Expr → Option Bool) (σ : Int → api_Arm → Option Bool) (kq aq : Bool)
    (hk : ∀ a b, ast_every_api_Expr F e.Kids a b (fun y0 => ρ (IntKind.i64.wrap (d - 1)) y0) = some (((decide (a ≤ (e.Kids.length : Int))) && (decide ((e.Kids.length : Int) ≤ b))) && kq))
    (ha : ast_every_api_Arm F e.Arms 1 32 (fun y0 => σ (IntKind.i64.wrap (d - 1)) y0) = some (((decide (1 ≤ (e.Arms.length : Int))) && (decide ((e.Arms.length : Int) ≤ 32))) && aq))
    (ha0 : decide (0 < (e.Arms.length : Int)) = false → aq = true) : ast_depth_fitExpr_B F ρ σ d e = some ((aloneP e && kq) && aq) := by
  obtain ⟨n1, n2, n3⟩ := hn
  rw [ast_depth_fitExpr_B, ast_of]
  simp only [small_ok F _ n1 n2, great_ok F _ n1 n2, called_ok F _ n1 n2, args_ok, number_ok, number_some, Option.bind_some, hk, ha, decide_eq_false hd1, joinM]
  rw [show (decide ((-4611686018427387903) ≤ e.Num) && decide (e.Num ≤ 4611686018427387903)) = numP e.Num from rfl]
  unfold aloneP noName stateN
  have hbz : ((e.Bytes.length : Int) == 0) = !decide (0 < (e.Bytes.length : Int)) := pos_iff _
  have hnz : (e.Num != 0) = !(e.Num == 0) := rfl
  cases h0 : e.Kind == 0 with
  | true =>
    simp only [cond_true, cond_false, Option.bind_some, zero_le0, hnz, show (e.Kind != 8) = true by simp at h0; simp [h0], show (e.Kind != 1) = true by simp at h0; simp [h0]]
    cases hA : decide (0 < (e.Arms.length : Int)) with
    | true => cases decide (0 < (e.Bytes.length : Int)) <;> cases numP e.Num <;> cases (e.Name.toList == (⟨#[]⟩ : ByteArray).toList) <;> simp
    | false => rw [ha0 hA]; cases decide (0 < (e.Bytes.length : Int)) <;> cases numP e.Num <;> cases (e.Name.toList == (⟨#[]⟩ : ByteArray).toList) <;> simp
  | false =>
  cases h1 : e.Kind == 1 with
  | true =>
    simp only [cond_true, cond_false, Option.bind_some, zero_le0, hnz, show (e.Kind != 8) = true by simp at h1; simp [h1], show (e.Kind != 1) = false by simp at h1; simp [h1]]
    cases hA : decide (0 < (e.Arms.length : Int)) with
    | true => cases decide ((e.Bytes.length : Int) ≤ 64) <;> cases (e.Num == 0) <;> cases (e.Name.toList == (⟨#[]⟩ : ByteArray).toList) <;> simp
    | false => rw [ha0 hA]; cases decide ((e.Bytes.length : Int) ≤ 64) <;> cases (e.Num == 0) <;> cases (e.Name.toList == (⟨#[]⟩ : ByteArray).toList) <;> simp
  | false =>
  have hk1 : (e.Kind != 1) = true := by simp [bne, h1]
  rw [hk1]
  cases h8 : e.Kind == 8 with
  | true =>
    have e8 : e.Kind = 8 := by simpa using h8
    simp only [e8]
    simp only [show ((8 : Int) == 2) = false by decide, show ((8 : Int) == 3) = false by decide, show ((8 : Int) == 4) = false by decide, show ((8 : Int) == 5) = false by decide, show ((8 : Int) == 6) = false by decide, show ((8 : Int) == 7) = false by decide, show ((8 : Int) == 8) = true by decide, show ((8 : Int) != 8) = false by decide, cond_true, cond_false, Option.bind_some, same_le, hnz]
    cases decide (0 < (e.Bytes.length : Int)) <;> cases (e.Num == 0) <;> cases (e.Name.toList == (⟨#[]⟩ : ByteArray).toList) <;> cases decide (1 ≤ (e.Arms.length : Int)) <;> cases decide ((e.Arms.length : Int) ≤ 32) <;> cases aq <;> simp
  | false =>
  have hk8 : (e.Kind != 8) = true := by simp [bne, h8]
  rw [hk8]
  cases hA : decide (0 < (e.Arms.length : Int)) with
  | true =>
    simp only [cond_true, cond_false, Bool.true_and, Bool.true_or, Bool.false_and]
    cases e.Kind == 2 <;> cases e.Kind == 3 <;> cases e.Kind == 4 <;> cases e.Kind == 5 <;> cases e.Kind == 6 <;> cases e.Kind == 7 <;> cases e.Kind == 9 <;> cases e.Kind == 10 <;> simp [hnz]
  | false =>
  rw [ha0 hA]
  cases hB : decide (0 < (e.Bytes.length : Int)) with
  | true =>
    simp only [cond_true, cond_false, Bool.true_and, Bool.true_or, Bool.false_and]
    cases e.Kind == 2 <;> cases e.Kind == 3 <;> cases e.Kind == 4 <;> cases e.Kind == 5 <;> cases e.Kind == 6 <;> cases e.Kind == 7 <;> cases e.Kind == 9 <;> cases e.Kind == 10 <;> simp [hnz]
  | false =>
  simp only [Bool.true_and, Bool.or_self, cond_false, hnz]
  cases h2 : e.Kind == 2 with
  | true =>
    simp only [cond_true, Option.bind_some, zero_le0]
    cases (e.Num == 0) <;> cases namedP e.Name false <;> cases (e.Name.toList == (⟨#[115, 116, 97, 116, 101]⟩ : ByteArray).toList) <;> simp
  | false =>
  cases h3 : e.Kind == 3 with
  | true =>
    simp only [cond_true, cond_false, Option.bind_some, zero_le6]
    cases (e.Num == 0) <;> cases namedP e.Name true <;> simp
  | false =>
  cases h4 : e.Kind == 4 with
  | true =>
    simp only [cond_true, cond_false, Option.bind_some]
    cases (e.Num == 0) <;> cases (e.Name.toList == (⟨#[]⟩ : ByteArray).toList) <;> simp
  | false =>
  cases h5 : e.Kind == 5 with
  | true =>
    simp only [cond_true, cond_false, Option.bind_some]
    cases (e.Num == 0) <;> cases calledP e.Name <;> simp
  | false =>
  cases h6 : e.Kind == 6 with
  | true =>
    simp only [cond_true, cond_false, Option.bind_some, same_le]
    cases (e.Num == 0) <;> cases namedP e.Name false <;> simp
  | false =>
  cases h7 : e.Kind == 7 with
  | true =>
    simp only [cond_true, cond_false, Option.bind_some, same_le]
    cases (e.Num == 0) <;> cases (e.Name.toList == (⟨#[]⟩ : ByteArray).toList) <;> simp
  | false =>
  cases h9 : e.Kind == 9 with
  | true =>
    simp only [cond_true, cond_false, Option.bind_some, same_le]
    cases (e.Name.toList == (⟨#[]⟩ : ByteArray).toList) <;> cases decide (0 ≤ e.Num) <;> cases decide (e.Num < 12) <;> simp
  | false =>
  cases h10 : e.Kind == 10 with
  | true =>
    simp only [cond_true, cond_false, Option.bind_some, same_le]
    cases namedP e.Name false <;> cases decide (0 ≤ e.Num) <;> cases decide (e.Num ≤ 1000) <;> simp
  | false => rfl
end Go.Proofs.YtappiofmkoelnaaGreatDoor.M
namespace Go.Proofs.YtappiofmkoelnaaGreatDoor.M
open Go.Proofs.YtappiofmkoelnaaGreatDoorW.Ah Go.Proofs.YtappiofmkoelnaaGreatDoor
set_option linter.unusedVariables false
set_option linter.unusedSimpArgs false
abbrev ArmF (a : api_Arm) (q : (Int → Bool) × (Int → Bool)) : Prop := Evt fun F => ∀ d : Int, d ≤ 64 → (ast_depth_fitPat F d a.Pat = some (q.1 d) ∧ R04_fitPat F a.Pat d = some (q.1 d)) ∧ (ast_depth_fitExpr F d a.Body = some (q.2 d) ∧ R04_fitExpr F a.Body d = some (q.2 d))
theorem fitE : ∀ (t : api_Expr), W33 t → ∃ q : Int → Bool, Evt fun F => ∀ d : Int, d ≤ 64 → ast_depth_fitExpr F d t = some (q d) ∧ R04_fitExpr F t d = some (q d)
  | ⟨kd, ps, nu, bs, nm, kids, arms⟩, hw => by
    obtain ⟨_, _, _, _, hnm, ⟨hl, hp⟩, ha, hq⟩ := (W33_iff _).1 hw
    have ih1 : ∀ p ∈ kids, ∃ q : Int → Bool, Evt fun F => ∀ d : Int, d ≤ 64 → ast_depth_fitExpr F d p = some (q d) ∧ R04_fitExpr F p d = some (q d) := fun p hpm => fitE p (hp p hpm)
    have ih2 : ∀ p ∈ arms, ∃ q, ArmF p q := fun p hpa => by
      obtain ⟨g1, g2⟩ := (W68_iff _).1 (hq p hpa)
      obtain ⟨q1, h1⟩ := fitP p.Pat g1
      obtain ⟨q2, h2⟩ := fitE p.Body g2
      exact ⟨(q1, q2), (h1.and h2).mono fun F ⟨a, b⟩ d hd => ⟨a d hd, b d hd⟩⟩
    obtain ⟨Q, hQ⟩ := pick ih1
    obtain ⟨A, hA⟩ := pick ih2
    refine ⟨fun d => bif decide (d < 1) then false else (aloneP ⟨kd, ps, nu, bs, nm, kids, arms⟩ && kids.all fun p => Q p (d - 1)) && arms.all fun p => (A p).1 (d - 1) && (A p).2 (d - 1), ?_⟩
    refine ((((Evt.all hQ).and (nameF hnm)).and (((Evt.all hA).and (Evt.all hA).succ).and ((Evt.ge (kids.length + 1)).and (Evt.ge (arms.length + 1))))) |>.succ).mono ?_
    rintro F ⟨F', rfl, ⟨h1, hn⟩, ⟨h2, F'', e', h2'⟩, h3, h4⟩ d hd
    rw [ast_depth_fitExpr, R04_fitExpr, R04_fitExpr_B]
    dsimp only at hnm hl hp ⊢
    by_cases hd1 : d < 1
    · rw [ast_depth_fitExpr_B, ast_of]
      obtain ⟨n1, n2, n3⟩ := hn
      simp only [decide_eq_true hd1, cond_true, joinM, Bool.true_or, small_ok F' nm n1 n2, great_ok F' nm n1 n2, called_ok F' nm n1 n2, args_ok, number_ok, number_some, Option.bind_some, and_true]
      cases kd == 0 <;> cases kd == 1 <;> try rfl
      cases kd == 2 <;> cases kd == 3 <;> cases kd == 4 <;> try rfl
      cases kd == 5 <;> cases kd == 6 <;> cases kd == 7 <;> try rfl
      cases kd == 8 <;> cases kd == 9 <;> cases kd == 10 <;> rfl
    rw [decide_eq_false hd1]
    simp only [cond_false]
    constructor
    · refine astB F' ⟨kd, ps, nu, bs, nm, kids, arms⟩ hn d hd1 _ _ _ _ ?_ ?_ ?_
      · intro a b
        rw [wrapD hd1 hd]
        exact everyE (q := fun p => Q p (d - 1)) (fun x hx => (h1 x hx (d - 1) (by omega)).1) hl (by omega) a b
      · rw [wrapD hd1 hd]
        refine everyA (q := fun p => (A p).1 (d - 1) && (A p).2 (d - 1)) (fun x hx => ?_) ha (by dsimp only; omega) 1 32
        subst e'
        rw [ast_depth_fitArm, ast_depth_fitArm_B]
        obtain ⟨g1, g2⟩ := h2' x hx (d - 1) (by omega)
        simp only [g1.1, g2.1, Option.bind_some, joinM]
        cases (A x).1 (d - 1) <;> rfl
      · exact all_nil
    · rw [alone_ok F' hn.2.2]
      simp only [joinM, Option.bind_some]
      have eK : ∀ K2 : Unit → Option Bool, R04_fitExpr_L0 F' (R04_fitExpr F') ⟨kd, ps, nu, bs, nm, kids, arms⟩ d K2 F' 0 = bif kids.all (fun p => Q p (d - 1)) then K2 () else some false := by
        intro K2
        refine all_ok (β := Unit) kids (fun p => Q p (d - 1)) (fun n v => R04_fitExpr_L0 F' (R04_fitExpr F') ⟨kd, ps, nu, bs, nm, kids, arms⟩ d K2 n v) (fun v x c => (R04_fitExpr F' x (d - 1)).bind fun x14 => bif (!x14) then (some false) else c) (K2 ()) ?_ ?_ hl F' (by omega)
        · intro m v
          show R04_fitExpr_L0 F' (R04_fitExpr F') ⟨kd, ps, nu, bs, nm, kids, arms⟩ d K2 (m + 1) v = _
          rw [R04_fitExpr_L0, wrapD hd1 hd]
        · intro k x hx c
          show ((R04_fitExpr F' x (d - 1)).bind _) = _
          rw [(h1 x (List.mem_of_getElem? hx) (d - 1) (by omega)).2]
          cases Q x (d - 1) <;> rfl
      have eA : R04_fitExpr_L1 F' (R04_fitExpr F') ⟨kd, ps, nu, bs, nm, kids, arms⟩ d F' 0 = bif arms.all (fun p => (A p).1 (d - 1) && (A p).2 (d - 1)) then some true else some false := by
        refine all_ok (β := Unit) arms (fun p => (A p).1 (d - 1) && (A p).2 (d - 1)) (fun n v => R04_fitExpr_L1 F' (R04_fitExpr F') ⟨kd, ps, nu, bs, nm, kids, arms⟩ d n v) (fun v x c => (R04_fitPat F' x.Pat (d - 1)).bind fun x15 => joinM (fun (v16 : Bool) => bif v16 then (some false) else c) fun K5 => bif (!x15) then (K5 true) else ((idx arms v).bind fun x17 => (R04_fitExpr F' x17.Body (d - 1)).bind fun x18 => K5 (!x18))) (some true) ?_ ?_ ha F' (by omega)
        · intro m v
          show R04_fitExpr_L1 F' (R04_fitExpr F') ⟨kd, ps, nu, bs, nm, kids, arms⟩ d (m + 1) v = _
          rw [R04_fitExpr_L1, wrapD hd1 hd]
        · intro k x hx c
          show ((R04_fitPat F' x.Pat (d - 1)).bind _) = _
          obtain ⟨g1, g2⟩ := h2 x (List.mem_of_getElem? hx) (d - 1) (by omega)
          simp only [g1.2, idx_nat, hx, g2.2, Option.bind_some, joinM]
          cases (A x).1 (d - 1) <;> cases (A x).2 (d - 1) <;> rfl
      rw [eK, eA]
      cases aloneP ⟨kd, ps, nu, bs, nm, kids, arms⟩ <;> cases kids.all (fun p => Q p (d - 1)) <;> cases arms.all (fun p => (A p).1 (d - 1) && (A p).2 (d - 1)) <;> rfl
termination_by t => t
decreasing_by
  · have := List.sizeOf_lt_of_mem hpm
    simp only [api_Expr.mk.sizeOf_spec]
    omega
  · have := List.sizeOf_lt_of_mem hpa
    have : SizeOf.sizeOf p.Body < SizeOf.sizeOf p := by cases p; simp only [api_Arm.mk.sizeOf_spec]; omega
    simp only [api_Expr.mk.sizeOf_spec]
    omega
end Go.Proofs.YtappiofmkoelnaaGreatDoor.M
namespace Go.Proofs.YtappiofmkoelnaaGreatDoor.M
open Go.Proofs.YtappiofmkoelnaaGreatDoorW.Ah Go.Proofs.YtappiofmkoelnaaGreatDoor
set_option linter.unusedVariables false
set_option linter.unusedSimpArgs false
def Both (A B : Nat → Option Bool) (b : Bool) : Prop := Evt fun F => A F = some b ∧ B F = some b
theorem topT (t : api_Type) (h : W26 t) : ∃ b, Both (fun F => ast_FitType F t) (fun F => R04_FitType F t) b := by
  obtain ⟨q, hq⟩ := fitT t h
  refine ⟨q 64, hq.mono fun F h => ?_⟩
  obtain ⟨a, b⟩ := h 64 (by omega)
  simp only [ast_FitType, R04_FitType, a, b, Option.bind_some, and_self]
theorem topP (t : api_Pat) (h : W39 t) : ∃ b, Both (fun F => ast_FitPat F t) (fun F => R04_FitPat F t) b := by
  obtain ⟨q, hq⟩ := fitP t h
  refine ⟨q 64, hq.mono fun F h => ?_⟩
  obtain ⟨a, b⟩ := h 64 (by omega)
  simp only [ast_FitPat, R04_FitPat, a, b, Option.bind_some, and_self]
theorem topE (t : api_Expr) (h : W33 t) : ∃ b, Both (fun F => ast_FitExpr F t) (fun F => R04_FitExpr F t) b := by
  obtain ⟨q, hq⟩ := fitE t h
  refine ⟨q 64, hq.mono fun F h => ?_⟩
  obtain ⟨a, b⟩ := h 64 (by omega)
  simp only [ast_FitExpr, R04_FitExpr, a, b, Option.bind_some, and_self]
theorem everyC {F : Nat} {xs : List api_Con} {φ : api_Con → Option Bool} {q : api_Con → Bool} (h : ∀ x ∈ xs, φ x = some (q x)) (hl : xs.length ≤ maxLen) (hF : xs.length < F) (a b : Int) : ast_every_api_Con F xs a b φ = some (((decide (a ≤ (xs.length : Int))) && (decide ((xs.length : Int) ≤ b))) && xs.all q) :=
  every_ok xs φ q (fun n v => slices_IndexFunc_api_Con_api_Con_L0 F xs (fun y0 => ast_every_api_Con_1 F y0 φ) n v) (fun _ _ => rfl) h hl F hF a b
theorem everyD {F : Nat} {xs : List api_Data} {φ : api_Data → Option Bool} {q : api_Data → Bool} (h : ∀ x ∈ xs, φ x = some (q x)) (hl : xs.length ≤ maxLen) (hF : xs.length < F) (a b : Int) : ast_every_api_Data F xs a b φ = some (((decide (a ≤ (xs.length : Int))) && (decide ((xs.length : Int) ≤ b))) && xs.all q) :=
  every_ok xs φ q (fun n v => slices_IndexFunc_api_Data_api_Data_L0 F xs (fun y0 => ast_every_api_Data_1 F y0 φ) n v) (fun _ _ => rfl) h hl F hF a b
theorem everyF {F : Nat} {xs : List api_Fun} {φ : api_Fun → Option Bool} {q : api_Fun → Bool} (h : ∀ x ∈ xs, φ x = some (q x)) (hl : xs.length ≤ maxLen) (hF : xs.length < F) (a b : Int) : ast_every_api_Fun F xs a b φ = some (((decide (a ≤ (xs.length : Int))) && (decide ((xs.length : Int) ≤ b))) && xs.all q) :=
  every_ok xs φ q (fun n v => slices_IndexFunc_api_Fun_api_Fun_L0 F xs (fun y0 => ast_every_api_Fun_1 F y0 φ) n v) (fun _ _ => rfl) h hl F hF a b
theorem everyM {F : Nat} {xs : List api_Param} {φ : api_Param → Option Bool} {q : api_Param → Bool} (h : ∀ x ∈ xs, φ x = some (q x)) (hl : xs.length ≤ maxLen) (hF : xs.length < F) (a b : Int) : ast_every_api_Param F xs a b φ = some (((decide (a ≤ (xs.length : Int))) && (decide ((xs.length : Int) ≤ b))) && xs.all q) :=
  every_ok xs φ q (fun n v => slices_IndexFunc_api_Param_api_Param_L0 F xs (fun y0 => ast_every_api_Param_1 F y0 φ) n v) (fun _ _ => rfl) h hl F hF a b
theorem everyH {F : Nat} {xs : List api_Hand} {φ : api_Hand → Option Bool} {q : api_Hand → Bool} (h : ∀ x ∈ xs, φ x = some (q x)) (hl : xs.length ≤ maxLen) (hF : xs.length < F) (a b : Int) : ast_every_api_Hand F xs a b φ = some (((decide (a ≤ (xs.length : Int))) && (decide ((xs.length : Int) ≤ b))) && xs.all q) :=
  every_ok xs φ q (fun n v => slices_IndexFunc_api_Hand_api_Hand_L0 F xs (fun y0 => ast_every_api_Hand_1 F y0 φ) n v) (fun _ _ => rfl) h hl F hF a b
theorem lt_not (a b : Int) : decide (a < b) = !decide (b ≤ a) := by
  rw [Bool.eq_iff_iff]; simp
theorem ge0 {α : Type} (xs : List α) : decide ((0 : Int) ≤ (xs.length : Int)) = true := by simp
theorem fitC (c : api_Con) (hw : W92 c) : ∃ b, Evt fun F => ast_fitCon F c = some b ∧
    ∀ (K : Option Bool), ((R03_Named F c.Name true).bind fun x9 => bif ((!x9) || (decide (6 < (c.Fields.length : Int)))) then (some false) else (joinM (fun (_ : Unit) => K) fun K2 => R04_fitData_L1 F c K2 F 0)) = bif b then K else some false := by
  obtain ⟨hn, hl, hp⟩ := hw
  obtain ⟨Q, hQ⟩ := pick (fun p hp' => topT p (hp p hp'))
  refine ⟨namedP c.Name true && (decide ((c.Fields.length : Int) ≤ 6) && c.Fields.all Q), ((Evt.all hQ).and ((nameF hn).and (Evt.ge (c.Fields.length + 1)))).mono ?_⟩
  rintro F ⟨h1, ⟨n1, n2, n3⟩, h2⟩
  dsimp only at h1
  constructor
  · rw [ast_fitCon, great_ok F _ n1 n2]
    simp only [joinM, Option.bind_some, everyT (q := Q) (fun x hx => (h1 x hx).1) hl (show c.Fields.length < F by omega), ge0, Bool.true_and]
    cases namedP c.Name true <;> rfl
  · intro K
    rw [rnamed_ok F n3]
    simp only [joinM, Option.bind_some]
    have e : R04_fitData_L1 F c (fun _ => K) F 0 = bif c.Fields.all Q then K else some false := by
      refine all_ok (β := Unit) c.Fields Q (fun n v => R04_fitData_L1 F c (fun _ => K) n v) (fun v x k => (R04_FitType F x).bind fun x15 => bif (!x15) then (some false) else k) K ?_ ?_ hl F (by omega)
      · intro m v; rfl
      · intro k x hx c
        show ((R04_FitType F x).bind _) = _
        rw [(h1 x (List.mem_of_getElem? hx)).2]
        cases Q x <;> rfl
    rw [e, lt_not]
    cases namedP c.Name true <;> cases decide ((c.Fields.length : Int) ≤ 6) <;> cases c.Fields.all Q <;> rfl
theorem fitD (c : api_Data) (hw : W72 c) : ∃ b, Both (fun F => ast_fitData F c) (fun F => R04_fitData F c) b := by
  obtain ⟨_, hn, hl, hp⟩ := hw
  obtain ⟨Q, hQ⟩ := pick (fun p hp' => fitC p (hp p hp'))
  refine ⟨declP c.Name && ((decide (1 ≤ (c.Cons.length : Int)) && decide ((c.Cons.length : Int) ≤ 16)) && c.Cons.all Q), ((Evt.all hQ).and ((nameF hn).and (Evt.ge (c.Cons.length + 1)))).mono ?_⟩
  rintro F ⟨h1, ⟨n1, n2, n3⟩, h2⟩
  dsimp only
  constructor
  · rw [ast_fitData, declared_ok F _ n1 n2]
    simp only [joinM, Option.bind_some, everyC (q := Q) (fun x hx => (h1 x hx).1) (rl hl) (show c.Cons.length < F by omega)]
    cases declP c.Name <;> rfl
  · rw [R04_fitData, rsmall_ok F _ n3]
    simp only [Option.bind_some]
    have e : R04_fitData_L0 F c F 0 = bif c.Cons.all Q then some true else some false := by
      refine all_ok (β := Unit) c.Cons Q (fun n v => R04_fitData_L0 F c n v) (fun v x k => (R03_Named F x.Name true).bind fun x9 => bif ((!x9) || (decide (6 < (x.Fields.length : Int)))) then (some false) else (joinM (fun (_ : Unit) => k) fun K2 => R04_fitData_L1 F x K2 F 0)) (some true) ?_ ?_ (rl hl) F (by omega)
      · intro m v; rfl
      · intro k x hx c
        exact (h1 x (List.mem_of_getElem? hx)).2 c
    rw [e, lt_not, lt_not]
    cases declP c.Name <;> cases decide (1 ≤ (c.Cons.length : Int)) <;> cases decide ((c.Cons.length : Int) ≤ 16) <;> cases c.Cons.all Q <;> rfl
theorem fitM (c : api_Param) (hw : W81 c) : ∃ b, Both (fun F => ast_fitParam F c) (fun F => R04_fitParam F c) b := by
  obtain ⟨hn, ht⟩ := hw
  obtain ⟨q, hq⟩ := topT _ ht
  refine ⟨namedP c.Name false && q, (hq.and (nameF hn)).mono ?_⟩
  rintro F ⟨⟨a, b⟩, n1, n2, n3⟩
  dsimp only at a b ⊢
  rw [ast_fitParam, R04_fitParam, small_ok F _ n1 n2, rnamed_ok F n3]
  simp only [joinM, Option.bind_some, a, b]
  cases namedP c.Name false <;> exact ⟨rfl, rfl⟩
theorem fitF (c : api_Fun) (hw : W77 c) : ∃ b, Both (fun F => ast_fitFun F c) (fun F => R04_fitFun F c) b := by
  obtain ⟨_, hn, ⟨hl, hp⟩, hr, hb⟩ := hw
  obtain ⟨Q, hQ⟩ := pick (fun p hp' => fitM p (hp p hp'))
  obtain ⟨q1, h1⟩ := topT _ hr
  obtain ⟨q2, h2⟩ := topE _ hb
  refine ⟨calledP c.Name && (((decide (1 ≤ (c.Params.length : Int)) && decide ((c.Params.length : Int) ≤ 6)) && c.Params.all Q) && (q1 && q2)), ((Evt.all hQ).and (((nameF hn).and (Evt.ge (c.Params.length + 1))).and (h1.and h2))).mono ?_⟩
  rintro F ⟨h0, ⟨⟨n1, n2, n3⟩, hF⟩, ⟨a1, b1⟩, a2, b2⟩
  dsimp only at h0 a1 b1 a2 b2 ⊢
  have e : R04_fitFun_L0 F c F 0 = bif c.Params.all Q then some true else some false := by
    refine all_ok (β := Unit) c.Params Q (fun n v => R04_fitFun_L0 F c n v) (fun v x k => (R04_fitParam F x).bind fun x15 => bif (!x15) then (some false) else k) (some true) ?_ ?_ (rl hl) F (by omega)
    · intro m v; rfl
    · intro k x hx c
      show ((R04_fitParam F x).bind _) = _
      rw [(h0 x (List.mem_of_getElem? hx)).2]
      cases Q x <;> rfl
  rw [ast_fitFun, R04_fitFun, called_ok F _ n1 n2, rcalled_ok F _ n3]
  simp only [joinM, Option.bind_some, a1, b1, a2, b2, e, everyM (q := Q) (fun x hx => (h0 x hx).1) (rl hl) (show c.Params.length < F by omega), lt_not]
  cases calledP c.Name <;> cases decide (1 ≤ (c.Params.length : Int)) <;> cases decide ((c.Params.length : Int) ≤ 6) <;> cases c.Params.all Q <;> cases q1 <;> cases q2 <;> exact ⟨rfl, rfl⟩
def rHand (F : Nat) (x : api_Hand) (k : Option Bool) : Option Bool :=
  (R03_Named F x.Name false).bind fun x25 => joinM (fun (v26 : Bool) => joinM (fun (v28 : Bool) => bif v28 then (some false) else k) fun K9 =>
    bif ((v26 || (decide (x.Cap < 0))) || (decide (64 < x.Cap))) then (K9 true) else ((R04_FitExpr F x.Body).bind fun x29 => K9 (!x29))) fun K8 =>
    bif (!x25) then (K8 true) else ((R04_fitParam F x.Param).bind fun x27 => K8 (!x27))
theorem fitH (c : api_Hand) (hw : W83 c) : ∃ b, Evt fun F => ast_fitHand F c = some b ∧ ∀ k, rHand F c k = bif b then k else some false := by
  obtain ⟨_, hn, hp, _, hb⟩ := hw
  obtain ⟨q1, h1⟩ := fitM _ hp
  obtain ⟨q2, h2⟩ := topE _ hb
  refine ⟨(namedP c.Name false && q1) && ((decide (0 ≤ c.Cap) && decide (c.Cap ≤ 64)) && q2), ((nameF hn).and (h1.and h2)).mono ?_⟩
  rintro F ⟨⟨n1, n2, n3⟩, ⟨a1, b1⟩, a2, b2⟩
  dsimp only at a1 b1 a2 b2
  constructor
  · rw [ast_fitHand, small_ok F _ n1 n2]
    simp only [joinM, Option.bind_some, a1, a2]
    cases namedP c.Name false <;> cases decide (0 ≤ c.Cap) <;> cases decide (c.Cap ≤ 64) <;> cases q1 <;> cases q2 <;> rfl
  · intro k
    rw [rHand, rnamed_ok F n3]
    simp only [joinM, Option.bind_some, b1, b2, lt_not]
    cases namedP c.Name false <;> cases decide (0 ≤ c.Cap) <;> cases decide (c.Cap ≤ 64) <;> cases q1 <;> cases q2 <;> rfl
theorem fitAll (p : api_Prog) (hw : W36 p) : ∃ b, Both (fun F => ast_Fit F p) (fun F => R04_Fit F p) b := by
  obtain ⟨⟨l1, w1⟩, ⟨l2, w2⟩, _, _, w3, _, w4, l3, w5⟩ := hw
  obtain ⟨D, hD⟩ := pick (fun x hx => fitD x (w1 x hx))
  obtain ⟨N, hN⟩ := pick (fun x hx => fitF x (w2 x hx))
  obtain ⟨H, hH⟩ := pick (fun x hx => fitH x (w5 x hx))
  obtain ⟨q1, h1⟩ := topT _ w3
  obtain ⟨q2, h2⟩ := topE _ w4
  refine ⟨(((((decide (1 ≤ p.Queue) && decide (p.Queue ≤ 32)) && (decide (0 ≤ p.Timers) && decide (p.Timers ≤ 32))) && (decide (0 ≤ p.Cap) && decide (p.Cap ≤ 256))) && (q1 && q2)) &&
    ((decide ((p.Datas.length : Int) ≤ 32) && decide ((p.Funs.length : Int) ≤ 48)) && decide ((p.Hands.length : Int) ≤ 16))) && ((p.Datas.all D && p.Funs.all N) && p.Hands.all H),
    (((Evt.all hD).and ((Evt.all hN).and (Evt.all hH))).and ((h1.and h2).and ((Evt.ge (p.Datas.length + 1)).and ((Evt.ge (p.Funs.length + 1)).and (Evt.ge (p.Hands.length + 1)))))).mono ?_⟩
  rintro F ⟨⟨g1, g2, g3⟩, ⟨⟨a1, b1⟩, a2, b2⟩, f1, f2, f3⟩
  dsimp only at g1 g2 a1 b1 a2 b2 ⊢
  have e2 : R04_Fit_L2 F p F 0 = bif p.Hands.all H then some true else some false := by
    refine all_ok (β := Unit) p.Hands H (fun n v => R04_Fit_L2 F p n v) (fun v x k => rHand F x k) (some true) ?_ ?_ (rl l3) F (by omega)
    · intro m v; rfl
    · intro k x hx c
      exact (g3 x (List.mem_of_getElem? hx)).2 c
  have e1 : ∀ K, R04_Fit_L1 F p K F 0 = bif p.Funs.all N then K () else some false := by
    intro K
    refine all_ok (β := Unit) p.Funs N (fun n v => R04_Fit_L1 F p K n v) (fun v x k => (R04_fitFun F x).bind fun x15 => bif (!x15) then (some false) else k) (K ()) ?_ ?_ (rl l2) F (by omega)
    · intro m v; rfl
    · intro k x hx c
      show ((R04_fitFun F x).bind _) = _
      rw [(g2 x (List.mem_of_getElem? hx)).2]
      cases N x <;> rfl
  have e0 : ∀ K, R04_Fit_L0 F p K F 0 = bif p.Datas.all D then K () else some false := by
    intro K
    refine all_ok (β := Unit) p.Datas D (fun n v => R04_Fit_L0 F p K n v) (fun v x k => (R04_fitData F x).bind fun x15 => bif (!x15) then (some false) else k) (K ()) ?_ ?_ (rl l1) F (by omega)
    · intro m v; rfl
    · intro k x hx c
      show ((R04_fitData F x).bind _) = _
      rw [(g1 x (List.mem_of_getElem? hx)).2]
      cases D x <;> rfl
  constructor
  · rw [ast_Fit]
    simp only [joinM, Option.bind_some, a1, a2, everyD (q := D) (fun x hx => (g1 x hx).1) (rl l1) (show p.Datas.length < F by omega), everyF (q := N) (fun x hx => (g2 x hx).1) (rl l2) (show p.Funs.length < F by omega), everyH (q := H) (fun x hx => (g3 x hx).1) (rl l3) (show p.Hands.length < F by omega), lt_not, ge0, Bool.true_and]
    generalize decide (1 ≤ p.Queue) = c1, decide (p.Queue ≤ 32) = c2, decide (0 ≤ p.Timers) = c3, decide (p.Timers ≤ 32) = c4, decide (0 ≤ p.Cap) = c5, decide (p.Cap ≤ 256) = c6, decide ((p.Datas.length : Int) ≤ 32) = c7, decide ((p.Funs.length : Int) ≤ 48) = c8, decide ((p.Hands.length : Int) ≤ 16) = c9, p.Datas.all D = d1, p.Funs.all N = d2, p.Hands.all H = d3
    cases hc : ((((((!c1) || (!c2)) || (!c3)) || (!c4)) || (!c5)) || (!c6)) with
    | true => cases c1 <;> cases c2 <;> cases c3 <;> cases c4 <;> cases c5 <;> cases c6 <;> first | rfl | cases hc
    | false =>
      simp only [Bool.or_eq_false_iff, Bool.not_eq_false'] at hc
      obtain ⟨⟨⟨⟨⟨rfl, rfl⟩, rfl⟩, rfl⟩, rfl⟩, rfl⟩ := hc
      cases q1 <;> cases q2 <;> try rfl
      cases c7 <;> cases d1 <;> cases c8 <;> cases d2 <;> cases c9 <;> cases d3 <;> rfl
  · rw [R04_Fit]
    simp only [joinM, Option.bind_some, b1, b2, e0, e1, e2, lt_not]
    generalize decide (1 ≤ p.Queue) = c1, decide (p.Queue ≤ 32) = c2, decide (0 ≤ p.Timers) = c3, decide (p.Timers ≤ 32) = c4, decide (0 ≤ p.Cap) = c5, decide (p.Cap ≤ 256) = c6, decide ((p.Datas.length : Int) ≤ 32) = c7, decide ((p.Funs.length : Int) ≤ 48) = c8, decide ((p.Hands.length : Int) ≤ 16) = c9, p.Datas.all D = d1, p.Funs.all N = d2, p.Hands.all H = d3
    cases hc : (((!c7) || (!c8)) || (!c9)) with
    | true => cases c7 <;> cases c8 <;> cases c9 <;> first | (simp only [Bool.and_false, Bool.false_and, Bool.not_true, Bool.not_false, Bool.or_true, Bool.true_or, cond_true]; done) | cases hc
    | false =>
      simp only [Bool.or_eq_false_iff, Bool.not_eq_false'] at hc
      obtain ⟨⟨rfl, rfl⟩, rfl⟩ := hc
      cases q1 <;> cases q2
      · cases c1 <;> cases c2 <;> cases c3 <;> cases c4 <;> cases c5 <;> cases c6 <;> rfl
      · cases c1 <;> cases c2 <;> cases c3 <;> cases c4 <;> cases c5 <;> cases c6 <;> rfl
      · cases c1 <;> cases c2 <;> cases c3 <;> cases c4 <;> cases c5 <;> cases c6 <;> rfl
      · cases c1 <;> cases c2 <;> cases c3 <;> cases c4 <;> cases c5 <;> cases c6 <;> try rfl
        cases d1 <;> cases d2 <;> cases d3 <;> rfl
end Go.Proofs.YtappiofmkoelnaaGreatDoor.M
namespace Go.Proofs.YtappiofmkoelnaaGreatDoor.M
open Go.Proofs.YtappiofmkoelnaaGreatDoorW.Ah Go.Proofs.YtappiofmkoelnaaGreatDoor
set_option linter.unusedVariables false
theorem holds_AstFits (x0 : api_Prog) (x1 : api_Expr) (x2 : api_Pat) (x3 : api_Type) (w0 : W36 x0) (w1 : W33 x1) (w2 : W39 x2) (w3 : W26 x3) : ∃ F, L04_AstFits F x0 x1 x2 x3 = some true := by
  obtain ⟨b0, h0⟩ := fitAll x0 w0
  obtain ⟨b1, h1⟩ := topE x1 w1
  obtain ⟨b2, h2⟩ := topP x2 w2
  obtain ⟨b3, h3⟩ := topT x3 w3
  refine Evt.ex (((h0.and (h1.and (h2.and h3))).and ((lightProg_ok x0 w0 3000 (by decide) (by decide)).and ((light_ok x1 w1).and ((lightPat_ok x2 w2).and (lightType_ok x3 w3))))).mono ?_)
  rintro F ⟨⟨⟨a0, c0⟩, ⟨a1, c1⟩, ⟨a2, c2⟩, a3, c3⟩, ⟨r0, g0, _⟩, g1, g2, g3⟩
  dsimp only at a0 c0 a1 c1 a2 c2 a3 c3
  have hl : Left 3000 := by unfold Left; decide
  obtain ⟨r1, k1, _⟩ := g1 3000 hl
  obtain ⟨r2, k2, _⟩ := g2 3000 hl
  obtain ⟨r3, k3, _⟩ := g3 3000 hl
  rw [L04_AstFits, L04_light]
  simp only [joinM, L04_awake, g0, k1, k2, k3, a0, c0, a1, c1, a2, c2, a3, c3, Option.bind_some, beq_self_eq_true, cond_true]
  cases !decide (0 ≤ r0) <;> cases decide (r1 < 0) <;> cases decide (r2 < 0) <;> cases decide (r3 < 0) <;> rfl
end Go.Proofs.YtappiofmkoelnaaGreatDoor.M
end
section
namespace Go.Proofs.YtappiofmkoelnaaGreatDoor
open Go.Proofs.YtappiofmkoelnaaGreatDoorW.Ah
set_option linter.unusedVariables false
theorem Pure.AstFits (l : List AV) (h : TypAs T.T [36, 33, 39, 26] l) : RunF Tryz.prog T.T 3 l (B true) := by
  cases h with
  | cons a0 h =>
    cases h with
    | cons a1 h =>
      cases h with
      | cons a2 h =>
        cases h with
        | cons a3 h =>
          cases h with
          | nil =>
            obtain ⟨x0, rfl, w0⟩ := M.oa36 _ a0
            obtain ⟨x1, rfl, w1⟩ := M.oa33 _ a1
            obtain ⟨x2, rfl, w2⟩ := M.oa39 _ a2
            obtain ⟨x3, rfl, w3⟩ := M.oa26 _ a3
            obtain ⟨F, hF⟩ := M.holds_AstFits x0 x1 x2 x3 w0 w1 w2 w3
            exact M.ok_L04_AstFits F x0 x1 x2 x3 true hF
end Go.Proofs.YtappiofmkoelnaaGreatDoor
end
