/- The laws of package runes, in plain terms: what encodes is read back; the examples. -/
import Derived.Test.YtlemgfcopedjhaaRuneBase
import Derived.KernelRfl
namespace Go.Proofs.Ytlemgfcopedjhaa.RuneLaw
open Go.RowKit Go.Proofs.Ytlemgfcopedjhaa.PRunes Go.Proofs.YtlemgfcopedjhaaW.PrintWords Go.Proofs.YtlemgfcopedjhaaW.PrintLast Go.Proofs.YtlemgfcopedjhaaW.PrintMore Go.Proofs.Ytlemgfcopedjhaa.RunePlain Go.Proofs.Ytlemgfcopedjhaa.RuneBase
theorem i32b {c : Int} (h : (Lit.int .i32 c).wf = true) : -2147483648 ≤ c ∧ c ≤ 2147483647 := by
  simp only [Lit.wf, Bool.and_eq_true, decide_eq_true_eq] at h
  exact h
/-- A rune that can be. -/
def okR (c : Int) : Prop := 0 ≤ c ∧ (c < 55296 ∨ (57344 ≤ c ∧ c ≤ 1114111))
instance (c : Int) : Decidable (okR c) := by unfold okR; infer_instance
theorem enc_none (c : Int) (h : ¬ okR c) : enc c = [] := by unfold enc; rw [if_neg (show ¬ (0 ≤ c ∧ (c < 55296 ∨ (57344 ≤ c ∧ c ≤ 1114111))) from h)]
theorem enc_pos (c : Int) (h : okR c) : 0 < (enc c).length := by
  unfold enc; rw [if_pos (show 0 ≤ c ∧ (c < 55296 ∨ (57344 ≤ c ∧ c ≤ 1114111)) from h)]
  repeat' split
  all_goals simp
/-- The bytes of a rune, wherever they stand, are read as it. -/
theorem one_enc (s : ByteArray) (i : Nat) (c : Int) (h : okR c) (hs : i + (enc c).length ≤ s.size) (hb : ∀ j x, (enc c)[j]? = some x → (by_ s (i + j) : Int) = x) : one s i = some (c.toNat, (enc c).length) := by
  have h' := h
  unfold okR at h'
  revert hs hb
  unfold enc
  rw [if_pos h']
  unfold one
  split
  · intro hs hb
    have b0 := hb 0 _ rfl
    rw [Nat.add_zero] at b0
    rw [if_pos (by omega)]; exact congrArg some (Prod.ext (by show (_ : Nat) = Int.toNat c; omega) rfl)
  split
  · intro hs hb
    have b0 := hb 0 _ rfl
    have b1 := hb 1 _ rfl
    rw [Nat.add_zero] at b0
    simp only [List.length_cons, List.length_nil] at hs ⊢
    rw [if_neg (by omega), if_pos ⟨by omega, by omega, ⟨by omega, by omega, by omega⟩⟩]
    rw [if_pos (by omega)]; exact congrArg some (Prod.ext (by show (_ : Nat) = Int.toNat c; omega) rfl)
  split
  · intro hs hb
    have b0 := hb 0 _ rfl
    have b1 := hb 1 _ rfl
    have b2 := hb 2 _ rfl
    rw [Nat.add_zero] at b0
    simp only [List.length_cons, List.length_nil] at hs ⊢
    rw [if_neg (by omega), if_neg (by omega), if_pos ⟨by omega, by omega, ⟨by omega, by omega, by omega⟩, ⟨by omega, by omega, by omega⟩⟩]
    rw [if_pos ⟨by omega, by unfold scal; omega⟩]; exact congrArg some (Prod.ext (by show (_ : Nat) = Int.toNat c; omega) rfl)
  · intro hs hb
    have b0 := hb 0 _ rfl
    have b1 := hb 1 _ rfl
    have b2 := hb 2 _ rfl
    have b3 := hb 3 _ rfl
    rw [Nat.add_zero] at b0
    simp only [List.length_cons, List.length_nil] at hs ⊢
    rw [if_neg (by omega), if_neg (by omega), if_neg (by omega), if_pos ⟨by omega, by omega, ⟨by omega, by omega, by omega⟩, ⟨by omega, by omega, by omega⟩, ⟨by omega, by omega, by omega⟩⟩]
    rw [if_pos ⟨by omega, by unfold scal; omega⟩]; exact congrArg some (Prod.ext (by show (_ : Nat) = Int.toNat c; omega) rfl)
theorem by_nums (l : List Int) (hl : ∀ x ∈ l, 0 ≤ x ∧ x ≤ 255) (j : Nat) (x : Int) (h : l[j]? = some x) : (by_ (strOfNums l) j : Int) = x := by
  obtain ⟨hj, e⟩ := List.getElem?_eq_some_iff.1 h
  have hm := hl x (by rw [← e]; exact List.getElem_mem hj)
  obtain ⟨b, hb, hb'⟩ := by_list (strOfNums l) j (by rw [strOfNums_size]; exact hj)
  rw [strOfNums_data, List.getElem?_map, h] at hb
  simp only [Option.map_some, Option.some.injEq] at hb
  rw [← hb', ← hb, UInt8.toNat_ofNat']
  omega
/-- A text that is one rune's bytes. -/
theorem split_one (c : Int) (h : okR c) : splitOf (strOfNums (enc c)) = ([⟨c, 0, ⟨1, 1⟩⟩], 0, 0, 0) := by
  have hl := enc_len c
  have hp := enc_pos c h
  have hc := h
  unfold okR at hc
  have ho := one_enc (strOfNums (enc c)) 0 c h (by rw [strOfNums_size]; omega) (fun j x hj => by rw [Nat.zero_add]; exact by_nums _ (enc_bytes c) j x hj)
  unfold splitOf
  rw [strOfNums_size, if_neg (by omega)]
  obtain ⟨n, hn⟩ : ∃ n, (enc c).length = n + 1 := ⟨(enc c).length - 1, by omega⟩
  rw [hn]
  simp only [spl, strOfNums_size]
  rw [if_pos (by omega), ho]
  simp only
  rw [if_neg (by omega)]
  have e : ((c.toNat : Nat) : Int) = c := by omega
  rw [e]
  rfl
theorem split_nil : splitOf (strOfNums []) = ([], 0, 0, 0) := by
  unfold splitOf; rw [strOfNums_size, if_neg (by decide)]
  simp only [List.length_nil, spl, strOfNums_size]
  rw [if_neg (by decide)]
theorem bytes_self (l : List Int) : handloomlaw02_bytes.f l l = some true := by unfold handloomlaw02_bytes.f; simp
/-- Unlike runes have unlike bytes. -/
theorem bytes_enc (c d : Int) (hc : okR c) : handloomlaw02_bytes.f (enc c) (enc d) = some (c == d) := by
  by_cases e : c = d
  · subst e; rw [bytes_self]; simp
  · rw [beq_eq_false_iff_ne.mpr e]
    unfold handloomlaw02_bytes.f
    congr 1
    rw [beq_eq_false_iff_ne]
    intro he
    rw [ByteArray.toList_eq, ByteArray.toList_eq] at he
    have hs : strOfNums (enc c) = strOfNums (enc d) := by
      generalize strOfNums (enc c) = x at he
      generalize strOfNums (enc d) = y at he
      cases x; cases y
      simp only [Array.toList_inj] at he
      rw [he]
    by_cases hd : okR d
    · have h1 := split_one c hc
      rw [hs, split_one d hd] at h1
      simp only [Prod.mk.injEq, List.cons.injEq, S39.mk.injEq] at h1
      exact e h1.1.1.1.symm
    · have h1 := split_one c hc
      rw [hs, enc_none d hd, split_nil] at h1
      simp at h1
theorem awake_eq (k : Nat) (hk : 12 ≤ k) : handloomlaw02_awake.f k = some true := by
  unfold handloomlaw02_awake.f
  obtain ⟨q, rfl⟩ : ∃ q, k = q + 1 := ⟨k - 1, by omega⟩
  rw [split_eq _ _ (show (⟨#[97, 10, 195, 169]⟩ : ByteArray).size + 1 ≤ q + 1 by show 5 ≤ q + 1; omega), split_eq _ _ (show (⟨#[255]⟩ : ByteArray).size + 1 ≤ q + 1 by show 2 ≤ q + 1; omega)]
  simp only [Option.bind_some]
  have e1 : splitOf ⟨#[97, 10, 195, 169]⟩ = ([⟨97, 0, ⟨1, 1⟩⟩, ⟨10, 1, ⟨1, 2⟩⟩, ⟨233, 2, ⟨2, 1⟩⟩], 0, 0, 0) := by kernel_rfl
  have e2 : splitOf ⟨#[255]⟩ = ([], 1, 1, 1) := by kernel_rfl
  rw [e1, e2, put_eq q 233 (by decide) (by decide)]
  simp only [Option.bind_some]
  have e3 : enc 233 = [195, 169] := by decide
  rw [e3, bytes_self]
  rfl
/-! ### Classes -/
theorem low_eq (n : Nat) (c : Int) : runes_Low.f (n + 1) c = some (decide (97 ≤ c ∧ c ≤ 122 ∨ 128 ≤ c ∧ okR c)) := by
  unfold runes_Low.f okR
  rw [valid_eq]
  by_cases h1 : c ≥ 97
  · rw [if_pos h1]
    by_cases h2 : c ≤ 122
    · rw [if_pos h2, decide_eq_true (by omega)]
    · rw [if_neg h2]
      by_cases h3 : c ≥ 128
      · rw [if_pos h3]; simp only [Option.bind_some]; congr 1; rw [decide_eq_decide]; omega
      · rw [if_neg h3, decide_eq_false (by omega)]
  · rw [if_neg h1, if_neg (by omega), decide_eq_false (by omega)]
theorem rlow_eq (c : Int) : handloomref02_Low.f c = some (decide (97 ≤ c ∧ c ≤ 122 ∨ 128 ≤ c ∧ okR c)) := by
  unfold handloomref02_Low.f okR
  rw [scalar_eq]
  by_cases h1 : c ≥ 97
  · rw [if_pos h1]
    by_cases h2 : c ≤ 122
    · rw [if_pos h2, decide_eq_true (by omega)]
    · rw [if_neg h2]
      by_cases h3 : c ≥ 128
      · rw [if_pos h3]; simp only [Option.bind_some]; congr 1; rw [decide_eq_decide]; omega
      · rw [if_neg h3, decide_eq_false (by omega)]
  · rw [if_neg h1, if_neg (by omega), decide_eq_false (by omega)]
theorem up_eq (c : Int) : runes_Up.f c = some (decide (65 ≤ c ∧ c ≤ 90)) := by
  unfold runes_Up.f
  by_cases h1 : c ≥ 65
  · rw [if_pos h1]; congr 1; rw [decide_eq_decide]; omega
  · rw [if_neg h1, decide_eq_false (by omega)]
theorem digit_eq (c : Int) : runes_Digit.f c = some (decide (48 ≤ c ∧ c ≤ 57)) := by
  unfold runes_Digit.f
  by_cases h1 : c ≥ 48
  · rw [if_pos h1]; congr 1; rw [decide_eq_decide]; omega
  · rw [if_neg h1, decide_eq_false (by omega)]
theorem blank_eq (n : Nat) (c : Int) : runes_Blank.f (n + 1) c = some (decide (c = 9 ∨ c = 10 ∨ c = 13 ∨ c = 32)) := by
  unfold runes_Blank.f
  have j : ∀ b : Bool, runes_Blank.j0 (n + 1) b = some b := by intro b; cases b <;> simp [runes_Blank.j0]
  rw [j, j, j, j]
  by_cases h1 : c = 9
  · subst h1; rfl
  by_cases h2 : c = 10
  · subst h2; rfl
  by_cases h3 : c = 13
  · subst h3; rfl
  rw [if_neg h1, if_neg h2, if_neg h3]; congr 1
  rw [Bool.eq_iff_iff, beq_iff_eq, decide_eq_true_eq]; omega
theorem rblank_eq (c : Int) : handloomref02_Blank.f c = some (decide (c = 9 ∨ c = 10 ∨ c = 13 ∨ c = 32)) := by
  unfold handloomref02_Blank.f
  by_cases h1 : c = 9
  · subst h1; rfl
  by_cases h2 : c = 10
  · subst h2; rfl
  by_cases h3 : c = 13
  · subst h3; rfl
  rw [if_neg h1, if_neg h2, if_neg h3]; congr 1
  rw [Bool.eq_iff_iff, beq_iff_eq, decide_eq_true_eq]; omega
/-! ### The same runes -/
theorem same_l0 (L : List S39) (hL : L.length < 1000000) (d : Nat) : ∀ (i k : Nat), L.length ≤ i + d → d < k → handloomref02_Same.l0 k L L (i : Int) = some true := by
  induction d with
  | zero =>
    intro i k h hk
    obtain ⟨k, rfl⟩ : ∃ m, k = m + 1 := ⟨k - 1, by omega⟩
    simp only [handloomref02_Same.l0]
    rw [if_neg (by omega)]
  | succ d ih =>
    intro i k h hk
    obtain ⟨k, rfl⟩ : ∃ m, k = m + 1 := ⟨k - 1, by omega⟩
    simp only [handloomref02_Same.l0]
    by_cases hi : i < L.length
    · rw [if_pos (by omega), if_pos (by omega), if_pos (by omega)]
      simp only [beq_self_eq_true, Bool.not_true, Bool.or_self]
      rw [if_neg (by decide), show wrap64 ((i : Int) + 1) = ((i + 1 : Nat) : Int) by unfold wrap64; omega]
      exact ih (i + 1) k (by omega) (by omega)
    · rw [if_neg (by omega)]
theorem same_eq (L : List S39) (hL : L.length < 1000000) (k : Nat) (hk : L.length < k) : handloomref02_Same.f k L L = some true := by
  unfold handloomref02_Same.f
  rw [if_pos rfl]
  exact same_l0 L hL L.length 0 k (by omega) hk
theorem spl_len (s : ByteArray) (d : Nat) : ∀ (i : Nat) (l c : Int) (out : List S39), i ≤ s.size → out.length ≤ i → (spl s d i l c out).1.length ≤ s.size := by
  induction d with
  | zero => intro i l c out h1 h2; simp only [spl]; omega
  | succ d ih =>
    intro i l c out h1 h2
    simp only [spl]
    by_cases hi : i < s.size
    · rw [if_pos hi]
      cases ho : one s i with
      | none => simp
      | some rn =>
        obtain ⟨r, n⟩ := rn
        have := one_bd s i hi ho
        exact ih _ _ _ _ (by omega) (by simp; omega)
    · rw [if_neg hi]; simp only; omega
theorem split_len (s : ByteArray) : (splitOf s).1.length ≤ 16384 := by
  unfold splitOf
  split
  · simp
  · have := spl_len s (s.size + 1) 0 1 1 [] (by omega) (by simp); omega
end Go.Proofs.Ytlemgfcopedjhaa.RuneLaw
