/- What the functions of package runes, and the reference's, come to, in plain terms. -/
import Derived.Test.YtlemgfcopedjhaaPRunesx7
import Derived.Test.YtlemgfcopedjhaaPRunesx10
import Derived.Test.YtlemgfcopedjhaaRunePlain
import Derived.Lib.Strings
namespace Go.Proofs.Ytlemgfcopedjhaa.RuneBase
open Go.RowKit Go.Proofs.Ytlemgfcopedjhaa.PRunes Go.Proofs.YtlemgfcopedjhaaW.PrintWords Go.Proofs.YtlemgfcopedjhaaW.PrintLast Go.Proofs.YtlemgfcopedjhaaW.PrintMore Go.Proofs.Ytlemgfcopedjhaa.RunePlain
theorem ipn (n : Nat) : ip (n : Int) = n := by unfold ip; omega
/-! ### Runes one by one -/
theorem valid_eq (n : Nat) (c : Int) : utf8_ValidRune.f (n + 1) c = some (decide (0 ≤ c ∧ (c < 55296 ∨ (57344 ≤ c ∧ c ≤ 1114111)))) := by
  unfold utf8_ValidRune.f
  simp only [utf8_ValidRune.j0]
  by_cases h0 : 0 ≤ c
  · rw [if_pos h0]
    by_cases h1 : c < 55296
    · rw [if_pos (by simpa using h1), decide_eq_true (by omega)]
    · rw [if_neg (by simpa using h1)]
      by_cases h2 : 57343 < c
      · rw [if_pos h2]
        by_cases h3 : c ≤ 1114111
        · rw [if_pos h3, decide_eq_true (by omega)]
        · rw [if_neg h3, decide_eq_false (by omega)]
      · rw [if_neg h2, decide_eq_false (by omega)]
  · rw [if_neg h0, if_neg (by decide), if_neg (by omega), decide_eq_false (by omega)]
theorem scalar_eq (c : Int) : handloomref02_scalar.f c = some (decide (0 ≤ c ∧ (c < 55296 ∨ (57344 ≤ c ∧ c ≤ 1114111)))) := by
  unfold handloomref02_scalar.f
  by_cases h0 : c ≥ 0
  · rw [if_pos h0]
    by_cases h3 : c ≤ 1114111
    · rw [if_pos h3]
      by_cases h1 : c < 55296
      · rw [if_pos h1, decide_eq_true (by omega)]
      · rw [if_neg h1]; congr 1; rw [decide_eq_decide]; omega
    · rw [if_neg h3, decide_eq_false (by omega)]
  · rw [if_neg h0, decide_eq_false (by omega)]
/-- A rune's bytes. -/
def enc (c : Int) : List Int :=
  if 0 ≤ c ∧ (c < 55296 ∨ (57344 ≤ c ∧ c ≤ 1114111)) then
    if c < 128 then [c]
    else if c < 2048 then [192 + c / 64, 128 + c % 64]
    else if c < 65536 then [224 + c / 4096, 128 + c / 64 % 64, 128 + c % 64]
    else [240 + c / 262144, 128 + c / 4096 % 64, 128 + c / 64 % 64, 128 + c % 64]
  else []
theorem or192 (x : Int) (h0 : 0 ≤ x) (h1 : x < 32) : Go.bits .or .u8 192 x = 192 + x := u8_or192 x h0 h1
theorem or224 (x : Int) (h0 : 0 ≤ x) (h1 : x < 16) : Go.bits .or .u8 224 x = 224 + x := u8_or224 x h0 h1
theorem or240 (x : Int) (h0 : 0 ≤ x) (h1 : x < 8) : Go.bits .or .u8 240 x = 240 + x := u8_or240 x h0 h1
theorem or128 (x : Int) (h0 : 0 ≤ x) (h1 : x < 64) : Go.bits .or .u8 128 x = 128 + x := u8_or128 x h0 h1
theorem and63 (x : Int) (h0 : 0 ≤ x) (h1 : x < 256) : Go.bits .and .u8 x 63 = x % 64 := u8_and63 x h0 h1
theorem tailbits (x : Int) : Go.bits .or .u8 128 (Go.bits .and .u8 (x % 256) 63) = 128 + x % 64 := by
  rw [and63 _ (by omega) (by omega), or128 _ (by omega) (by omega)]; omega
theorem put_eq (n : Nat) (c : Int) (hc1 : -2147483648 ≤ c) (hc2 : c ≤ 2147483647) : runes_Put.f (n + 1) c = some (enc c) := by
  unfold runes_Put.f
  rw [valid_eq]
  simp only [Option.bind_some]
  by_cases h : 0 ≤ c ∧ (c < 55296 ∨ (57344 ≤ c ∧ c ≤ 1114111))
  · rw [if_pos (decide_eq_true h)]
    unfold utf8_AppendRune.f enc
    rw [if_pos h]
    have e0 : c % 4294967296 = c := by omega
    rw [e0]
    by_cases h1 : c < 128
    · rw [if_pos (by omega), if_pos (by simp), if_pos h1]; simp only [List.nil_append, Option.bind_some]; congr 2; omega
    · rw [if_neg (by omega), if_neg h1]
      unfold utf8_appendRuneNonASCII.f
      rw [e0]
      by_cases h2 : c < 2048
      · rw [if_pos (by omega), if_pos h2]
        simp only [Option.bind_some, List.nil_append, List.length_nil, List.length_cons]
        rw [if_pos (by omega), tailbits, or192 _ (by omega) (by omega)]
        simp only [Option.bind_some]
        congr 2; omega
      · rw [if_neg (by omega), if_neg h2]
        have t3 : c < 65536 → utf8_appendRuneNonASCII.j0 (n + 1) [] c c true = some [224 + c / 4096, 128 + c / 64 % 64, 128 + c % 64] := by
          intro h3
          simp only [utf8_appendRuneNonASCII.j0]
          rw [if_pos trivial]
          simp only [Option.bind_some, List.nil_append, List.length_nil, List.length_cons]
          rw [if_pos (by omega), tailbits, tailbits, or224 _ (by omega) (by omega)]
          congr 2; omega
        by_cases h3 : c < 55296
        · rw [if_pos h3, decide_eq_true h3, t3 (by omega), if_pos (by omega)]; rfl
        · rw [if_neg h3, if_pos (by omega)]
          by_cases h4 : c < 65536
          · rw [decide_eq_true (by omega), t3 h4, if_pos h4]; rfl
          · rw [decide_eq_false (by omega), if_neg h4]
            simp only [utf8_appendRuneNonASCII.j0]
            rw [if_neg (by decide), if_pos (by omega), if_pos (by omega)]
            simp only [Option.bind_some, List.nil_append, List.length_nil, List.length_cons]
            rw [if_pos (by omega), tailbits, tailbits, tailbits, or240 _ (by omega) (by omega)]
            simp only [Option.bind_some]
            congr 2; omega
  · rw [if_neg (by simpa using h)]; unfold enc; rw [if_neg h]
theorem enc_len (c : Int) : (enc c).length ≤ 4 := by
  unfold enc; repeat' split
  all_goals simp
theorem enc_bytes (c : Int) : ∀ x ∈ enc c, 0 ≤ x ∧ x ≤ 255 := by
  unfold enc
  repeat' split
  all_goals (intro x hx; simp only [List.mem_cons, List.not_mem_nil, or_false] at hx <;> omega)
/-! ### The reference's reader -/
theorem tail_step (k : Nat) (s : ByteArray) (a n r : Int) (j : Nat) (h : (j : Int) < a + n) (hb : a + n < 1000000) (hr : 0 ≤ r) (hr2 : r < 262144) :
    handloomref02_tail.l0 (k + 2) s a n r j = if cont s j then handloomref02_tail.l0 k s a n (r * 64 + ((by_ s j : Int) - 128)) ((j + 1 : Nat) : Int) else some (0, false) := by
  simp only [handloomref02_tail.l0, handloomref02_tail.j1]
  have hy := by_lt s j
  have e1 : wrap64 (a + n) = a + n := by unfold wrap64; omega
  rw [e1, if_pos h, bt_by]
  by_cases hs : j < s.size
  · rw [if_neg (by omega), if_pos (by omega), if_pos (by omega)]
    by_cases h1 : (by_ s j : Int) < 128
    · rw [if_pos h1, if_pos trivial, if_neg (by unfold cont; omega)]
    rw [if_neg h1]
    by_cases h2 : (by_ s j : Int) > 191
    · rw [if_pos (decide_eq_true h2), if_neg (by unfold cont; omega)]
    rw [if_neg (by simpa using h2), if_pos (by omega), if_pos (by omega), if_pos (by unfold cont; omega)]
    have e2 : wrap32 (wrap32 (r * 64) + ((by_ s j : Int) - 128) % 256) = r * 64 + ((by_ s j : Int) - 128) := by unfold wrap32; omega
    have e3 : wrap64 ((j : Int) + 1) = ((j + 1 : Nat) : Int) := by unfold wrap64; omega
    rw [e2, e3]
  · rw [if_pos (by omega), if_pos trivial, if_neg (by unfold cont; omega)]
theorem tail_end (k : Nat) (s : ByteArray) (a n r : Int) (j : Nat) (h : (j : Int) = a + n) (hb : a + n < 1000000) :
    handloomref02_tail.l0 (k + 1) s a n r j = some (r, true) := by
  simp only [handloomref02_tail.l0]
  have e1 : wrap64 (a + n) = a + n := by unfold wrap64; omega
  rw [e1, if_neg (by omega)]
theorem tail1 (k : Nat) (s : ByteArray) (j : Nat) (hj : j < 900000) : handloomref02_tail.f (k + 3) s (j : Int) 1 = if cont s j then some ((by_ s j : Int) - 128, true) else some (0, false) := by
  unfold handloomref02_tail.f
  rw [tail_step (k + 1) _ _ _ _ _ (by omega) (by omega) (by omega) (by omega)]
  split
  · rw [tail_end _ _ _ _ _ _ (by omega) (by omega)]; congr 2; omega
  · rfl
theorem tail2 (k : Nat) (s : ByteArray) (j : Nat) (hj : j < 900000) : handloomref02_tail.f (k + 5) s (j : Int) 2 = if cont s j ∧ cont s (j + 1) then some (((by_ s j : Int) - 128) * 64 + ((by_ s (j + 1) : Int) - 128), true) else some (0, false) := by
  unfold handloomref02_tail.f
  rw [tail_step (k + 3) _ _ _ _ _ (by omega) (by omega) (by omega) (by omega)]
  by_cases c1 : cont s j
  · have h1 := c1
    have hl := by_lt s j
    unfold cont at h1
    rw [if_pos c1, tail_step (k + 1) _ _ _ _ _ (by omega) (by omega) (by omega) (by omega)]
    by_cases c2 : cont s (j + 1)
    · rw [if_pos c2, if_pos ⟨c1, c2⟩, tail_end _ _ _ _ _ _ (by omega) (by omega)]; congr 2; omega
    · rw [if_neg c2, if_neg (fun h => c2 h.2)]
  · rw [if_neg c1, if_neg (fun h => c1 h.1)]
theorem tail3 (k : Nat) (s : ByteArray) (j : Nat) (hj : j < 900000) : handloomref02_tail.f (k + 7) s (j : Int) 3 = if cont s j ∧ cont s (j + 1) ∧ cont s (j + 2) then some (((by_ s j : Int) - 128) * 4096 + ((by_ s (j + 1) : Int) - 128) * 64 + ((by_ s (j + 2) : Int) - 128), true) else some (0, false) := by
  unfold handloomref02_tail.f
  rw [tail_step (k + 5) _ _ _ _ _ (by omega) (by omega) (by omega) (by omega)]
  by_cases c1 : cont s j
  · have h1 := c1
    unfold cont at h1
    rw [if_pos c1, tail_step (k + 3) _ _ _ _ _ (by omega) (by omega) (by omega) (by omega)]
    by_cases c2 : cont s (j + 1)
    · have h2 := c2
      unfold cont at h2
      rw [if_pos c2, tail_step (k + 1) _ _ _ _ _ (by omega) (by omega) (by omega) (by omega)]
      by_cases c3 : cont s (j + 1 + 1)
      · have e : by_ s (j + 1 + 1) = by_ s (j + 2) := rfl
        rw [if_pos c3, if_pos ⟨c1, c2, c3⟩, tail_end _ _ _ _ _ _ (by omega) (by omega)]; congr 2; omega
      · rw [if_neg c3, if_neg (fun h => c3 h.2.2)]
    · rw [if_neg c2, if_neg (fun h => c2 h.2.1)]
  · rw [if_neg c1, if_neg (fun h => c1 h.1)]
/-- What the reference reads at a place. -/
def oneZ (s : ByteArray) (i : Nat) : Int × Int := match one s i with | some (c, n) => ((c : Int), (n : Int)) | none => (0, 0)
theorem scal_dec (c : Nat) (r : Int) (h : r = (c : Int)) : decide (0 ≤ r ∧ (r < 55296 ∨ (57344 ≤ r ∧ r ≤ 1114111))) = decide (scal c) := by
  rw [decide_eq_decide]; unfold scal; omega
theorem oj0 (n : Nat) (s : ByteArray) (i b r : Int) (x : Bool) : handloomref02_One.j0 (n + 1) s i b r x = if x = true then handloomref02_One.j2 n s i 1 (wrap32 (r - 192)) 128 else if b ≥ 224 then handloomref02_One.j1 n s i b r (decide (b < 240)) else handloomref02_One.j1 n s i b r false := by
  simp only [handloomref02_One.j0]
theorem oj1 (n : Nat) (s : ByteArray) (i b r : Int) (x : Bool) : handloomref02_One.j1 (n + 1) s i b r x = if x = true then handloomref02_One.j2 n s i 2 (wrap32 (r - 224)) 2048 else if b ≥ 240 then (if b < 248 then handloomref02_One.j2 n s i 3 (wrap32 (r - 240)) 65536 else some (0, 0)) else some (0, 0) := by
  simp only [handloomref02_One.j1]
theorem oj3 (n : Nat) (m r : Int) (x : Bool) : handloomref02_One.j3 (n + 1) m r x = if x = true then some (0, 0) else some (r, wrap64 (m + 1)) := by
  simp only [handloomref02_One.j3]
theorem oj2 (n : Nat) (s : ByteArray) (i m r l : Int) (e : Int) (he : IntKind.u64.wrap (wrap64 (6 * m)) = e) (h0 : 0 ≤ e) (v : Int) (b : Bool) (ht : handloomref02_tail.f (n + 1) s (wrap64 (i + 1)) m = some (v, b)) :
    handloomref02_One.j2 (n + 2) s i m r l = if b = true then (if wrap32 (shl .i32 r e + v) < l then some (0, 0) else if decide (0 ≤ wrap32 (shl .i32 r e + v) ∧ (wrap32 (shl .i32 r e + v) < 55296 ∨ (57344 ≤ wrap32 (shl .i32 r e + v) ∧ wrap32 (shl .i32 r e + v) ≤ 1114111))) = true then some (wrap32 (shl .i32 r e + v), wrap64 (m + 1)) else some (0, 0)) else some (0, 0) := by
  simp only [handloomref02_One.j2]
  rw [ht]
  simp only [Option.bind_some, he]
  rw [if_pos h0]
  cases b
  · rw [if_neg (by decide), if_neg (by decide), oj3, if_pos rfl]
  · rw [if_pos rfl, if_pos rfl]
    split
    · rw [oj3, if_pos rfl]
    · rw [scalar_eq]
      simp only [Option.bind_some]
      rw [oj3]
      cases decide (0 ≤ wrap32 (shl .i32 r e + v) ∧ (wrap32 (shl .i32 r e + v) < 55296 ∨ (57344 ≤ wrap32 (shl .i32 r e + v) ∧ wrap32 (shl .i32 r e + v) ≤ 1114111)))
      · rw [if_pos (by decide), if_neg (by decide)]
      · rw [if_neg (by decide), if_pos rfl]
theorem sh6 (x : Int) (h0 : 0 ≤ x) (h1 : x < 32) : shl .i32 x 6 = x * 64 := by
  unfold shl; rw [i32_w]; simp [IntKind.bits]; unfold wrap32; omega
theorem sh12 (x : Int) (h0 : 0 ≤ x) (h1 : x < 16) : shl .i32 x 12 = x * 4096 := by
  unfold shl; rw [i32_w]; simp [IntKind.bits]; unfold wrap32; omega
theorem sh18 (x : Int) (h0 : 0 ≤ x) (h1 : x < 8) : shl .i32 x 18 = x * 262144 := by
  unfold shl; rw [i32_w]; simp [IntKind.bits]; unfold wrap32; omega
theorem two_eq (k : Nat) (s : ByteArray) (i : Nat) (hs : i < 100000) (d0 : 192 ≤ by_ s i) (d1 : by_ s i < 224) :
    handloomref02_One.j2 (k + 4) s (i : Int) 1 ((by_ s i : Int) - 192) 128 = some (if cont s (i + 1) then (if 128 ≤ (by_ s i - 192) * 64 + (by_ s (i + 1) - 128) then (((by_ s i - 192) * 64 + (by_ s (i + 1) - 128) : Nat) : Int) else 0, if 128 ≤ (by_ s i - 192) * 64 + (by_ s (i + 1) - 128) then 2 else 0) else (0, 0)) := by
  have ei : wrap64 ((i : Int) + 1) = ((i + 1 : Nat) : Int) := by unfold wrap64; omega
  have ht := tail1 k s (i + 1) (by omega)
  rw [← ei] at ht
  by_cases c1 : cont s (i + 1)
  · rw [if_pos c1] at ht
    rw [oj2 (k + 2) s i 1 _ 128 6 (by decide +kernel) (by decide) _ _ ht, if_pos rfl, if_pos c1, sh6 _ (by omega) (by omega)]
    have h1 := c1
    unfold cont at h1
    have ec : wrap32 (((by_ s i : Int) - 192) * 64 + ((by_ s (i + 1) : Int) - 128)) = (((by_ s i - 192) * 64 + (by_ s (i + 1) - 128) : Nat) : Int) := by unfold wrap32; omega
    rw [ec, show wrap64 (1 + 1) = 2 from by decide +kernel]
    generalize hc : (by_ s i - 192) * 64 + (by_ s (i + 1) - 128) = c
    have hc2 : c < 2048 := by omega
    by_cases c2 : 128 ≤ c
    · rw [if_neg (by omega), if_pos (decide_eq_true (by omega)), if_pos c2, if_pos c2]
    · rw [if_pos (by omega), if_neg c2, if_neg c2]
  · rw [if_neg c1] at ht
    rw [oj2 (k + 2) s i 1 _ 128 6 (by decide +kernel) (by decide) _ _ ht, if_neg (by decide), if_neg c1]
theorem three_eq (k : Nat) (s : ByteArray) (i : Nat) (hs : i < 100000) (d0 : 224 ≤ by_ s i) (d1 : by_ s i < 240) (c : Nat) (hc : c = (by_ s i - 224) * 4096 + (by_ s (i + 1) - 128) * 64 + (by_ s (i + 2) - 128)) :
    handloomref02_One.j2 (k + 6) s (i : Int) 2 ((by_ s i : Int) - 224) 2048 = some (if cont s (i + 1) ∧ cont s (i + 2) then (if 2048 ≤ c ∧ scal c then ((c : Int), 3) else (0, 0)) else (0, 0)) := by
  have ei : wrap64 ((i : Int) + 1) = ((i + 1 : Nat) : Int) := by unfold wrap64; omega
  have ht := tail2 k s (i + 1) (by omega)
  rw [← ei, show i + 1 + 1 = i + 2 from rfl] at ht
  by_cases c1 : cont s (i + 1) ∧ cont s (i + 2)
  · rw [if_pos c1] at ht
    rw [oj2 (k + 4) s i 2 _ 2048 12 (by decide +kernel) (by decide) _ _ ht, if_pos rfl, if_pos c1, sh12 _ (by omega) (by omega)]
    obtain ⟨h1, h2⟩ := c1
    unfold cont at h1 h2
    have ec : wrap32 (((by_ s i : Int) - 224) * 4096 + (((by_ s (i + 1) : Int) - 128) * 64 + ((by_ s (i + 2) : Int) - 128))) = (c : Int) := by unfold wrap32; omega
    rw [ec, show wrap64 (2 + 1) = 3 from by decide +kernel, scal_dec c c rfl]
    by_cases c2 : 2048 ≤ c
    · rw [if_neg (by omega)]
      by_cases c3 : scal c
      · rw [if_pos (decide_eq_true c3), if_pos ⟨c2, c3⟩]
      · rw [if_neg (by simpa using c3), if_neg (fun h => c3 h.2)]
    · rw [if_pos (by omega), if_neg (fun h => c2 h.1)]
  · rw [if_neg c1] at ht
    rw [oj2 (k + 4) s i 2 _ 2048 12 (by decide +kernel) (by decide) _ _ ht, if_neg (by decide), if_neg c1]
theorem four_eq (k : Nat) (s : ByteArray) (i : Nat) (hs : i < 100000) (d0 : 240 ≤ by_ s i) (d1 : by_ s i < 248) (c : Nat) (hc : c = (by_ s i - 240) * 262144 + (by_ s (i + 1) - 128) * 4096 + (by_ s (i + 2) - 128) * 64 + (by_ s (i + 3) - 128)) :
    handloomref02_One.j2 (k + 8) s (i : Int) 3 ((by_ s i : Int) - 240) 65536 = some (if cont s (i + 1) ∧ cont s (i + 2) ∧ cont s (i + 3) then (if 65536 ≤ c ∧ scal c then ((c : Int), 4) else (0, 0)) else (0, 0)) := by
  have ei : wrap64 ((i : Int) + 1) = ((i + 1 : Nat) : Int) := by unfold wrap64; omega
  have ht := tail3 k s (i + 1) (by omega)
  rw [← ei, show i + 1 + 1 = i + 2 from rfl, show i + 1 + 2 = i + 3 from rfl] at ht
  by_cases c1 : cont s (i + 1) ∧ cont s (i + 2) ∧ cont s (i + 3)
  · rw [if_pos c1] at ht
    rw [oj2 (k + 6) s i 3 _ 65536 18 (by decide +kernel) (by decide) _ _ ht, if_pos rfl, if_pos c1, sh18 _ (by omega) (by omega)]
    obtain ⟨h1, h2, h3⟩ := c1
    unfold cont at h1 h2 h3
    have ec : wrap32 (((by_ s i : Int) - 240) * 262144 + (((by_ s (i + 1) : Int) - 128) * 4096 + ((by_ s (i + 2) : Int) - 128) * 64 + ((by_ s (i + 3) : Int) - 128))) = (c : Int) := by unfold wrap32; omega
    rw [ec, show wrap64 (3 + 1) = 4 from by decide +kernel, scal_dec c c rfl]
    by_cases c2 : 65536 ≤ c
    · rw [if_neg (by omega)]
      by_cases c3 : scal c
      · rw [if_pos (decide_eq_true c3), if_pos ⟨c2, c3⟩]
      · rw [if_neg (by simpa using c3), if_neg (fun h => c3 h.2)]
    · rw [if_pos (by omega), if_neg (fun h => c2 h.1)]
  · rw [if_neg c1] at ht
    rw [oj2 (k + 6) s i 3 _ 65536 18 (by decide +kernel) (by decide) _ _ ht, if_neg (by decide), if_neg c1]
theorem one_eq (k : Nat) (s : ByteArray) (i : Nat) (hi : i < s.size) (hs : s.size < 100000) : handloomref02_One.f (k + 10) s (i : Int) = some (oneZ s i) := by
  have h0 := by_lt s i
  unfold handloomref02_One.f oneZ one
  rw [if_pos (by omega), if_pos (by omega), bt_by]
  have ew : wrap32 (by_ s i : Int) = (by_ s i : Int) := by unfold wrap32; omega
  rw [ew]
  by_cases c0 : by_ s i < 128
  · rw [if_pos (by omega), if_pos c0]; rfl
  rw [if_neg (by omega), if_neg c0]
  by_cases d0 : 192 ≤ by_ s i
  · rw [if_pos (by omega), oj0]
    by_cases d1 : by_ s i < 224
    · have ew2 : wrap32 ((by_ s i : Int) - 192) = (by_ s i : Int) - 192 := by unfold wrap32; omega
      rw [if_pos (decide_eq_true (by omega)), ew2, two_eq (k + 5) s i (by omega) d0 d1]
      by_cases c1 : cont s (i + 1)
      · rw [if_pos c1, if_pos (show 192 ≤ by_ s i ∧ by_ s i < 224 ∧ cont s (i + 1) from ⟨d0, d1, c1⟩)]
        simp only
        split <;> rfl
      · rw [if_neg c1, if_neg (fun h => c1 h.2.2), if_neg (by omega), if_neg (by omega)]
    · rw [if_neg (by rw [decide_eq_false (by omega)]; decide), if_pos (by omega), if_neg (by omega : ¬ (192 ≤ by_ s i ∧ by_ s i < 224 ∧ cont s (i + 1))), oj1]
      by_cases d2 : by_ s i < 240
      · have ew2 : wrap32 ((by_ s i : Int) - 224) = (by_ s i : Int) - 224 := by unfold wrap32; omega
        rw [if_pos (decide_eq_true (by omega)), ew2, three_eq (k + 2) s i (by omega) (by omega) d2 _ rfl]
        by_cases c1 : cont s (i + 1) ∧ cont s (i + 2)
        · rw [if_pos c1, if_pos (show 224 ≤ by_ s i ∧ by_ s i < 240 ∧ cont s (i + 1) ∧ cont s (i + 2) from ⟨by omega, d2, c1.1, c1.2⟩)]
          simp only
          split <;> rfl
        · rw [if_neg c1, if_neg (fun h => c1 h.2.2), if_neg (by omega)]
      · rw [if_neg (by rw [decide_eq_false (by omega)]; decide), if_pos (by omega), if_neg (by omega : ¬ (224 ≤ by_ s i ∧ by_ s i < 240 ∧ cont s (i + 1) ∧ cont s (i + 2)))]
        by_cases d3 : by_ s i < 248
        · have ew2 : wrap32 ((by_ s i : Int) - 240) = (by_ s i : Int) - 240 := by unfold wrap32; omega
          rw [if_pos (by omega), ew2, four_eq k s i (by omega) (by omega) d3 _ rfl]
          by_cases c1 : cont s (i + 1) ∧ cont s (i + 2) ∧ cont s (i + 3)
          · rw [if_pos c1, if_pos (show 240 ≤ by_ s i ∧ by_ s i < 248 ∧ cont s (i + 1) ∧ cont s (i + 2) ∧ cont s (i + 3) from ⟨by omega, d3, c1.1, c1.2.1, c1.2.2⟩)]
            simp only
            split <;> rfl
          · rw [if_neg c1, if_neg (fun h => c1 h.2.2)]
        · rw [if_neg (by omega), if_neg (by omega)]
  · rw [if_neg (by omega), if_neg (by omega), if_neg (by omega), if_neg (by omega), oj0, if_neg (by decide), if_neg (by omega), oj1, if_neg (by decide), if_neg (by omega)]
/-! ### Texts, rune by rune -/
theorem by_list (s : ByteArray) (i : Nat) (h : i < s.size) : ∃ b, s.data.toList[i]? = some b ∧ b.toNat = by_ s i := by
  refine ⟨s[i]'h, ?_, ?_⟩
  · rw [Array.getElem?_toList, Array.getElem?_eq_getElem h]; rfl
  · unfold by_; rw [dif_pos h]
theorem take3 {l : List UInt8} {i : Nat} {a b c : UInt8} (ha : l[i]? = some a) (hb : l[i + 1]? = some b) (hc : l[i + 2]? = some c) : (l.drop i).take 3 = [a, b, c] := by
  obtain ⟨h1, e1⟩ := List.getElem?_eq_some_iff.1 ha
  obtain ⟨h2, e2⟩ := List.getElem?_eq_some_iff.1 hb
  obtain ⟨h3, e3⟩ := List.getElem?_eq_some_iff.1 hc
  rw [List.drop_eq_getElem_cons h1, List.drop_eq_getElem_cons h2, List.drop_eq_getElem_cons h3, e1, e2, e3]
  rfl
theorem hp_eq (s : ByteArray) (i : Nat) (hi : i < s.size) : strings_HasPrefix.f (s.extract i s.size) (⟨#[239, 191, 189]⟩ : ByteArray) = some (decide (i + 2 < s.size ∧ by_ s i = 239 ∧ by_ s (i + 1) = 191 ∧ by_ s (i + 2) = 189)) := by
  unfold strings_HasPrefix.f stringslite_HasPrefix.f
  have e1 : (s.extract i s.size).size = s.size - i := by simp
  have e2 : (⟨#[239, 191, 189]⟩ : ByteArray).size = 3 := rfl
  rw [e1, e2]
  by_cases h : i + 2 < s.size
  · rw [if_pos (by omega), if_pos (by omega), if_pos (by omega)]
    simp only [Option.bind_some]
    congr 1
    obtain ⟨a, ha, ha'⟩ := by_list s i (by omega)
    obtain ⟨b, hb, hb'⟩ := by_list s (i + 1) (by omega)
    obtain ⟨c, hc, hc'⟩ := by_list s (i + 2) (by omega)
    have e3 : ((s.extract i s.size).extract 0 ((3 : Nat) : Int).toNat).toList = [a, b, c] := by
      rw [ByteArray.toList_eq, Lib.extract_data, Lib.extract_data, ← take3 ha hb hc]
      simp [List.take_take, Nat.min_eq_left (show 3 ≤ s.size - i by omega)]
    rw [e3, ByteArray.toList_eq]
    show ([a, b, c] == [239, 191, 189]) = _
    rw [Bool.eq_iff_iff, beq_iff_eq, decide_eq_true_eq]
    rw [← ha', ← hb', ← hc']
    constructor
    · intro h_
      injection h_ with h1 h_
      injection h_ with h2 h_
      injection h_ with h3 h_
      subst h1; subst h2; subst h3
      exact ⟨h, rfl, rfl, rfl⟩
    · rintro ⟨_, h1, h2, h3⟩
      rw [show a = 239 from UInt8.toNat_inj.1 h1, show b = 191 from UInt8.toNat_inj.1 h2, show c = 189 from UInt8.toNat_inj.1 h3]
  · rw [if_neg (by omega)]
    simp only [Option.bind_some]
    rw [decide_eq_false (fun h_ => h h_.1)]
/-- The place behind a rune. -/
def nxt (l c r : Int) : Int × Int := if r = 10 then (wrap64 (l + 1), 1) else (l, wrap64 (c + 1))
theorem past_eq (l c r : Int) : runes_walker_past.f l c r = some (nxt l c r) := by unfold runes_walker_past.f nxt; split <;> rfl
theorem next_eq (l c r : Int) : handloomref02_next.f l c r = some (nxt l c r) := by unfold handloomref02_next.f nxt; split <;> rfl
/-- A text's runes with their places, from a byte on, behind those that are told; d: bytes at most. -/
def spl (s : ByteArray) : Nat → Nat → Int → Int → List S39 → List S39 × Int × Int × Int
  | 0, _, _, _, out => (out, 0, 0, 0)
  | d + 1, i, l, c, out => if i < s.size then (match one s i with | none => ([], 1, l, c) | some (r, n) => spl s d (i + n) (nxt l c r).1 (nxt l c r).2 (out ++ [⟨(r : Int), (i : Int), ⟨l, c⟩⟩])) else (out, 0, 0, 0)
theorem split_l0 (s : ByteArray) (hs : s.size ≤ 16384) (d : Nat) : ∀ (i : Nat) (l c : Int) (out : List S39) (k : Nat), s.size < i + d → out.length ≤ i → i ≤ s.size → d ≤ k → runes_Split.l0 k s out l c (i : Int) s = some (spl s d i l c out) := by
  induction d with
  | zero => intro i l c out k h1 h2 h3 _; omega
  | succ d ih =>
    intro i l c out k h1 h2 h3 hk
    obtain ⟨k, rfl⟩ : ∃ m, k = m + 1 := ⟨k - 1, by omega⟩
    simp only [runes_Split.l0, ipn, spl]
    by_cases hi : i < s.size
    · rw [if_pos (by omega), if_pos hi, decode_one]
      cases ho : one s i with
      | none =>
        have hb : ¬ (i + 2 < s.size ∧ by_ s i = 239 ∧ by_ s (i + 1) = 191 ∧ by_ s (i + 2) = 189) := by
          intro hb
          obtain ⟨n, hn⟩ := (one_bad s i).2 hb
          rw [ho] at hn; cases hn
        simp only [Option.getD_none]
        rw [if_pos (show ((65533 : Nat) : Int) = 65533 from rfl), if_pos (by omega), if_pos (by omega), hp_eq s i hi, decide_eq_false hb]
        simp only [Option.bind_some]
        rw [if_neg (by decide)]
      | some rn =>
        obtain ⟨r, n⟩ := rn
        obtain ⟨b1, b2, b3, b4⟩ := one_bd s i hi ho
        simp only [Option.getD_some]
        have go : (if out.length < 4398046511104 then (runes_walker_past.f l c (r : Int)).bind fun bt => runes_Split.l0 k s (out ++ [⟨(r : Int), (i : Int), ⟨l, c⟩⟩]) bt.1 bt.2 ((i : Int) + (n : Int)) s else none) = some (spl s d (i + n) (nxt l c r).1 (nxt l c r).2 (out ++ [⟨(r : Int), (i : Int), ⟨l, c⟩⟩])) := by
          rw [if_pos (by omega), past_eq]
          simp only [Option.bind_some]
          have e : ((i : Int) + (n : Int)) = ((i + n : Nat) : Int) := by omega
          rw [e]
          exact ih (i + n) _ _ _ k (by omega) (by simp; omega) (by omega) (by omega)
        by_cases hr : (r : Int) = 65533
        · have hr' : r = 65533 := by omega
          rw [if_pos hr, if_pos (by omega), if_pos (by omega), hp_eq s i hi, decide_eq_true ((one_bad s i).1 ⟨n, by rw [ho, hr']⟩)]
          simp only [Option.bind_some]
          rw [if_pos trivial]
          exact go
        · rw [if_neg hr]
          exact go
    · rw [if_neg (by omega), if_neg hi]
theorem rsplit_l0 (s : ByteArray) (hs : s.size ≤ 16384) (d : Nat) : ∀ (i : Nat) (l c : Int) (out : List S39) (k : Nat), s.size < i + d → out.length ≤ i → i ≤ s.size → d + 10 ≤ k → handloomref02_Split.l0 k s out (i : Int) l c = some (spl s d i l c out) := by
  induction d with
  | zero => intro i l c out k h1 h2 h3 _; omega
  | succ d ih =>
    intro i l c out k h1 h2 h3 hk
    obtain ⟨k, rfl⟩ : ∃ m, k = m + 1 := ⟨k - 1, by omega⟩
    simp only [handloomref02_Split.l0, spl]
    by_cases hi : i < s.size
    · have hone : handloomref02_One.f k s (i : Int) = some (oneZ s i) := by
        obtain ⟨q, rfl⟩ : ∃ q, k = q + 10 := ⟨k - 10, by omega⟩
        exact one_eq q s i hi (by omega)
      rw [if_pos (by omega), if_pos hi, hone]
      simp only [Option.bind_some]
      unfold oneZ
      cases ho : one s i with
      | none => simp only; rw [if_pos trivial]
      | some rn =>
        obtain ⟨r, n⟩ := rn
        obtain ⟨b1, b2, b3, b4⟩ := one_bd s i hi ho
        simp only
        rw [if_neg (by omega), if_pos (by omega), next_eq]
        simp only [Option.bind_some]
        have e : wrap64 ((i : Int) + (n : Int)) = ((i + n : Nat) : Int) := by unfold wrap64; omega
        rw [e]
        exact ih (i + n) _ _ _ k (by omega) (by simp; omega) (by omega) (by omega)
    · rw [if_neg (by omega), if_neg hi]
/-- What Split tells of a text. -/
def splitOf (s : ByteArray) : List S39 × Int × Int × Int := if (s.size : Int) > 16384 then ([], 5, 1, 1) else spl s (s.size + 1) 0 1 1 []
theorem split_eq (s : ByteArray) (k : Nat) (hk : s.size + 1 ≤ k) : runes_Split.f k s = some (splitOf s) := by
  unfold runes_Split.f runes_begun.f splitOf
  simp only [Option.bind_some]
  by_cases h : (s.size : Int) > 16384
  · rw [if_pos h, if_pos h]
  · rw [if_neg h, if_neg h]
    exact split_l0 s (by omega) (s.size + 1) 0 1 1 [] k (by omega) (by simp) (by omega) hk
theorem rsplit_eq (s : ByteArray) (k : Nat) (hk : s.size + 11 ≤ k) : handloomref02_Split.f k s = some (splitOf s) := by
  unfold handloomref02_Split.f splitOf
  by_cases h : (s.size : Int) > 16384
  · rw [if_pos h, if_pos h]
  · rw [if_neg h, if_neg h]
    exact rsplit_l0 s (by omega) (s.size + 1) 0 1 1 [] k (by omega) (by simp) (by omega) (by omega)
/-! ### Places -/
/-- How many bytes a rune, or what is none, has; and the rune. -/
def wid (s : ByteArray) (i : Nat) : Nat := match one s i with | none => 1 | some (_, n) => n
def run_ (s : ByteArray) (i : Nat) : Int := match one s i with | none => 65533 | some (r, _) => (r : Int)
theorem wid_bd (s : ByteArray) (i : Nat) (hi : i < s.size) : 1 ≤ wid s i ∧ i + wid s i ≤ s.size := by
  unfold wid
  cases h : one s i with
  | none => simp only; omega
  | some rn => obtain ⟨r, n⟩ := rn; have := one_bd s i hi h; simp only; omega
theorem dec_run (s : ByteArray) (i : Nat) : ((Utf8.decode s i).1 : Int) = run_ s i ∧ (Utf8.decode s i).2 = wid s i := by
  rw [decode_one]; unfold run_ wid
  cases one s i with
  | none => exact ⟨rfl, rfl⟩
  | some rn => exact ⟨rfl, rfl⟩
/-- The place of a byte, from a byte on whose place is known. -/
def plc (s : ByteArray) (off : Int) : Nat → Nat → Int → Int → Int × Int
  | 0, _, l, c => (l, c)
  | d + 1, i, l, c => if i < s.size then (if off < ((i + wid s i : Nat) : Int) then (l, c) else plc s off d (i + wid s i) (nxt l c (run_ s i)).1 (nxt l c (run_ s i)).2) else (l, c)
theorem rplace_l0 (s : ByteArray) (hs : s.size ≤ 16384) (off : Int) (d : Nat) : ∀ (i : Nat) (l c : Int) (k : Nat), s.size < i + d → i ≤ s.size → 2 * d + 10 ≤ k → handloomref02_Place.l0 k s off (i : Int) l c = some (plc s off d i l c) := by
  induction d with
  | zero => intro i l c k h1 h2 _; omega
  | succ d ih =>
    intro i l c k h1 h2 hk
    obtain ⟨k, rfl⟩ : ∃ m, k = m + 2 := ⟨k - 2, by omega⟩
    simp only [handloomref02_Place.l0, handloomref02_Place.j1, plc]
    by_cases hi : i < s.size
    · have hone : handloomref02_One.f (k + 1) s (i : Int) = some (oneZ s i) := by
        obtain ⟨q, rfl⟩ : ∃ q, k = q + 9 := ⟨k - 9, by omega⟩
        exact one_eq q s i hi (by omega)
      have hw := wid_bd s i hi
      rw [if_pos (by omega), if_pos hi, hone]
      simp only [Option.bind_some]
      have hrec := ih (i + wid s i) (nxt l c (run_ s i)).1 (nxt l c (run_ s i)).2 k (by omega) (by omega) (by omega)
      unfold oneZ
      unfold wid run_ at *
      cases ho : one s i with
      | none =>
        rw [ho] at hw hrec
        simp only at hw hrec ⊢
        rw [if_pos trivial]
        have e : wrap64 ((i : Int) + 1) = ((i + 1 : Nat) : Int) := by unfold wrap64; omega
        rw [e, next_eq]
        simp only [Option.bind_some]
        have e2 : nxt l c 0 = nxt l c 65533 := by unfold nxt; rw [if_neg (by decide), if_neg (by decide)]
        split
        · rfl
        · rw [e2]; exact hrec
      | some rn =>
        obtain ⟨r, n⟩ := rn
        rw [ho] at hw hrec
        simp only at hw hrec ⊢
        rw [if_neg (by omega)]
        have e : wrap64 ((i : Int) + (n : Int)) = ((i + n : Nat) : Int) := by unfold wrap64; omega
        rw [e, next_eq]
        simp only [Option.bind_some]
        split
        · rfl
        · exact hrec
    · rw [if_neg (by omega), if_neg hi]
theorem place_l0 (s : ByteArray) (hs : s.size ≤ 16384) (off : Int) (d : Nat) : ∀ (i : Nat) (la l c : Int) (k : Nat), s.size < i + d → 0 < i → i ≤ s.size → d ≤ k →
    runes_Place.l0 k s off la l c (i : Int) s = some (if off < (i : Int) then (l, c) else plc s off d i (nxt l c la).1 (nxt l c la).2) := by
  induction d with
  | zero => intro i la l c k h1 h2 h3 _; omega
  | succ d ih =>
    intro i la l c k h1 h0 h2 hk
    obtain ⟨k, rfl⟩ : ∃ m, k = m + 1 := ⟨k - 1, by omega⟩
    simp only [runes_Place.l0, ipn, plc, (dec_run s i).1, (dec_run s i).2]
    by_cases hi : i < s.size
    · have hw := wid_bd s i hi
      rw [if_pos (by omega), if_pos (by omega)]
      by_cases ho : off < (i : Int)
      · rw [if_pos ho, if_pos ho]
      · rw [if_neg ho, if_neg ho, if_pos hi, past_eq]
        simp only [Option.bind_some]
        have e : ((i : Int) + (wid s i : Int)) = ((i + wid s i : Nat) : Int) := by omega
        rw [e, ih (i + wid s i) (run_ s i) _ _ k (by omega) (by omega) (by omega) (by omega)]
    · rw [if_neg (by omega), if_neg hi]
      have hsz : s.size = i := by omega
      have hne : ¬ s.toList = [] := by
        rw [ByteArray.toList_eq]
        intro e
        have := congrArg List.length e
        rw [data_length, List.length_nil] at this; omega
      rw [if_neg hne]
      by_cases ho : off < (i : Int)
      · rw [if_neg (show ¬ off ≥ (s.size : Int) by omega), if_pos ho]
      · rw [if_pos (show off ≥ (s.size : Int) by omega), if_neg ho, past_eq]; rfl
/-- What Place tells. -/
def placeOf (s : ByteArray) (off : Int) : Int × Int := if (s.size : Int) > 16384 then (0, 0) else plc s off (s.size + 1) 0 1 1
theorem rplace_eq (s : ByteArray) (off : Int) (k : Nat) (hk : 2 * s.size + 12 ≤ k) : handloomref02_Place.f k s off = some (placeOf s off) := by
  unfold handloomref02_Place.f placeOf
  by_cases h : (s.size : Int) > 16384
  · rw [if_pos h, if_pos h]
  · rw [if_neg h, if_neg h]
    exact rplace_l0 s (by omega) off (s.size + 1) 0 1 1 k (by omega) (by omega) (by omega)
theorem place_eq (s : ByteArray) (off : Int) (k : Nat) (hk : s.size + 2 ≤ k) : runes_Place.f k s off = some (placeOf s off) := by
  unfold runes_Place.f runes_begun.f placeOf
  by_cases h : (s.size : Int) > 16384
  · rw [if_pos h, if_pos h]
  · rw [if_neg h, if_neg h]
    simp only [Option.bind_some]
    obtain ⟨k, rfl⟩ : ∃ m, k = m + 1 := ⟨k - 1, by omega⟩
    have e0 : ip 0 = 0 := rfl
    simp only [runes_Place.l0, e0, plc, (dec_run s 0).1, (dec_run s 0).2]
    by_cases hi : 0 < s.size
    · have hw := wid_bd s 0 hi
      rw [if_pos (by omega), if_neg (by omega), if_pos hi]
      have e : (((0 : Nat) : Int) + (wid s 0 : Int)) = ((0 + wid s 0 : Nat) : Int) := by omega
      rw [e, place_l0 s (by omega) off s.size (0 + wid s 0) (run_ s 0) 1 1 k (by omega) (by omega) (by omega) (by omega)]
    · rw [if_neg (by omega), if_neg hi]
      have hs0 : s.toList = [] := by
        rw [ByteArray.toList_eq]
        apply List.eq_nil_of_length_eq_zero
        rw [data_length]; omega
      rw [if_pos hs0]
end Go.Proofs.Ytlemgfcopedjhaa.RuneBase
