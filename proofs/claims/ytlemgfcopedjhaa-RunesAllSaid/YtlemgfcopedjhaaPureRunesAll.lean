/- The encodings of a text's runes in a row are the text, and places go on; encodings of runes in a row have as many runes as could be encoded: for short texts and rows. -/
import Derived.Test.YtlemgfcopedjhaaPRunesx8
import Derived.Test.YtlemgfcopedjhaaRuneLaw
namespace Go.Proofs.Ytlemgfcopedjhaa.Pure
open Go.RowKit Go.Proofs.Ytlemgfcopedjhaa.PRunes Go.Proofs.YtlemgfcopedjhaaW.PrintWords Go.Proofs.YtlemgfcopedjhaaW.PrintLast Go.Proofs.Ytlemgfcopedjhaa.RunePlain Go.Proofs.Ytlemgfcopedjhaa.RuneBase Go.Proofs.Ytlemgfcopedjhaa.RuneLaw
theorem w64n (n : Nat) (h : n < 1000000) : wrap64 ((n : Int) + 1) = ((n + 1 : Nat) : Int) := by unfold wrap64; omega
theorem w64i (l : Int) (h0 : 0 ≤ l) (h : l < 1000000) : wrap64 (l + 1) = l + 1 := by unfold wrap64; omega
theorem w64m (n : Nat) (h : n < 1000000) : wrap64 ((n : Int) - 1) = (n : Int) - 1 := by unfold wrap64; omega
theorem sz_ok (T : ByteArray) (l : List Int) (h1 : T.size ≤ 1000000) (h2 : l.length ≤ 4) : T.size + (strOfNums l).size ≤ 9223372036854775807 := by rw [strOfNums_size]; omega
theorem nums_app (a b : List Int) : strOfNums a ++ strOfNums b = strOfNums (a ++ b) := by
  apply ByteArray.ext
  simp [strOfNums, ByteArray.data_append]
/-- A rune's bytes are just those that stand at its place. -/
theorem one_back (s : ByteArray) (i : Nat) (r n : Nat) (h : one s i = some (r, n)) : okR (r : Int) ∧ enc (r : Int) = (List.range n).map (fun j => (by_ s (i + j) : Int)) := by
  have b0 := by_lt s i
  have b1 := by_lt s (i + 1)
  have b2 := by_lt s (i + 2)
  have b3 := by_lt s (i + 3)
  unfold one at h
  split at h
  · simp only [Option.some.injEq, Prod.mk.injEq] at h
    obtain ⟨h1, h2⟩ := h
    subst h2
    have ok : okR (r : Int) := by unfold okR; omega
    refine ⟨ok, ?_⟩
    unfold enc
    rw [if_pos (show 0 ≤ (r : Int) ∧ ((r : Int) < 55296 ∨ (57344 ≤ (r : Int) ∧ (r : Int) ≤ 1114111)) from ok), if_pos (by omega)]
    show [(r : Int)] = [((by_ s (i + 0) : Nat) : Int)]
    rw [Nat.add_zero, h1]
  split at h
  · rename_i c
    obtain ⟨a1, a2, a3, a4, a5⟩ := c
    simp only at h
    split at h
    · simp only [Option.some.injEq, Prod.mk.injEq] at h
      obtain ⟨h1, h2⟩ := h
      subst h2
      have ok : okR (r : Int) := by unfold okR; omega
      refine ⟨ok, ?_⟩
      unfold enc
      rw [if_pos (show 0 ≤ (r : Int) ∧ ((r : Int) < 55296 ∨ (57344 ≤ (r : Int) ∧ (r : Int) ≤ 1114111)) from ok), if_neg (by omega), if_pos (by omega)]
      show [_, _] = [((by_ s (i + 0) : Nat) : Int), ((by_ s (i + 1) : Nat) : Int)]
      rw [Nat.add_zero]
      simp only [List.cons.injEq, and_true]
      omega
    · cases h
  split at h
  · rename_i c
    obtain ⟨a1, a2, ⟨a3, a4, a5⟩, ⟨a6, a7, a8⟩⟩ := c
    simp only at h
    split at h
    · rename_i hs
      simp only [Option.some.injEq, Prod.mk.injEq] at h
      obtain ⟨h1, h2⟩ := h
      subst h2
      have hs2 := hs.2
      unfold scal at hs2
      have ok : okR (r : Int) := by unfold okR; omega
      refine ⟨ok, ?_⟩
      unfold enc
      rw [if_pos (show 0 ≤ (r : Int) ∧ ((r : Int) < 55296 ∨ (57344 ≤ (r : Int) ∧ (r : Int) ≤ 1114111)) from ok), if_neg (by omega), if_neg (by omega), if_pos (by omega)]
      show [_, _, _] = [((by_ s (i + 0) : Nat) : Int), ((by_ s (i + 1) : Nat) : Int), ((by_ s (i + 2) : Nat) : Int)]
      rw [Nat.add_zero]
      simp only [List.cons.injEq, and_true]
      omega
    · cases h
  split at h
  · rename_i c
    obtain ⟨a1, a2, ⟨a3, a4, a5⟩, ⟨a6, a7, a8⟩, ⟨a9, a10, a11⟩⟩ := c
    simp only at h
    split at h
    · rename_i hs
      simp only [Option.some.injEq, Prod.mk.injEq] at h
      obtain ⟨h1, h2⟩ := h
      subst h2
      have hs2 := hs.2
      unfold scal at hs2
      have ok : okR (r : Int) := by unfold okR; omega
      refine ⟨ok, ?_⟩
      unfold enc
      rw [if_pos (show 0 ≤ (r : Int) ∧ ((r : Int) < 55296 ∨ (57344 ≤ (r : Int) ∧ (r : Int) ≤ 1114111)) from ok), if_neg (by omega), if_neg (by omega), if_neg (by omega)]
      show [_, _, _, _] = [((by_ s (i + 0) : Nat) : Int), ((by_ s (i + 1) : Nat) : Int), ((by_ s (i + 2) : Nat) : Int), ((by_ s (i + 3) : Nat) : Int)]
      rw [Nat.add_zero]
      simp only [List.cons.injEq, and_true]
      omega
    · cases h
  · cases h
/-- One place before another. -/
def Ahead (l c l2 c2 : Int) : Prop := l < l2 ∨ (l = l2 ∧ c < c2)
theorem ahead_eq (l c l2 c2 : Int) (h : Ahead l c l2 c2) : handloomlaw02_ahead.f l c l2 c2 = some true := by
  unfold handloomlaw02_ahead.f
  unfold Ahead at h
  by_cases h1 : l < l2
  · rw [if_pos h1]
  · rw [if_neg h1, if_pos (by omega), decide_eq_true (by omega)]
/-- What holds of the runes told up to a byte. -/
structure Good (s : ByteArray) (i : Nat) (l c : Int) (out : List S39) : Prop where
  text : (out.map fun x => enc x.f0).flatten = (List.range i).map (fun j => (by_ s j : Int))
  each : ∀ x ∈ out, okR x.f0 ∧ placeOf s x.f1 = (x.f2.f0, x.f2.f1)
  rise : ∀ j, j + 1 < out.length → Ahead (rd_T39 out j).f2.f0 (rd_T39 out j).f2.f1 (rd_T39 out ((j : Int) + 1)).f2.f0 (rd_T39 out ((j : Int) + 1)).f2.f1
  last : ∀ j, j + 1 = out.length → Ahead (rd_T39 out j).f2.f0 (rd_T39 out j).f2.f1 l c
  l1 : 1 ≤ l ∧ l ≤ i + 1
  c1 : 1 ≤ c ∧ c ≤ i + 1
theorem rd_app1 (out : List S39) (x : S39) (j : Nat) (h : j < out.length) : rd_T39 (out ++ [x]) (j : Int) = rd_T39 out (j : Int) := by
  unfold rd_T39
  simp only [Int.toNat_natCast, List.getD]
  rw [List.getElem?_append_left h]
theorem rd_app2 (out : List S39) (x : S39) (j : Nat) (h : j = out.length) : rd_T39 (out ++ [x]) (j : Int) = x := by
  subst h
  unfold rd_T39
  simp [List.getD]
theorem spl_good (s : ByteArray) (hs : s.size ≤ 16384) (d : Nat) : ∀ (i : Nat) (l c : Int) (out : List S39), s.size < i + d → i ≤ s.size → Good s i l c out → (∀ off : Int, (i : Int) ≤ off → placeOf s off = plc s off d i l c) → ∀ L e, spl s d i l c out = (L, 0, e) → ∃ l' c', Good s s.size l' c' L := by
  induction d with
  | zero => intro i l c out h1 h2; omega
  | succ d ih =>
    intro i l c out h1 h2 hg hp L e he
    simp only [spl] at he
    by_cases hi : i < s.size
    · rw [if_pos hi] at he
      cases ho : one s i with
      | none => rw [ho] at he; simp at he
      | some rn =>
        obtain ⟨r, n⟩ := rn
        rw [ho] at he
        simp only at he
        have hb := one_bd s i hi ho
        obtain ⟨ok, hen⟩ := one_back s i r n ho
        have hw : wid s i = n := by unfold wid; rw [ho]
        have hr : run_ s i = (r : Int) := by unfold run_; rw [ho]
        have hl1 := hg.l1
        have hc1 := hg.c1
        have hah : Ahead l c (nxt l c (r : Int)).1 (nxt l c (r : Int)).2 ∧ 1 ≤ (nxt l c (r : Int)).1 ∧ (nxt l c (r : Int)).1 ≤ i + 2 ∧ 1 ≤ (nxt l c (r : Int)).2 ∧ (nxt l c (r : Int)).2 ≤ i + 2 := by
          unfold nxt Ahead
          have e1 : wrap64 (l + 1) = l + 1 := w64i l (by omega) (by omega)
          have e2 : wrap64 (c + 1) = c + 1 := w64i c (by omega) (by omega)
          rw [e1, e2]
          by_cases h10 : (r : Int) = 10
          · rw [if_pos h10]
            exact ⟨Or.inl (show l < l + 1 by omega), show (1 : Int) ≤ l + 1 by omega, show l + 1 ≤ (i : Int) + 2 by omega, show (1 : Int) ≤ 1 by omega, show (1 : Int) ≤ (i : Int) + 2 by omega⟩
          · rw [if_neg h10]
            exact ⟨Or.inr ⟨rfl, show c < c + 1 by omega⟩, show (1 : Int) ≤ l by omega, show l ≤ (i : Int) + 2 by omega, show (1 : Int) ≤ c + 1 by omega, show c + 1 ≤ (i : Int) + 2 by omega⟩
        obtain ⟨hah, q1, q2, q3, q4⟩ := hah
        refine ih (i + n) _ _ _ (by omega) (by omega) ?_ ?_ L e he
        · refine ⟨?_, ?_, ?_, ?_, ⟨q1, by omega⟩, ⟨q3, by omega⟩⟩
          · rw [List.map_append, List.flatten_append, hg.text, List.range_add, List.map_append]
            rw [List.map_map, show ([⟨(r : Int), (i : Int), ⟨l, c⟩⟩] : List S39).map (fun x => enc x.f0) = [enc (r : Int)] from rfl, List.flatten_singleton, hen]
            rfl
          · intro x hx
            rw [List.mem_append] at hx
            rcases hx with hx | hx
            · exact hg.each x hx
            · rw [List.mem_singleton] at hx
              subst hx
              refine ⟨ok, ?_⟩
              simp only
              rw [hp _ (by omega)]
              simp only [plc]
              rw [if_pos hi, hw, if_pos (by omega)]
          · intro j hj
            simp only [List.length_append, List.length_cons, List.length_nil] at hj
            by_cases h : j + 1 < out.length
            · have := hg.rise j h
              rw [rd_app1 _ _ _ (by omega), show ((j : Int) + 1) = ((j + 1 : Nat) : Int) by omega, rd_app1 _ _ _ h]
              rw [show ((j : Int) + 1) = ((j + 1 : Nat) : Int) by omega] at this
              exact this
            · have := hg.last j (by omega)
              rw [rd_app1 _ _ _ (by omega), show ((j : Int) + 1) = ((j + 1 : Nat) : Int) by omega, rd_app2 _ _ _ (by omega)]
              exact this
          · intro j hj
            simp only [List.length_append, List.length_cons, List.length_nil] at hj
            rw [rd_app2 _ _ _ (by omega)]
            exact hah
        · intro off hoff
          rw [hp off (by omega)]
          simp only [plc]
          rw [if_pos hi, hw, hr, if_neg (by omega)]
    · rw [if_neg hi] at he
      simp only [Prod.mk.injEq] at he
      obtain ⟨rfl, _⟩ := he
      have : i = s.size := by omega
      subst this
      exact ⟨l, c, hg⟩
theorem split_good (s : ByteArray) (hs : s.size ≤ 16384) (h : (splitOf s).2.1 = 0) : ∃ l c, Good s s.size l c (splitOf s).1 := by
  unfold splitOf at h ⊢
  rw [if_neg (by omega)] at h ⊢
  refine spl_good s hs (s.size + 1) 0 1 1 [] (by omega) (by omega) ⟨by simp, by simp, by intro j hj; simp at hj, by intro j hj; simp at hj, by omega, by omega⟩ (fun off _ => by unfold placeOf; rw [if_neg (by omega)]) _ _ (Prod.ext rfl (Prod.ext h rfl))
theorem nums_by (s : ByteArray) : strOfNums ((List.range s.size).map fun j => (by_ s j : Int)) = s := by
  apply ByteArray.ext
  apply Array.toList_inj.1
  rw [strOfNums_data]
  apply List.ext_getElem?
  intro j
  by_cases hj : j < s.size
  · obtain ⟨b, hb, hb'⟩ := by_list s j hj
    rw [hb]
    simp only [List.getElem?_map, List.getElem?_range hj, Option.map_some, ← hb', Int.toNat_natCast, UInt8.ofNat_toNat]
  · rw [List.getElem?_eq_none (by simp; omega), List.getElem?_eq_none]
    show s.size ≤ j
    omega
theorem flat_len (L : List Int) : ((L.map enc).flatten).length ≤ 4 * L.length := by
  induction L with
  | nil => simp
  | cons c L ih => have := enc_len c; simp only [List.map_cons, List.flatten_cons, List.length_append, List.length_cons]; omega
theorem flat_bytes (L : List Int) : ∀ x ∈ (L.map enc).flatten, 0 ≤ x ∧ x ≤ 255 := by
  intro x hx
  rw [List.mem_flatten] at hx
  obtain ⟨l, hl, hx⟩ := hx
  rw [List.mem_map] at hl
  obtain ⟨c, _, rfl⟩ := hl
  exact enc_bytes c x hx
/-- Encodings of runes in a row have as many runes. -/
theorem spl_row (cs : List Int) : ∀ (d : Nat) (pre : List Int) (s : ByteArray) (l c : Int) (out : List S39), (∀ x ∈ pre, 0 ≤ x ∧ x ≤ 255) → (∀ x ∈ cs, okR x) → s = strOfNums (pre ++ (cs.map enc).flatten) → s.size < pre.length + d → ∃ L, spl s d pre.length l c out = (L, 0, 0, 0) ∧ L.length = out.length + cs.length := by
  induction cs with
  | nil =>
    intro d pre s l c out hp hc hs hd
    have hsz : s.size = pre.length := by rw [hs, strOfNums_size]; simp
    obtain ⟨d, rfl⟩ : ∃ e, d = e + 1 := ⟨d - 1, by omega⟩
    simp only [spl]
    rw [if_neg (by omega)]
    exact ⟨out, rfl, rfl⟩
  | cons c0 cs ih =>
    intro d pre s l c out hp hc hs hd
    have ok := hc c0 (List.mem_cons_self ..)
    have ep := enc_pos c0 ok
    have hb : ∀ x ∈ pre ++ ((c0 :: cs).map enc).flatten, 0 ≤ x ∧ x ≤ 255 := by
      intro x hx
      rw [List.mem_append] at hx
      rcases hx with hx | hx
      · exact hp x hx
      · exact flat_bytes _ x hx
    have hsz : s.size = pre.length + ((enc c0).length + ((cs.map enc).flatten).length) := by rw [hs, strOfNums_size]; simp
    obtain ⟨d, rfl⟩ : ∃ e, d = e + 1 := ⟨d - 1, by omega⟩
    have ho := one_enc s pre.length c0 ok (by omega) (fun j x hj => by
      rw [hs]
      refine by_nums _ hb _ _ ?_
      have hj2 : j < (enc c0).length := (List.getElem?_eq_some_iff.1 hj).1
      rw [List.getElem?_append_right (by omega), Nat.add_sub_cancel_left, List.map_cons, List.flatten_cons, List.getElem?_append_left hj2]
      exact hj)
    simp only [spl]
    rw [if_pos (by omega), ho]
    simp only
    have := ih d (pre ++ enc c0) s (nxt l c (c0.toNat : Int)).1 (nxt l c (c0.toNat : Int)).2 (out ++ [⟨(c0.toNat : Int), (pre.length : Int), ⟨l, c⟩⟩]) (by
      intro x hx
      rw [List.mem_append] at hx
      rcases hx with hx | hx
      · exact hp x hx
      · exact enc_bytes c0 x hx) (fun x hx => hc x (List.mem_cons_of_mem _ hx)) (by rw [hs]; simp) (by rw [List.length_append]; omega)
    rw [List.length_append] at this
    obtain ⟨L, h1, h2⟩ := this
    refine ⟨L, h1, ?_⟩
    rw [h2]; simp only [List.length_append, List.length_cons, List.length_nil]; omega
theorem split_row (cs : List Int) (hc : ∀ x ∈ cs, okR x) (hl : cs.length ≤ 1000) : ∃ L, splitOf (strOfNums (cs.map enc).flatten) = (L, 0, 0, 0) ∧ L.length = cs.length := by
  have := flat_len cs
  unfold splitOf
  rw [strOfNums_size, if_neg (by omega)]
  have := spl_row cs ((cs.map enc).flatten.length + 1) [] (strOfNums (cs.map enc).flatten) 1 1 [] (by simp) hc (by simp) (by rw [strOfNums_size]; simp)
  obtain ⟨L, h1, h2⟩ := this
  exact ⟨L, h1, by simpa using h2⟩
theorem l1_eq (l : List Int) (hl : ∀ x ∈ l, -2147483648 ≤ x ∧ x ≤ 2147483647) (hL : l.length ≤ 200) (d : Nat) : ∀ (j : Nat) (cs : List Int) (k : Nat), l.length ≤ j + d → (∀ x ∈ cs, okR x) → cs.length ≤ j → j ≤ l.length → d + 5000 ≤ k → handloomlaw02_RunesAll.l1 k (strOfNums (cs.map enc).flatten) (cs.length : Int) l (l.length : Int) (j : Int) = some true := by
  have fin : ∀ (j : Nat) (cs : List Int) (k : Nat), j = l.length → (∀ x ∈ cs, okR x) → cs.length ≤ j → 5000 ≤ k → handloomlaw02_RunesAll.l1 k (strOfNums (cs.map enc).flatten) (cs.length : Int) l (l.length : Int) (j : Int) = some true := by
    intro j cs k hj hc h1 hk
    obtain ⟨k, rfl⟩ : ∃ m, k = m + 1 := ⟨k - 1, by omega⟩
    have hf := flat_len cs
    obtain ⟨L, hs, hn⟩ := split_row cs hc (by omega)
    simp only [handloomlaw02_RunesAll.l1]
    rw [if_neg (by omega), split_eq _ k (by rw [strOfNums_size]; omega), hs]
    simp only [Option.bind_some]
    rw [if_pos (by decide), if_pos (by omega), awake_eq k (by omega)]
    rfl
  induction d with
  | zero => intro j cs k h1 hc h2 h3 hk; exact fin j cs k (by omega) hc h2 (by omega)
  | succ d ih =>
    intro j cs k h1 hc h2 h3 hk
    by_cases hj : j < l.length
    · obtain ⟨k, rfl⟩ : ∃ m, k = m + 2 := ⟨k - 2, by omega⟩
      have hf := flat_len cs
      have g1 : (j : Int) < (l.length : Int) := by omega
      have g0 : (0 : Int) ≤ (j : Int) := by omega
      have e1 := w64n j (by omega)
      have e2 := w64n cs.length (by omega)
      have hT : (strOfNums (List.map enc cs).flatten).size ≤ 1000000 := by rw [strOfNums_size]; omega
      have n1 : l.length ≤ j + 1 + d := by omega
      have n2 : d + 5000 ≤ k + 1 := by omega
      have n3 : cs.length + 1 ≤ j + 1 := by omega
      have n4 : cs.length ≤ j + 1 := by omega
      have ih1 := fun cs' a b => ih (j + 1) cs' (k + 1) n1 a b hj n2
      clear ih n1 n2 hk h1 hf
      have hx : rd l (j : Int) = l[j] := by unfold rd; simp [List.getD, hj]
      have hb := hl _ (List.getElem_mem hj)
      generalize l[j] = x at hx hb
      have hz := enc_len x
      show handloomlaw02_RunesAll.l1 (k + 1 + 1) _ _ _ _ _ = _
      have hput := put_eq k x hb.1 hb.2
      generalize k + 1 = K at hput ih1 ⊢
      simp only [handloomlaw02_RunesAll.l1]
      rw [if_pos g1, if_pos g0, if_pos g1, hx, hput]
      simp only [Option.bind_some]
      have hz2 := sz_ok (strOfNums (List.map enc cs).flatten) (enc x) hT hz
      simp only [if_pos hz2, e1, e2]
      by_cases ok : okR x
      · have hp : ((enc x).length : Int) > 0 := by have := enc_pos x ok; omega
        rw [if_pos hp, nums_app]
        have h := ih1 (cs ++ [x]) (by
          intro y hy
          rw [List.mem_append] at hy
          rcases hy with hy | hy
          · exact hc y hy
          · rw [List.mem_singleton] at hy; subst hy; exact ok) (by rw [List.length_append]; exact n3)
        rw [show (List.map enc (cs ++ [x])).flatten = (List.map enc cs).flatten ++ enc x by simp, show (cs ++ [x]).length = cs.length + 1 by simp] at h
        exact h
      · rw [enc_none _ ok, if_neg (by simp), nums_app, List.append_nil]
        exact ih1 cs hc n4
    · exact fin j cs k (by omega) hc h2 (by omega)
theorem l0_eq (s : ByteArray) (hs : s.size ≤ 1000) (l : List Int) (L : List S39) (hL : L.length ≤ 16384) (lz cz : Int) (hg : Good s s.size lz cz L) (hl : ∀ x ∈ l, -2147483648 ≤ x ∧ x ≤ 2147483647) (hl2 : l.length ≤ 200) (d : Nat) : ∀ (j k : Nat), L.length ≤ j + d → j ≤ L.length → 2 * d + 9000 ≤ k →
    handloomlaw02_RunesAll.l0 k s l L (strOfNums (((L.take j).map fun x => x.f0).map enc).flatten) L (L.length : Int) (j : Int) = some true := by
  have fin : ∀ (j k : Nat), j = L.length → 9000 ≤ k → handloomlaw02_RunesAll.l0 k s l L (strOfNums (((L.take j).map fun x => x.f0).map enc).flatten) L (L.length : Int) (j : Int) = some true := by
    intro j k hj hk
    obtain ⟨k, rfl⟩ : ∃ m, k = m + 2 := ⟨k - 2, by omega⟩
    have ht : strOfNums (((L.take j).map fun x => x.f0).map enc).flatten = s := by
      rw [List.take_of_length_le (by omega), List.map_map]
      have := hg.text
      rw [show (enc ∘ fun x : S39 => x.f0) = fun x : S39 => enc x.f0 from rfl, this, nums_by]
    rw [ht]
    simp only [handloomlaw02_RunesAll.l0]
    rw [if_neg (by omega), if_pos trivial]
    simp only [handloomlaw02_RunesAll.j3]
    exact l1_eq l hl hl2 l.length 0 [] k (by omega) (by simp) (by simp) (by omega) (by omega)
  induction d with
  | zero => intro j k h1 h2 hk; exact fin j k (by omega) (by omega)
  | succ d ih =>
    intro j k h1 h2 hk
    by_cases hj : j < L.length
    · obtain ⟨k, rfl⟩ : ∃ m, k = m + 2 := ⟨k - 2, by omega⟩
      have g1 : (j : Int) < (L.length : Int) := by omega
      have g0 : (0 : Int) ≤ (j : Int) := by omega
      have e1 := w64n j (by omega)
      have e2 := w64m j (by omega)
      have hnext := ih (j + 1) k (by omega) (by omega) (by omega)
      have n1 : s.size + 2 ≤ k + 1 := by omega
      have hr : (j : Int) > 0 → (0 : Int) ≤ (j : Int) - 1 ∧ (j : Int) - 1 < (L.length : Int) ∧ Ahead (rd_T39 L ((j : Int) - 1)).f2.f0 (rd_T39 L ((j : Int) - 1)).f2.f1 (rd_T39 L (j : Int)).f2.f0 (rd_T39 L (j : Int)).f2.f1 := by
        intro h0
        have hr := hg.rise (j - 1) (by omega)
        have a1 : ((j - 1 : Nat) : Int) = (j : Int) - 1 := by omega
        have a2 : (j : Int) - 1 + 1 = (j : Int) := by omega
        rw [a1, a2] at hr
        exact ⟨by omega, by omega, hr⟩
      have hf := flat_len ((L.take j).map fun x => x.f0)
      rw [List.length_map, List.length_take] at hf
      have hT2 : (strOfNums (List.map enc (List.map (fun x => x.f0) (List.take j L))).flatten).size ≤ 1000000 := by rw [strOfNums_size]; omega
      clear hf
      obtain ⟨ok, hpl⟩ := hg.each _ (List.getElem_mem hj)
      have hx : rd_T39 L (j : Int) = L[j] := by unfold rd_T39; simp [List.getD, hj]
      have htk : L.take (j + 1) = L.take j ++ [L[j]] := by rw [List.take_add_one]; simp [hj]
      rw [htk, List.map_append, List.map_append, List.flatten_append] at hnext
      rw [hx] at hr
      generalize L[j] = x at hx htk hnext ok hpl hr
      clear htk
      have hz := enc_len x.f0
      have hok : -2147483648 ≤ x.f0 ∧ x.f0 ≤ 2147483647 := by unfold okR at ok; omega
      have hput := put_eq k x.f0 hok.1 hok.2
      have hpc := place_eq s x.f1 (k + 1) n1
      rw [hpl] at hpc
      simp only [List.map_cons, List.map_nil, List.flatten_cons, List.flatten_nil, List.append_nil] at hnext
      rw [← nums_app] at hnext
      generalize strOfNums (List.map enc (List.map (fun x => x.f0) (List.take j L))).flatten = T at hnext hT2 ⊢
      have jn : handloomlaw02_RunesAll.j2 (k + 1) s l L (T ++ strOfNums (enc x.f0)) L (L.length : Int) (j : Int) false = some true := by
        simp only [handloomlaw02_RunesAll.j2]
        rw [if_neg (by decide), e1]
        exact hnext
      have hz2 := sz_ok T (enc x.f0) hT2 hz
      show handloomlaw02_RunesAll.l0 (k + 1 + 1) _ _ _ _ _ _ _ = _
      generalize k + 1 = K at hput hpc jn ⊢
      clear hnext ih hg
      simp only [handloomlaw02_RunesAll.l0]
      rw [if_pos g1, if_pos g0, if_pos g1, hx, hput]
      simp only [Option.bind_some, if_pos hz2, e2, hpc, beq_self_eq_true, Bool.not_true, Bool.or_self]
      by_cases h0 : (j : Int) > 0
      · obtain ⟨q1, q2, hr⟩ := hr h0
        rw [if_pos h0, if_pos q1, if_pos q2, ahead_eq _ _ _ _ hr]
        simp only [Option.bind_some]
        rw [if_pos trivial, jn]
        split <;> rfl
      · rw [if_neg h0, jn]
        split <;> rfl
    · exact fin j k (by omega) (by omega)
theorem RunesAll : handloomlaw02_RunesAll.Pure := by
  intro s l _ _ _ hw
  have hl : ∀ x ∈ l, -2147483648 ≤ x ∧ x ≤ 2147483647 := fun x hx => i32b (hw x hx)
  refine ⟨60000 + 2, ?_⟩
  generalize hK : (60000 : Nat) = K
  unfold handloomlaw02_RunesAll.f
  have big : handloomlaw02_RunesAll.j0 (K + 2) s l true = some true := by
    simp only [handloomlaw02_RunesAll.j0]
    rw [if_pos trivial, awake_eq _ (by omega)]; rfl
  by_cases h1 : (s.size : Int) > 1000
  · rw [if_pos h1]; exact big
  rw [if_neg h1]
  by_cases h2 : (l.length : Int) > 200
  · rw [decide_eq_true h2]; exact big
  rw [decide_eq_false h2]
  simp only [handloomlaw02_RunesAll.j0]
  rw [if_neg (by decide), split_eq s (K + 1) (by omega)]
  simp only [Option.bind_some]
  by_cases h : (splitOf s).2.1 = 0
  · rw [if_pos h]
    obtain ⟨lz, cz, hg⟩ := split_good s (by omega) h
    have hlen := split_len s
    have := l0_eq s (by omega) l _ hlen lz cz hg hl (by omega) (splitOf s).1.length 0 (K + 1) (by omega) (by omega) (by omega)
    exact this
  · rw [if_neg h]
    simp only [handloomlaw02_RunesAll.j3]
    exact l1_eq l hl (by omega) l.length 0 [] K (by omega) (by simp) (by simp) (by omega) (by omega)

end Go.Proofs.Ytlemgfcopedjhaa.Pure
