/-
  Bytes as words: heap.Pack comes to the words of its rows of eight.
-/
import Derived.Test.YtfflojbgikfbmaaHpPkA
namespace Go.Proofs.Ytfflojbgikfbmaa
open Go.Proofs.YtfflojbgikfbmaaW.Ah
set_option linter.unusedVariables false
set_option linter.unusedSimpArgs false
set_option maxRecDepth 8000
attribute [local simp] List.range List.range.loop
attribute [-simp] appendAV fillAV splice

abbrev w6 : Int → List AV := fun x => [.sc (.int .u64 x)]
instance : Enc w6 1 := ⟨fun _ => rfl⟩

/-- One byte more in a word. -/
def orB (w x j : Int) : Int := borI .u64 w (IntKind.u64.wrap (IntKind.u64.wrap x * 2 ^ (min (IntKind.i64.wrap (8 * j)).toNat 64)))
/-- The word, m bytes of it from behind. -/
def wv (xs : List Int) : Nat → Int
  | 0 => 0
  | m + 1 => orB (wv xs m) (xs.getD (xs.length - 1 - m) 0) ((xs.length - 1 - m : Nat) : Int)
def wordOf (xs : List Int) : Int := wv xs xs.length
def ws (xs : List Int) (j : Nat) : List Int := (List.range' 0 j).map fun k => wordOf (ch xs k)
theorem ws_length (xs : List Int) (j : Nat) : (ws xs j).length = j := by simp [ws]
theorem ws_succ (xs : List Int) (j : Nat) : ws xs (j + 1) = ws xs j ++ [wordOf (ch xs j)] := by
  simp [ws, List.range'_concat]

theorem lt_of_get' {α : Type} {xs : List α} {k : Nat} {x : α} (h : xs[k]? = some x) : k < xs.length := (List.getElem?_eq_some_iff.1 h).1

theorem pack_run (xs : List Int) (hx : xs.length ≤ 64) : RunF Try.prog T.T 59 [.ssl (encs by_ xs) xs.length false] (.ssl (encs w6 (ws xs ((xs.length + 7) / 8))) (ws xs ((xs.length + 7) / 8)).length false) := by
  refine RunF.z Try.func59 rfl rfl rfl rfl rfl fun C hr => ?_
  refine evS_sound (f := 99) ?_
  simp [T.t35, T.t39]
  refine ⟨fun h => absurd h (by omega), fun _ => ?_⟩
  refine Stk.callF 99 (chunk_fn xs false) rfl rfl rfl rfl (by simp [freeL, free, freeL_encs fr_by]) (by simp [freeL, free, freeL_encs fr_by]) ?_
  simp
  refine Stk.gen (fun t H n => t 3 = .own 0 0 ∧ t 12 = .fn (.func 143) [] [.sh [.ssl (encs by_ xs) xs.length false], .sh [I 8]] ∧ H = upd (fun _ => none) 0 (some (.cells [.sc (.slice none 0 0)] 39)) ∧ n = 1) ⟨by simp, by simp, rfl, rfl⟩ ?_
  rintro t H n ⟨t3, t12, rfl, rfl⟩
  refine Stk.rangeC t12 fun A B hA hB => ?_
  refine ⟨_, chunk_run (i := 1) (k0 := 30) (t0 := t) (ps := #[13]) (asg := A) (bod := B) xs false (by omega) rfl (by rfl) (fun j H n => 2 ≤ n ∧ H 1 = some (.loop t 30 #[13] A B .ready) ∧ ∃ o c, H 0 = some (.cells [slc o (ws xs j).length c] 39) ∧ OwnC H 40 1 w6 o c (ws xs j) ∧ ∀ i, o = some i → 2 ≤ i ∧ i < n) ?hI ?hround _ _ ?h0, ?fin⟩
  case h0 => exact ⟨Nat.le_refl _, upd_same _ _ _, none, none, by simp [upd], rfl, fun i hi => by cases hi⟩
  case hI => exact fun j H n h => h.2.1
  case fin =>
    rintro v H' n' ⟨m, hm1, hm2, hn2, hl1, o, c, ho, hO, hoi⟩
    refine ⟨⟨_, _, _, _, _, hl1⟩, ?_⟩
    have hm : m = (xs.length + 7) / 8 := by
      rcases Nat.eq_zero_or_pos m with h | h
      · omega
      · have := hm2 (by omega); omega
    subst hm
    refine evS_sound (f := 99) ?_
    simp [t3, T.t39, upd_ne, ho]
    refine (hr _ _ _ (slc o (ws xs ((xs.length + 7) / 8)).length c) o.toList (by simp) (.inr (.inr (view_ownC (ty := 40) (fun x => rfl) ?_ (fun i hi => by simp [hi]))))).1
    exact hO.mono fun i hi => upd_ne _ _ (by have := hoi i hi; omega)
  case hround =>
    rintro j hj H n ⟨hn, hl1, o, c, ho, hO, hoi⟩
    refine Round.walk fun C1 hC1 => ?_
    rw [hA]
    refine evS_sound (f := 99) ?_
    simp [fillT]
    refine hC1 _ _ _ ⟨_, _, _, _, _, hl1, fun C2 hC2 => ?_⟩
    refine Stk.gen (fun t' H' n' => t' 3 = .own 0 0 ∧ t' 4 = .ssl (encs by_ (ch xs j)) (ch xs j).length true ∧ H' = upd H 1 (some (.loop t 30 #[13] A B .busy)) ∧ n' = n) ⟨by simp [t3], by simp, rfl, rfl⟩ ?_
    rintro t' H' n' ⟨t3', t4', hH', rfl⟩
    rw [hB]
    refine evS_sound (f := 9) ?_
    simp [T.t40]
    refine Stk.callF 3 (backward_fn (ch xs j) true) rfl rfl rfl (by simp [t4']) (by simp [freeL, free, freeL_encs fr_by]) (by simp [freeL, free, freeL_encs fr_by]) ?_
    simp
    refine Stk.gen (fun t2 H2 n2 => t2 3 = .own 0 0 ∧ t2 5 = .own n' 0 ∧ t2 15 = .fn (.func 144) [] [.sh [.ssl (encs by_ (ch xs j)) (ch xs j).length true]] ∧ H2 = upd H' n' (some (.cells [.sc (.int .u64 0)] 40)) ∧ n2 = n' + 1) ⟨by simp [t3'], by simp, by simp, rfl, rfl⟩ ?_
    rintro t2 H2 n2 ⟨t3'', t5, t15, hH2, rfl⟩
    have hcl := ch_length xs j
    refine Stk.rangeC t15 fun A2 B2 hA2 hB2 => ?_
    refine ⟨_, backward_run (i := n' + 1) (k0 := 30) (t0 := t2) (ps := #[16, 17]) (asg := A2) (bod := B2) (ch xs j) true (by omega) rfl (by rfl) (fun j2 H3 n3 => n' + 2 ≤ n3 ∧ H3 (n' + 1) = some (.loop t2 30 #[16, 17] A2 B2 .ready) ∧ H3 n' = some (.cells [.sc (.int .u64 (wv (ch xs j) ((ch xs j).length - j2)))] 40) ∧ ∀ q, q < n' → H3 q = H' q) ?hI2 ?hround2 _ _ ?h02, ?fin2⟩
    case h02 =>
      refine ⟨Nat.le_refl _, upd_same _ _ _, ?_, fun q hq => ?_⟩
      · rw [upd_ne _ _ (by omega), hH2, upd_same, Nat.sub_self]; rfl
      · rw [upd_ne _ _ (by omega), hH2, upd_ne _ _ (by omega)]
    case hI2 => exact fun j H n h => h.2.1
    case hround2 =>
      rintro j2 x hx2 H3 n3 ⟨hn3, hl3, hw3, hq3⟩
      refine Round.walk fun C3 hC3 => ?_
      rw [hA2]
      refine evS_sound (f := 99) ?_
      simp [fillT]
      refine hC3 _ _ _ ⟨_, _, _, _, _, hl3, fun C4 hC4 => ?_⟩
      refine Stk.gen (fun t4 H4 n4 => t4 5 = .own n' 0 ∧ t4 6 = I j2 ∧ t4 7 = .sc (.int .u8 x) ∧ H4 = upd H3 (n' + 1) (some (.loop t2 30 #[16, 17] A2 B2 .busy)) ∧ n4 = n3) ⟨by simp [t5], by simp, by simp, rfl, rfl⟩ ?_
      rintro t4 H4 n4 ⟨t45, t46, t47, hH4, rfl⟩
      have hb4 : H4 n' = some (.cells [.sc (.int .u64 (wv (ch xs j) ((ch xs j).length - (j2 + 1))))] 40) := by rw [hH4, upd_ne _ _ (by omega)]; exact hw3
      rw [hB2]
      refine evS_sound (f := 3) ?_
      simp
      refine Stk.regionD 99 [.rd [n'], .rd [], .rd [], .rd [], .rd [], .rd [], .rd [], .mem [n'] n4] none (by kernel_rfl) (by rfl) rfl (by simp [below]; omega) rfl ?_
      have hjl : j2 < (ch xs j).length := lt_of_get' hx2
      have hw8 : IntKind.i64.wrap (8 * (j2 : Int)) = 8 * (j2 : Int) := wrap64_id (by omega) (by omega)
      have hn8 : ¬ (8 * (j2 : Int) < 0) := by omega
      have hn8' : (0 : Int) ≤ 8 * (j2 : Int) := by omega
      simp [t45, t46, t47, hb4, T.t40, T.t5, T.t3, splice, hw8, hn8, hn8']
      refine ⟨fun q _ h1 h2 => absurd h2 h1, ?_⟩
      refine hC4 _ _ _ _ ⟨_, _, _, _, _, by rw [upd_ne _ _ (by omega), hH4, upd_same], rfl, by omega, upd_same _ _ _, ?_, fun q hq => ?_⟩
      · rw [upd_ne _ _ (by omega), upd_same]
        have e1 : (ch xs j).length - j2 = ((ch xs j).length - (j2 + 1)) + 1 := by omega
        have e2 : (ch xs j).length - 1 - ((ch xs j).length - (j2 + 1)) = j2 := by omega
        have e3 : (ch xs j).getD j2 0 = x := by simp [List.getD, hx2]
        rw [e1]
        simp only [wv, orB, e2, e3, hw8]
        simp
        rfl
      · rw [upd_ne _ _ (by omega), upd_ne _ _ (by omega), hH4, upd_ne _ _ (by omega)]
        exact hq3 q hq
    case fin2 =>
      rintro v H3 n3 ⟨hn3, hl3, hw3, hq3⟩
      refine ⟨⟨_, _, _, _, _, hl3⟩, ?_⟩
      refine Stk.gen (fun t4 H4 n4 => t4 3 = .own 0 0 ∧ t4 5 = .own n' 0 ∧ H4 = upd H3 (n' + 1) none ∧ n4 = n3) ⟨by simp [t3''], by simp [t5], rfl, rfl⟩ ?_
      rintro t4 H4 n4 ⟨t43, t45, hH4, rfl⟩
      have hb4 : H4 n' = some (.cells [.sc (.int .u64 (wordOf (ch xs j)))] 40) := by rw [hH4, upd_ne _ _ (by omega), hw3]; rfl
      have hb0 : H4 0 = some (.cells [slc o (ws xs j).length c] 39) := by rw [hH4, upd_ne _ _ (by omega), hq3 0 (by omega), hH', upd_ne _ _ (by omega)]; exact ho
      have hb1 : H4 1 = some (.loop t 30 #[13] A B .busy) := by rw [hH4, upd_ne _ _ (by omega), hq3 1 (by omega), hH', upd_same]
      have hOw : OwnC H4 40 1 w6 o c (ws xs j) := hO.mono fun i hi => by
        have := hoi i hi
        rw [hH4, upd_ne _ _ (by omega), hq3 i (by omega), hH', upd_ne _ _ (by omega)]
      have hwl := ws_length xs j
      obtain ⟨o', c', H9, n9, e9, w9, le9, fr9, kp9⟩ := append_ownC (e := w6) (z := 1) (st := 39) T.t39 rfl T.t40 rfl (by decide) rfl (by decide) (H := upd H4 n4 (some (.cells (encs w6 [wordOf (ch xs j)]) 40))) (n := n4 + 1) (xs := ws xs j) (o := o) (c := c) (hOw.mono fun i hi => upd_ne _ _ (by have := hoi i hi; omega)) (fun i hi => by have := hoi i hi; omega) (y := .osl n4 0 1 (some 1)) [wordOf (ch xs j)] (elems_row (upd_same _ _ _) _) rfl (by have : roomMax = 2 ^ 46 := rfl; simp; omega) (by have : roomMax = 2 ^ 46 := rfl; simp; omega)
      simp only [encs_cons, encs_nil, List.append_nil] at e9 w9 kp9
      refine evS_sound (f := 5) ?_
      simp [t43, t45, hb4, hb0, T.t39, T.t40, fillAV, splice]
      refine Stk.om ((mop_append T.t39 rfl).trans (by simpa [ev] using e9)) rfl rfl (fun t9 ht9 => ?_)
      have h90 : H9 0 = some (.cells [slc o (ws xs j).length c] 39) := by
        rw [kp9 0 (by omega) (fun e => by have := hoi 0 e; omega), upd_ne _ _ (by omega)]; exact hb0
      have h91 : H9 1 = some (.loop t 30 #[13] A B .busy) := by
        rw [kp9 1 (by omega) (fun e => by have := hoi 1 e; omega), upd_ne _ _ (by omega)]; exact hb1
      have t93 : t9 3 = .own 0 0 := by rw [ht9]; simp [putA, upd, t43]
      have t928 : t9 28 = slc o' (ws xs j ++ [wordOf (ch xs j)]).length c' := by rw [ht9]; simp [putA, upd]
      obtain ⟨i', rfl⟩ := ownC_open w9 (k := (ws xs j).length) (by simp)
      clear ht9
      have hwl2 : (ws xs j ++ [wordOf (ch xs j)]).length = (ws xs (j + 1)).length := by rw [ws_succ]
      rw [hwl2] at t928
      rw [← ws_succ] at w9
      simp only [slc_some] at t928
      have hi9 := fr9 i' rfl
      refine evS_sound (f := 5) ?_
      simp [t93, t928, h90, T.t39, splice]
      refine hC2 _ _ _ _ ⟨_, _, _, _, _, by rw [upd_ne _ _ (by omega)]; exact h91, rfl, by omega, upd_same _ _ _, some i', c', ?_, ?_, ?_⟩
      · rw [upd_ne _ _ (by omega), upd_same]
        rfl
      · refine w9.mono fun q hq => ?_
        cases hq
        rw [upd_ne _ _ ?_, upd_ne _ _ ?_]
        · rcases hi9.1 with h | h
          · have := hoi _ h; omega
          · omega
        · rcases hi9.1 with h | h
          · have := hoi _ h; omega
          · omega
      · intro q hq
        cases hq
        rcases hi9.1 with h | h
        · have := hoi _ h; omega
        · omega

theorem pack_big (xs : List Int) (hx : 64 < xs.length) : RunF Try.prog T.T 59 [.ssl (encs by_ xs) xs.length false] (.ssl [] 0 false) := by
  refine RunF.z Try.func59 rfl rfl rfl rfl rfl fun C hr => ?_
  refine evS_sound (f := 99) ?_
  simp [T.t35, T.t39]
  exact ⟨fun _ => (hr _ _ _ (.sc (.slice none 0 0)) [] (by simp) (.inr (.inr .nilS))).1, fun h => absurd h (by omega)⟩

/-- Bytes as words. -/
def packL (xs : List Int) : List Int := if 64 < xs.length then [] else ws xs ((xs.length + 7) / 8)
theorem packL_ok (xs : List Int) : RunF Try.prog T.T 59 [.ssl (encs by_ xs) xs.length false] (.ssl (encs w6 (packL xs)) (packL xs).length false) := by
  unfold packL
  split
  · exact pack_big xs ‹_›
  · exact pack_run xs (by omega)

end Go.Proofs.Ytfflojbgikfbmaa
