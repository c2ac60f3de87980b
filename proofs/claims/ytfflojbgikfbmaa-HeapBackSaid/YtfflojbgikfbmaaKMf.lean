import Derived.Test.YtfflojbgikfbmaaHpPkB
import Derived.Test.YtfflojbgikfbmaaKMd
import Derived.Test.YtfflojbgikfbmaaKMe
/-
  Bytes as words, and back.
-/
namespace Go.Proofs.Ytfflojbgikfbmaa.Hea
open Go.Proofs.YtfflojbgikfbmaaW.Ah Go.Proofs.Ytfflojbgikfbmaa
set_option linter.unusedVariables false
set_option linter.unusedSimpArgs false

theorem wrap_ok {x : Int} (h1 : -9223372036854775808 ≤ x) (h2 : x ≤ 9223372036854775807) : IntKind.i64.wrap x = x := wrap64_id h1 (by omega)
theorem wrapU_ok {x : Int} (h1 : 0 ≤ x) (h2 : x ≤ 18446744073709551615) : IntKind.u64.wrap x = x := wrapu64_id h1 (by omega)
/-! Bytes as words. -/
/-- A row of bytes, as a number. -/
def num : List Int → Nat
  | [] => 0
  | x :: xs => x.toNat + 256 * num xs
theorem num_snoc (x : Int) : ∀ xs : List Int, num (xs ++ [x]) = num xs + 256 ^ xs.length * x.toNat
  | [] => by simp [num]
  | y :: ys => by
    rw [List.cons_append, num, num, num_snoc x ys, List.length_cons, Nat.pow_succ, Nat.mul_add]
    rw [show 256 ^ ys.length * 256 * x.toNat = 256 * (256 ^ ys.length * x.toNat) by rw [Nat.mul_comm (256 ^ ys.length), Nat.mul_assoc]]
    omega
theorem num_lt : ∀ xs : List Int, (∀ x ∈ xs, 0 ≤ x ∧ x ≤ 255) → num xs < 256 ^ xs.length
  | [], _ => by simp [num]
  | y :: ys, h => by
    have := num_lt ys fun x hx => h x (.tail _ hx)
    have := h y (.head _)
    rw [num, List.length_cons, Nat.pow_succ]
    omega
theorem bor_add (k a b : Nat) (hb : b < 2 ^ k) (hs : 2 ^ k * a + b < 2 ^ 64) : borI .u64 ((2 ^ k * a : Nat) : Int) (b : Int) = ((2 ^ k * a + b : Nat) : Int) := by
  have h64 : (2 : Nat) ^ 64 = 18446744073709551616 := by decide
  have e : (BitVec.ofInt 64 ((2 ^ k * a : Nat) : Int) ||| BitVec.ofInt 64 (b : Int)).toNat = 2 ^ k * a + b := by
    rw [BitVec.toNat_or]
    have e1 : (BitVec.ofInt 64 ((2 ^ k * a : Nat) : Int)).toNat = 2 ^ k * a := by
      rw [BitVec.toNat_ofInt]; omega
    have e2 : (BitVec.ofInt 64 (b : Int)).toNat = b := by
      rw [BitVec.toNat_ofInt]; omega
    rw [e1, e2, Nat.two_pow_add_eq_or_of_lt hb]
  show IntKind.u64.wrap (((BitVec.ofInt 64 ((2 ^ k * a : Nat) : Int) ||| BitVec.ofInt 64 (b : Int)).toNat : Nat) : Int) = _
  rw [e, wrapU_ok (by omega) (by omega)]
theorem pow256 (j : Nat) : (2 : Nat) ^ (8 * j) = 256 ^ j := by rw [Nat.pow_mul]
theorem byte_at {j : Nat} {x : Int} (h0 : 0 ≤ x) (h1 : x ≤ 255) (hj : j ≤ 7) : IntKind.u64.wrap (IntKind.u64.wrap x * 2 ^ (min (8 * j) 64)) = ((256 ^ j * x.toNat : Nat) : Int) ∧ 256 ^ j * x.toNat < 256 ^ (j + 1) := by
  have hP : 256 ^ j * 256 ^ (7 - j) = 256 ^ 7 := by rw [← Nat.pow_add]; congr 1; omega
  have hpos : 0 < 256 ^ j := Nat.pow_pos (by omega)
  have hpos2 : 0 < 256 ^ (7 - j) := Nat.pow_pos (by omega)
  have hlt : 256 ^ j * x.toNat < 256 ^ (j + 1) := by
    rw [Nat.pow_succ]
    exact Nat.mul_lt_mul_of_pos_left (by omega) hpos
  have hle : 256 ^ (j + 1) ≤ 256 ^ 8 := Nat.pow_le_pow_right (by omega) (by omega)
  have h8 : (256 : Nat) ^ 8 = 18446744073709551616 := by decide
  have e2 : ((2 : Int) ^ (min (8 * j) 64)) = ((256 ^ j : Nat) : Int) := by
    rw [Nat.min_eq_left (by omega), ← pow256]; simp
  have ex : x * ((256 ^ j : Nat) : Int) = ((256 ^ j * x.toNat : Nat) : Int) := by
    rw [Nat.mul_comm]
    have : x = (x.toNat : Int) := by omega
    rw [Int.natCast_mul, ← this]
  refine ⟨?_, hlt⟩
  rw [wrapU_ok (x := x) (by omega) (by omega), e2, ex]
  exact wrapU_ok (by omega) (by omega)
theorem orB_ok {q j : Nat} {x : Int} (h0 : 0 ≤ x) (h1 : x ≤ 255) (hj : j ≤ 7) (hq : q < 256 ^ (7 - j)) : orB ((256 ^ (j + 1) * q : Nat) : Int) x (j : Int) = ((256 ^ j * (x.toNat + 256 * q) : Nat) : Int) := by
  obtain ⟨b1, b2⟩ := byte_at h0 h1 hj
  have hP : 256 ^ (j + 1) * 256 ^ (7 - j) = 256 ^ 8 := by rw [← Nat.pow_add]; congr 1; omega
  have hb : 256 ^ (j + 1) * (q + 1) ≤ 256 ^ (j + 1) * 256 ^ (7 - j) := Nat.mul_le_mul_left _ hq
  have h8 : (256 : Nat) ^ 8 = 2 ^ 64 := by decide
  rw [hP, h8, Nat.mul_add] at hb
  have e : 256 ^ j * (x.toNat + 256 * q) = 256 ^ (j + 1) * q + 256 ^ j * x.toNat := by
    rw [Nat.mul_add, Nat.pow_succ, Nat.mul_assoc]; omega
  have hw : IntKind.i64.wrap (8 * (j : Int)) = ((8 * j : Nat) : Int) := by
    rw [wrap_ok (by omega) (by omega)]; omega
  rw [orB, hw, Int.toNat_natCast, b1, e]
  have := bor_add (8 * (j + 1)) q (256 ^ j * x.toNat) (by rw [pow256]; exact b2) (by rw [pow256]; omega)
  rw [pow256] at this
  exact this
theorem wv_ok (xs : List Int) (hx : ∀ x ∈ xs, 0 ≤ x ∧ x ≤ 255) (hl : xs.length ≤ 8) : ∀ m, m ≤ xs.length → wv xs m = ((256 ^ (xs.length - m) * num (xs.drop (xs.length - m)) : Nat) : Int)
  | 0, _ => by simp [wv, num]
  | m + 1, h => by
    rw [wv, wv_ok xs hx hl m (by omega)]
    obtain ⟨x, hxx⟩ : ∃ x, xs[xs.length - 1 - m]? = some x := ⟨xs[xs.length - 1 - m]'(by omega), by simp⟩
    obtain ⟨g1, g2⟩ := hx x (List.mem_of_getElem? hxx)
    have ed : xs.getD (xs.length - 1 - m) 0 = x := by simp [List.getD, hxx]
    have e1 : xs.length - m = (xs.length - 1 - m) + 1 := by omega
    have hlt := num_lt (xs.drop (xs.length - m)) fun y hy => hx y (List.mem_of_mem_drop hy)
    rw [List.length_drop] at hlt
    have hle : 256 ^ (xs.length - (xs.length - m)) ≤ 256 ^ (7 - (xs.length - 1 - m)) := Nat.pow_le_pow_right (by omega) (by omega)
    rw [ed, show xs.length - (m + 1) = xs.length - 1 - m by omega]
    have hd : xs.drop (xs.length - 1 - m) = x :: xs.drop (xs.length - m) := by
      have hlt2 : xs.length - 1 - m < xs.length := by omega
      rw [List.drop_eq_getElem_cons hlt2, e1]
      congr 1
      have := List.getElem?_eq_getElem hlt2
      rw [hxx] at this
      exact (Option.some.inj this).symm
    rw [hd, num]
    have := orB_ok (q := num (xs.drop (xs.length - m))) (j := xs.length - 1 - m) g1 g2 (by omega) (by omega)
    rw [← e1] at this
    exact this
theorem wordOf_ok (xs : List Int) (hx : ∀ x ∈ xs, 0 ≤ x ∧ x ≤ 255) (hl : xs.length ≤ 8) : wordOf xs = (num xs : Int) := by
  rw [wordOf, wv_ok xs hx hl _ (Nat.le_refl _)]
  simp


theorem num_div : ∀ (l : List Int) (r : Nat) (x : Int), (∀ y ∈ l, 0 ≤ y ∧ y ≤ 255) → l[r]? = some x → num l / 256 ^ r % 256 = x.toNat
  | [], r, x, _, h => by simp at h
  | y :: l, 0, x, hy, h => by
    have h' : y = x := by simpa using h
    subst h'
    have := hy y (.head _)
    rw [num, Nat.pow_zero, Nat.div_one]
    omega
  | y :: l, r + 1, x, hy, h => by
    have h0 := hy y (.head _)
    rw [num, Nat.pow_succ, Nat.mul_comm (256 ^ r), ← Nat.div_div_eq_div_mul]
    rw [show (y.toNat + 256 * num l) / 256 = num l by omega]
    exact num_div l r x (fun z hz => hy z (.tail _ hz)) (by simpa using h)

theorem unp_pack (bs : List Int) (hb : ∀ y ∈ bs, 0 ≤ y ∧ y ≤ 255) (hl : bs.length ≤ 64) (k : Nat) (x : Int) (hk : bs[k]? = some x) : unp (packL bs) k = x := by
  have hlt : k < bs.length := (List.getElem?_eq_some_iff.1 hk).1
  have hx := hb x (List.mem_of_getElem? hk)
  have h1 : (packL bs).getD (k / 8) 0 = (num (ch bs (k / 8)) : Int) := by
    have hc : ∀ y ∈ ch bs (k / 8), 0 ≤ y ∧ y ≤ 255 := fun y hy => hb y (List.mem_of_mem_drop (List.mem_of_mem_take hy))
    rw [← wordOf_ok _ hc (by rw [ch_length]; omega)]
    unfold packL
    rw [if_neg (by omega)]
    unfold ws
    rw [List.getD_eq_getElem?_getD, List.getElem?_map, List.getElem?_range' (by omega)]
    simp
  have h2 : (ch bs (k / 8))[k % 8]? = some x := by
    unfold ch
    rw [List.getElem?_take, if_pos (by omega), List.getElem?_drop, show 8 * (k / 8) + k % 8 = k by omega]
    exact hk
  have h3 : num (ch bs (k / 8)) / 256 ^ (k % 8) % 256 = x.toNat := num_div _ _ x (fun y hy => hb y (List.mem_of_mem_drop (List.mem_of_mem_take hy))) h2
  have h4 : (2 : Int) ^ (min (8 * (k % 8)) 64) = ((256 ^ (k % 8) : Nat) : Int) := by
    rw [Nat.min_eq_left (by omega), ← pow256]; simp
  unfold unp
  rw [h1, h4, Int.fdiv_eq_ediv_of_nonneg _ (Int.natCast_nonneg _), ← Int.natCast_ediv]
  generalize num (ch bs (k / 8)) / 256 ^ (k % 8) = q at h3 ⊢
  have e : IntKind.u8.wrap (q : Int) = (q : Int) % 256 := by simp [IntKind.wrap, IntKind.bits, IntKind.signed]
  rw [e]
  omega
theorem unps_pack (bs : List Int) (hb : ∀ y ∈ bs, 0 ≤ y ∧ y ≤ 255) (hl : bs.length ≤ 64) : unps (packL bs) bs.length = bs := by
  refine List.ext_getElem? fun k => ?_
  by_cases hk : k < bs.length
  · obtain ⟨x, hx⟩ : ∃ x, bs[k]? = some x := ⟨bs[k], by simp⟩
    rw [hx, unps, List.getElem?_map, List.getElem?_range' hk]
    simp [unp_pack bs hb hl k x hx]
  · rw [List.getElem?_eq_none (by simp [unps]; omega), List.getElem?_eq_none (by omega)]
end Go.Proofs.Ytfflojbgikfbmaa.Hea

/-
  HeapBack: fields, heads, bytes, and the end.
-/
namespace Go.Proofs.Ytfflojbgikfbmaa.Hea
open Go.Proofs.YtfflojbgikfbmaaW.Ah
open Go.Proofs.Ytfflojbgikfbmaa.Sta (U Er eU wrap_nsub wrap_pred load_u)
set_option maxRecDepth 4000
set_option linter.unusedVariables false
set_option linter.unusedSimpArgs false
attribute [local simp] T.t3 T.t4 T.t5 T.t9 T.t26 T.t34 T.t35 T.t39 T.t40 T.t62 T.t63 T.t70 T.t93 T.t144 Op.maxDepth List.range List.range.loop
attribute [-simp] appendAV cellsOf cellOk partOk
attribute [local simp] cellsOf_sc cellOk_sc partOk_sc cellsOf_own cellOk_own partOk_own cellsOf_osl cellOk_osl partOk_osl cellsOf_sh cellOk_sh partOk_sh cellsOf_ssl cellOk_ssl partOk_ssl cellsOf_esl cellOk_esl partOk_esl cellsOf_fn cellOk_fn partOk_fn cellsOf_omap cellOk_omap partOk_omap cellsOf_agg partOk_agg cellsOf_slv cellOk_slv partOk_slv




theorem fieldsB (x : Int × Int × Int) (l bs : List Int) (more : List (Int × Int × Int)) (hl : l.length ≤ 100) (C : Cont) (t : Nat → AV) (H : Mem) (n p i : Nat) (c : Option Nat) (h : Hp) (s : Lies t H n p i c h x l bs more)
    (K : ∀ t H n p i c h, Lies t H n p i c h x l bs more → Stk Try.prog T.T 208 (codes ((seqs body11).drop 16)) t H n C) : Stk Try.prog T.T 208 (codes ((seqs body11).drop 14)) t H n C := by
  refine Stk.cut (l' := (seqs body11).drop 16) [_, _] rfl fun J hJ => ?_
  have t1 := s.t1
  refine evS_sound (f := 9) ?_
  simp [codes, t1]
  refine Stk.loop 9 (fun μ t H2 n2 => ∃ (q : Nat), q ≤ l.length ∧ μ = l.length - q ∧ t 21 = I q ∧ Lies t H2 n2 p i c h x l bs more) l.length ?_ ?_
  · exact ⟨0, Nat.zero_le _, rfl, by simp, s.far (fun j hj => by simp [upd, show ¬ j = 21 by omega]) rfl s.st s.g (.inr rfl)⟩
  clear s t1
  rintro J2 hJ2 μ t H2 n2 ⟨q, hq, rfl, t21, s⟩
  have t1 := s.t1
  have t4 := s.t4
  have t13 := s.t13
  have b0 := s.b0
  have hp0 := s.p0
  have hi0 := s.i0
  have out : ∀ t' : Nat → AV, (∀ j, j < 19 → t' j = t j) → J 0 t' H2 n2 := fun t' ht => hJ _ _ _ (K _ _ _ p i c h (s.far ht rfl s.st s.g (.inr rfl)))
  rcases s.ta with ⟨w, ta1, ta2, ka⟩ | ⟨w, ta1, ta2, ka⟩
  · obtain ⟨a, hrec, hcan, hlb, hat, hws⟩ := ka.rec s.g s.st.ok
    by_cases hk : x.1 = 0
    · have hkb : (x.1 == 0) = true := by simp [hk]
      by_cases hlt : q < l.length
      · obtain ⟨v, hv⟩ : ∃ v, l[q]? = some v := ⟨l[q], by simp⟩
        have hfv : fieldV h q (some (a, x)) = .tup [U v, Er 0] := by
          have hb := hcan
          unfold Can at hb
          have hbd : body x.1 x.2.2 = x.2.2.toNat := by unfold body; rw [if_neg (by omega)]
          unfold fieldV
          simp only
          rw [if_pos hk, if_pos ⟨by omega, by omega⟩, Int.toNat_natCast, Kept.word (w := w) (x := x) hws hv]
        have hfq := fieldQ s.st w q
        rw [hrec, hfv] at hfq
        simp [t1, t4, t21, ta2, b0, partOf, hk, hkb, hlt]
        iterate 3 (try (refine evS_sound (f := 8) ?_; simp [t1, t4, t13, t21, ta1, ta2, b0, partOf, hk, hkb, hlt]))
        refine Stk.callS 8 hfq rfl rfl rfl (by simp) ?_
        rintro v3 H3 n3 ⟨rfl, hc3⟩
        have hld := load_u l q hlt
        have hvv : l[q] = v := by
          have := List.getElem?_eq_getElem hlt
          rw [hv] at this
          exact (Option.some.inj this).symm
        rw [hvv] at hld
        have wq := wrap_succ q (by omega)
        have hlt' : (q : Int) < l.length := by omega
        simp [t1, t21]
        iterate 4 (try (refine evS_sound (f := 8) ?_; simp [t1, t21, hlt, hlt', hld, wq]))
        exact ⟨l.length - (q + 1), by omega, hJ2 _ _ _ _ ⟨q + 1, hlt, rfl, by simp, s.far (fun j hj => by simp [upd, show ¬ j = 21 by omega, show ¬ j = 22 by omega, show ¬ j = 23 by omega, show ∀ m : Nat, 100 ≤ m → ¬ j = m from fun m hm => by omega]) (hc3.2 0 (by have := s.st.lp; omega)) (s.st.far hc3.1 hc3.2) s.g (.inr rfl)⟩⟩
      · have hge : l.length ≤ q := by omega
        simp [t1, t4, t21, ta2, b0, partOf, hk, hkb, hlt]
        iterate 3 (try (refine evS_sound (f := 8) ?_; simp [t1, t4, t21, ta2, b0, partOf, hk, hkb, hlt, hge]))
        exact out _ fun j hj => by simp [upd, show ∀ m : Nat, 100 ≤ m → ¬ j = m from fun m hm => by omega]
    · have hkb : (x.1 == 0) = false := by simp [hk]
      simp [t1, t4, t21, ta2, b0, partOf, hk, hkb]
      iterate 3 (try (refine evS_sound (f := 8) ?_; simp [t1, t4, t21, ta2, b0, partOf, hk, hkb]))
      exact out _ fun j hj => by simp [upd, show ∀ m : Nat, 100 ≤ m → ¬ j = m from fun m hm => by omega]
  · simp [t1, t4, t21, ta2, b0, partOf]
    iterate 3 (try (refine evS_sound (f := 8) ?_; simp [t1, t4, t21, ta2, b0, partOf]))
    exact out _ fun j hj => by simp [upd, show ∀ m : Nat, 100 ≤ m → ¬ j = m from fun m hm => by omega]

theorem lookB (x : Int × Int × Int) (l bs : List Int) (more : List (Int × Int × Int)) (C : Cont) (t : Nat → AV) (H : Mem) (n p i : Nat) (c : Option Nat) (h : Hp) (s : Lies t H n p i c h x l bs more)
    (K : ∀ t H n p i c h, Lies t H n p i c h x l bs more → Stk Try.prog T.T 208 (codes ((seqs body11).drop 18)) t H n C) : Stk Try.prog T.T 208 (codes ((seqs body11).drop 16)) t H n C := by
  refine Stk.cut (l' := (seqs body11).drop 18) [_, _] rfl fun J hJ => ?_
  have t4 := s.t4
  have t13 := s.t13
  have b0 := s.b0
  have hp0 := s.p0
  have hi0 := s.i0
  rcases s.ta with ⟨w, ta1, ta2, ka⟩ | ⟨w, ta1, ta2, ka⟩
  · obtain ⟨a, hrec, hcan, hlb, hat, hws⟩ := ka.rec s.g s.st.ok
    have hlq := lookQ s.st w
    rw [hrec] at hlq
    refine evS_sound (f := 9) ?_
    simp [codes, ta2]
    iterate 2 (try (refine evS_sound (f := 8) ?_; simp [t13, ta1]))
    refine Stk.callS 8 hlq rfl rfl rfl (by simp) ?_
    rintro v3 H3 n3 ⟨rfl, hc3⟩
    have h30 : H3 0 = some (.cells (eH x) 34) := by rw [hc3.2 0 (by have := s.st.lp; omega)]; exact b0
    have hn0 : ¬ 0 = n3 := by have := s.st.lp; have := hc3.1; omega
    have s3 := s.st.far hc3.1 hc3.2
    simp [lookV, partOf]
    iterate 3 (try (refine evS_sound (f := 8) ?_; simp [t4, h30, hn0, partOf]))
    exact hJ _ _ _ (K _ _ _ p i c h (s.far (fun j hj => by simp [upd, show ¬ j = 24 by omega, show ¬ j = 25 by omega, show ∀ m : Nat, 100 ≤ m → ¬ j = m from fun m hm => by omega]) (by rw [upd_ne _ _ (by omega), upd_ne _ _ (by omega), hc3.2 0 (by have := s.st.lp; omega)]) (s3.far (by omega) (fun j hj => by rw [upd_ne _ _ (by omega), upd_ne _ _ (by omega)])) s.g (.inr rfl)))
  · refine evS_sound (f := 9) ?_
    simp [codes, ta2]
    iterate 2 (try (refine evS_sound (f := 8) ?_; simp [ta2]))
    exact hJ _ _ _ (K _ _ _ p i c h (s.far (fun j hj => by simp [upd, show ∀ m : Nat, 100 ≤ m → ¬ j = m from fun m hm => by omega]) rfl s.st s.g (.inr rfl)))
end Go.Proofs.Ytfflojbgikfbmaa.Hea
