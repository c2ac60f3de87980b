/-
  The statement HeapMoves: records that are made.
-/
import Derived.Test.YtfflojbgikfbmaaHL
import Derived.Test.YtfflojbgikfbmaaHE
namespace Go.Proofs.Ytfflojbgikfbmaa.Hea
open Go.Proofs.YtfflojbgikfbmaaW.Ah
open Go.Proofs.Ytfflojbgikfbmaa.Sta (U Er eU wrap_nsub wrap_pred load_u)
set_option maxRecDepth 4000
set_option linter.unusedVariables false
set_option linter.unusedSimpArgs false
attribute [local simp] T.t3 T.t4 T.t5 T.t26 T.t34 T.t39 T.t40 T.t62 T.t63 T.t70 T.t93 T.t144 Op.maxDepth List.range List.range.loop
attribute [-simp] appendAV cellsOf cellOk partOk
attribute [local simp] cellsOf_sc cellOk_sc partOk_sc cellsOf_own cellOk_own partOk_own cellsOf_osl cellOk_osl partOk_osl cellsOf_sh cellOk_sh partOk_sh cellsOf_ssl cellOk_ssl partOk_ssl cellsOf_esl cellOk_esl partOk_esl cellsOf_fn cellOk_fn partOk_fn cellsOf_omap cellOk_omap partOk_omap cellsOf_agg partOk_agg cellsOf_slv cellOk_slv partOk_slv

/-- What is read besides hinders no order, if nobody writes it. -/
theorem drawOk2_rd {G : Array Oper} {q : Option Nat} (cl : List Cls) (k : Nat) (R : List Nat) (hs : ∀ c ∈ cl, ∀ S b, c = .mem S b → ∀ r ∈ R, r ∉ S) (hk : cl[k]? = some (.rd [])) (hd : drawOk2 G cl q = true) : drawOk2 G (cl.set k (.rd R)) q = true := by
  have hkl : k < cl.length := by
    cases h : decide (k < cl.length) with
    | true => simpa using h
    | false => rw [List.getElem?_eq_none (by simpa using h)] at hk; cases hk
  have e : ∀ x : Nat, (cl.set k (.rd R))[x]? = if x = k then some (.rd R) else cl[x]? := by
    intro x
    rw [List.getElem?_set]
    by_cases h : k = x
    · subst h; simp [hkl]
    · rw [if_neg h, if_neg (fun e => h e.symm)]
  have hS : ∀ (x : Nat) (S : List Nat) (b : Nat), cl[x]? = some (.mem S b) → (R.all fun j => !S.contains j) = true := by
    intro x S b hx
    have := hs _ (List.mem_of_getElem? hx) S b rfl
    rw [List.all_eq_true]
    intro r hr
    simpa using this r hr
  have key : ∀ a b : Nat, Cls.indep' cl[a]? cl[b]? = true → Cls.indep' (cl.set k (.rd R))[a]? (cl.set k (.rd R))[b]? = true := by
    intro a b h
    rw [e a, e b]
    by_cases ha : a = k
    · subst ha
      rw [if_pos rfl]
      by_cases hb : b = a
      · subst hb; rw [if_pos rfl]; rfl
      · rw [if_neg hb]
        rw [hk] at h
        cases hc : cl[b]? with
        | none => rw [hc] at h; simp [Cls.indep'] at h
        | some c =>
          cases c with
          | rd R2 => rfl
          | mem S b2 => simp only [Cls.indep']; exact hS b S b2 hc
    · rw [if_neg ha]
      by_cases hb : b = k
      · subst hb
        rw [if_pos rfl]
        rw [hk] at h
        cases hc : cl[a]? with
        | none => rw [hc] at h; simp [Cls.indep'] at h
        | some c =>
          cases c with
          | rd R2 => rfl
          | mem S b2 => simp only [Cls.indep']; exact hS a S b2 hc
      · rw [if_neg hb]; exact h
  have key2 : ∀ a b : Nat, indep2 G cl a b = true → indep2 G (cl.set k (.rd R)) a b = true := by
    intro a b h
    unfold indep2 at h ⊢
    split at h
    · rename_i x y hx hy
      simp only [Bool.and_eq_true] at h ⊢
      exact ⟨h.1, key a b h.2⟩
    · cases h
  have key3 : ∀ a b : Nat, pairOk2 G cl q a b = true → pairOk2 G (cl.set k (.rd R)) q a b = true := by
    intro a b h
    unfold pairOk2 at h ⊢
    split
    · rename_i hq
      rw [if_pos hq, Bool.or_eq_true] at h
      rw [Bool.or_eq_true]
      rcases h with h | h
      · exact .inl h
      · exact .inr (key2 a b h)
    · rename_i hq
      rw [if_neg hq] at h
      split
      · rename_i hq2
        rw [if_pos hq2] at h; exact h
      · rename_i hq2
        rw [if_neg hq2, Bool.or_eq_true] at h
        rw [Bool.or_eq_true]
        rcases h with h | h
        · exact .inl h
        · exact .inr (key2 a b h)
  unfold drawOk2 at hd ⊢
  rw [List.all_eq_true] at hd ⊢
  intro i hi
  have := hd i hi
  rw [Bool.and_eq_true, List.all_eq_true] at this ⊢
  exact ⟨this.1, fun a ha => key3 a i (this.2 a ha)⟩

def immV (n : Int) : Int := IntKind.u64.wrap (((IntKind.u64.wrap (IntKind.u64.wrap n * 2 ^ min 1 IntKind.u64.bits) % 2 ^ IntKind.u64.bits).toNat ||| ((1 : Int) % 2 ^ IntKind.u64.bits).toNat : Nat) : Int)

theorem imm (n : Int) : RunF Try.prog T.T 50 [I n] (U (immV n)) := by
  refine RunF.ev 999 Try.func50 rfl rfl rfl rfl rfl fun C hr hn => ?_
  simp
  exact hr _ _ _ (by simp [immV])

theorem moreH {H : Mem} {n : Nat} {o : Option Nat} {xs : List (Int × Int × Int)} (ho : Own H 34 eH o xs) (hn : ∀ i, o = some i → i < n) (hl : xs.length ≤ 65536) (x : Int × Int × Int) :
    ∃ i H' n', appendAV T.T (upd H n (some (.cells (eH x) 34))) (n + 1) 62 (slv o xs.length) (.osl n 0 1 (some 1)) = some (.osl i 0 (xs.length + 1) none, H', n') ∧ Own H' 34 eH (some i) (xs ++ [x]) ∧ n ≤ n' ∧ (o = some i ∨ n ≤ i) ∧ i < n' ∧ (∀ j, j < n → o ≠ some j → H' j = H j) := by
  obtain ⟨o', H', n', e1, o1, le1, f1, k1⟩ := append_own (e := eH) (z := 3) T.t62 rfl T.t34 rfl (by decide) rfl (by decide) (H := upd H n (some (.cells (eH x) 34))) (n := n + 1) (o := o) (xs := xs)
    (ho.mono fun i hi => upd_ne _ _ (by have := hn i hi; omega)) (fun i hi => by have := hn i hi; omega) (y := .osl n 0 1 (some 1)) [x] (by simp [encs, eH]) rfl (by simp [roomMax]; omega) (by simp [roomMax]; omega)
  cases o' with
  | none => simp [Own] at o1
  | some i =>
    have := f1 i rfl
    refine ⟨i, H', n', by simpa using e1, o1, by omega, ?_, this.2, fun j hj hne => by rw [k1 j (by omega) hne, upd_ne _ _ (by omega)]⟩
    rcases this.1 with h | h
    · exact .inl h
    · exact .inr (by omega)

/-- A word tells a record that stands there. -/
def RecOk (h : Hp) (w : Int) (x : Int × Int × Int) : Prop := ∃ a : Nat, w = ((2 * a : Nat) : Int) ∧ 1 ≤ a ∧ Can x.1 x.2.1 x.2.2 ∧ a + size x.1 x.2.1 x.2.2 ≤ h.next ∧ h.ws[a]? = some (hv x.1 x.2.1 x.2.2) ∧ h.ws[a + 1]? = some ((2 * a : Nat) : Int)

theorem RecOk.lay {h : Hp} {w : Int} {x : Int × Int × Int} (r : RecOk h w x) (hok : h.Ok) (l : List Int) (k : Nat) : RecOk ⟨putL h.ws h.next l, h.half, h.up, h.next + k, h.on, h.scan⟩ w x := by
  obtain ⟨a, e1, e2, e3, e4, e5, e6⟩ := r
  have hsz := size_can e3
  have hlen := hok.len
  have hto := hok.to
  have hb := h.begin_le
  exact ⟨a, e1, e2, e3, by show a + _ ≤ h.next + k; omega, by show (putL h.ws h.next l)[a]? = _; rw [putL_lt (by omega) (by omega)]; exact e5, by show (putL h.ws h.next l)[a + 1]? = _; rw [putL_lt (by omega) (by omega)]; exact e6⟩

theorem RecOk.new {h : Hp} (hok : h.Ok) (x : Int × Int × Int) (hc : Can x.1 x.2.1 x.2.2) (l : List Int) (hl : l.length = size x.1 x.2.1 x.2.2 - 2) (hfit : size x.1 x.2.1 x.2.2 ≤ h.room) (h1 : 1 ≤ h.next) :
    RecOk ⟨putL h.ws h.next (hv x.1 x.2.1 x.2.2 :: ((2 * h.next : Nat) : Int) :: l), h.half, h.up, h.next + size x.1 x.2.1 x.2.2, h.on, h.scan⟩ ((2 * h.next : Nat) : Int) x := by
  have hsz := size_can hc
  have hlen := hok.len
  have hto := hok.to
  have hb := h.begin_le
  have hro : h.room = h.begin + h.half - h.next := rfl
  refine ⟨h.next, rfl, h1, hc, Nat.le_refl _, ?_, ?_⟩
  · have := putL_in (ws := h.ws) (l := hv x.1 x.2.1 x.2.2 :: ((2 * h.next : Nat) : Int) :: l) (a := h.next) (k := 0) (by omega) (by simp)
    simpa using this
  · have := putL_in (ws := h.ws) (l := hv x.1 x.2.1 x.2.2 :: ((2 * h.next : Nat) : Int) :: l) (a := h.next) (k := 1) (by omega) (by simp)
    simpa using this
end Go.Proofs.Ytfflojbgikfbmaa.Hea
