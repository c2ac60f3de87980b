/-
  The heap: fields of a record; the statements' own small check.
-/
import Derived.Test.YtfflojbgikfbmaaHG
namespace Go.Proofs.Ytfflojbgikfbmaa.Hea
open Go.Proofs.YtfflojbgikfbmaaW.Ah
open Go.Proofs.Ytfflojbgikfbmaa.Sta (U Er eU wrap_nsub wrap_pred load_u)
set_option maxRecDepth 4000
set_option linter.unusedVariables false
set_option linter.unusedSimpArgs false
attribute [local simp] T.t3 T.t4 T.t5 T.t26 T.t34 T.t39 T.t40 T.t62 T.t63 T.t70 T.t93 T.t144 Op.maxDepth List.range List.range.loop
attribute [-simp] appendAV cellsOf cellOk partOk
attribute [local simp] cellsOf_sc cellOk_sc partOk_sc cellsOf_own cellOk_own partOk_own cellsOf_osl cellOk_osl partOk_osl cellsOf_sh cellOk_sh partOk_sh cellsOf_ssl cellOk_ssl partOk_ssl cellsOf_esl cellOk_esl partOk_esl cellsOf_fn cellOk_fn partOk_fn cellsOf_omap cellOk_omap partOk_omap cellsOf_agg partOk_agg cellsOf_slv cellOk_slv partOk_slv

def fieldsV (i : Nat) (k : Int) : Option (Nat × Int × Int × Int) → AV
  | none => .tup [.sc (.slice none 0 0), Er 22]
  | some (b, x) => if x.1 = 0 then (if 0 ≤ k ∧ k < x.2.2 then .tup [.osl i (b + 2) (size x.1 x.2.1 x.2.2 - 2) (some (size x.1 x.2.1 x.2.2 - 2)), Er 0] else .tup [.sc (.slice none 0 0), Er 20]) else .tup [.sc (.slice none 0 0), Er 22]

theorem fieldsQ {H : Mem} {n p i : Nat} {c : Option Nat} {h : Hp} (s : St H n p i c h) (w k : Int) :
    RunQ Try.prog T.T 116 [.own p 0, U w, I k] H n (fun r H' n' => r = fieldsV i k (h.recAt w) ∧ Calm H n H' n') := by
  refine RunQ.ev 999 Try.func116 rfl rfl rfl rfl rfl fun C hr hn => ?_
  simp
  refine Stk.callS 999 (recQ s w) rfl rfl rfl (by simp) ?_
  rintro v H1 n1 ⟨rfl, hc1⟩
  cases hrec : h.recAt w with
  | none =>
    simp [recV, partOf]
    exact hr _ _ _ (fieldsV i k none) (by simp [fieldsV]) ⟨by rw [hrec], by have := hc1.1; omega, fun j hj => by have := hc1.1; rw [upd_ne _ _ (by omega), upd_ne _ _ (by omega), hc1.2 j hj]⟩
  | some bx =>
    obtain ⟨b, x⟩ := bx
    have hcan : Can x.1 x.2.1 x.2.2 := by
      unfold Hp.recAt at hrec
      repeat (first | (split at hrec) | cases hrec)
      all_goals first | cases hrec | skip
      rename_i y hy _
      exact (rd_can hy).1
    have hsz := size_can hcan
    obtain ⟨sz, hsz'⟩ : ∃ sz, sz = size x.1 x.2.1 x.2.2 := ⟨_, rfl⟩
    have hcalm : ∀ Z : Mem, (∀ j, j < n1 → Z j = H1 j) → Calm H n Z (n1 + 1) := fun Z hz => ⟨by have := hc1.1; omega, fun j hj => by have := hc1.1; rw [hz j (by omega), hc1.2 j hj]⟩
    by_cases h0 : x.1 = 0
    · have h0b : (x.1 != 0) = false := by simp [h0]
      by_cases h1 : k < 0
      · simp [recV, partOf, h0b, h1]
        exact hr _ _ _ (fieldsV i k (some (b, x))) (by simp [fieldsV, h0, show ¬ (0 ≤ k ∧ k < x.2.2) by omega]) ⟨by rw [hrec], hcalm _ (fun j hj => by rw [upd_ne _ _ (by omega), upd_ne _ _ (by omega)])⟩
      · by_cases h2 : x.2.2 ≤ k
        · simp [recV, partOf, h0b, h1, h2]
          exact hr _ _ _ (fieldsV i k (some (b, x))) (by simp [fieldsV, h0, show ¬ (0 ≤ k ∧ k < x.2.2) by omega]) ⟨by rw [hrec], hcalm _ (fun j hj => by rw [upd_ne _ _ (by omega), upd_ne _ _ (by omega)])⟩
        · have hb2 : body x.1 x.2.2 = x.2.2.toNat := by simp [body, h0]
          have hszz : size 0 x.2.1 x.2.2 = sz := by rw [hsz', h0]
          have q1 : (2 : Int) ≤ sz := by omega
          have q2 : 2 < sz := by omega
          have q3 : 2 ≤ sz := by omega
          simp [recV, partOf, h0b, h1, h2, natOk, ← hsz', q1, q2, q3]
          exact hr _ _ _ (fieldsV i k (some (b, x))) (by simp [fieldsV, h0, show (0 ≤ k ∧ k < x.2.2) by omega, hszz]) ⟨by rw [hrec], hcalm _ (fun j hj => by rw [upd_ne _ _ (by omega), upd_ne _ _ (by omega)])⟩
    · have h0b : (x.1 != 0) = true := by simp [h0]
      simp [recV, partOf, h0b]
      exact hr _ _ _ (fieldsV i k (some (b, x))) (by simp [fieldsV, h0]) ⟨by rw [hrec], hcalm _ (fun j hj => by rw [upd_ne _ _ (by omega), upd_ne _ _ (by omega)])⟩

theorem recAt_le {h : Hp} {w : Int} {b : Nat} {x : Int × Int × Int} (hr : h.recAt w = some (b, x)) : 1 ≤ b ∧ b ≤ 2 * h.half ∧ b + size x.1 x.2.1 x.2.2 ≤ 2 * h.half + 1 ∧ Can x.1 x.2.1 x.2.2 ∧ h.ws.getD b 0 = hv x.1 x.2.1 x.2.2 := by
  unfold Hp.recAt at hr
  split at hr
  · cases hr
  · split at hr
    · cases hr
    · split at hr
      · cases hr
      · rename_i b2 hb2
        split at hr
        · cases hr
        · split at hr
          · cases hr
          · rename_i y hy
            split at hr
            · rename_i hle
              cases hr
              have := pl_le hb2
              have := span_le this.2.1
              have hc := rd_can hy
              exact ⟨by omega, by omega, by omega, hc.1, hc.2⟩
            · cases hr

def fieldV (h : Hp) (k : Int) : Option (Nat × Int × Int × Int) → AV
  | none => .tup [U 0, Er 22]
  | some (b, x) => if x.1 = 0 then (if 0 ≤ k ∧ k < x.2.2 then .tup [U (h.ws.getD (b + 2 + k.toNat) 0), Er 0] else .tup [U 0, Er 20]) else .tup [U 0, Er 22]

theorem fieldQ {H : Mem} {n p i : Nat} {c : Option Nat} {h : Hp} (s : St H n p i c h) (w k : Int) :
    RunQ Try.prog T.T 53 [.own p 0, U w, I k] H n (fun r H' n' => r = fieldV h k (h.recAt w) ∧ Calm H n H' n') := by
  refine RunQ.ev 999 Try.func53 rfl rfl rfl rfl rfl fun C hr hn => ?_
  simp
  refine Stk.callS 999 (fieldsQ s w k) rfl rfl rfl (by simp) ?_
  rintro v H1 n1 ⟨rfl, hc1⟩
  have s1 := s.far hc1.1 hc1.2
  cases hrec : h.recAt w with
  | none =>
    simp [fieldsV]
    exact hr _ _ _ (fieldV h k none) (by simp [fieldV]) ⟨by rw [hrec], hc1⟩
  | some bx =>
    obtain ⟨b, x⟩ := bx
    obtain ⟨b1, b2, b3, hcan, _⟩ := recAt_le hrec
    have hsz := size_can hcan
    by_cases h0 : x.1 = 0
    · by_cases h1 : 0 ≤ k ∧ k < x.2.2
      · have hb2 : body x.1 x.2.2 = x.2.2.toNat := by simp [body, h0]
        obtain ⟨m, rfl⟩ := Int.eq_ofNat_of_zero_le h1.1
        have hwo := s1.hw
        have hlen := s.ok.len
        have hl := ldw (ws := h.ws) (k := b + 2 + m) (by omega)
        obtain ⟨sz, hsz'⟩ : ∃ sz, sz = size x.1 x.2.1 x.2.2 := ⟨_, rfl⟩
        have q1 : m < sz - 2 := by omega
        have q2 : (m : Int) < ((sz - 2 : Nat) : Int) := by omega
        have hf : fieldsV i m (some (b, x)) = .tup [.osl i (b + 2) (sz - 2) (some (sz - 2)), Er 0] := by
          unfold fieldsV; simp only; rw [if_pos h0, if_pos h1, ← hsz']
        rw [hf]
        obtain ⟨u, hu⟩ : ∃ u, u = h.ws.getD (b + 2 + m) 0 := ⟨_, rfl⟩
        rw [← hu] at hl
        simp [q1, q2, hwo, hl]
        exact hr _ _ _ (.tup [U u, Er 0]) (by simp) ⟨by rw [hrec]; unfold fieldV; simp only; rw [if_pos h0, if_pos h1, hu]; simp, hc1⟩
      · simp [fieldsV, h0, h1]
        exact hr _ _ _ (fieldV h k (some (b, x))) (by simp [fieldV, h0, h1]) ⟨by rw [hrec], hc1⟩
    · simp [fieldsV, h0]
      exact hr _ _ _ (fieldV h k (some (b, x))) (by simp [fieldV, h0]) ⟨by rw [hrec], hc1⟩

theorem awake : RunF Try.prog T.T 34 [] (B true) := by
  refine RunF.ev 999 Try.func34 rfl rfl rfl rfl rfl fun C hr hn => ?_
  simp
  refine Stk.callF 999 (headF 0 1 2) rfl rfl rfl (by simp) rfl rfl ?_
  have e1 : (if Can 0 1 2 then hv 0 1 2 else 0) = 258 := by decide
  rw [e1]
  simp
  refine Stk.callF 999 (headF 1 0 3) rfl rfl rfl (by simp) rfl rfl ?_
  have e2 : (if Can 1 0 3 then hv 1 0 3 else 0) = 65539 := by decide
  rw [e2]
  simp
  refine Stk.callS 999 (new _ _ 16) rfl rfl rfl (by simp) ?_
  intro v H1 n1 hz
  rw [if_pos (by decide)] at hz
  obtain ⟨p, i, rfl, _, _, hc, st⟩ := hz
  simp
  have st2 := st.far (H' := upd H1 n1 (some (.cells (encs eU [3, 5]) 40))) (n' := n1 + 1) (by omega) (fun j hj => upd_ne _ _ (by omega))
  have hlp := st.lp
  have hli := st.li
  have hp := put st2 0 1 2 (j := n1) (cj := some 2) (l := [3, 5]) (zs := []) (by rw [upd_same, List.append_nil]) (by omega) (by omega) (by omega)
  refine Stk.callS 999 hp rfl rfl rfl (by simp) ?_
  intro v H2 n2 hz
  rw [if_pos (by decide)] at hz
  obtain ⟨rfl, st3⟩ := hz
  replace st3 := st3.st
  obtain ⟨h3, hh3⟩ : ∃ h3 : Hp, h3 = ⟨putL (List.replicate (2 * (16 : Int).toNat + 1) 0) 1 (hv 0 1 2 :: ((2 * 1 : Nat) : Int) :: [3, 5]), (16 : Int).toNat, false, 1 + size 0 1 2, false, 0⟩ := ⟨_, rfl⟩
  have st3 : St H2 n2 p i (some (2 * (16 : Int).toNat + 1)) h3 := by rw [hh3]; exact st3
  have e3 : fieldV h3 1 (h3.recAt 2) = .tup [U 5, Er 0] := by
    rw [hh3]
    have : Hp.recAt ⟨putL (List.replicate (2 * (16 : Int).toNat + 1) 0) 1 (hv 0 1 2 :: ((2 * 1 : Nat) : Int) :: [3, 5]), (16 : Int).toNat, false, 1 + size 0 1 2, false, 0⟩ 2 = some (1, 0, 1, 2) := by decide
    rw [this]; rfl
  have e4 : h3.room = 12 := by rw [hh3]; decide
  have hf := fieldQ st3 2 1
  simp only [e3] at hf
  simp
  refine Stk.callS 999 hf rfl rfl rfl (by simp) ?_
  rintro v H4 n4 ⟨rfl, hc4⟩
  have st4 := st3.far hc4.1 hc4.2
  have hro := room st4
  simp only [e4] at hro
  simp
  refine Stk.callS 999 hro rfl rfl rfl (by simp) ?_
  rintro v H5 n5 ⟨rfl, hc5⟩
  simp
  exact hr _ _ _ (by simp)
end Go.Proofs.Ytfflojbgikfbmaa.Hea
