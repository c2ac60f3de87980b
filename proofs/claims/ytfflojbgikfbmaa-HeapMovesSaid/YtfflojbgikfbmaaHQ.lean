/-
  The statement HeapMoves: what is told of a record that was moved.
-/
import Derived.Test.YtfflojbgikfbmaaHP
namespace Go.Proofs.Ytfflojbgikfbmaa.Hea
open Go.Proofs.YtfflojbgikfbmaaW.Ah
open Go.Proofs.Ytfflojbgikfbmaa.Sta (U Er eU wrap_nsub wrap_pred load_u tmod_nat)
set_option maxRecDepth 4000
set_option linter.unusedVariables false
set_option linter.unusedSimpArgs false
attribute [local simp] T.t3 T.t4 T.t5 T.t26 T.t34 T.t39 T.t40 T.t62 T.t63 T.t70 T.t93 T.t144 Op.maxDepth List.range List.range.loop
attribute [-simp] appendAV cellsOf cellOk partOk
attribute [local simp] cellsOf_sc cellOk_sc partOk_sc cellsOf_own cellOk_own partOk_own cellsOf_osl cellOk_osl partOk_osl cellsOf_sh cellOk_sh partOk_sh cellsOf_ssl cellOk_ssl partOk_ssl cellsOf_esl cellOk_esl partOk_esl cellsOf_fn cellOk_fn partOk_fn cellsOf_omap cellOk_omap partOk_omap cellsOf_agg partOk_agg cellsOf_slv cellOk_slv partOk_slv

theorem mE (C : Cont) (hC : ∀ t H n, resOf T.T Try.f9.results.toList ⟨t, H, n⟩ = some (B true) → C .ret t H n)
    (t : Nat → AV) (H : Mem) (n p i : Nat) (c : Option Nat) (h2 : Hp) (A k : Nat) (w : Int) (x : Int × Int × Int) (ja : Nat) (ws : List Int) (n25 : Nat) (t5 : t 5 = .own p 0) (t7 : t 7 = .osl ja 0 ws.length none) (t15 : t 15 = I k) (t16 : t 16 = U (802 : Int)) (t17 : t 17 = I (size x.1 x.2.1 x.2.2)) (t25 : t 25 = .own n25 0) (t29 : t 29 = I 0)
    (hx : H n25 = some (.cells (eH x) 34)) (hn : n25 < n) (oa : Own H 40 eU (some ja) ws) (hja : ja < n) (hk : k < ws.length) (hw : w = ws[k]) (st : St H n p i c h2) (hh : h2.half = 400) (hu : h2.up = true) (hnx : h2.next = 401 + size x.1 x.2.1 x.2.2) (hwA : w = ((2 * A : Nat) : Int)) (hA : A ≤ 400) (g1 : h2.recAt w = some (401, x)) (g4 : h2.recAt (802 : Int) = some (401, x)) :
    Stk Try.prog T.T 261 (codes ((seqs body9).drop 21)) t H n C := by
  obtain ⟨_, _, _, hcan, _⟩ := recAt_le g1
  refine Stk.cut (l' := []) [_, _, _] rfl fun J hJ => ?_
  refine evS_sound (f := 99) ?_
  simp [codes]
  refine Stk.loop 99 (fun μ t H2 n2 => ∃ q : Nat, q ≤ 6 ∧ μ = 7 - q ∧ t 5 = .own p 0 ∧ t 7 = .osl ja 0 ws.length none ∧ t 15 = I k ∧ t 16 = U (802 : Int) ∧ t 17 = I (size x.1 x.2.1 x.2.2) ∧ t 25 = .own n25 0 ∧ t 29 = I q ∧ H2 n25 = some (.cells (eH x) 34) ∧ n ≤ n2 ∧ Own H2 40 eU (some ja) ws ∧ St H2 n2 p i c h2) 7 ?_ ?_
  · exact ⟨0, by omega, rfl, t5, t7, t15, t16, t17, t25, t29, hx, Nat.le_refl _, oa, st⟩
  clear t5 t7 t15 t16 t17 t25 t29 oa st hx
  rintro J2 hJ2 μ t H2 n2 ⟨q, hq, rfl, t5, t7, t15, t16, t17, t25, t29, hx, hln, oa, st⟩
  obtain ⟨yz, oa'⟩ := oa
  have hce := cell_own (e := eU) (z := 1) ws yz k 0 hk (by omega)
  simp [← hw] at hce
  have hco : partOf T.T 40 (encs eU ws ++ yz) k = some (U w) := by simp [partOf, hce]
  have hki : (k : Int) < ws.length := by omega
  by_cases hgo : x.1 = 0 ∧ (q : Int) < x.2.2
  · have h0 : (x.1 == 0) = true := by simp [hgo.1]
    have hf1 := fieldQ st w q
    rw [g1] at hf1
    have hfv : fieldV h2 q (some (401, x)) = .tup [U (h2.ws.getD (401 + 2 + q) 0), Er 0] := by
      unfold fieldV; simp only; rw [if_pos hgo.1, if_pos ⟨by omega, hgo.2⟩]; simp
    rw [hfv] at hf1
    obtain ⟨z, hz⟩ : ∃ z, z = h2.ws.getD (401 + 2 + q) 0 := ⟨_, rfl⟩
    rw [← hz] at hf1
    have wq := wrap_succ q (by omega)
    simp [t5, t7, t15, t25, t29, hx, partOf, h0, hgo.2, oa', hce, hki, hk]
    refine Stk.callS 8 hf1 rfl rfl rfl (by simp) ?_
    rintro v H3 n3 ⟨rfl, hc3⟩
    have st3 := st.far hc3.1 hc3.2
    have hf2 := fieldQ st3 802 q
    rw [g4, hfv, ← hz] at hf2
    simp [t5, t16, t29]
    (refine evS_sound (f := 12) ?_; simp [t5, t16, t29])
    refine Stk.callS 8 hf2 rfl rfl rfl (by simp) ?_
    rintro v H4 n4 ⟨rfl, hc4⟩
    have st4 := st3.far hc4.1 hc4.2
    have l3 := hc3.1
    have l4 := hc4.1
    have hkeep : ∀ j, j < n2 → H4 j = H2 j := fun j hj => by rw [hc4.2 j (by omega), hc3.2 j hj]
    simp
    (refine evS_sound (f := 12) ?_; simp)
    refine evS_sound (f := 99) ?_
    simp [t29, wq]
    have hc6 : x.2.2 ≤ 6 := by unfold Can at hcan; omega
    exact ⟨7 - (q + 1), by omega, hJ2 _ _ _ _ ⟨q + 1, by omega, rfl, by simp [t5], by simp [t7], by simp [t15], by simp [t16], by simp [t17], by simp [t25], by simp, by rw [hkeep n25 (by omega)]; exact hx, by omega, ⟨yz, by rw [hkeep ja (by omega)]; exact oa'⟩, st4⟩⟩
  · have hstop : ∀ (t : Nat → AV), t 5 = .own p 0 → t 7 = .osl ja 0 ws.length none → t 15 = I k → t 16 = U (802 : Int) → t 17 = I (size x.1 x.2.1 x.2.2) → True := fun _ _ _ _ _ _ => trivial
    have hne : (802 != w) = true := by simp; omega
    have hb2 : h2.begin = 401 := by unfold Hp.begin; rw [hu, if_pos rfl, hh]
    have wE : IntKind.i64.wrap ((h2.begin : Int) + (size x.1 x.2.1 x.2.2 : Nat)) = (h2.next : Int) := by
      have := body_le hcan; have := size_can hcan
      rw [wrap64_id (by omega) (by omega)]; omega
    by_cases h0 : x.1 = 0
    · have h0b : (x.1 == 0) = true := by simp [h0]
      have h1 : ¬ (q : Int) < x.2.2 := fun h => hgo ⟨h0, h⟩
      simp [t5, t7, t15, t16, t17, t25, t29, hx, partOf, h0b, h1, oa', hce, hki, hk, hne]
      refine Stk.callS 8 (next st) rfl rfl rfl (by simp [t5]) ?_
      rintro v H5 n5 ⟨rfl, rfl, rfl⟩
      simp [t5, t17]
      (refine evS_sound (f := 12) ?_; simp [t5, t17])
      refine Stk.callS 8 (begin st) rfl rfl rfl (by simp [t5]) ?_
      rintro v H6 n6 ⟨rfl, hc6⟩
      simp [t5, t17, wE]
      (refine evS_sound (f := 12) ?_; simp [t5, t17, wE])
      refine Stk.callF 99 awake rfl rfl rfl (by simp) rfl rfl ?_
      simp
      exact hC _ _ _ (by simp)
    · have h0b : (x.1 == 0) = false := by simp [h0]
      simp [t5, t7, t15, t16, t17, t25, t29, hx, partOf, h0b, oa', hce, hki, hk, hne]
      refine Stk.callS 8 (next st) rfl rfl rfl (by simp [t5]) ?_
      rintro v H5 n5 ⟨rfl, rfl, rfl⟩
      simp [t5, t17]
      (refine evS_sound (f := 12) ?_; simp [t5, t17])
      refine Stk.callS 8 (begin st) rfl rfl rfl (by simp [t5]) ?_
      rintro v H6 n6 ⟨rfl, hc6⟩
      simp [t5, t17, wE]
      (refine evS_sound (f := 12) ?_; simp [t5, t17, wE])
      refine Stk.callF 99 awake rfl rfl rfl (by simp) rfl rfl ?_
      simp
      exact hC _ _ _ (by simp)
end Go.Proofs.Ytfflojbgikfbmaa.Hea
