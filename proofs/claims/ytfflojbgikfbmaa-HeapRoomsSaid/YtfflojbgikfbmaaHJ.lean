/-
  The statement HeapRooms.
-/
import Derived.Test.YtfflojbgikfbmaaHE
import Derived.Test.YtfflojbgikfbmaaHI
namespace Go.Proofs.Ytfflojbgikfbmaa.Hea
open Go.Proofs.YtfflojbgikfbmaaW.Ah
open Go.Proofs.Ytfflojbgikfbmaa.Sta (U Er eU wrap_nsub wrap_pred load_u)
set_option maxRecDepth 4000
set_option linter.unusedVariables false
set_option linter.unusedSimpArgs false
attribute [local simp] T.t3 T.t4 T.t5 T.t26 T.t34 T.t39 T.t40 T.t62 T.t63 T.t70 T.t93 T.t144 Op.maxDepth List.range List.range.loop
attribute [-simp] appendAV cellsOf cellOk partOk
attribute [local simp] cellsOf_sc cellOk_sc partOk_sc cellsOf_own cellOk_own partOk_own cellsOf_osl cellOk_osl partOk_osl cellsOf_sh cellOk_sh partOk_sh cellsOf_ssl cellOk_ssl partOk_ssl cellsOf_esl cellOk_esl partOk_esl cellsOf_fn cellOk_fn partOk_fn cellsOf_omap cellOk_omap partOk_omap cellsOf_agg partOk_agg cellsOf_slv cellOk_slv partOk_slv

theorem rEnd (m : Nat) (hm : 16 ≤ m ∧ m ≤ 400) (C : Cont) (hC : ∀ t H n, resOf T.T Try.f7.results.toList ⟨t, H, n⟩ = some (B true) → C .ret t H n) (t : Nat → AV) (H : Mem) (n p i : Nat) (c : Option Nat) (h : Hp) (t0 : t 0 = I m) (t5 : t 5 = .own p 0) (st : St H n p i c h) (hh : h.half = m) (hu : h.up = false) :
    Stk Try.prog T.T 130 (codes ((seqs body7).drop 11)) t H n C := by
  refine Stk.cut (l' := []) [_, _] rfl fun J hJ => ?_
  refine evS_sound (f := 999) ?_
  have w1 := wrap_succ m (by omega)
  simp [codes, t0, t5]
  refine Stk.callS 6 (turn st) rfl rfl rfl (by simp) ?_
  rintro v H2 n2 ⟨rfl, st2⟩
  replace st2 := st2.st
  obtain ⟨h2, hh2⟩ : ∃ h2 : Hp, h2 = ⟨h.ws, h.half, !h.up, (Hp.begin ⟨h.ws, h.half, !h.up, 0, false, 0⟩), false, 0⟩ := ⟨_, rfl⟩
  rw [← hh2] at st2
  have hb2 : h2.begin = m + 1 := by rw [hh2]; simp [Hp.begin, hu, hh]
  have hr2 : h2.room = m := by rw [hh2]; simp [Hp.room, Hp.begin, hu, hh]
  have hro := room st2
  simp only [hr2] at hro
  simp [t0, t5]
  (refine evS_sound (f := 6) ?_; simp [t0, t5])
  refine Stk.callS 6 hro rfl rfl rfl (by simp [t5]) ?_
  rintro v H3 n3 ⟨rfl, hc3⟩
  have st3 := st2.far hc3.1 hc3.2
  have hbe := begin st3
  simp only [hb2] at hbe
  simp [t0, t5]
  (refine evS_sound (f := 6) ?_; simp [t0, t5])
  refine Stk.callS 6 hbe rfl rfl rfl (by simp [t5]) ?_
  rintro v H4 n4 ⟨rfl, hc4⟩
  simp [t0, t5, w1]
  (refine evS_sound (f := 6) ?_; simp [t0, t5, w1])
  (refine evS_sound (f := 6) ?_; simp [t0, t5, w1])
  refine Stk.callF 99 awake rfl rfl rfl (by simp) rfl rfl ?_
  simp
  exact hC _ _ _ (by simp)

theorem rooms (m : Int) (xs : List (Int × Int × Int)) : RunF Try.prog T.T 7 [I m, .ssl (encs eH xs) xs.length false] (B true) := by
  refine RunF.parts (c := body7) Try.func7 (by rfl) rfl rfl rfl rfl fun C hr hn => ?_
  refine Stk.cut (l' := (seqs body7).drop 9) [_, _, _, _, _, _, _, _, _] rfl fun J0 hJ0 => ?_
  refine evS_sound (f := 999) ?_
  have wk : ∀ (t : Nat → AV) H n, Stk Try.prog T.T 130 (codes ((seqs body7).drop 9)) t H n C → J0 0 t H n := fun t H n h => hJ0 t H n h
  by_cases h1 : 400 < m ∧ m ≤ 16384
  · simp [codes, h1.1, h1.2]
    refine Stk.callF 999 awake rfl rfl rfl (by simp) rfl rfl ?_
    simp
    exact hr _ _ _ (by simp)
  · by_cases h2 : 200 < xs.length
    · have h2' : (200 : Int) < xs.length := by omega
      by_cases h3 : 400 < m
      · have h4 : ¬ m ≤ 16384 := fun h => h1 ⟨h3, h⟩
        simp [codes, h3, h4, h2, h2']
        refine Stk.callF 999 awake rfl rfl rfl (by simp) rfl rfl ?_
        simp
        exact hr _ _ _ (by simp)
      · simp [codes, h3, h2, h2']
        refine Stk.callF 999 awake rfl rfl rfl (by simp) rfl rfl ?_
        simp
        exact hr _ _ _ (by simp)
    · have h2' : ¬ (200 : Int) < xs.length := by omega
      by_cases h3 : 400 < m
      · have h4 : ¬ m ≤ 16384 := fun h => h1 ⟨h3, h⟩
        have h5 : 16 ≤ m := by omega
        simp [codes, h3, h4, h2, h2']
        refine Stk.callS 999 (new _ _ m) rfl rfl rfl (by simp) ?_
        intro v H1 n1 hz
        rw [if_neg (by omega)] at hz
        obtain ⟨rfl, hc⟩ := hz
        simp [h5, h4]
        refine Stk.callF 999 awake rfl rfl rfl (by simp) rfl rfl ?_
        simp
        exact hr _ _ _ (by simp)
      · have h4 : m ≤ 16384 := by omega
        by_cases h5 : 16 ≤ m
        · obtain ⟨k, rfl⟩ := Int.eq_ofNat_of_zero_le (show 0 ≤ m by omega)
          simp [codes, h3, h4, h2, h2']
          refine Stk.callS 999 (new _ _ k) rfl rfl rfl (by simp) ?_
          intro v H1 n1 hz
          rw [if_pos ⟨h5, h4⟩] at hz
          obtain ⟨p, i, rfl, _, _, hc, st⟩ := hz
          simp only [Int.toNat_natCast] at st
          have h5n : 16 ≤ k := by omega
          have h4n : k ≤ 16384 := by omega
          simp [h5, h4, h5n, h4n]
          refine wk _ _ _ (rL xs k (by omega) (by omega) C hr (fun _ _ _ => True) (fun t H n p i c h g0 g5 s hh hu => rEnd k (by omega) C hr t H n p i c h g0 g5 s hh hu) p i _ _ _ _ _ (by simp) (by simp) (by simp) (by simp) st rfl rfl (by simp [Hp.room, Hp.begin]))
        · simp [codes, h3, h2, h2']
          refine Stk.callS 999 (new _ _ m) rfl rfl rfl (by simp) ?_
          intro v H1 n1 hz
          rw [if_neg (by omega)] at hz
          obtain ⟨rfl, hc⟩ := hz
          simp [h5, h4]
          refine Stk.callF 999 awake rfl rfl rfl (by simp) rfl rfl ?_
          simp
          exact hr _ _ _ (by simp)
end Go.Proofs.Ytfflojbgikfbmaa.Hea
