/-
  The law's same: both of no heap at all.
-/
import Derived.Test.YtfflojbgikfbmaaKN5
namespace Go.Proofs.Ytfflojbgikfbmaa.Hea
open Go.Proofs.YtfflojbgikfbmaaW.Ah
open Go.Proofs.Ytfflojbgikfbmaa.Sta (U Er eU wrap_nsub wrap_pred load_u)
set_option maxRecDepth 4000
set_option linter.unusedVariables false
set_option linter.unusedSimpArgs false
attribute [local simp] T.t3 T.t4 T.t5 T.t9 T.t26 T.t34 T.t35 T.t39 T.t40 T.t62 T.t63 T.t70 T.t93 T.t113 T.t144 T.t108 T.t176 Op.maxDepth List.range List.range.loop
attribute [-simp] appendAV cellsOf cellOk partOk
attribute [local simp] cellsOf_sc cellOk_sc partOk_sc cellsOf_own cellOk_own partOk_own cellsOf_osl cellOk_osl partOk_osl cellsOf_sh cellOk_sh partOk_sh cellsOf_ssl cellOk_ssl partOk_ssl cellsOf_esl cellOk_esl partOk_esl cellsOf_fn cellOk_fn partOk_fn cellsOf_omap cellOk_omap partOk_omap cellsOf_agg partOk_agg cellsOf_slv cellOk_slv partOk_slv

abbrev P0 : AV := .sc (.pointer none)
theorem lookN (w : Int) (H : Mem) (n : Nat) : RunQ Try.prog T.T 52 [P0, U w] H n (fun r H' n' => r = .tup [hd 0 0 0, I 19] ∧ Calm H n H' n') := by
  refine RunQ.ev 99 Try.func52 rfl rfl rfl rfl rfl fun C hr hn => ?_
  simp
  iterate 4 (try (refine evS_sound (f := 9) ?_; simp [partOf]))
  exact hr _ _ _ (.tup [hd 0 0 0, I 19]) (by simp) ⟨rfl, by omega, fun j hj => by simp [show ¬ j = n by omega]⟩
theorem lookNR (w : Int) (H : Mem) (n : Nat) : RunQ Try.prog T.T 124 [P0, U w] H n (fun r H' n' => r = .tup [hd 0 0 0, I 19] ∧ Calm H n H' n') := by
  refine RunQ.ev 99 Try.func124 rfl rfl rfl rfl rfl fun C hr hn => ?_
  simp
  iterate 4 (try (refine evS_sound (f := 9) ?_; simp [partOf]))
  exact hr _ _ _ (.tup [hd 0 0 0, I 19]) (by simp) ⟨rfl, by omega, fun j hj => by simp [show ¬ j = n by omega]⟩
theorem textNN (w : Int) (H : Mem) (n : Nat) : RunQ Try.prog T.T 63 [P0, U w] H n (fun r H' n' => r = .tup [.sc (.slice none 0 0), I 19] ∧ Calm H n H' n') := by
  refine RunQ.ev 99 Try.func63 rfl rfl rfl rfl rfl fun C hr hn => ?_
  simp
  iterate 4 (try (refine evS_sound (f := 9) ?_; simp [partOf]))
  exact hr _ _ _ (.tup [.sc (.slice none 0 0), I 19]) (by simp) ⟨rfl, by omega, fun j hj => by simp [show ¬ j = n by omega]⟩
theorem textNR (w : Int) (H : Mem) (n : Nat) : RunQ Try.prog T.T 126 [P0, U w] H n (fun r H' n' => r = .tup [.sc (.slice none 0 0), I 19] ∧ Calm H n H' n') := by
  refine RunQ.ev 99 Try.func126 rfl rfl rfl rfl rfl fun C hr hn => ?_
  simp
  iterate 4 (try (refine evS_sound (f := 9) ?_; simp [partOf]))
  exact hr _ _ _ (.tup [.sc (.slice none 0 0), I 19]) (by simp) ⟨rfl, by omega, fun j hj => by simp [show ¬ j = n by omega]⟩
theorem whereN (w : Int) (H : Mem) (n : Nat) : RunQ Try.prog T.T 127 [P0, U w] H n (fun r H' n' => r = .tup [I 0, I 19] ∧ Calm H n H' n') := by
  refine RunQ.ev 99 Try.func127 rfl rfl rfl rfl rfl fun C hr hn => ?_
  simp
  iterate 4 (try (refine evS_sound (f := 9) ?_; simp [partOf]))
  exact hr _ _ _ (.tup [I 0, I 19]) (by simp) ⟨rfl, by omega, fun j hj => by simp [show ¬ j = n by omega]⟩
theorem whereNR (w : Int) (H : Mem) (n : Nat) : RunQ Try.prog T.T 128 [P0, U w] H n (fun r H' n' => r = .tup [I 0, I 19] ∧ Calm H n H' n') := by
  refine RunQ.ev 99 Try.func128 rfl rfl rfl rfl rfl fun C hr hn => ?_
  simp
  iterate 4 (try (refine evS_sound (f := 9) ?_; simp [partOf]))
  exact hr _ _ _ (.tup [I 0, I 19]) (by simp) ⟨rfl, by omega, fun j hj => by simp [show ¬ j = n by omega]⟩
theorem turnN  (H : Mem) (n : Nat) : RunQ Try.prog T.T 42 [P0] H n (fun r H' n' => r = I 19 ∧ Calm H n H' n') := by
  refine RunQ.ev 99 Try.func42 rfl rfl rfl rfl rfl fun C hr hn => ?_
  simp
  iterate 4 (try (refine evS_sound (f := 9) ?_; simp [partOf]))
  exact hr _ _ _ (I 19) (by simp) ⟨rfl, by omega, fun j hj => by simp [show ¬ j = n by omega]⟩
theorem turnNR  (H : Mem) (n : Nat) : RunQ Try.prog T.T 131 [P0] H n (fun r H' n' => r = I 19 ∧ Calm H n H' n') := by
  refine RunQ.ev 99 Try.func131 rfl rfl rfl rfl rfl fun C hr hn => ?_
  simp
  iterate 4 (try (refine evS_sound (f := 9) ?_; simp [partOf]))
  exact hr _ _ _ (I 19) (by simp) ⟨rfl, by omega, fun j hj => by simp [show ¬ j = n by omega]⟩
theorem moveN (w : Int) (H : Mem) (n : Nat) : RunQ Try.prog T.T 51 [P0, U w] H n (fun r H' n' => r = .tup [U 0, I 0, I 19] ∧ Calm H n H' n') := by
  refine RunQ.ev 99 Try.func51 rfl rfl rfl rfl rfl fun C hr hn => ?_
  simp
  iterate 4 (try (refine evS_sound (f := 9) ?_; simp [partOf]))
  exact hr _ _ _ (.tup [U 0, I 0, I 19]) (by simp) ⟨rfl, by omega, fun j hj => by simp [show ¬ j = n by omega]⟩
theorem moveNR (w : Int) (H : Mem) (n : Nat) : RunQ Try.prog T.T 132 [P0, U w] H n (fun r H' n' => r = .tup [U 0, I 0, I 19] ∧ Calm H n H' n') := by
  refine RunQ.ev 99 Try.func132 rfl rfl rfl rfl rfl fun C hr hn => ?_
  simp
  iterate 4 (try (refine evS_sound (f := 9) ?_; simp [partOf]))
  exact hr _ _ _ (.tup [U 0, I 0, I 19]) (by simp) ⟨rfl, by omega, fun j hj => by simp [show ¬ j = n by omega]⟩
theorem roomN  (H : Mem) (n : Nat) : RunQ Try.prog T.T 38 [P0] H n (fun r H' n' => r = I 0 ∧ Calm H n H' n') := by
  refine RunQ.ev 99 Try.func38 rfl rfl rfl rfl rfl fun C hr hn => ?_
  simp
  iterate 4 (try (refine evS_sound (f := 9) ?_; simp [partOf]))
  exact hr _ _ _ (I 0) (by simp) ⟨rfl, by omega, fun j hj => by simp [show ¬ j = n by omega]⟩
theorem roomNR  (H : Mem) (n : Nat) : RunQ Try.prog T.T 70 [P0] H n (fun r H' n' => r = I 0 ∧ Calm H n H' n') := by
  refine RunQ.ev 99 Try.func70 rfl rfl rfl rfl rfl fun C hr hn => ?_
  simp
  iterate 4 (try (refine evS_sound (f := 9) ?_; simp [partOf]))
  exact hr _ _ _ (I 0) (by simp) ⟨rfl, by omega, fun j hj => by simp [show ¬ j = n by omega]⟩
theorem beginN  (H : Mem) (n : Nat) : RunQ Try.prog T.T 40 [P0] H n (fun r H' n' => r = I 0 ∧ Calm H n H' n') := by
  refine RunQ.ev 99 Try.func40 rfl rfl rfl rfl rfl fun C hr hn => ?_
  simp
  iterate 4 (try (refine evS_sound (f := 9) ?_; simp [partOf]))
  exact hr _ _ _ (I 0) (by simp) ⟨rfl, by omega, fun j hj => by simp [show ¬ j = n by omega]⟩
theorem beginNR  (H : Mem) (n : Nat) : RunQ Try.prog T.T 71 [P0] H n (fun r H' n' => r = I 0 ∧ Calm H n H' n') := by
  refine RunQ.ev 99 Try.func71 rfl rfl rfl rfl rfl fun C hr hn => ?_
  simp
  iterate 4 (try (refine evS_sound (f := 9) ?_; simp [partOf]))
  exact hr _ _ _ (I 0) (by simp) ⟨rfl, by omega, fun j hj => by simp [show ¬ j = n by omega]⟩
theorem nextN  (H : Mem) (n : Nat) : RunQ Try.prog T.T 39 [P0] H n (fun r H' n' => r = I 0 ∧ Calm H n H' n') := by
  refine RunQ.ev 99 Try.func39 rfl rfl rfl rfl rfl fun C hr hn => ?_
  simp
  iterate 4 (try (refine evS_sound (f := 9) ?_; simp [partOf]))
  exact hr _ _ _ (I 0) (by simp) ⟨rfl, by omega, fun j hj => by simp [show ¬ j = n by omega]⟩
theorem nextNR  (H : Mem) (n : Nat) : RunQ Try.prog T.T 72 [P0] H n (fun r H' n' => r = I 0 ∧ Calm H n H' n') := by
  refine RunQ.ev 99 Try.func72 rfl rfl rfl rfl rfl fun C hr hn => ?_
  simp
  iterate 4 (try (refine evS_sound (f := 9) ?_; simp [partOf]))
  exact hr _ _ _ (I 0) (by simp) ⟨rfl, by omega, fun j hj => by simp [show ¬ j = n by omega]⟩
theorem fieldsN (w k : Int) (H : Mem) (n : Nat) : RunQ Try.prog T.T 116 [P0, U w, I k] H n (fun r H' n' => r = .tup [.sc (.slice none 0 0), I 19] ∧ Calm H n H' n') := by
  refine RunQ.ev 99 Try.func116 rfl rfl rfl rfl rfl fun C hr hn => ?_
  simp
  iterate 4 (try (refine evS_sound (f := 9) ?_; simp [partOf]))
  exact hr _ _ _ (.tup [.sc (.slice none 0 0), I 19]) (by simp) ⟨rfl, by omega, fun j hj => by simp [show ¬ j = n by omega]⟩
theorem fieldsNR (w k : Int) (H : Mem) (n : Nat) : RunQ Try.prog T.T 146 [P0, U w, I k] H n (fun r H' n' => r = .tup [I 0, I 19] ∧ Calm H n H' n') := by
  refine RunQ.ev 99 Try.func146 rfl rfl rfl rfl rfl fun C hr hn => ?_
  simp
  iterate 4 (try (refine evS_sound (f := 9) ?_; simp [partOf]))
  exact hr _ _ _ (.tup [I 0, I 19]) (by simp) ⟨rfl, by omega, fun j hj => by simp [show ¬ j = n by omega]⟩
theorem fieldN (w k : Int) (H : Mem) (n : Nat) : RunQ Try.prog T.T 53 [P0, U w, I k] H n (fun r H' n' => r = .tup [U 0, I 19] ∧ Calm H n H' n') := by
  refine RunQ.ev 99 Try.func53 rfl rfl rfl rfl rfl fun C hr hn => ?_
  simp
  refine Stk.callS 9 (fieldsN w k _ _) rfl rfl rfl (by simp) ?_
  rintro v H1 n1 ⟨rfl, hc⟩
  simp
  iterate 4 (try (refine evS_sound (f := 9) ?_; simp [partOf]))
  exact hr _ _ _ (.tup [U 0, I 19]) (by simp) ⟨rfl, hc⟩
theorem fieldNR (w k : Int) (H : Mem) (n : Nat) : RunQ Try.prog T.T 125 [P0, U w, I k] H n (fun r H' n' => r = .tup [U 0, I 19] ∧ Calm H n H' n') := by
  refine RunQ.ev 99 Try.func125 rfl rfl rfl rfl rfl fun C hr hn => ?_
  simp
  refine Stk.callS 9 (fieldsNR w k _ _) rfl rfl rfl (by simp) ?_
  rintro v H1 n1 ⟨rfl, hc⟩
  simp
  iterate 4 (try (refine evS_sound (f := 9) ?_; simp [partOf]))
  exact hr _ _ _ (.tup [U 0, I 19]) (by simp) ⟨rfl, hc⟩
theorem setN (w k v : Int) (H : Mem) (n : Nat) : RunQ Try.prog T.T 129 [P0, U w, I k, U v] H n (fun r H' n' => r = I 19 ∧ Calm H n H' n') := by
  refine RunQ.ev 99 Try.func129 rfl rfl rfl rfl rfl fun C hr hn => ?_
  simp
  refine Stk.callS 9 (fieldsN w k _ _) rfl rfl rfl (by simp) ?_
  rintro v H1 n1 ⟨rfl, hc⟩
  simp
  iterate 4 (try (refine evS_sound (f := 9) ?_; simp [partOf]))
  exact hr _ _ _ (I 19) (by simp) ⟨rfl, hc⟩
theorem setNR (w k v : Int) (H : Mem) (n : Nat) : RunQ Try.prog T.T 130 [P0, U w, I k, U v] H n (fun r H' n' => r = I 19 ∧ Calm H n H' n') := by
  refine RunQ.ev 99 Try.func130 rfl rfl rfl rfl rfl fun C hr hn => ?_
  simp
  refine Stk.callS 9 (fieldsNR w k _ _) rfl rfl rfl (by simp) ?_
  rintro v H1 n1 ⟨rfl, hc⟩
  simp
  iterate 4 (try (refine evS_sound (f := 9) ?_; simp [partOf]))
  exact hr _ _ _ (I 19) (by simp) ⟨rfl, hc⟩
theorem putN (k t c : Int) (l : List Int) (H : Mem) (n : Nat) : RunQ Try.prog T.T 37 [P0, hd k t c, .ssl (encs eU l) l.length false] H n (fun r H' n' => r = .tup [U 0, I 19] ∧ Calm H n H' n') := by
  refine RunQ.ev 99 Try.func37 rfl rfl rfl rfl rfl fun C hr hn => ?_
  simp [partOf]
  refine Stk.callF 9 (headF k t c) rfl rfl rfl (by simp) rfl rfl ?_
  simp
  iterate 6 (try (refine evS_sound (f := 9) ?_; simp [partOf]))
  exact hr _ _ _ (.tup [U 0, I 19]) (by simp) ⟨rfl, by omega, fun j hj => by simp [show ¬ j = n by omega]⟩
theorem putNR (k t c : Int) (l : List Int) (H : Mem) (n : Nat) : RunQ Try.prog T.T 123 [P0, hd k t c, .ssl (encs eU l) l.length false] H n (fun r H' n' => r = .tup [U 0, I 19] ∧ Calm H n H' n') := by
  refine RunQ.ev 99 Try.func123 rfl rfl rfl rfl rfl fun C hr hn => ?_
  simp [partOf]
  iterate 6 (try (refine evS_sound (f := 9) ?_; simp [partOf]))
  exact hr _ _ _ (.tup [U 0, I 19]) (by simp) ⟨rfl, by omega, fun j hj => by simp [show ¬ j = n by omega]⟩
theorem dumpN (H : Mem) (n : Nat) : RunQ Try.prog T.T 65 [P0] H n (fun r H' n' => r = .agg [.ssl [] 0 false, I 0, B false, I 0, B false, I 0] ∧ Calm H n H' n') := by
  refine RunQ.ev 99 Try.func65 rfl rfl rfl rfl rfl fun C hr hn => ?_
  simp [partOf]
  iterate 6 (try (refine evS_sound (f := 9) ?_; simp [partOf, splice]))
  exact hr _ _ _ (.agg [.ssl [] 0 false, I 0, B false, I 0, B false, I 0]) (by simp [partOf]) ⟨rfl, by omega, fun j hj => by simp [show ¬ j = n by omega]⟩
theorem dumpNR (H : Mem) (n : Nat) : RunQ Try.prog T.T 74 [P0] H n (fun r H' n' => r = .agg [.ssl [] 0 false, I 0, B false, I 0, B false, I 0] ∧ Calm H n H' n') := by
  refine RunQ.ev 99 Try.func74 rfl rfl rfl rfl rfl fun C hr hn => ?_
  simp [partOf]
  iterate 6 (try (refine evS_sound (f := 9) ?_; simp [partOf, splice]))
  exact hr _ _ _ (.agg [.ssl [] 0 false, I 0, B false, I 0, B false, I 0]) (by simp [partOf]) ⟨rfl, by omega, fun j hj => by simp [show ¬ j = n by omega]⟩
end Go.Proofs.Ytfflojbgikfbmaa.Hea

/-
  The law's same: one thing done with no heap at all.
-/
namespace Go.Proofs.Ytfflojbgikfbmaa.Hea
open Go.Proofs.YtfflojbgikfbmaaW.Ah
open Go.Proofs.Ytfflojbgikfbmaa.Sta (U Er eU wrap_nsub wrap_pred load_u)
set_option maxRecDepth 4000
set_option linter.unusedVariables false
set_option linter.unusedSimpArgs false
attribute [local simp] T.t3 T.t4 T.t5 T.t9 T.t26 T.t34 T.t35 T.t39 T.t40 T.t62 T.t63 T.t70 T.t93 T.t113 T.t144 T.t108 T.t176 Op.maxDepth List.range List.range.loop
attribute [-simp] appendAV cellsOf cellOk partOk
attribute [local simp] cellsOf_sc cellOk_sc partOk_sc cellsOf_own cellOk_own partOk_own cellsOf_osl cellOk_osl partOk_osl cellsOf_sh cellOk_sh partOk_sh cellsOf_ssl cellOk_ssl partOk_ssl cellsOf_esl cellOk_esl partOk_esl cellsOf_fn cellOk_fn partOk_fn cellsOf_omap cellOk_omap partOk_omap cellsOf_agg partOk_agg cellsOf_slv cellOk_slv partOk_slv


theorem sameN0 {H : Mem} {n : Nat} (d : M.handloomlaw16_Do) (hk : d.Kind.tmod 6 = 0) :
    RunQ Try.prog T.T 69 [P0, P0, DoA d] H n (fun r H' n' => r = B true ∧ Calm H n H' n') := by
  obtain ⟨H1, hH1⟩ : ∃ H1 : Mem, H1 = upd H n (some (.cells [.sc (.int .u8 d.Kind), I d.X.Kind, I d.X.Tag, I d.X.Count, .ssl (encs eU d.L) d.L.length false, U d.W, I d.I] 113)) := ⟨_, rfl⟩
  have hc1 : Calm H n H1 (n + 1) := ⟨by omega, fun j hj => by rw [hH1, upd_ne _ _ (by omega)]⟩
  have h1n : H1 n = some (.cells [.sc (.int .u8 d.Kind), I d.X.Kind, I d.X.Tag, I d.X.Count, .ssl (encs eU d.L) d.L.length false, U d.W, I d.I] 113) := by rw [hH1, upd_same]
  refine RunQ.ev 9 Try.func69 rfl rfl rfl rfl rfl fun C hr hn => ?_
  simp [box113, hk]
  rw [← hH1]
  iterate 8 (try (refine evS_sound (f := 8) ?_; simp [h1n, hk, partOf]))
  refine Stk.callS 8 (putN d.X.Kind d.X.Tag d.X.Count d.L _ _) rfl rfl rfl (by simp) ?_
  rintro v H2 n2 ⟨rfl, hc2⟩
  have g2 := hc2.1
  have h2n : H2 n = some (.cells [.sc (.int .u8 d.Kind), I d.X.Kind, I d.X.Tag, I d.X.Count, .ssl (encs eU d.L) d.L.length false, U d.W, I d.I] 113) := by rw [hc2.2 n (by omega)]; exact h1n
  simp [h2n, partOf]
  iterate 8 (try (refine evS_sound (f := 8) ?_; simp [h2n, partOf]))
  refine Stk.callS 8 (putNR d.X.Kind d.X.Tag d.X.Count d.L _ _) rfl rfl rfl (by simp) ?_
  rintro v H3 n3 ⟨rfl, hc3⟩
  have g3 := hc3.1
  have h3n : H3 n = some (.cells [.sc (.int .u8 d.Kind), I d.X.Kind, I d.X.Tag, I d.X.Count, .ssl (encs eU d.L) d.L.length false, U d.W, I d.I] 113) := by rw [hc3.2 n (by omega)]; exact h2n
  simp [h3n, partOf]
  iterate 8 (try (refine evS_sound (f := 8) ?_; simp [h3n, partOf]))
  refine hr _ _ _ (B true) (by simp) ⟨rfl, by omega, fun j hj => ?_⟩
  rw [hc3.2 j (by omega), hc2.2 j (by omega), hc1.2 j (by omega)]

theorem sameN1 {H : Mem} {n : Nat} (d : M.handloomlaw16_Do) (hk : d.Kind.tmod 6 = 1) :
    RunQ Try.prog T.T 69 [P0, P0, DoA d] H n (fun r H' n' => r = B true ∧ Calm H n H' n') := by
  obtain ⟨H1, hH1⟩ : ∃ H1 : Mem, H1 = upd H n (some (.cells [.sc (.int .u8 d.Kind), I d.X.Kind, I d.X.Tag, I d.X.Count, .ssl (encs eU d.L) d.L.length false, U d.W, I d.I] 113)) := ⟨_, rfl⟩
  have hc1 : Calm H n H1 (n + 1) := ⟨by omega, fun j hj => by rw [hH1, upd_ne _ _ (by omega)]⟩
  have h1n : H1 n = some (.cells [.sc (.int .u8 d.Kind), I d.X.Kind, I d.X.Tag, I d.X.Count, .ssl (encs eU d.L) d.L.length false, U d.W, I d.I] 113) := by rw [hH1, upd_same]
  refine RunQ.ev 9 Try.func69 rfl rfl rfl rfl rfl fun C hr hn => ?_
  simp [box113, hk]
  rw [← hH1]
  iterate 8 (try (refine evS_sound (f := 8) ?_; simp [h1n, hk, partOf]))
  refine Stk.callS 8 (lookN d.W _ _) rfl rfl rfl (by simp) ?_
  rintro v H2 n2 ⟨rfl, hc2⟩
  have g2 := hc2.1
  have h2n : H2 n = some (.cells [.sc (.int .u8 d.Kind), I d.X.Kind, I d.X.Tag, I d.X.Count, .ssl (encs eU d.L) d.L.length false, U d.W, I d.I] 113) := by rw [hc2.2 n (by omega)]; exact h1n
  simp
  iterate 6 (try (refine evS_sound (f := 8) ?_; simp [h2n, partOf, show n ≠ n2 by omega]))
  refine Stk.callS 8 (lookNR d.W _ _) rfl rfl rfl (by simp) ?_
  rintro v H3 n3 ⟨rfl, hc3⟩
  have g3 := hc3.1
  have h3x : H3 n2 = some (.cells [I 0, I 0, I 0] 34) := by rw [hc3.2 n2 (by omega), upd_same]
  simp
  iterate 6 (try (refine evS_sound (f := 8) ?_; simp [h3x, partOf, show ¬ n2 = n3 by omega]))
  refine hr _ _ _ (B true) (by simp) ⟨rfl, by omega, fun j hj => ?_⟩
  rw [upd_ne _ _ (by omega), upd_ne _ _ (by omega), hc3.2 j (by omega), upd_ne _ _ (by omega), upd_ne _ _ (by omega), hc2.2 j (by omega), hc1.2 j hj]

theorem sameN2 {H : Mem} {n : Nat} (d : M.handloomlaw16_Do) (hk : d.Kind.tmod 6 = 2) :
    RunQ Try.prog T.T 69 [P0, P0, DoA d] H n (fun r H' n' => r = B true ∧ Calm H n H' n') := by
  obtain ⟨H1, hH1⟩ : ∃ H1 : Mem, H1 = upd H n (some (.cells [.sc (.int .u8 d.Kind), I d.X.Kind, I d.X.Tag, I d.X.Count, .ssl (encs eU d.L) d.L.length false, U d.W, I d.I] 113)) := ⟨_, rfl⟩
  have hc1 : Calm H n H1 (n + 1) := ⟨by omega, fun j hj => by rw [hH1, upd_ne _ _ (by omega)]⟩
  have h1n : H1 n = some (.cells [.sc (.int .u8 d.Kind), I d.X.Kind, I d.X.Tag, I d.X.Count, .ssl (encs eU d.L) d.L.length false, U d.W, I d.I] 113) := by rw [hH1, upd_same]
  refine RunQ.ev 9 Try.func69 rfl rfl rfl rfl rfl fun C hr hn => ?_
  simp [box113, hk]
  rw [← hH1]
  iterate 8 (try (refine evS_sound (f := 8) ?_; simp [h1n, hk, partOf]))
  refine Stk.callS 8 (fieldN d.W d.I _ _) rfl rfl rfl (by simp) ?_
  rintro v H2 n2 ⟨rfl, hc2⟩
  have g2 := hc2.1
  have h2n : H2 n = some (.cells [.sc (.int .u8 d.Kind), I d.X.Kind, I d.X.Tag, I d.X.Count, .ssl (encs eU d.L) d.L.length false, U d.W, I d.I] 113) := by rw [hc2.2 n (by omega)]; exact h1n
  simp [h2n, partOf]
  iterate 8 (try (refine evS_sound (f := 8) ?_; simp [h2n, partOf]))
  refine Stk.callS 8 (fieldNR d.W d.I _ _) rfl rfl rfl (by simp) ?_
  rintro v H3 n3 ⟨rfl, hc3⟩
  have g3 := hc3.1
  have h3n : H3 n = some (.cells [.sc (.int .u8 d.Kind), I d.X.Kind, I d.X.Tag, I d.X.Count, .ssl (encs eU d.L) d.L.length false, U d.W, I d.I] 113) := by rw [hc3.2 n (by omega)]; exact h2n
  simp [h3n, partOf]
  iterate 8 (try (refine evS_sound (f := 8) ?_; simp [h3n, partOf]))
  refine Stk.callS 8 (textNN d.W _ _) rfl rfl rfl (by simp) ?_
  rintro v H4 n4 ⟨rfl, hc4⟩
  have g4 := hc4.1
  have h4n : H4 n = some (.cells [.sc (.int .u8 d.Kind), I d.X.Kind, I d.X.Tag, I d.X.Count, .ssl (encs eU d.L) d.L.length false, U d.W, I d.I] 113) := by rw [hc4.2 n (by omega)]; exact h3n
  simp [h4n, partOf]
  iterate 8 (try (refine evS_sound (f := 8) ?_; simp [h4n, partOf]))
  refine Stk.callS 8 (textNR d.W _ _) rfl rfl rfl (by simp) ?_
  rintro v H5 n5 ⟨rfl, hc5⟩
  have g5 := hc5.1
  have h5n : H5 n = some (.cells [.sc (.int .u8 d.Kind), I d.X.Kind, I d.X.Tag, I d.X.Count, .ssl (encs eU d.L) d.L.length false, U d.W, I d.I] 113) := by rw [hc5.2 n (by omega)]; exact h4n
  simp [h5n, partOf]
  iterate 8 (try (refine evS_sound (f := 8) ?_; simp [h5n, partOf]))
  refine Stk.callS 8 (whereN d.W _ _) rfl rfl rfl (by simp) ?_
  rintro v H6 n6 ⟨rfl, hc6⟩
  have g6 := hc6.1
  have h6n : H6 n = some (.cells [.sc (.int .u8 d.Kind), I d.X.Kind, I d.X.Tag, I d.X.Count, .ssl (encs eU d.L) d.L.length false, U d.W, I d.I] 113) := by rw [hc6.2 n (by omega)]; exact h5n
  simp [h6n, partOf]
  iterate 8 (try (refine evS_sound (f := 8) ?_; simp [h6n, partOf]))
  refine Stk.callS 8 (whereNR d.W _ _) rfl rfl rfl (by simp) ?_
  rintro v H7 n7 ⟨rfl, hc7⟩
  have g7 := hc7.1
  have h7n : H7 n = some (.cells [.sc (.int .u8 d.Kind), I d.X.Kind, I d.X.Tag, I d.X.Count, .ssl (encs eU d.L) d.L.length false, U d.W, I d.I] 113) := by rw [hc7.2 n (by omega)]; exact h6n
  simp [h7n, partOf]
  iterate 8 (try (refine evS_sound (f := 8) ?_; simp [h7n, partOf]))
  refine Stk.callB 8 [] (bytesF [] false false) rfl rfl rfl (by simp) (.cons .nilS (.cons .nilS .nil)) rfl ?_
  simp
  iterate 8 (try (refine evS_sound (f := 8) ?_; simp))
  refine hr _ _ _ (B true) (by simp) ⟨rfl, by omega, fun j hj => ?_⟩
  rw [hc7.2 j (by omega), hc6.2 j (by omega), hc5.2 j (by omega), hc4.2 j (by omega), hc3.2 j (by omega), hc2.2 j (by omega), hc1.2 j (by omega)]

theorem sameN3 {H : Mem} {n : Nat} (d : M.handloomlaw16_Do) (hk : d.Kind.tmod 6 = 3) :
    RunQ Try.prog T.T 69 [P0, P0, DoA d] H n (fun r H' n' => r = B true ∧ Calm H n H' n') := by
  obtain ⟨H1, hH1⟩ : ∃ H1 : Mem, H1 = upd H n (some (.cells [.sc (.int .u8 d.Kind), I d.X.Kind, I d.X.Tag, I d.X.Count, .ssl (encs eU d.L) d.L.length false, U d.W, I d.I] 113)) := ⟨_, rfl⟩
  have hc1 : Calm H n H1 (n + 1) := ⟨by omega, fun j hj => by rw [hH1, upd_ne _ _ (by omega)]⟩
  have h1n : H1 n = some (.cells [.sc (.int .u8 d.Kind), I d.X.Kind, I d.X.Tag, I d.X.Count, .ssl (encs eU d.L) d.L.length false, U d.W, I d.I] 113) := by rw [hH1, upd_same]
  refine RunQ.ev 9 Try.func69 rfl rfl rfl rfl rfl fun C hr hn => ?_
  simp [box113, hk]
  rw [← hH1]
  iterate 9 (try (refine evS_sound (f := 4) ?_; simp [h1n, hk, partOf]))
  refine Stk.regionD 99 [.rd [], .rd [], .rd [n], .rd [], .rd [n], .mem [] (n + 1), .rd [], .rd [], .rd [n], .rd [], .rd [n], .mem [] (n + 1), .rd [], .rd []] none (by kernel_rfl) (by rfl) rfl (by simp [below]) rfl ?_
  simp [h1n, partOf]
  refine Stk.callSD 8 rfl ?_ (setN d.W d.I 7 _ _) rfl rfl rfl rfl (by simp) ?_
  · rintro v H' n' ⟨_, hc⟩ j hj hj2
    exact hc.2 j hj
  rintro v H2 n2 ⟨rfl, hc2⟩
  have g2 := hc2.1
  have h2n : H2 n = some (.cells [.sc (.int .u8 d.Kind), I d.X.Kind, I d.X.Tag, I d.X.Count, .ssl (encs eU d.L) d.L.length false, U d.W, I d.I] 113) := by rw [hc2.2 n (by omega)]; exact h1n
  simp [h2n, partOf]
  iterate 8 (try (refine evS_sound (f := 8) ?_; simp [h2n, partOf]))
  refine Stk.callSD 8 rfl ?_ (setNR d.W d.I 7 _ _) rfl rfl rfl rfl (by simp) ?_
  · rintro v H' n' ⟨_, hc⟩ j hj hj2
    exact hc.2 j (by omega)
  rintro v H3 n3 ⟨rfl, hc3⟩
  have g3 := hc3.1
  simp
  iterate 4 (try (refine evS_sound (f := 8) ?_; simp))
  refine hr _ _ _ (B true) (by simp) ⟨rfl, by omega, fun j hj => ?_⟩
  rw [hc3.2 j (by omega), hc2.2 j (by omega), hc1.2 j (by omega)]

theorem sameN4 {H : Mem} {n : Nat} (d : M.handloomlaw16_Do) (hk : d.Kind.tmod 6 = 4) :
    RunQ Try.prog T.T 69 [P0, P0, DoA d] H n (fun r H' n' => r = B true ∧ Calm H n H' n') := by
  obtain ⟨H1, hH1⟩ : ∃ H1 : Mem, H1 = upd H n (some (.cells [.sc (.int .u8 d.Kind), I d.X.Kind, I d.X.Tag, I d.X.Count, .ssl (encs eU d.L) d.L.length false, U d.W, I d.I] 113)) := ⟨_, rfl⟩
  have hc1 : Calm H n H1 (n + 1) := ⟨by omega, fun j hj => by rw [hH1, upd_ne _ _ (by omega)]⟩
  have h1n : H1 n = some (.cells [.sc (.int .u8 d.Kind), I d.X.Kind, I d.X.Tag, I d.X.Count, .ssl (encs eU d.L) d.L.length false, U d.W, I d.I] 113) := by rw [hH1, upd_same]
  refine RunQ.ev 9 Try.func69 rfl rfl rfl rfl rfl fun C hr hn => ?_
  simp [box113, hk]
  rw [← hH1]
  iterate 8 (try (refine evS_sound (f := 8) ?_; simp [h1n, hk, partOf]))
  refine Stk.callS 8 (turnN _ _) rfl rfl rfl (by simp) ?_
  rintro v H2 n2 ⟨rfl, hc2⟩
  have g2 := hc2.1
  have h2n : H2 n = some (.cells [.sc (.int .u8 d.Kind), I d.X.Kind, I d.X.Tag, I d.X.Count, .ssl (encs eU d.L) d.L.length false, U d.W, I d.I] 113) := by rw [hc2.2 n (by omega)]; exact h1n
  simp [h2n, partOf]
  iterate 8 (try (refine evS_sound (f := 8) ?_; simp [h2n, partOf]))
  refine Stk.callS 8 (turnNR _ _) rfl rfl rfl (by simp) ?_
  rintro v H3 n3 ⟨rfl, hc3⟩
  have g3 := hc3.1
  have h3n : H3 n = some (.cells [.sc (.int .u8 d.Kind), I d.X.Kind, I d.X.Tag, I d.X.Count, .ssl (encs eU d.L) d.L.length false, U d.W, I d.I] 113) := by rw [hc3.2 n (by omega)]; exact h2n
  simp [h3n, partOf]
  iterate 8 (try (refine evS_sound (f := 8) ?_; simp [h3n, partOf]))
  refine hr _ _ _ (B true) (by simp) ⟨rfl, by omega, fun j hj => ?_⟩
  rw [hc3.2 j (by omega), hc2.2 j (by omega), hc1.2 j (by omega)]

theorem sameN5 {H : Mem} {n : Nat} (d : M.handloomlaw16_Do) (hk : d.Kind.tmod 6 = 5) :
    RunQ Try.prog T.T 69 [P0, P0, DoA d] H n (fun r H' n' => r = B true ∧ Calm H n H' n') := by
  obtain ⟨H1, hH1⟩ : ∃ H1 : Mem, H1 = upd H n (some (.cells [.sc (.int .u8 d.Kind), I d.X.Kind, I d.X.Tag, I d.X.Count, .ssl (encs eU d.L) d.L.length false, U d.W, I d.I] 113)) := ⟨_, rfl⟩
  have hc1 : Calm H n H1 (n + 1) := ⟨by omega, fun j hj => by rw [hH1, upd_ne _ _ (by omega)]⟩
  have h1n : H1 n = some (.cells [.sc (.int .u8 d.Kind), I d.X.Kind, I d.X.Tag, I d.X.Count, .ssl (encs eU d.L) d.L.length false, U d.W, I d.I] 113) := by rw [hH1, upd_same]
  refine RunQ.ev 9 Try.func69 rfl rfl rfl rfl rfl fun C hr hn => ?_
  simp [box113, hk]
  rw [← hH1]
  iterate 8 (try (refine evS_sound (f := 8) ?_; simp [h1n, hk, partOf]))
  refine Stk.callS 8 (moveN d.W _ _) rfl rfl rfl (by simp) ?_
  rintro v H2 n2 ⟨rfl, hc2⟩
  have g2 := hc2.1
  have h2n : H2 n = some (.cells [.sc (.int .u8 d.Kind), I d.X.Kind, I d.X.Tag, I d.X.Count, .ssl (encs eU d.L) d.L.length false, U d.W, I d.I] 113) := by rw [hc2.2 n (by omega)]; exact h1n
  simp [h2n, partOf]
  iterate 8 (try (refine evS_sound (f := 8) ?_; simp [h2n, partOf]))
  refine Stk.callS 8 (moveNR d.W _ _) rfl rfl rfl (by simp) ?_
  rintro v H3 n3 ⟨rfl, hc3⟩
  have g3 := hc3.1
  have h3n : H3 n = some (.cells [.sc (.int .u8 d.Kind), I d.X.Kind, I d.X.Tag, I d.X.Count, .ssl (encs eU d.L) d.L.length false, U d.W, I d.I] 113) := by rw [hc3.2 n (by omega)]; exact h2n
  simp [h3n, partOf]
  iterate 8 (try (refine evS_sound (f := 8) ?_; simp [h3n, partOf]))
  refine hr _ _ _ (B true) (by simp) ⟨rfl, by omega, fun j hj => ?_⟩
  rw [hc3.2 j (by omega), hc2.2 j (by omega), hc1.2 j (by omega)]

theorem six (k : Int) (h0 : 0 ≤ k) : k.tmod 6 = 0 ∨ k.tmod 6 = 1 ∨ k.tmod 6 = 2 ∨ k.tmod 6 = 3 ∨ k.tmod 6 = 4 ∨ k.tmod 6 = 5 := by
  rw [Int.tmod_eq_emod_of_nonneg h0]; omega
theorem sameN (H : Mem) (n : Nat) (d : M.handloomlaw16_Do) (h0 : 0 ≤ d.Kind) : RunQ Try.prog T.T 69 [P0, P0, DoA d] H n (fun r H' n' => r = B true ∧ Calm H n H' n') := by
  rcases six d.Kind h0 with h | h | h | h | h | h
  · exact sameN0 d h
  · exact sameN1 d h
  · exact sameN2 d h
  · exact sameN3 d h
  · exact sameN4 d h
  · exact sameN5 d h
theorem sameQ {H : Mem} {n p i p' i' : Nat} {c c' : Option Nat} {h : Hp} (s : Two H n p i c p' i' c' h) (d : M.handloomlaw16_Do) (ok : DoOk d) (h0 : 0 ≤ d.Kind) :
    RunQ Try.prog T.T 69 [.own p 0, .own p' 0, DoA d] H n (fun r H' n' => Same69 H n p i c p' i' c' r H' n') := by
  rcases six d.Kind h0 with h | h | h | h | h | h
  · exact same0 s d ok h
  · exact same1 s d ok h
  · exact same2 s d ok h
  · exact same3 s d ok h
  · exact same4 s d ok h
  · exact same5 s d ok h
end Go.Proofs.Ytfflojbgikfbmaa.Hea
