/-
  GraphTells for any graphs.
-/
import Derived.Test.YtfflojbgikfbmaaGG
import Derived.Test.YtfflojbgikfbmaaGH
namespace Go.Proofs.Ytfflojbgikfbmaa.Gra
open Go.Proofs.YtfflojbgikfbmaaW.Ah
open M (api_Node api_Edge c3 c31 c37 Seen okB stepE reachGo findN)
set_option maxRecDepth 4000
set_option linter.unusedVariables false
set_option linter.unusedSimpArgs false
attribute [local simp] T.t2 T.t3 T.t4 T.t5 T.t22 T.t23 T.t26 T.t31 T.t34 T.t35 T.t37 T.t119 T.t124 T.t203 T.t138 T.t198 T.t200 Op.maxDepth List.range List.range.loop
attribute [-simp] appendAV cellsOf cellOk partOk
attribute [local simp] cellsOf_sc cellOk_sc partOk_sc cellsOf_own cellOk_own partOk_own cellsOf_osl cellOk_osl partOk_osl cellsOf_sh cellOk_sh partOk_sh cellsOf_ssl cellOk_ssl partOk_ssl cellsOf_esl cellOk_esl partOk_esl cellsOf_fn cellOk_fn partOk_fn cellsOf_omap cellOk_omap partOk_omap cellsOf_agg partOk_agg cellsOf_slv cellOk_slv partOk_slv

open M (fewP sameB wordsP canonP FewF)
theorem i64_in {x : Int} (h : M.W3 x) : -9223372036854775808 ≤ x ∧ x ≤ 9223372036854775807 := by
  simpa [M.W3, IntKind.min, IntKind.max, IntKind.signed, IntKind.bits] using h
theorem bytes_in {l : List api_Node} (w : M.W22 l) : ∀ n ∈ l, ∀ v ∈ n.Bytes, 0 ≤ v ∧ v ≤ 255 := fun n hn v hv => by
  have := (w.2 n hn).2.1.2 v hv
  simpa [M.W5, IntKind.min, IntKind.max, IntKind.signed, IntKind.bits] using this
theorem edges_in {x : List api_Edge} (w : M.W23 x) : ∀ e ∈ x, W31 e := fun e he => by
  have := (w.2 e he).2.2
  simpa [W31, M.W2, IntKind.min, IntKind.max, IntKind.signed, IntKind.bits] using this
theorem few_of {l : List api_Node} (w : M.W22 l) (h : fewP l 0 = true) : Few l ∧ l.length ≤ 600 ∧ ∀ n ∈ l, n.Kids.length ≤ 600 ∧ n.Bytes.length ≤ 600 := by
  obtain ⟨q1, q2⟩ := M.fewP_ok l 0 (fun n hn => ⟨(w.2 n hn).2.2.1, (w.2 n hn).2.1.1⟩) (by omega) (by omega) h
  exact ⟨⟨by omega, fun n hn => ⟨by have := (q2 n hn).1; omega, edges_in (w.2 n hn).2.2, by have := (q2 n hn).2; omega⟩⟩, by omega, q2⟩
theorem fewF_of {l : List api_Node} (w : M.W22 l) (h : fewP l 0 = true) : FewF 2000 l := by
  obtain ⟨_, q1, q2⟩ := few_of w h
  exact ⟨⟨by omega, by omega⟩, fun n hn => ⟨⟨by have := (q2 n hn).1; omega, by have := (q2 n hn).1; omega⟩, ⟨by have := (q2 n hn).2; omega, by have := (q2 n hn).2; omega⟩, bytes_in w n hn⟩⟩

theorem fewR {l : List api_Node} (w : M.W22 l) : RunF Try.prog T.T 14 [.ssl (encs c37 l) l.length false] (B (fewP l 0)) :=
  M.ok_L17_few (l.length + 1) l _ (M.few_ok _ l (by omega) (by have := w.1; unfold reachBytes at this; omega))
theorem awakeG : RunF Try.prog T.T 15 [] (B true) := M.ok_L17_awake 0 true rfl

theorem tells (a b : List api_Node) (x y : List api_Edge) (wa : M.W22 a) (wb : M.W22 b) (wx : M.W23 x) (wy : M.W23 y) :
    RunF Try.prog T.T 6 [.ssl (encs c37 a) a.length false, .ssl (encs c37 b) b.length false, .ssl (encs c31 x) x.length false, .ssl (encs c31 y) y.length false] (B true) := by
  have fa := fewR wa
  have fb := fewR wb
  have r37 : ∀ l : List api_Node, freeL (encs c37 l) = true := freeL_encs M.fr37
  have r31 : ∀ l : List api_Edge, freeL (encs c31 l) = true := freeL_encs M.fr31
  refine RunF.ev 9 Try.func6 rfl rfl rfl rfl rfl fun C hr hn => ?_
  simp
  refine Stk.callF 8 fa rfl rfl rfl (by simp) (by simp [freeL, free, r37]) rfl ?_
  cases ga : fewP a 0 with
  | false =>
    simp
    iterate 6 (try (refine evS_sound (f := 8) ?_; simp))
    refine Stk.callF 8 awakeG rfl rfl rfl (by simp) rfl rfl ?_
    simp
    iterate 6 (try (refine evS_sound (f := 8) ?_; simp))
    exact hr _ _ _ (by simp)
  | true =>
    simp
    iterate 6 (try (refine evS_sound (f := 3) ?_; simp))
    refine Stk.callF 8 fb rfl rfl rfl (by simp) (by simp [freeL, free, r37]) rfl ?_
    cases gb : fewP b 0 with
    | false =>
      simp
      iterate 6 (try (refine evS_sound (f := 8) ?_; simp))
      refine Stk.callF 8 awakeG rfl rfl rfl (by simp) rfl rfl ?_
      simp
      iterate 6 (try (refine evS_sound (f := 8) ?_; simp))
      exact hr _ _ _ (by simp)
    | true =>
      by_cases gx : 60 < x.length
      · have gxi : (60 : Int) < x.length := by omega
        simp [gx, gxi]
        iterate 6 (try (refine evS_sound (f := 8) ?_; simp [gx, gxi]))
        refine Stk.callF 8 awakeG rfl rfl rfl (by simp) rfl rfl ?_
        simp
        iterate 6 (try (refine evS_sound (f := 8) ?_; simp))
        exact hr _ _ _ (by simp)
      · have gxi : ¬ (60 : Int) < x.length := by omega
        by_cases gy : 60 < y.length
        · have gyi : (60 : Int) < y.length := by omega
          simp [gx, gxi, gy, gyi]
          iterate 6 (try (refine evS_sound (f := 8) ?_; simp [gx, gxi, gy, gyi]))
          refine Stk.callF 8 awakeG rfl rfl rfl (by simp) rfl rfl ?_
          simp
          iterate 6 (try (refine evS_sound (f := 8) ?_; simp))
          exact hr _ _ _ (by simp)
        · have gyi : ¬ (60 : Int) < y.length := by omega
          obtain ⟨few, ha1, ha2⟩ := few_of wa ga
          have Fa := fewF_of wa ga
          have Fb := fewF_of wb gb
          obtain ⟨cp1, cp2, cp3⟩ := M.canonP_of a x
          obtain ⟨P, hP⟩ : ∃ P, P = canonP a x := ⟨_, rfl⟩
          have c1 := canonF a x few (by omega) (edges_in wx)
          have c2 := canonR a x few (by omega)
          rw [← hP] at c1 c2 cp1 cp2 cp3
          have FP : FewF 2000 P.1 := ⟨⟨by omega, by omega⟩, fun n' hn' => by
            obtain ⟨n, hn, e1, e2⟩ := cp3 n' hn'
            have := ha2 n hn
            rw [e1, e2]
            exact ⟨⟨by omega, by omega⟩, ⟨by omega, by omega⟩, bytes_in wa n hn⟩⟩
          have s1 := M.ok_R17_Same 2000 P.1 P.1 P.2.1 P.2.1 _ (M.rSame_ok 2000 P.1 P.1 P.2.1 P.2.1 FP (fun n hn => (FP.nodes n hn).2.2) ⟨by omega, by omega⟩)
          rw [M.same_refl] at s1
          have s2 := M.ok_graph_Same 2000 a b x y _ (M.gSame_ok 2000 a b x y Fa ⟨by omega, by omega⟩)
          have s3 := M.ok_R17_Same 2000 a b x y _ (M.rSame_ok 2000 a b x y Fa (bytes_in wb) ⟨by omega, by omega⟩)
          have s4 := M.ok_graph_Same 2000 a a x x _ (M.gSame_ok 2000 a a x x Fa ⟨by omega, by omega⟩)
          rw [M.same_refl] at s4
          obtain ⟨ww1, ww2⟩ := M.words_ok 2000 a (by omega) (by omega)
          have s5 := M.ok_graph_Words 2000 a _ ww1
          have s6 := M.ok_R17_Words 2000 a _ ww2
          simp [gx, gxi, gy, gyi]
          iterate 8 (try (refine evS_sound (f := 6) ?_; simp [gx, gxi, gy, gyi]))
          refine Stk.callF 6 c1 rfl rfl rfl (by simp) (by simp [freeL, free, r37, r31]) (by simp [freeL, free, r37, r31]) ?_
          simp
          iterate 8 (try (refine evS_sound (f := 6) ?_; simp))
          refine Stk.callF 6 c2 rfl rfl rfl (by simp) (by simp [freeL, free, r37, r31]) (by simp [freeL, free, r37, r31]) ?_
          simp
          iterate 8 (try (refine evS_sound (f := 6) ?_; simp))
          refine Stk.callF 6 s1 rfl rfl rfl (by simp) (by simp [freeL, free, r37, r31]) rfl ?_
          simp
          iterate 8 (try (refine evS_sound (f := 6) ?_; simp))
          refine Stk.callF 6 s2 rfl rfl rfl (by simp) (by simp [freeL, free, r37, r31]) rfl ?_
          simp
          iterate 8 (try (refine evS_sound (f := 6) ?_; simp))
          refine Stk.callF 6 s3 rfl rfl rfl (by simp) (by simp [freeL, free, r37, r31]) rfl ?_
          simp
          iterate 8 (try (refine evS_sound (f := 6) ?_; simp))
          refine Stk.callF 6 s4 rfl rfl rfl (by simp) (by simp [freeL, free, r37, r31]) rfl ?_
          simp
          iterate 8 (try (refine evS_sound (f := 6) ?_; simp))
          refine Stk.callF 6 s5 rfl rfl rfl (by simp) (by simp [freeL, free, r37, r31]) rfl ?_
          simp
          iterate 8 (try (refine evS_sound (f := 6) ?_; simp))
          refine Stk.callF 6 s6 rfl rfl rfl (by simp) (by simp [freeL, free, r37, r31]) rfl ?_
          simp
          iterate 8 (try (refine evS_sound (f := 6) ?_; simp))
          refine Stk.callF 6 awakeG rfl rfl rfl (by simp) rfl rfl ?_
          simp
          iterate 8 (try (refine evS_sound (f := 6) ?_; simp))
          exact hr _ _ _ (by simp)
end Go.Proofs.Ytfflojbgikfbmaa.Gra
namespace Go.Proofs.Ytfflojbgikfbmaa
open Go.Proofs.YtfflojbgikfbmaaW.Ah
theorem Pure.GraphTells (l : List AV) (h : TypAs T.T [22, 22, 23, 23] l) : RunF Try.prog T.T 6 l (B true) := by
  cases h with
  | cons a0 h =>
    cases h with
    | cons a1 h =>
      cases h with
      | cons a2 h =>
        cases h with
        | cons a3 h =>
          cases h with
          | nil =>
            obtain ⟨x0, rfl, w0⟩ := M.oa22 _ a0
            obtain ⟨x1, rfl, w1⟩ := M.oa22 _ a1
            obtain ⟨x2, rfl, w2⟩ := M.oa23 _ a2
            obtain ⟨x3, rfl, w3⟩ := M.oa23 _ a3
            exact Gra.tells x0 x1 x2 x3 w0 w1 w2 w3
end Go.Proofs.Ytfflojbgikfbmaa
