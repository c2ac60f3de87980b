/-
  GraphOnce: edges renumbered by the law's own function.
-/
import Derived.Test.YtfflojbgikfbmaaPureGraphTells
import Derived.Test.YtfflojbgikfbmaaGJ
namespace Go.Proofs.Ytfflojbgikfbmaa.Gra
open Go.Proofs.YtfflojbgikfbmaaW.Ah
open M (api_Node api_Edge c3 c31 c37 Seen okB stepE reachGo findN)
set_option maxRecDepth 4000
set_option linter.unusedVariables false
set_option linter.unusedSimpArgs false
attribute [local simp] T.t2 T.t3 T.t4 T.t5 T.t22 T.t23 T.t26 T.t31 T.t34 T.t35 T.t37 T.t119 T.t124 T.t203 T.t138 T.t198 T.t200 Op.maxDepth List.range List.range.loop
attribute [-simp] appendAV cellsOf cellOk partOk
attribute [local simp] cellsOf_sc cellOk_sc partOk_sc cellsOf_own cellOk_own partOk_own cellsOf_osl cellOk_osl partOk_osl cellsOf_sh cellOk_sh partOk_sh cellsOf_ssl cellOk_ssl partOk_ssl cellsOf_esl cellOk_esl partOk_esl cellsOf_fn cellOk_fn partOk_fn cellsOf_omap cellOk_omap partOk_omap cellsOf_agg partOk_agg cellsOf_slv cellOk_slv partOk_slv

open M (mapE turnF)
noncomputable def body18 : Code := Try.f18.body.getD .skip
theorem turnQ {H : Mem} {n b18 b4 k : Nat} {l : List api_Node} (es : List api_Edge) (he : es.length ≤ 60000) (h18 : H b18 = some (.cells [I k] 3)) (h4 : H b4 = some (.cells [.ssl (encs c37 l) l.length false] 22)) (l18 : b18 < n) (l4 : b4 < n) (hl : 0 < l.length) :
    RunQ Try.prog T.T 18 [.ssl (encs c31 es) es.length false, .own b18 0, .own b4 0] H n (fun r H' n' => r = .ssl (encs c31 (es.map (mapE (turnF l.length k)))) es.length false ∧ Calm H n H' n') := by
  refine RunQ.partsZ (c := body18) Try.func18 (by rfl) rfl rfl rfl rfl fun C hr => ?_
  refine Stk.cut (l' := (seqs body18).drop 4) [_, _, _, _] rfl fun J hJ => ?_
  refine evS_sound (f := 9) ?_
  simp [codes]
  iterate 4 (try (refine evS_sound (f := 8) ?_; simp))
  refine Stk.loop 4 (fun μ t H2 n2 => ∃ (q : Nat) (ob : Option Nat), q ≤ es.length ∧ μ = es.length - q ∧ t 1 = .own b18 0 ∧ t 2 = .own b4 0 ∧ t 5 = slv ob q ∧ YtfflojbgikfbmaaW.Ah.Own H2 31 c31 ob ((es.take q).map (mapE (turnF l.length k))) ∧ (∀ i, ob = some i → n ≤ i ∧ i < n2)
      ∧ t 8 = .ssl (encs c31 es) es.length false ∧ t 9 = I es.length ∧ t 10 = I q ∧ n ≤ n2 ∧ ∀ j, j < n → H2 j = H j) es.length
    ⟨0, none, Nat.zero_le _, rfl, by simp, by simp, by simp, by simp [YtfflojbgikfbmaaW.Ah.Own], (fun i e => by cases e), by simp, by simp, by simp, Nat.le_refl _, fun _ _ => rfl⟩ ?_
  rintro J2 hJ2 μ t H2 n2 ⟨q, ob, hq, rfl, t1, t2, t5, hown, hob, t8, t9, t10, hle, hk2⟩
  by_cases hlt : q < es.length
  · have hlti : (q : Int) < es.length := by omega
    have hld : partOf T.T 31 (List.drop (q * 3) (encs c31 es)) 0 = some (.agg (c31 es[q])) := part_agg (e := c31) (z := 3) T.t31 rfl rfl es q hlt
    have hst : (es.take (q + 1)).map (mapE (turnF l.length k)) = (es.take q).map (mapE (turnF l.length k)) ++ [mapE (turnF l.length k) es[q]] := by rw [List.take_succ_eq_append_getElem hlt, List.map_append]; rfl
    obtain ⟨e, hxe⟩ : ∃ e, es[q] = e := ⟨_, rfl⟩
    rw [hxe] at hld hst
    rw [c31_eq] at hld
    have hlq : ((es.take q).map (mapE (turnF l.length k))).length = q := by simp; omega
    have g18 := (hk2 b18 l18).trans h18
    have g4 := (hk2 b4 l4).trans h4
    obtain ⟨Y, hY⟩ : ∃ Y : Mem, Y = upd (upd H2 n2 (some (.cells [.sc (.bool false), .sc (.int .i64 0), .sc (.int .i64 0)] 31))) n2 (some (.cells [B e.Is, I e.Node, I e.Num] 31)) := ⟨_, rfl⟩
    have hYk : ∀ j, j < n2 → Y j = H2 j := fun j hj => by rw [hY, upd_ne _ _ (by omega), upd_ne _ _ (by omega)]
    have yn : Y n2 = some (.cells [B e.Is, I e.Node, I e.Num] 31) := by rw [hY, upd_same]
    have y18 := (hYk b18 (by omega)).trans g18
    have y4 := (hYk b4 (by omega)).trans g4
    have hoY := hown.mono (H' := Y) fun i hi => hYk i (hob i hi).2
    have wq := wrap_succ q (by omega)
    have hl0 : ¬ l.length = 0 := by omega
    have hln0 : ¬ l = [] := fun e => by subst e; simp at hl
    obtain ⟨Is, Node, Num⟩ := e
    cases Is with
    | false =>
      have hme : mapE (turnF l.length k) ⟨false, Node, Num⟩ = ⟨false, Node, Num⟩ := rfl
      rw [hme] at hst
      simp only at hld yn hY
      simp [t8, t9, t10, hlt, hlti]
      iterate 6 (try (refine evS_sound (f := 4) ?_; simp [t8, t9, t10, hlt, hlti, hld, yn, ← hY]))
      obtain ⟨j9, H9, n9, e9, o9, le9, f9, l9, k9⟩ := moreE (H := Y) (n := n2 + 1) hoY (fun i hi => by have := hob i hi; omega) (by omega) ⟨false, Node, Num⟩
      simp only [hlq] at e9
      (try simp [t5, yn, e9, wq, partOf])
      iterate 8 (try (refine evS_sound (f := 4) ?_; simp [t5, t8, t9, t10, yn, e9, wq, partOf]))
      refine ⟨es.length - (q + 1), by omega, hJ2 _ _ _ _ ⟨q + 1, some j9, hlt, rfl, by simp [t1], by simp [t2], by simp, ?_, (fun i hi => ?_), by simp [t8], by simp [t9], by simp [wq], by omega, fun j hj => ?_⟩⟩
      · rw [hst]; exact o9
      · cases hi
        refine ⟨?_, l9⟩
        rcases f9 with f | f
        · exact (hob _ f).1
        · omega
      · rw [k9 j (by omega) (fun e => by have := (hob j e).1; omega), hYk j (by omega), hk2 j hj]
    | true =>
      have hme : mapE (turnF l.length k) ⟨true, Node, Num⟩ = ⟨true, turnF l.length k Node, Num⟩ := rfl
      rw [hme] at hst
      simp only at hld yn hY
      obtain ⟨v, hv⟩ : ∃ v, v = turnF l.length k Node := ⟨_, rfl⟩
      have hv2 : (IntKind.i64.wrap (Node + (k : Int))).tmod (l.length : Int) = v := by rw [hv]; rfl
      rw [← hv] at hst
      obtain ⟨Z, hZ⟩ : ∃ Z : Mem, Z = upd Y n2 (some (.cells [B true, I v, I Num] 31)) := ⟨_, rfl⟩
      have zn : Z n2 = some (.cells [B true, I v, I Num] 31) := by rw [hZ, upd_same]
      have zk : ∀ j, j ≠ n2 → Z j = Y j := fun j hj => by rw [hZ, upd_ne _ _ hj]
      have hoZ := hoY.mono (H' := Z) fun i hi => zk i (by have := (hob i hi).2; omega)
      simp [t8, t9, t10, hlt, hlti]
      iterate 10 (try (refine evS_sound (f := 3) ?_; simp [t1, t2, t8, t9, t10, hlt, hlti, hld, yn, y18, y4, hl0, hln0, hv2, splice, ← hY, ← hZ]))
      obtain ⟨j9, H9, n9, e9, o9, le9, f9, l9, k9⟩ := moreE (H := Z) (n := n2 + 1) hoZ (fun i hi => by have := hob i hi; omega) (by omega) ⟨true, v, Num⟩
      simp only [hlq] at e9
      (try simp [t5, zn, e9, wq, partOf])
      iterate 8 (try (refine evS_sound (f := 4) ?_; simp [t5, t8, t9, t10, zn, e9, wq, partOf]))
      refine ⟨es.length - (q + 1), by omega, hJ2 _ _ _ _ ⟨q + 1, some j9, hlt, rfl, by simp [t1], by simp [t2], by simp, ?_, (fun i hi => ?_), by simp [t8], by simp [t9], by simp [wq], by omega, fun j hj => ?_⟩⟩
      · rw [hst]; exact o9
      · cases hi
        refine ⟨?_, l9⟩
        rcases f9 with f | f
        · exact (hob _ f).1
        · omega
      · rw [k9 j (by omega) (fun e => by have := (hob j e).1; omega), zk j (by omega), hYk j (by omega), hk2 j hj]
  · have hqe : q = es.length := by omega
    subst hqe
    simp [t8, t9, t10]
    iterate 6 (try (refine evS_sound (f := 4) ?_; simp [t8, t9, t10]))
    refine hJ _ _ _ ?_
    refine Stk.cut (l' := (seqs body18).drop 6) [_, _] rfl fun J3 hJ3 => ?_
    refine evS_sound (f := 9) ?_
    simp [codes, t5]
    rw [List.take_length] at hown
    have hlm : (es.map (mapE (turnF l.length k))).length = es.length := List.length_map _
    have hv := view_own (ids := ob.toList) M.fr31 (T := T.T) hown (fun i hi => by rw [hi]; simp)
    rw [hlm] at hv
    refine hr _ _ _ (slv ob es.length) (.ssl (encs c31 (es.map (mapE (turnF l.length k)))) es.length false) ob.toList (by simp) (.inr (.inr hv)) ⟨rfl, hle, fun j hj => ?_⟩
    have : j ∉ ob.toList := fun hm => by rw [Option.mem_toList] at hm; have := hob j hm; omega
    simp [without, this]; exact hk2 j hj
end Go.Proofs.Ytfflojbgikfbmaa.Gra
