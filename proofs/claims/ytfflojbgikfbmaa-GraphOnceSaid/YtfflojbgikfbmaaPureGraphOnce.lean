/-
  GraphOnce for any graphs.
-/
import Derived.Test.YtfflojbgikfbmaaGN
namespace Go.Proofs.Ytfflojbgikfbmaa.Gra
open Go.Proofs.YtfflojbgikfbmaaW.Ah
open M (api_Node api_Edge c3 c31 c37 Seen okB stepE reachGo findN)
set_option maxRecDepth 4000
set_option linter.unusedVariables false
set_option linter.unusedSimpArgs false
attribute [local simp] T.t2 T.t3 T.t4 T.t5 T.t22 T.t23 T.t26 T.t31 T.t34 T.t35 T.t37 T.t119 T.t124 T.t203 T.t138 T.t198 T.t200 Op.maxDepth List.range List.range.loop
attribute [-simp] appendAV cellsOf cellOk partOk
attribute [local simp] cellsOf_sc cellOk_sc partOk_sc cellsOf_own cellOk_own partOk_own cellsOf_osl cellOk_osl partOk_osl cellsOf_sh cellOk_sh partOk_sh cellsOf_ssl cellOk_ssl partOk_ssl cellsOf_esl cellOk_esl partOk_esl cellsOf_fn cellOk_fn partOk_fn cellsOf_omap cellOk_omap partOk_omap cellsOf_agg partOk_agg cellsOf_slv cellOk_slv partOk_slv

open M (fewP sameB canonP FewF mapE mapN turnF)

theorem part3 (a : List api_Node) (x : List api_Edge) (at_ : Int) (wa : M.W22 a) (wx : M.W23 x) (wat : 0 ≤ at_ ∧ at_ ≤ 255) (C : Cont) (hr : ∀ t H n, resOf T.T Try.f3.results.toList ⟨t, H, n⟩ = some (B true) → C .ret t H n)
    {t : Nat → AV} {H : Mem} {n : Nat} {nodes : List api_Node} {out : List api_Edge} (ga : fewP a 0 = true) (hx : x.length ≤ 60) (hP : canonP a x = (nodes, out, 0)) (ha : 0 < a.length)
    (t1 : t 1 = .ssl (encs c31 x) x.length false) (t3 : t 3 = .sc (.int .u8 at_)) (t4 : t 4 = .own 0 0) (t9 : t 9 = .ssl (encs c37 nodes) nodes.length false) (t10 : t 10 = .ssl (encs c31 out) out.length false)
    (h0 : H 0 = some (.cells [.ssl (encs c37 a) a.length false] 22)) (hn : 0 < n) : Stk Try.prog T.T 198 (codes ((seqs body3).drop 10)) t H n C := by
  obtain ⟨few, ha1, ha2⟩ := few_of wa ga
  have hl0 : ¬ a.length = 0 := by omega
  have hln0 : ¬ a = [] := fun e => by subst e; simp at ha
  obtain ⟨v, rfl⟩ : ∃ v : Nat, at_ = v := ⟨at_.toNat, by omega⟩
  have hwa : IntKind.i64.wrap (v : Int) = (v : Int) := wrap64_id (by omega) (by omega)
  obtain ⟨k, hk⟩ : ∃ k, v % a.length = k := ⟨_, rfl⟩
  have hkl : k < a.length := by rw [← hk]; exact Nat.mod_lt _ ha
  have htm : (v : Int).tmod (a.length : Int) = (k : Int) := by rw [Int.tmod_eq_emod_of_nonneg (by omega), ← hk]; exact (Int.natCast_emod v a.length).symm
  obtain ⟨Y, hY⟩ : ∃ Y : Mem, Y = upd (upd H n (some (.cells [.sc (.int .i64 0)] 3))) n (some (.cells [I k] 3)) := ⟨_, rfl⟩
  have hYk : ∀ j, j < n → Y j = H j := fun j hj => by rw [hY, upd_ne _ _ (by omega), upd_ne _ _ (by omega)]
  have yn : Y n = some (.cells [I k] 3) := by rw [hY, upd_same]
  have y0 : Y 0 = some (.cells [.ssl (encs c37 a) a.length false] 22) := by rw [hYk 0 hn, h0]
  refine Stk.cut (l' := (seqs body3).drop 14) [_, _, _, _] rfl fun J hJ => ?_
  refine evS_sound (f := 9) ?_
  simp [codes, t3, t4, h0, hwa, htm, hl0, hln0, ← hY]
  have hroom : (a.length : Int) * 72 ≤ (roomMax : Int) ∧ a.length ≤ roomMax := by have : roomMax = 2 ^ 46 := rfl; rw [this]; omega
  obtain ⟨Z, hZ⟩ : ∃ Z : Mem, Z = upd Y (n + 1) (some (.cells (List.replicate a.length [AV.sc (Value.int IntKind.i64 0), AV.sc (Value.int IntKind.i64 0), AV.sc (Value.int IntKind.i64 0), AV.sc (Value.slice none 0 0), AV.sc (Value.slice none 0 0)]).flatten 37)) := ⟨_, rfl⟩
  have zc : Z (n + 1) = some (.cells (((List.replicate a.length z37).flatten).map .sc) 37) := by rw [hZ, upd_same, List.map_flatten, List.map_replicate]; rfl
  have z0 : Z 0 = some (.cells [.ssl (encs c37 a) a.length false] 22) := by rw [hZ, upd_ne _ _ (by omega), y0]
  have zn : Z n = some (.cells [I k] 3) := by rw [hZ, upd_ne _ _ (by omega), yn]
  iterate 8 (try (refine evS_sound (f := 3) ?_; simp [t4, y0, yn, hroom, z0, ← hZ]))
  exact hJ _ _ _ (loop3 a x wa wx C hr ga hx hP ha hkl hn ⟨by simp [t1], by simp [t4], by simp [t9], by simp [t10], by simp, by simp, by simp⟩ z0 zn zc (by omega) (by simp) (by simp) (by simp))

theorem once (a : List api_Node) (x : List api_Edge) (more : List api_Node) (at_ : Int) (wa : M.W22 a) (wx : M.W23 x) (wm : M.W22 more) (wat : 0 ≤ at_ ∧ at_ ≤ 255) : RunF Try.prog T.T 3 [.ssl (encs c37 a) a.length false, .ssl (encs c31 x) x.length false, .ssl (encs c37 more) more.length false, .sc (.int .u8 at_)] (B true) := by
  refine RunF.parts (c := body3) Try.func3 (by rfl) rfl rfl rfl rfl fun C hr _ => ?_
  exact part1 a x more at_ wa wx wm C hr fun t H n nodes out ga gm hx hP st => part2 a x more at_ wa wx wm C hr ga gm hx hP st fun t H n ha t1 t3 t4 t9 t10 h0 hn => part3 a x at_ wa wx wat C hr ga hx hP ha t1 t3 t4 t9 t10 h0 hn
end Go.Proofs.Ytfflojbgikfbmaa.Gra
namespace Go.Proofs.Ytfflojbgikfbmaa
open Go.Proofs.YtfflojbgikfbmaaW.Ah
theorem Pure.GraphOnce (l : List AV) (h : TypAs T.T [22, 23, 22, 5] l) : RunF Try.prog T.T 3 l (B true) := by
  cases h with
  | cons a0 h =>
    cases h with
    | cons a1 h =>
      cases h with
      | cons a2 h =>
        cases h with
        | cons a3 h =>
          cases h with
          | nil =>
            obtain ⟨x0, rfl, w0⟩ := M.oa22 _ a0
            obtain ⟨x1, rfl, w1⟩ := M.oa23 _ a1
            obtain ⟨x2, rfl, w2⟩ := M.oa22 _ a2
            obtain ⟨x3, rfl, w3⟩ := typA_int a3 T.t5 rfl
            exact Gra.once x0 x1 x2 x3 w0 w1 w2 (by simpa [Lit.wf, IntKind.min, IntKind.max, IntKind.signed, IntKind.bits] using w3)
end Go.Proofs.Ytfflojbgikfbmaa
