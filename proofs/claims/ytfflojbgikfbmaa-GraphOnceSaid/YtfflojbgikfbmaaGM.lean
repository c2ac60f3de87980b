/-
  GraphOnce: nodes in another order.
-/
import Derived.Test.YtfflojbgikfbmaaGL
namespace Go.Proofs.Ytfflojbgikfbmaa.Gra
open Go.Proofs.YtfflojbgikfbmaaW.Ah
open M (api_Node api_Edge c3 c31 c37 Seen okB stepE reachGo findN)
set_option maxRecDepth 4000
set_option linter.unusedVariables false
set_option linter.unusedSimpArgs false
attribute [local simp] T.t2 T.t3 T.t4 T.t5 T.t22 T.t23 T.t26 T.t31 T.t34 T.t35 T.t37 T.t119 T.t124 T.t203 T.t138 T.t198 T.t200 Op.maxDepth List.range List.range.loop
attribute [-simp] appendAV cellsOf cellOk partOk
attribute [local simp] cellsOf_sc cellOk_sc partOk_sc cellsOf_own cellOk_own partOk_own cellsOf_osl cellOk_osl partOk_osl cellsOf_sh cellOk_sh partOk_sh cellsOf_ssl cellOk_ssl partOk_ssl cellsOf_esl cellOk_esl partOk_esl cellsOf_fn cellOk_fn partOk_fn cellsOf_omap cellOk_omap partOk_omap cellsOf_agg partOk_agg cellsOf_slv cellOk_slv partOk_slv

open M (fewP sameB canonP FewF mapE mapN turnF)

/-- A block's cells are known otherwise. -/
theorem Stk.giveC {P : Program} {T : Tab} {k : Nat} {x : It} {st : List It} {t : Nat → AV} {H : Mem} {n : Nat} {C : Cont} {q : Nat} {cs cs' : List AV} {ty : Nat} (hx : match x with | .code _ => True | .ops _ _ => True | _ => False) (hq : H q = some (.cells cs ty)) (hl : cs'.length = cs.length)
    (hv : ∀ (j : Nat) a', cs'[j]? = some a' → ∃ a, cs[j]? = some a ∧ Vw T H [] a a') (h : ∀ H', H' q = some (.cells cs' ty) → (∀ j, j ≠ q → H' j = H j) → Stk P T k (x :: st) t H' n C) : Stk P T k (x :: st) t H n C := by
  have hwk : Weak T ⟨t, H, n⟩ ⟨t, upd H q (some (.cells cs' ty)), n⟩ [] := by
    refine ⟨fun i => .inl rfl, fun i => ?_, Nat.le_refl _⟩
    show upd H q (some (.cells cs' ty)) i = none ∨ _
    refine .inr ⟨by simp, ?_⟩
    by_cases e : i = q
    · subst e
      exact .inr ⟨cs, cs', ty, hq, upd_same _ _ _, by omega, hv⟩
    · exact .inl (upd_ne _ _ e)
  have h' := h (upd H q (some (.cells cs' ty))) (upd_same _ _ _) (fun j hj => upd_ne _ _ hj)
  cases x with
  | code c => simp only [Stk] at h' ⊢; exact EvQ.weak [] hwk h'
  | ops G l => simp only [Stk] at h' ⊢; exact EvLQ.weak [] hwk h'
  | _ => exact hx.elim

abbrev zN : api_Node := ⟨⟨0, 0, 0⟩, [], []⟩
abbrev z37 : List Value := [.int .i64 0, .int .i64 0, .int .i64 0, .slice none 0 0, .slice none 0 0]
theorem zs_row : ∀ m : Nat, ((List.replicate m z37).flatten).map zs = encs c37 (List.replicate m zN)
  | 0 => rfl
  | m + 1 => by rw [List.replicate_succ, List.replicate_succ, List.flatten_cons, List.map_append, zs_row m, encs_cons]; rfl

/-- Are a node's edges in range? -/
def KidsOk (m : Nat) (l : List api_Edge) : Prop := ∀ e ∈ l, e.Is = true → 0 ≤ e.Node ∧ e.Node < (m : Int)

structure St10 (a : List api_Node) (x : List api_Edge) (nodes : List api_Node) (out : List api_Edge) (k N : Nat) (t : Nat → AV) : Prop where
  t1 : t 1 = .ssl (encs c31 x) x.length false
  t4 : t 4 = .own 0 0
  t9 : t 9 = .ssl (encs c37 nodes) nodes.length false
  t10 : t 10 = .ssl (encs c31 out) out.length false
  t18 : t 18 = .own N 0
  t19 : t 19 = .fn (.func 18) [] [.own N 0, .own 0 0]
  t20 : t 20 = .osl (N + 1) 0 a.length (some a.length)
theorem St10.of {a : List api_Node} {x : List api_Edge} {nodes : List api_Node} {out : List api_Edge} {k N : Nat} {t t' : Nat → AV} (s : St10 a x nodes out k N t) (h : ∀ j, j < 21 → t' j = t j) : St10 a x nodes out k N t' :=
  ⟨by rw [h 1 (by decide), s.t1], by rw [h 4 (by decide), s.t4], by rw [h 9 (by decide), s.t9], by rw [h 10 (by decide), s.t10], by rw [h 18 (by decide), s.t18], by rw [h 19 (by decide), s.t19], by rw [h 20 (by decide), s.t20]⟩
structure Mem10 (a : List api_Node) (k N : Nat) (bl : List api_Node) (H : Mem) (n : Nat) : Prop where
  h0 : H 0 = some (.cells [.ssl (encs c37 a) a.length false] 22)
  hN : H N = some (.cells [I k] 3)
  hb : H (N + 1) = some (.cells (encs c37 bl) 37)
  bl : bl.length = a.length
  lt : N + 2 ≤ n
theorem Mem10.far {a : List api_Node} {k N : Nat} {bl : List api_Node} {H H' : Mem} {n n' : Nat} (s : Mem10 a k N bl H n) (hN0 : 0 < N) (hn : n ≤ n') (hk : ∀ j, j < n → H' j = H j) : Mem10 a k N bl H' n' :=
  ⟨by rw [hk 0 (by have := s.lt; omega), s.h0], by rw [hk N (by have := s.lt; omega), s.hN], by rw [hk (N + 1) (by have := s.lt; omega), s.hb], s.bl, by have := s.lt; omega⟩

/-- From the nodes in another order on. -/
theorem part4 (a : List api_Node) (x : List api_Edge) (wa : M.W22 a) (wx : M.W23 x) (C : Cont) (hr : ∀ t H n, resOf T.T Try.f3.results.toList ⟨t, H, n⟩ = some (B true) → C .ret t H n)
    {t : Nat → AV} {H : Mem} {n k N : Nat} {nodes : List api_Node} {out : List api_Edge} (ga : fewP a 0 = true) (hx : x.length ≤ 60) (hP : canonP a x = (nodes, out, 0)) (ha : 0 < a.length) (hk : k < a.length) (hN0 : 0 < N) (st : St10 a x nodes out k N t) {bl : List api_Node} (mm : Mem10 a k N bl H n)
    (hat : ∀ (i : Nat) nd, a[i]? = some nd → bl[(i + k) % a.length]? = some (mapN (turnF a.length k) nd)) (hfew : Few bl) : Stk Try.prog T.T 198 (codes ((seqs body3).drop 15)) t H n C := by
  obtain ⟨t1, t4, t9, t10, t18, t19, t20⟩ := st
  have r37 : ∀ l : List api_Node, freeL (encs c37 l) = true := freeL_encs M.fr37
  have r31 : ∀ l : List api_Edge, freeL (encs c31 l) = true := freeL_encs M.fr31
  obtain ⟨few, ha1, ha2⟩ := few_of wa ga
  obtain ⟨FP, hout, _⟩ := fewF_out (x := x) wa ga hx
  rw [hP] at FP hout
  simp only at hout
  have s1 := M.ok_R17_Same 2000 nodes nodes out out _ (M.rSame_ok 2000 nodes nodes out out FP (fun n hn => (FP.nodes n hn).2.2) ⟨by omega, by omega⟩)
  rw [M.same_refl] at s1
  have c4 := canonF bl (x.map (mapE (turnF a.length k))) hfew (by simp; omega) (nums_in (edges_in wx))
  rw [M.canonP_turn hP ha1 hk mm.bl hat] at c4
  have hlm : (x.map (mapE (turnF a.length k))).length = x.length := List.length_map _
  rw [hlm, mm.bl] at c4
  refine Stk.cut (l' := (seqs body3).drop 18) [_, _, _] rfl fun J hJ2 => ?_
  refine evS_sound (f := 9) ?_
  simp [codes, t1, t19, t20]
  refine Stk.callS 4 (turnQ (k := k) (l := a) x (by omega) mm.hN mm.h0 (by have := mm.lt; omega) (by have := mm.lt; omega) ha) rfl rfl rfl (by simp) ?_
  rintro v H2 n2 ⟨rfl, hc2⟩
  have m2 := mm.far hN0 hc2.1 hc2.2
  simp
  have hv := view_row (T := T.T) (ids := [N + 1]) (e := c37) M.fr37 m2.hb (by simp) (some a.length)
  rw [mm.bl] at hv
  refine Stk.wkf trivial [N + 1] 178 (.ssl (encs c37 bl) a.length false) (.inr (.inr (by simp; exact hv))) (fun t' H3 ht' hk3 => ?_)
  subst ht'
  refine Stk.callF 4 c4 rfl rfl rfl (by simp) (by simp [freeL, free, r37, r31]) (by simp [freeL, free, r37, r31]) ?_
  simp
  iterate 6 (try (refine evS_sound (f := 4) ?_; simp [t9, t10]))
  refine Stk.callF 4 s1 rfl rfl rfl (by simp [t9, t10]) (by simp [freeL, free, r37, r31]) rfl ?_
  simp
  iterate 6 (try (refine evS_sound (f := 4) ?_; simp))
  refine Stk.callF 4 awakeG rfl rfl rfl (by simp) rfl rfl ?_
  simp
  iterate 6 (try (refine evS_sound (f := 4) ?_; simp))
  exact hr _ _ _ (by simp)
end Go.Proofs.Ytfflojbgikfbmaa.Gra
