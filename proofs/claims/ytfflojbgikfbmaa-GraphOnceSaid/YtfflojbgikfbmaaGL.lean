/-
  GraphOnce for any graphs.
-/
import Derived.Test.YtfflojbgikfbmaaGK
namespace Go.Proofs.Ytfflojbgikfbmaa.Gra
open Go.Proofs.YtfflojbgikfbmaaW.Ah
open M (api_Node api_Edge c3 c31 c37 Seen okB stepE reachGo findN)
set_option maxRecDepth 4000
set_option linter.unusedVariables false
set_option linter.unusedSimpArgs false
attribute [local simp] T.t2 T.t3 T.t4 T.t5 T.t22 T.t23 T.t26 T.t31 T.t34 T.t35 T.t37 T.t119 T.t124 T.t203 T.t138 T.t198 T.t200 Op.maxDepth List.range List.range.loop
attribute [-simp] appendAV cellsOf cellOk partOk
attribute [local simp] cellsOf_sc cellOk_sc partOk_sc cellsOf_own cellOk_own partOk_own cellsOf_osl cellOk_osl partOk_osl cellsOf_sh cellOk_sh partOk_sh cellsOf_ssl cellOk_ssl partOk_ssl cellsOf_esl cellOk_esl partOk_esl cellsOf_fn cellOk_fn partOk_fn cellsOf_omap cellOk_omap partOk_omap cellsOf_agg partOk_agg cellsOf_slv cellOk_slv partOk_slv

open M (fewP sameB canonP FewF mapE turnF)
noncomputable def body3 : Code := Try.f3.body.getD .skip

theorem fewF_out {l : List api_Node} {x : List api_Edge} (wl : M.W22 l) (gl : fewP l 0 = true) (hx : x.length ≤ 60) : FewF 2000 (canonP l x).1 ∧ (canonP l x).2.1.length ≤ 60 ∧ (canonP l x).1.length ≤ 601 := by
  obtain ⟨few, h1, h2⟩ := few_of wl gl
  obtain ⟨c1, c2, c3⟩ := M.canonP_of l x
  exact ⟨⟨⟨by omega, by omega⟩, fun n' hn' => by
    obtain ⟨n, hn, e1, e2⟩ := c3 n' hn'
    have := h2 n hn
    rw [e1, e2]
    exact ⟨⟨by omega, by omega⟩, ⟨by omega, by omega⟩, bytes_in wl n hn⟩⟩, by omega, by omega⟩
theorem mapE_num (f : Int → Int) (e : api_Edge) : (mapE f e).Num = e.Num := by unfold mapE; split <;> rfl
theorem nums_in {f : Int → Int} {x : List api_Edge} (h : ∀ e ∈ x, W31 e) : ∀ e ∈ x.map (mapE f), W31 e := fun e he => by
  obtain ⟨e0, h0, rfl⟩ := List.mem_map.1 he
  have := h e0 h0
  unfold W31 at this ⊢
  rw [mapE_num]; exact this
/-- What was told of a graph is told of itself. -/
theorem once_ok {l : List api_Node} {x : List api_Edge} {nodes : List api_Node} {out : List api_Edge} (wl : M.W22 l) (gl : fewP l 0 = true) (wx : ∀ e ∈ x, W31 e) (hx : x.length ≤ 60) (h : canonP l x = (nodes, out, 0)) :
    Few nodes ∧ (∀ e ∈ out, W31 e) ∧ canonP nodes out = (nodes, out, 0) ∧ nodes.length ≤ l.length := by
  obtain ⟨few, h1, h2⟩ := few_of wl gl
  obtain ⟨p1, p2⟩ := M.canonP_parts h
  have hlen := M.canonP_len h
  refine ⟨⟨by omega, fun n hn => ?_⟩, by rw [p2]; exact nums_in wx, M.canonP_once h, hlen⟩
  rw [p1] at hn
  obtain ⟨k, hk, rfl⟩ := List.mem_map.1 hn
  obtain ⟨j, rfl, n0, hj⟩ := M.finals_at hk
  have he : M.nodeAt l (j : Int) = n0 := by unfold M.nodeAt; rw [Int.toNat_natCast, hj]; rfl
  rw [he]
  have hm := List.mem_of_getElem? hj
  obtain ⟨q1, q2, q3⟩ := few.kids n0 hm
  exact ⟨by simp [M.mapN]; exact q1, nums_in q2, q3⟩

/-- How things stand ahead of the second and third graphs. -/
structure St7 (a : List api_Node) (x : List api_Edge) (more : List api_Node) (at_ : Int) (nodes : List api_Node) (out : List api_Edge) (t : Nat → AV) (H : Mem) (n : Nat) : Prop where
  t1 : t 1 = .ssl (encs c31 x) x.length false
  t2 : t 2 = .ssl (encs c37 more) more.length false
  t3 : t 3 = .sc (.int .u8 at_)
  t4 : t 4 = .own 0 0
  t9 : t 9 = .ssl (encs c37 nodes) nodes.length false
  t10 : t 10 = .ssl (encs c31 out) out.length false
  t12 : t 12 = .ssl (encs c37 nodes) nodes.length false
  t13 : t 13 = .ssl (encs c31 out) out.length false
  t14 : t 14 = I 0
  h0 : H 0 = some (.cells [.ssl (encs c37 a) a.length false] 22)
  n1 : n = 1
theorem part1 (a : List api_Node) (x : List api_Edge) (more : List api_Node) (at_ : Int) (wa : M.W22 a) (wx : M.W23 x) (wm : M.W22 more) (C : Cont)
    (hr : ∀ t H n, resOf T.T Try.f3.results.toList ⟨t, H, n⟩ = some (B true) → C .ret t H n)
    (hJ : ∀ (t : Nat → AV) (H : Mem) (n : Nat) (nodes : List api_Node) (out : List api_Edge), fewP a 0 = true → fewP more 0 = true → x.length ≤ 60 → canonP a x = (nodes, out, 0) → St7 a x more at_ nodes out t H n → Stk Try.prog T.T 198 (codes ((seqs body3).drop 7)) t H n C) :
    Stk Try.prog T.T 198 (codes (seqs body3)) (initT [.ssl (encs c37 a) a.length false, .ssl (encs c31 x) x.length false, .ssl (encs c37 more) more.length false, .sc (.int .u8 at_)]) (fun _ => none) 0 C := by
  have fa := fewR wa
  have fm := fewR wm
  have r37 : ∀ l : List api_Node, freeL (encs c37 l) = true := freeL_encs M.fr37
  have r31 : ∀ l : List api_Edge, freeL (encs c31 l) = true := freeL_encs M.fr31
  refine Stk.cut (l' := (seqs body3).drop 7) [_, _, _, _, _, _, _] rfl fun J hJ2 => ?_
  refine evS_sound (f := 9) ?_
  simp [codes, partOf]
  refine Stk.callF 8 fa rfl rfl rfl (by simp) (by simp [freeL, free, r37]) rfl ?_
  cases ga : fewP a 0 with
  | false =>
    simp
    iterate 6 (try (refine evS_sound (f := 6) ?_; simp))
    refine Stk.callF 6 awakeG rfl rfl rfl (by simp) rfl rfl ?_
    simp
    iterate 6 (try (refine evS_sound (f := 6) ?_; simp))
    exact hr _ _ _ (by simp)
  | true =>
    simp
    iterate 6 (try (refine evS_sound (f := 3) ?_; simp))
    refine Stk.callF 8 fm rfl rfl rfl (by simp) (by simp [freeL, free, r37]) rfl ?_
    cases gb : fewP more 0 with
    | false =>
      simp
      iterate 6 (try (refine evS_sound (f := 6) ?_; simp))
      refine Stk.callF 6 awakeG rfl rfl rfl (by simp) rfl rfl ?_
      simp
      iterate 6 (try (refine evS_sound (f := 6) ?_; simp))
      exact hr _ _ _ (by simp)
    | true =>
      by_cases gx : 60 < x.length
      · have gxi : (60 : Int) < x.length := by omega
        simp [gx, gxi]
        iterate 6 (try (refine evS_sound (f := 6) ?_; simp [gx, gxi]))
        refine Stk.callF 6 awakeG rfl rfl rfl (by simp) rfl rfl ?_
        simp
        iterate 6 (try (refine evS_sound (f := 6) ?_; simp))
        exact hr _ _ _ (by simp)
      · have gxi : ¬ (60 : Int) < x.length := by omega
        obtain ⟨few, ha1, ha2⟩ := few_of wa ga
        obtain ⟨fewm, hm1, hm2⟩ := few_of wm gb
        have c1 := canonF a x few (by omega) (edges_in wx)
        obtain ⟨FP, hout, _⟩ := fewF_out (x := x) wa ga (by omega)
        have hcs := fun (nodes : List api_Node) (out : List api_Edge) (h : canonP a x = (nodes, out, 0)) => once_ok (x := x) wa ga (edges_in wx) (by omega) h
        have hbad := fun h => M.canonP_ok (l := a) (x := x) h
        obtain ⟨P, hP⟩ : ∃ P, P = canonP a x := ⟨_, rfl⟩
        rw [← hP] at c1 FP hout hbad
        simp [gx, gxi]
        iterate 8 (try (refine evS_sound (f := 6) ?_; simp [gx, gxi, partOf]))
        refine Stk.callF 6 c1 rfl rfl rfl (by simp) (by simp [freeL, free, r37, r31]) (by simp [freeL, free, r37, r31]) ?_
        by_cases hz : P.2.2 = 0
        · obtain ⟨nodes, out, z⟩ := P
          simp only at hz
          subst hz
          obtain ⟨fewn, wout, honce, hnl⟩ := hcs nodes out hP.symm
          have c2 := canonF nodes out fewn (by simp only at hout; omega) wout
          rw [honce] at c2
          simp
          iterate 12 (try (refine evS_sound (f := 6) ?_; simp))
          refine Stk.callF 6 c2 rfl rfl rfl (by simp) (by simp [freeL, free, r37, r31]) (by simp [freeL, free, r37, r31]) ?_
          simp
          iterate 4 (try (refine evS_sound (f := 3) ?_; simp))
          exact hJ2 _ _ _ (hJ _ _ _ nodes out ga gb (by omega) hP.symm ⟨by simp, by simp, by simp, by simp, by simp, by simp, by simp, by simp, by simp, by simp, rfl⟩)
        · have hzb : (P.2.2 != 0) = true := by simp [hz]
          simp [hz, hzb]
          iterate 8 (try (refine evS_sound (f := 6) ?_; simp [hz, hzb]))
          refine Stk.callF 6 awakeG rfl rfl rfl (by simp) rfl rfl ?_
          simp
          iterate 6 (try (refine evS_sound (f := 6) ?_; simp))
          exact hr _ _ _ (by simp)

theorem part2 (a : List api_Node) (x : List api_Edge) (more : List api_Node) (at_ : Int) (wa : M.W22 a) (wx : M.W23 x) (wm : M.W22 more) (C : Cont)
    (hr : ∀ t H n, resOf T.T Try.f3.results.toList ⟨t, H, n⟩ = some (B true) → C .ret t H n)
    {t : Nat → AV} {H : Mem} {n : Nat} {nodes : List api_Node} {out : List api_Edge} (ga : fewP a 0 = true) (gb : fewP more 0 = true) (hx : x.length ≤ 60) (hP : canonP a x = (nodes, out, 0)) (st : St7 a x more at_ nodes out t H n)
    (hJ : ∀ (t : Nat → AV) (H : Mem) (n : Nat), 0 < a.length → t 1 = .ssl (encs c31 x) x.length false → t 3 = .sc (.int .u8 at_) → t 4 = .own 0 0 → t 9 = .ssl (encs c37 nodes) nodes.length false → t 10 = .ssl (encs c31 out) out.length false →
      H 0 = some (.cells [.ssl (encs c37 a) a.length false] 22) → 0 < n → Stk Try.prog T.T 198 (codes ((seqs body3).drop 10)) t H n C) :
    Stk Try.prog T.T 198 (codes ((seqs body3).drop 7)) t H n C := by
  obtain ⟨t1, t2, t3, t4, t9, t10, t12, t13, t14, h0, rfl⟩ := st
  have r37 : ∀ l : List api_Node, freeL (encs c37 l) = true := freeL_encs M.fr37
  have r31 : ∀ l : List api_Edge, freeL (encs c31 l) = true := freeL_encs M.fr31
  obtain ⟨few, ha1, ha2⟩ := few_of wa ga
  obtain ⟨fewm, hm1, hm2⟩ := few_of wm gb
  obtain ⟨FP, hout, _⟩ := fewF_out (x := x) wa ga hx
  rw [hP] at FP hout
  simp only at hout
  have happ := M.canonP_append (more := more) hP (M.canonP_len hP)
  have fewam : Few (a ++ more) := ⟨by rw [List.length_append]; omega, fun n hn => by
    rcases List.mem_append.1 hn with h | h
    · exact few.kids n h
    · exact fewm.kids n h⟩
  have c3 := canonF (a ++ more) x fewam (by omega) (edges_in wx)
  rw [happ] at c3
  have s1 := M.ok_R17_Same 2000 nodes nodes out out _ (M.rSame_ok 2000 nodes nodes out out FP (fun n hn => (FP.nodes n hn).2.2) ⟨by omega, by omega⟩)
  rw [M.same_refl] at s1
  obtain ⟨o1, d1, H1, n1, e1, w1, le1, f1, k1⟩ := append_ownC (e := c37) (z := 5) (st := 22) T.t22 rfl T.t37 rfl (by decide) rfl (by decide) (H := upd H 1 (some (.cells [] 37))) (n := 1 + 1) (xs := []) (o := some 1) (c := some 0) ⟨[], by rw [upd_same]; rfl, fun k hk => by cases hk; simp⟩ (fun i hi => by cases hi; omega) (y := .ssl (encs c37 a) a.length false) a (by simp [elemsOf, length_encs]; exact List.take_of_length_le (by simp [length_encs])) (all_encs M.ok37 a) (by have : roomMax = 2 ^ 46 := rfl; simp; omega) (by have : roomMax = 2 ^ 46 := rfl; simp; omega)
  simp only [List.nil_append, slc_some, List.length_nil] at e1 w1
  obtain ⟨o2, d2, H2, n2, e2, w2, le2, f2, k2⟩ := append_ownC (e := c37) (z := 5) (st := 22) T.t22 rfl T.t37 rfl (by decide) rfl (by decide) (H := H1) (n := n1) (xs := a) (o := o1) (c := d1) w1 (fun i hi => (f1 i hi).2) (y := .ssl (encs c37 more) more.length false) more (by simp [elemsOf, length_encs]; exact List.take_of_length_le (by simp [length_encs])) (all_encs M.ok37 more) (by have : roomMax = 2 ^ 46 := rfl; simp; omega) (by have : roomMax = 2 ^ 46 := rfl; simp; omega)
  have no1 : o1 ≠ some 0 := fun e => by
    rcases (f1 0 e).1 with h | h
    · cases h
    · omega
  have no2 : o2 ≠ some 0 := fun e => by
    rcases (f2 0 e).1 with h | h
    · exact no1 h
    · omega
  have g0 : H2 0 = some (.cells [.ssl (encs c37 a) a.length false] 22) := by rw [k2 0 (by omega) no1, k1 0 (by omega) (by simp), upd_ne _ _ (by omega)]; exact h0
  refine Stk.cut (l' := (seqs body3).drop 10) [_, _, _] rfl fun J hJ2 => ?_
  refine evS_sound (f := 9) ?_
  simp [codes, t1, t2, t4, h0, e1, e2]
  iterate 4 (try (refine evS_sound (f := 3) ?_; simp [t1, t2, t4, h0, e1, e2]))
  refine Stk.wkf trivial o2.toList 64 (.ssl (encs c37 (a ++ more)) (a ++ more).length false) (.inr (.inr (by
    have := view_ownC (T := T.T) (ids := o2.toList) M.fr37 w2 (fun i hi => by rw [hi]; simp)
    simpa using this))) (fun t' H3 ht' hk3 => ?_)
  subst ht'
  have g3 : H3 0 = some (.cells [.ssl (encs c37 a) a.length false] 22) := by
    rw [hk3 0 (fun hm => by rw [Option.mem_toList] at hm; exact no2 hm)]; exact g0
  refine Stk.callF 4 c3 rfl rfl rfl (by simp [t1]) (by simp [freeL, free, r37, r31]) (by simp [freeL, free, r37, r31]) ?_
  simp
  iterate 6 (try (refine evS_sound (f := 4) ?_; simp [t9, t10, t12, t13, t14]))
  refine Stk.callF 4 s1 rfl rfl rfl (by simp [t9, t10, t12, t13]) (by simp [freeL, free, r37, r31]) rfl ?_
  simp
  iterate 6 (try (refine evS_sound (f := 4) ?_; simp [t9, t10]))
  refine Stk.callF 4 s1 rfl rfl rfl (by simp [t9, t10]) (by simp [freeL, free, r37, r31]) rfl ?_
  by_cases hz : a.length = 0
  · have hzi : (a.length : Int) = 0 := by omega
    have hae : a = [] := List.eq_nil_of_length_eq_zero hz
    simp [t4, g3, hz, hzi, hae]
    iterate 8 (try (refine evS_sound (f := 4) ?_; simp [t4, t9, t10, t12, t13, t14, g3, hz, hzi, hae]))
    refine Stk.callF 4 s1 rfl rfl rfl (by simp [t9, t10, t12, t13]) (by simp [freeL, free, r37, r31]) rfl ?_
    simp
    iterate 6 (try (refine evS_sound (f := 4) ?_; simp [t9, t10]))
    refine Stk.callF 4 s1 rfl rfl rfl (by simp [t9, t10]) (by simp [freeL, free, r37, r31]) rfl ?_
    simp
    iterate 6 (try (refine evS_sound (f := 4) ?_; simp))
    refine Stk.callF 4 awakeG rfl rfl rfl (by simp) rfl rfl ?_
    simp
    iterate 6 (try (refine evS_sound (f := 4) ?_; simp))
    exact hr _ _ _ (by simp)
  · have hzi : ¬ (a.length : Int) = 0 := by omega
    have hae : ¬ a = [] := fun e => by subst e; simp at hz
    simp [t4, g3, hz, hzi, hae]
    iterate 8 (try (refine evS_sound (f := 4) ?_; simp [t4, t9, t10, t12, t13, t14, g3, hz, hzi, hae]))
    exact hJ2 _ _ _ (hJ _ _ _ (by omega) (by simp [t1]) (by simp [t3]) (by simp [t4]) (by simp [t9]) (by simp [t10]) g3 (by omega))
end Go.Proofs.Ytfflojbgikfbmaa.Gra
