/-
  GraphOnce for any graphs.
-/
import Derived.Test.YtfflojbgikfbmaaGM
namespace Go.Proofs.Ytfflojbgikfbmaa.Gra
open Go.Proofs.YtfflojbgikfbmaaW.Ah
open M (api_Node api_Edge c3 c31 c37 Seen okB stepE reachGo findN)
set_option maxRecDepth 4000
set_option linter.unusedVariables false
set_option linter.unusedSimpArgs false
attribute [local simp] T.t2 T.t3 T.t4 T.t5 T.t22 T.t23 T.t26 T.t31 T.t34 T.t35 T.t37 T.t119 T.t124 T.t203 T.t138 T.t198 T.t200 Op.maxDepth List.range List.range.loop
attribute [-simp] appendAV cellsOf cellOk partOk
attribute [local simp] cellsOf_sc cellOk_sc partOk_sc cellsOf_own cellOk_own partOk_own cellsOf_osl cellOk_osl partOk_osl cellsOf_sh cellOk_sh partOk_sh cellsOf_ssl cellOk_ssl partOk_ssl cellsOf_esl cellOk_esl partOk_esl cellsOf_fn cellOk_fn partOk_fn cellsOf_omap cellOk_omap partOk_omap cellsOf_agg partOk_agg cellsOf_slv cellOk_slv partOk_slv

open M (fewP sameB canonP FewF mapE mapN turnF)
theorem set_at {α : Type} (l : List α) {i : Nat} (h : i < l.length) (v : α) : (l.set i v)[i]? = some v := by simp [h]

theorem loop3 (a : List api_Node) (x : List api_Edge) (wa : M.W22 a) (wx : M.W23 x) (C : Cont) (hr : ∀ t H n, resOf T.T Try.f3.results.toList ⟨t, H, n⟩ = some (B true) → C .ret t H n)
    {t : Nat → AV} {H : Mem} {n k N : Nat} {nodes : List api_Node} {out : List api_Edge} (ga : fewP a 0 = true) (hx : x.length ≤ 60) (hP : canonP a x = (nodes, out, 0)) (ha : 0 < a.length) (hk : k < a.length) (hN0 : 0 < N) (st : St10 a x nodes out k N t)
    (h0 : H 0 = some (.cells [.ssl (encs c37 a) a.length false] 22)) (hN : H N = some (.cells [I k] 3)) (hb : H (N + 1) = some (.cells (((List.replicate a.length z37).flatten).map .sc) 37)) (hn : N + 2 ≤ n)
    (t129 : t 129 = .ssl (encs c37 a) a.length false) (t130 : t 130 = I a.length) (t131 : t 131 = I 0) : Stk Try.prog T.T 198 (codes ((seqs body3).drop 14)) t H n C := by
  have r37 : ∀ l : List api_Node, freeL (encs c37 l) = true := freeL_encs M.fr37
  have r31 : ∀ l : List api_Edge, freeL (encs c31 l) = true := freeL_encs M.fr31
  obtain ⟨few, ha1, ha2⟩ := few_of wa ga
  refine Stk.cut (l' := (seqs body3).drop 15) [_] rfl fun J hJ => ?_
  refine Stk.giveC trivial hb (cs' := encs c37 (List.replicate a.length zN)) (by rw [← zs_row]; simp) (fun j a' ha' => by
    rw [← zs_row, List.getElem?_map] at ha'
    cases hz : ((List.replicate a.length z37).flatten)[j]? with
    | none => rw [hz] at ha'; cases ha'
    | some v =>
      rw [hz] at ha'
      simp only [Option.map_some, Option.some.injEq] at ha'
      exact ⟨.sc v, by rw [List.getElem?_map, hz]; rfl, ha' ▸ vw_zs v⟩) (fun H1 k1 k2 => ?_)
  have m1 : Mem10 a k N (List.replicate a.length zN) H1 n := ⟨by rw [k2 0 (by omega)]; exact h0, by rw [k2 N (by omega)]; exact hN, k1, by simp, hn⟩
  clear k1 k2 h0 hN hb
  refine evS_sound (f := 3) ?_
  simp [codes]
  refine Stk.loop 4 (fun μ t H n => ∃ (i : Nat) (bl : List api_Node), i ≤ a.length ∧ μ = a.length - i ∧ St10 a x nodes out k N t ∧ Mem10 a k N bl H n ∧ t 129 = .ssl (encs c37 a) a.length false ∧ t 130 = I a.length ∧ t 131 = I i ∧ (∀ (j : Nat) nd, j < i → a[j]? = some nd → bl[(j + k) % a.length]? = some (mapN (turnF a.length k) nd)) ∧ Few bl) a.length
    ⟨0, List.replicate a.length zN, Nat.zero_le _, rfl, st, m1, t129, t130, t131, (fun j nd hj => by omega), ⟨by simp; omega, fun nd hnd => by rw [List.eq_of_mem_replicate hnd]; exact ⟨by simp, by simp, by simp⟩⟩⟩ ?_
  clear st m1 t129 t130 t131
  rintro J2 hJ2 μ t H n ⟨i, bl, hi, rfl, st, mm, t129, t130, t131, hat, hfew⟩
  have stt := st
  obtain ⟨t1, t4, t9, t10, t18, t19, t20⟩ := stt
  by_cases hlt : i < a.length
  · have hlti : (i : Int) < a.length := by omega
    obtain ⟨nd, hnd⟩ : ∃ nd, a[i] = nd := ⟨_, rfl⟩
    have hgeti : a[i]? = some nd := by rw [List.getElem?_eq_getElem hlt, hnd]
    have hmem : nd ∈ a := by rw [← hnd]; exact List.getElem_mem hlt
    obtain ⟨q1, q2, q3⟩ := few.kids nd hmem
    have hln : partOf T.T 37 (List.drop (i * 5) (encs c37 a)) 0 = some (.agg (c37 nd)) := by rw [← hnd]; exact part_agg (e := c37) (z := 5) T.t37 rfl rfl a i hlt
    rw [c37_eq] at hln
    have mh0 := mm.h0
    have mhN := mm.hN
    have mlt := mm.lt
    obtain ⟨Y, hY⟩ : ∃ Y : Mem, Y = upd (upd H n (some (.cells [.sc (.int .i64 0), .sc (.int .i64 0), .sc (.int .i64 0), .sc (.slice none 0 0), .sc (.slice none 0 0)] 37))) n (some (.cells [I nd.Head.Kind, I nd.Head.Tag, I nd.Head.Count, .ssl (encs M.c5 nd.Bytes) nd.Bytes.length false, .ssl (encs c31 nd.Kids) nd.Kids.length false] 37)) := ⟨_, rfl⟩
    have hYk : ∀ j, j < n → Y j = H j := fun j hj => by rw [hY, upd_ne _ _ (by omega), upd_ne _ _ (by omega)]
    have yn : Y n = some (.cells [I nd.Head.Kind, I nd.Head.Tag, I nd.Head.Count, .ssl (encs M.c5 nd.Bytes) nd.Bytes.length false, .ssl (encs c31 nd.Kids) nd.Kids.length false] 37) := by rw [hY, upd_same]
    have mY := mm.far (n' := n + 1) hN0 (by omega) hYk
    have stA := st
    have tA129 := t129
    have tA130 := t130
    have tA131 := t131
    simp [t129, t130, t131, hlt, hlti]
    iterate 10 (try (refine evS_sound (f := 3) ?_; simp [t129, t130, t131, hlt, hlti, hln, yn, ← hY]))
    clear st t1 t4 t9 t10 t18 t19 t20 t129 t130 t131 mh0 mhN mm
    have h22 : ∀ m : Nat, 21 ≤ m → ∀ j : Nat, j < 21 → ¬ j = m := fun m hm j hj => by omega
    refine Stk.loop 4 (fun μ t H' n' => ∃ q : Nat, q ≤ nd.Kids.length ∧ μ = nd.Kids.length - q ∧ St10 a x nodes out k N t ∧ Mem10 a k N bl H' n' ∧ t 129 = .ssl (encs c37 a) a.length false ∧ t 130 = I a.length ∧ t 131 = I i ∧ t 21 = I i ∧ t 22 = .own n 0 ∧ t 137 = .ssl (encs c31 nd.Kids) nd.Kids.length false ∧ t 138 = I nd.Kids.length ∧ t 139 = I q ∧ n < n' ∧ H' n = some (.cells [I nd.Head.Kind, I nd.Head.Tag, I nd.Head.Count, .ssl (encs M.c5 nd.Bytes) nd.Bytes.length false, .ssl (encs c31 nd.Kids) nd.Kids.length false] 37)) nd.Kids.length
      ⟨0, Nat.zero_le _, rfl, stA.of (fun j hj => by simp [upd, h22, hj]), mY, by simp [tA129], by simp [tA130], by simp [tA131], by simp, by simp, by simp, by simp, by simp, by omega, yn⟩ ?_
    clear stA tA129 tA130 tA131 mY hYk hY yn Y t H
    rintro J3 hJ3 μ t H n' ⟨q, hq, rfl, st, mm, t129, t130, t131, t21, t22, t137, t138, t139, hn', hHn⟩
    have stt := st
    obtain ⟨t1, t4, t9, t10, t18, t19, t20⟩ := stt
    by_cases hlq : q < nd.Kids.length
    · have hlqi : (q : Int) < nd.Kids.length := by omega
      obtain ⟨e, he⟩ : ∃ e, nd.Kids[q] = e := ⟨_, rfl⟩
      have hld : partOf T.T 31 (List.drop (q * 3) (encs c31 nd.Kids)) 0 = some (.agg (c31 nd.Kids[q])) := part_agg (e := c31) (z := 3) T.t31 rfl rfl nd.Kids q hlq
      rw [he, c31_eq] at hld
      obtain ⟨Y, hY⟩ : ∃ Y : Mem, Y = upd (upd H n' (some (.cells [.sc (.bool false), .sc (.int .i64 0), .sc (.int .i64 0)] 31))) n' (some (.cells [B e.Is, I e.Node, I e.Num] 31)) := ⟨_, rfl⟩
      have hYk : ∀ j, j < n' → Y j = H j := fun j hj => by rw [hY, upd_ne _ _ (by omega), upd_ne _ _ (by omega)]
      have yn : Y n' = some (.cells [B e.Is, I e.Node, I e.Num] 31) := by rw [hY, upd_same]
      have mY := mm.far (n' := n' + 1) hN0 (by omega) hYk
      have y0 := mY.h0
      have wq := wrap_succ q (by omega)
      have hback : ∀ t' : Nat → AV, (∀ j, j < 21 → t' j = t j) → t' 129 = t 129 → t' 130 = t 130 → t' 131 = t 131 → t' 21 = t 21 → t' 22 = t 22 → t' 137 = t 137 → t' 138 = t 138 → t' 139 = I ((q + 1 : Nat) : Int) → J3 (nd.Kids.length - (q + 1)) t' Y (n' + 1) := fun t' h0 h1 h2 h3 h4 h5 h6 h7 h8 =>
        hJ3 _ _ _ _ ⟨q + 1, hlq, rfl, st.of h0, mY, by rw [h1, t129], by rw [h2, t130], by rw [h3, t131], by rw [h4, t21], by rw [h5, t22], by rw [h6, t137], by rw [h7, t138], h8, by omega, by rw [hYk n (by omega)]; exact hHn⟩
      obtain ⟨Is, Node, Num⟩ := e
      simp [t137, t138, t139, hlq, hlqi]
      iterate 3 (try (refine evS_sound (f := 3) ?_; simp [t137, t138, t139, hlq, hlqi, hld, yn, ← hY]))
      cases Is with
      | false =>
        iterate 8 (try (refine evS_sound (f := 4) ?_; simp [t137, t138, t139, t4, y0, hld, yn, ← hY, wq]))
        exact ⟨_, by omega, hback _ (fun j hj => by simp [upd, h22, hj]) (by simp) (by simp) (by simp) (by simp) (by simp) (by simp) (by simp) (by simp)⟩
      | true =>
        by_cases hneg : Node < 0
        · iterate 10 (try (refine evS_sound (f := 3) ?_; simp [t137, t138, t139, t4, y0, hld, yn, ← hY, hneg]))
          refine Stk.callF 4 awakeG rfl rfl rfl (by simp) rfl rfl ?_
          simp
          iterate 6 (try (refine evS_sound (f := 4) ?_; simp))
          exact hr _ _ _ (by simp)
        · by_cases hge : (a.length : Int) ≤ Node
          · iterate 10 (try (refine evS_sound (f := 3) ?_; simp [t137, t138, t139, t4, y0, hld, yn, ← hY, hneg, hge]))
            refine Stk.callF 4 awakeG rfl rfl rfl (by simp) rfl rfl ?_
            simp
            iterate 6 (try (refine evS_sound (f := 4) ?_; simp))
            exact hr _ _ _ (by simp)
          · iterate 14 (try (refine evS_sound (f := 3) ?_; simp [t137, t138, t139, t4, y0, hld, yn, ← hY, hneg, hge, wq]))
            exact ⟨_, by omega, hback _ (fun j hj => by simp [upd, h22, hj]) (by simp) (by simp) (by simp) (by simp) (by simp) (by simp) (by simp) (by simp)⟩
    · have hqe : q = nd.Kids.length := by omega
      subst hqe
      have mh0 := mm.h0
      have mhN := mm.hN
      have mhb := mm.hb
      have mlt := mm.lt
      have mbl := mm.bl
      simp [t138, t139]
      iterate 2 (try (refine evS_sound (f := 3) ?_; simp))
      refine Stk.regionD 9 [.rd [], .rd [], .rd [N], .rd [], .rd [0], .rd [], .rd [], .rd [], .rd [n], .rd [], .rd [n], .rd [], .rd [], .rd [n], .mem [] n', .rd [], .rd [], .mem [N + 1] n'] none (by kernel_rfl) (drawOk2_ren [0, N, N + 1, n] (by simp; omega) n' [.rd [], .rd [], .rd [1], .rd [], .rd [0], .rd [], .rd [], .rd [], .rd [3], .rd [], .rd [3], .rd [], .rd [], .rd [3], .mem [] 0, .rd [], .rd [], .mem [2] 0] rfl (by rfl)) rfl (by simp [below]; omega) rfl ?_
      have hl0 : ¬ a.length = 0 := by omega
      have hln0 : ¬ a = [] := fun e => by subst e; simp at ha
      have hw : (IntKind.i64.wrap ((i : Int) + (k : Int))).tmod (a.length : Int) = ((i + k) % a.length : Nat) := M.turnF_at ha1 hk hlt
      have hml : (i + k) % a.length < a.length := Nat.mod_lt _ ha
      obtain ⟨m, hm⟩ : ∃ m, (i + k) % a.length = m := ⟨_, rfl⟩
      rw [hm] at hw hml
      simp [t4, t18, t19, t20, t21, t22, mh0, mhN, hHn, partOf, hw, hl0, hln0, hml]
      refine evS_sound (f := 6) ?_
      simp [t4, t18, t19, t20, t21, t22, mh0, mhN, hHn, partOf, hw, hl0, hln0, hml]
      refine Stk.callSD 4 rfl ?_ (turnQ (k := k) (l := a) nd.Kids (by have := ha2 nd hmem; omega) mhN mh0 (by omega) (by omega) ha) rfl rfl rfl rfl (by simp [t19]) ?_
      · rintro v H2 n2 ⟨_, g⟩ j hj _; exact g.2 j hj
      rintro v H2 n2 ⟨rfl, hc2⟩
      have m2 := mm.far hN0 hc2.1 hc2.2
      have m2b := m2.hb
      have hsp := splice_encs (z := 5) (e := c37) bl m (by omega) (mapN (turnF a.length k) nd)
      rw [c37_eq] at hsp
      simp only [mapN, List.length_map] at hsp
      have hm5 : m * 5 + 5 ≤ a.length * 5 := by omega
      simp [m2b, mbl, hml, partOf, hm5, hsp, -splice]
      refine ⟨fun j _ h1 h2 => absurd h2 h1, ?_⟩
      have hv : (⟨nd.Head, nd.Bytes, nd.Kids.map (mapE (turnF a.length k))⟩ : api_Node) = mapN (turnF a.length k) nd := rfl
      rw [hv]
      have wi := wrap_succ i (by omega)
      have mm2 : Mem10 a k N (bl.set m (mapN (turnF a.length k) nd)) (upd H2 (N + 1) (some (.cells (encs c37 (bl.set m (mapN (turnF a.length k) nd))) 37))) n2 := ⟨by rw [upd_ne _ _ (by omega), m2.h0], by rw [upd_ne _ _ (by omega), m2.hN], upd_same _ _ _, by rw [List.length_set, mbl], m2.lt⟩
      have hat2 : ∀ (j : Nat) nd', j < i + 1 → a[j]? = some nd' → (bl.set m (mapN (turnF a.length k) nd))[(j + k) % a.length]? = some (mapN (turnF a.length k) nd') := fun j nd' hj hj2 => by
        by_cases e : j = i
        · subst e
          rw [hgeti] at hj2
          cases hj2
          rw [hm]
          exact set_at bl (by omega) _
        · have hjl := (List.getElem?_eq_some_iff.1 hj2).1
          rw [List.getElem?_set_ne (fun e2 => e (M.mod_inj hk hjl hlt (by rw [hm]; exact e2.symm)))]
          exact hat j nd' (by omega) hj2
      have few2 : Few (bl.set m (mapN (turnF a.length k) nd)) := ⟨by have := hfew.len; rw [List.length_set]; exact this, fun nd' h' => by
        rcases List.mem_or_eq_of_mem_set h' with h' | rfl
        · exact hfew.kids nd' h'
        · exact ⟨by simp [mapN]; exact q1, nums_in q2, q3⟩⟩
      iterate 4 (try (refine evS_sound (f := 4) ?_; simp [t131, wi]))
      refine ⟨a.length - (i + 1), by omega, hJ2 _ _ _ _ ⟨i + 1, _, by omega, rfl, st.of (fun j hj => by simp [upd, h22, hj]), mm2, by simp [t129], by simp [t130], by simp, hat2, few2⟩⟩
  · have hie : i = a.length := by omega
    subst hie
    simp [t130, t131]
    iterate 6 (try (refine evS_sound (f := 3) ?_; simp))
    exact hJ _ _ _ (part4 a x wa wx C hr ga hx hP ha hk hN0 (st.of (fun j hj => by simp [upd, show ∀ m : Nat, 21 ≤ m → ¬ j = m from fun m hm => by omega])) mm (fun j nd hj => hat j nd (List.getElem?_eq_some_iff.1 hj).1 hj) hfew)
end Go.Proofs.Ytfflojbgikfbmaa.Gra
