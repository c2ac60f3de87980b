/-
  StackPlays: what is done with both, one thing behind the other.
-/
import Derived.Test.YtfflojbgikfbmaaSO
namespace Go.Proofs.Ytfflojbgikfbmaa.Sta
open Go.Proofs.YtfflojbgikfbmaaW.Ah
set_option maxRecDepth 4000
set_option linter.unusedVariables false
set_option linter.unusedSimpArgs false
attribute [local simp] T.t3 T.t4 T.t5 T.t26 T.t39 T.t40 T.t41 T.t47 T.t49 T.t73 T.t77 T.t79 T.t128 T.t130 T.t132 T.t135 T.t150 T.t72 Op.maxDepth List.range List.range.loop
attribute [-simp] appendAV cellsOf cellOk partOk
attribute [local simp] cellsOf_sc cellOk_sc partOk_sc cellsOf_own cellOk_own partOk_own cellsOf_osl cellOk_osl partOk_osl cellsOf_sh cellOk_sh partOk_sh cellsOf_ssl cellOk_ssl partOk_ssl cellsOf_esl cellOk_esl partOk_esl cellsOf_fn cellOk_fn partOk_fn cellsOf_omap cellOk_omap partOk_omap cellsOf_agg partOk_agg cellsOf_slv cellOk_slv partOk_slv


theorem sameAll {H : Mem} {n p q : Nat} {s : Sk} {ia ib ja jb : Option Nat} (h : Two H n p q s ia ib ja jb) (kd w i m : Int) (hk0 : 0 ≤ kd) (hw0 : 0 ≤ w) :
    RunQ Try.prog T.T 46 [.own p 0, .own q 0, .agg [.sc (.int .u8 kd), U w, I i, I m]] H n (Fine H n p q ia ib ja jb) := by
  have hc : kd.tmod 10 = 0 ∨ kd.tmod 10 = 1 ∨ kd.tmod 10 = 2 ∨ kd.tmod 10 = 3 ∨ kd.tmod 10 = 4 ∨ kd.tmod 10 = 5 ∨ kd.tmod 10 = 6 ∨ kd.tmod 10 = 7 ∨ kd.tmod 10 = 8 ∨ kd.tmod 10 = 9 := by
    rw [Int.tmod_eq_emod_of_nonneg hk0]; omega
  rcases hc with hk | hk | hk | hk | hk | hk | hk | hk | hk | hk
  · exact same_push0 h kd w i m hk
  · exact same_push1 h kd w i m hk
  · exact same_pop h kd w i m hk
  · exact same_get h kd w i m hk
  · exact same_set h kd w i m hk
  · exact same_slide h kd w i m hk
  · exact same_enter h kd w i m hk
  · exact same_leave h kd w i m hk
  · exact same_8 h kd w i m hk hw0
  · exact same_cut h kd w i m hk

theorem gnew (H : Mem) (n : Nat) (m : Int) (hm : ¬ (0 ≤ m ∧ m ≤ 65536)) :
    RunQ Try.prog T.T 20 [I m] H n (fun r H' n' => r = .tup [.sc (.pointer none), I 20] ∧ H' = H ∧ n' = n) := by
  refine RunQ.ev 999 Try.func20 rfl rfl rfl rfl rfl fun C hr hn => ?_
  by_cases h0 : m < 0
  · simp [h0]
    exact hr _ _ _ (.tup [.sc (.pointer none), I 20]) (by simp) ⟨rfl, rfl, rfl⟩
  · have h1 : 65536 < m := by omega
    simp [h0, h1]
    exact hr _ _ _ (.tup [.sc (.pointer none), I 20]) (by simp) ⟨rfl, rfl, rfl⟩

theorem top_form (s : Sk) : ∃ (x : Int × Int × Int) (b : Bool), s.top = .tup [.agg [I x.1, I x.2.1, I x.2.2], B b] := by
  unfold Sk.top
  cases s.frames.getLast? with
  | some f => exact ⟨(f.1, f.2.1, (f.2.2 : Int)), true, rfl⟩
  | none => exact ⟨(0, 0, 0), false, rfl⟩

noncomputable def body8 : Code := Try.f8.body.getD .skip

theorem plays (most : Int) (xs : List (Int × Int × Int × Int)) (hx : ∀ d ∈ xs, 0 ≤ d.1 ∧ 0 ≤ d.2.1) : RunF Try.prog T.T 8 [I most, .ssl (encs eD xs) xs.length false] (B true) := by
  refine RunF.ev 40 Try.func8 rfl rfl rfl rfl rfl fun C hr hn => ?_
  by_cases hl : (300 : Int) < xs.length
  · simp [hl]
    refine Stk.callF 40 awake rfl rfl rfl rfl rfl rfl ?_
    simp
    exact hr _ _ _ (by simp)
  · simp [hl]
    by_cases hm : 0 ≤ most ∧ most ≤ 65536
    · refine Stk.callS 8 (new _ _ most hm.1 hm.2) rfl rfl rfl (by simp) ?_
      rintro v H1 n1 ⟨p, rfl, hp0, hp1, k1, st⟩
      simp
      (try (refine evS_sound (f := 12) ?_; simp))
      have hrn := rnew H1 n1 most
      simp only [if_pos hm] at hrn
      refine Stk.callS 8 hrn rfl rfl rfl (by simp) ?_
      rintro v H2 n2 ⟨q, rfl, hq0, hq1, k2, rt⟩
      have tw : Two H2 n2 p q ⟨[], [], most.toNat, 0⟩ none none none none := ⟨st.far (by omega) k2, rt, fun j g1 g2 => by simp [blocks] at g1 g2; omega⟩
      simp
      iterate 3 (try (refine evS_sound (f := 12) ?_; simp))
      refine Stk.loop 12 (fun μ t H n => ∃ (m : Nat) (s : Sk) (ia ib ja jb : Option Nat), m ≤ xs.length ∧ μ = xs.length - m ∧ t 5 = .own p 0 ∧ t 7 = .own q 0 ∧ t 39 = .ssl (encs eD xs) xs.length false ∧ t 40 = I xs.length ∧ t 41 = I m ∧ Two H n p q s ia ib ja jb) xs.length
        ⟨0, _, none, none, none, none, Nat.zero_le _, rfl, by simp, by simp, by simp, by simp, by simp, tw⟩ ?_
      rintro J hJ μ t H n ⟨m, s, ia, ib, ja, jb, hml, rfl, t5, t7, t39, t40, t41, tw⟩
      simp [t39, t40, t41]
      refine ⟨fun hlt => ?_, fun hge => ?_⟩
      · have hld : partOf T.T 77 (List.drop (m * 4) (encs eD xs)) 0 = some (.agg (eD xs[m])) := part_agg (e := eD) (z := 4) T.t77 rfl rfl xs m hlt
        obtain ⟨⟨kd, w, i, nn⟩, hxd⟩ : ∃ d, xs[m] = d := ⟨_, rfl⟩
        have hpos := hx xs[m] (List.getElem_mem hlt)
        rw [hxd] at hld hpos
        obtain ⟨Z, hZ⟩ : ∃ Z : Mem, Z = upd (upd H n (some (.cells [.sc (.int .u8 0), .sc (.int .u64 0), I 0, I 0] 77))) n (some (.cells [.sc (.int .u8 kd), U w, I i, I nn] 77)) := ⟨_, rfl⟩
        have hZk : ∀ j, j < n → Z j = H j := fun j hj => by rw [hZ, upd_ne _ _ (by omega), upd_ne _ _ (by omega)]
        have tz := tw.far (n' := n + 1) (by omega) hZk
        have zn : Z n = some (.cells [.sc (.int .u8 kd), U w, I i, I nn] 77) := by rw [hZ, upd_same]
        have lp := tw.a.lp
        have lq := tw.b.lp
        simp [t39, t40, t41, hlt, hld, t5, t7]
        iterate 2 (try (refine evS_sound (f := 8) ?_; simp [t39, t40, t41, hlt, hld, t5, t7]))
        rw [← hZ]
        refine Stk.callS 8 (frame tz.a) rfl rfl rfl (by simp) ?_
        rintro v H1 n1 ⟨rfl, l1, k1⟩
        have t1 := tz.far l1 k1
        have z1 : H1 n = _ := (k1 n (by omega)).trans zn
        obtain ⟨⟨f1, f2, f3⟩, fb, htop⟩ := top_form s
        obtain ⟨Y, hY⟩ : ∃ Y : Mem, Y = upd (upd H1 n1 (some (.cells [I 0, I 0, I 0] 79))) n1 (some (.cells [I f1, I f2, I f3] 79)) := ⟨_, rfl⟩
        have hYk : ∀ j, j < n1 → Y j = H1 j := fun j hj => by rw [hY, upd_ne _ _ (by omega), upd_ne _ _ (by omega)]
        have t2 := t1.far (n' := n1 + 1) (by omega) hYk
        have y1 : Y n1 = some (.cells [I f1, I f2, I f3] 79) := by rw [hY, upd_same]
        have z2 : Y n = _ := (hYk n (by omega)).trans z1
        rw [htop]
        simp [t39, t40, t41, hlt, hld, t5, t7]
        iterate 2 (try (refine evS_sound (f := 8) ?_; simp [t39, t40, t41, hlt, hld, t5, t7]))
        rw [← hY]
        refine Stk.callS 8 (frameR t2.b) rfl rfl rfl (by simp) ?_
        rintro v H3 n3 ⟨rfl, l3, k3⟩
        have t3 := t2.far l3 k3
        have z3 : H3 n = _ := (k3 n (by omega)).trans z2
        have y3 : H3 n1 = _ := (k3 n1 (by omega)).trans y1
        obtain ⟨X, hX⟩ : ∃ X : Mem, X = upd (upd H3 n3 (some (.cells [I 0, I 0, I 0] 79))) n3 (some (.cells [I f1, I f2, I f3] 79)) := ⟨_, rfl⟩
        have hXk : ∀ j, j < n3 → X j = H3 j := fun j hj => by rw [hX, upd_ne _ _ (by omega), upd_ne _ _ (by omega)]
        have t4 := t3.far (n' := n3 + 1) (by omega) hXk
        have x1 : X n3 = some (.cells [I f1, I f2, I f3] 79) := by rw [hX, upd_same]
        have z4 : X n = _ := (hXk n (by omega)).trans z3
        have y4 : X n1 = _ := (hXk n1 (by omega)).trans y3
        have e3 : ¬ n = n3 := by omega
        have e1 : ¬ n1 = n3 := by omega
        rw [htop]
        simp [t39, t40, t41, hlt, hld, t5, t7, e3, e1, z3, y3]
        iterate 2 (try (refine evS_sound (f := 8) ?_; simp [t39, t40, t41, hlt, hld, t5, t7, e3, e1, z3, y3]))
        rw [← hX]
        (try simp [t5, t7, z4, partOf, e3, e1, z3, y3])
        iterate 3 (try (refine evS_sound (f := 3) ?_; simp [t5, t7, z4, partOf, e3, e1, z3, y3]))
        refine Stk.callS 8 (sameAll t4 kd w i nn hpos.1 hpos.2) rfl rfl rfl (by simp) ?_
        rintro v H5 n5 ⟨rfl, s', ia', ib', ja', jb', nx⟩
        have un : ∀ j, n ≤ j → j ∉ blocks p ia ib ∧ j ∉ blocks q ja jb := fun j hj => ⟨fun e => by have := tw.a.under e; omega, fun e => by have := tw.b.under e; omega⟩
        have y5 : H5 n1 = _ := (nx.keep n1 (by omega) (un n1 (by omega)).1 (un n1 (by omega)).2).trans y4
        have x5 : H5 n3 = _ := (nx.keep n3 (by omega) (un n3 (by omega)).1 (un n3 (by omega)).2).trans x1
        have wm := wrap_succ m (by omega)
        simp [y5, x5, partOf]
        iterate 3 (try (refine evS_sound (f := 12) ?_; simp [y5, x5, partOf, t41, wm]))
        exact ⟨xs.length - (m + 1), by omega, hJ _ _ _ _ ⟨m + 1, s', ia', ib', ja', jb', by omega, rfl, by simp [t5], by simp [t7], by simp [t39], by simp [t40], by simp, nx.two⟩⟩
      · simp [t5, t7]
        refine Stk.callS 8 (dump tw.a) rfl rfl rfl (by simp) ?_
        rintro v H1 n1 ⟨o1, c1, o2, rfl, w1, v1, l1, f1, g1, k1⟩
        have t1 := tw.far l1 k1
        simp
        refine Stk.callS 8 (dumpR t1.b) rfl rfl rfl (by simp [t7]) ?_
        rintro v H2 n2 ⟨o3, o4, rfl, w2, v2, l2, f2, g2, k2⟩
        have hok := tw.a.ok
        have := hok.most
        have := hok.slots
        have := hok.frames
        have sr := sameR (n := n2) (c1 := c1) (k := s.peak) (w1.mono (H' := H2) fun j hj => k2 j (f1 j hj).2) w2 (v1.mono (H' := H2) fun j hj => k2 j (g1 j hj).2) v2 (by omega) (by omega) (fun i hi => by have := f1 i hi; omega) (fun i hi => by have := f2 i hi; omega) (fun i hi => by have := g1 i hi; omega) (fun i hi => by have := g2 i hi; omega)
        refine Stk.callS 8 sr rfl rfl rfl (by simp) ?_
        rintro v H3 n3 rfl
        simp
        refine Stk.callF 8 awake rfl rfl rfl (by simp) rfl rfl ?_
        simp
        exact hr _ _ _ (by simp)
    · refine Stk.callS 8 (gnew _ _ most hm) rfl rfl rfl (by simp) ?_
      rintro v H1 n1 ⟨rfl, rfl, rfl⟩
      simp
      (try (refine evS_sound (f := 12) ?_; simp))
      have hrn := rnew (fun _ => none) 0 most
      simp only [if_neg hm] at hrn
      refine Stk.callS 8 hrn rfl rfl rfl (by simp) ?_
      rintro v H2 n2 ⟨rfl, rfl, rfl⟩
      simp
      iterate 3 (try (refine evS_sound (f := 12) ?_; simp))
      refine Stk.loop 12 (fun μ t H n => ∃ (m : Nat), m ≤ xs.length ∧ μ = xs.length - m ∧ t 5 = .sc (.pointer none) ∧ t 7 = .sc (.pointer none) ∧ t 39 = .ssl (encs eD xs) xs.length false ∧ t 40 = I xs.length ∧ t 41 = I m) xs.length
        ⟨0, Nat.zero_le _, rfl, by simp, by simp, by simp, by simp, by simp⟩ ?_
      rintro J hJ μ t H n ⟨m, hml, rfl, t5, t7, t39, t40, t41⟩
      simp [t39, t40, t41]
      refine ⟨fun hlt => ?_, fun hge => ?_⟩
      · have hld : partOf T.T 77 (List.drop (m * 4) (encs eD xs)) 0 = some (.agg (eD xs[m])) := part_agg (e := eD) (z := 4) T.t77 rfl rfl xs m hlt
        obtain ⟨⟨kd, w, i, nn⟩, hxd⟩ : ∃ d, xs[m] = d := ⟨_, rfl⟩
        have hpos := hx xs[m] (List.getElem_mem hlt)
        rw [hxd] at hld hpos
        have wm := wrap_succ m (by omega)
        simp [t39, t40, t41, hlt, hld, t5, t7]
        iterate 2 (try (refine evS_sound (f := 8) ?_; simp [t39, t40, t41, hlt, hld, t5, t7]))
        refine Stk.callF 8 nilFrame rfl rfl rfl (by simp) rfl rfl ?_
        simp [t39, t40, t41, hlt, hld, t5, t7]
        iterate 2 (try (refine evS_sound (f := 8) ?_; simp [t39, t40, t41, hlt, hld, t5, t7]))
        refine Stk.callF 8 nilRFrame rfl rfl rfl (by simp) rfl rfl ?_
        simp [t39, t40, t41, hlt, hld, t5, t7]
        iterate 2 (try (refine evS_sound (f := 8) ?_; simp [t39, t40, t41, hlt, hld, t5, t7, partOf]))
        have e3 : ¬ n = n + 1 + 1 := by omega
        have e1 : ¬ n + 1 = n + 1 + 1 := by omega
        (try simp [t39, t40, t41, hlt, hld, t5, t7, partOf, e1, e3])
        iterate 3 (try (refine evS_sound (f := 3) ?_; simp [t39, t40, t41, hlt, hld, t5, t7, partOf, e1, e3]))
        refine Stk.callS 8 (nilSame _ _ kd w i nn hpos.1 hpos.2) rfl rfl rfl (by simp) ?_
        rintro v H5 n5 ⟨rfl, k5⟩
        have x5 := k5 (n + 1) (by omega)
        have y5 := k5 (n + 1 + 1) (by omega)
        simp [e1] at x5 y5
        simp [x5, y5, partOf]
        iterate 3 (try (refine evS_sound (f := 12) ?_; simp [x5, y5, partOf, t41, wm]))
        exact ⟨xs.length - (m + 1), by omega, hJ _ _ _ _ ⟨m + 1, by omega, rfl, by simp [t5], by simp [t7], by simp [t39], by simp [t40], by simp⟩⟩
      · simp [t5, t7]
        refine Stk.callF 8 nilDump rfl rfl rfl (by simp) rfl rfl ?_
        simp
        refine Stk.callF 8 nilRDump rfl rfl rfl (by simp [t7]) rfl rfl ?_
        simp
        refine Stk.callS 8 (sameR (o1 := none) (o2 := none) (c1 := none) (f1 := none) (f2 := none) (xs := []) (fs := []) (k := 0) rfl rfl rfl rfl (by simp) (by simp) (fun i e => by cases e) (fun i e => by cases e) (fun i e => by cases e) (fun i e => by cases e)) rfl rfl rfl (by simp [slc]) ?_
        rintro v H3 n3 rfl
        simp
        refine Stk.callF 8 awake rfl rfl rfl (by simp) rfl rfl ?_
        simp
        exact hr _ _ _ (by simp)
end Go.Proofs.Ytfflojbgikfbmaa.Sta
