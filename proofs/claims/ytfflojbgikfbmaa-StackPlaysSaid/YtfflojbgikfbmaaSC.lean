/-
  The document's own stack: what changes it.
-/
import Derived.Test.YtfflojbgikfbmaaSB
namespace Go.Proofs.Ytfflojbgikfbmaa.Sta
open Go.Proofs.YtfflojbgikfbmaaW.Ah
set_option maxRecDepth 4000
set_option linter.unusedVariables false
set_option linter.unusedSimpArgs false
attribute [local simp] T.t3 T.t4 T.t5 T.t26 T.t39 T.t40 T.t41 T.t47 T.t49 T.t73 T.t77 T.t79 T.t128 T.t130 T.t132 T.t135 T.t150 Op.maxDepth List.range List.range.loop
attribute [-simp] appendAV cellsOf cellOk partOk
attribute [local simp] cellsOf_sc cellOk_sc partOk_sc cellsOf_own cellOk_own partOk_own cellsOf_osl cellOk_osl partOk_osl cellsOf_sh cellOk_sh partOk_sh cellsOf_ssl cellOk_ssl partOk_ssl cellsOf_esl cellOk_esl partOk_esl cellsOf_fn cellOk_fn partOk_fn cellsOf_omap cellOk_omap partOk_omap cellsOf_agg partOk_agg cellsOf_slv cellOk_slv partOk_slv

theorem RStep.after {H H1 H' : Mem} {n n1 n' p : Nat} {s : Sk} {ia ib ia' ib' : Option Nat} (hl : n ≤ n1) (hk : ∀ j, j < n → H1 j = H j) (h : RStep H1 n1 p ia ib H' n' s ia' ib') : RStep H n p ia ib H' n' s ia' ib' :=
  ⟨h.st, Nat.le_trans hl h.le, fun j hj hp ha hb => by rw [h.keep j (by omega) hp ha hb, hk j hj], fun i hi => (h.fa i hi).imp id (fun g => by omega), fun i hi => (h.fb i hi).imp id (fun g => by omega)⟩

theorem popR {H : Mem} {n p : Nat} {s : Sk} {ia ib : Option Nat} (h : Rt H n p s ia ib) :
    RunQ Try.prog T.T 97 [.own p 0] H n (fun r H' n' => if s.base < s.slots.length
      then r = .tup [U (s.slots.getD (s.slots.length - 1) 0), I 0] ∧ ∃ ia' ib', RStep H n p ia ib H' n' ⟨s.slots.take (s.slots.length - 1), s.frames, s.most, s.peak⟩ ia' ib'
      else r = .tup [U 0, I 24] ∧ n ≤ n' ∧ ∀ j, j < n → H' j = H j) := by
  have hlp := h.lp
  have hok := h.ok
  have hmo := hok.most
  have hsl := hok.slots
  have hle := hok.base_le
  refine RunQ.ev 999 Try.func97 rfl rfl rfl rfl rfl fun C hr hn => ?_
  simp
  refine Stk.callS 999 (ownR h) rfl rfl rfl (by simp) ?_
  rintro v H1 n1 ⟨rfl, l1, g1⟩
  by_cases hlt : s.base < s.slots.length
  · have hge : ¬ ((s.slots.length - s.base : Nat) : Int) < 1 := by omega
    have hge2 : ¬ (s.slots.length - s.base = 0) := by omega
    have hge3 : ¬ (s.slots.length ≤ s.base) := by omega
    have h1 := h.far l1 g1
    have hk : s.slots.length - 1 < s.slots.length := by omega
    have hw := wrap_pred (a := s.slots.length) (by omega) (by omega)
    cases ia with
    | none => have h0 : s.slots = [] := h.ha; rw [h0] at hlt; simp at hlt
    | some a =>
      have hwd := words (n := n1) (c := none) (h1.ha.take (s.slots.length - 1)) (by simp; omega)
      have htl : (s.slots.take (s.slots.length - 1)).length = s.slots.length - 1 := by simp
      rw [htl] at hwd
      obtain ⟨ys, ha⟩ := h1.ha
      have hp1 : H1 p = _ := h1.hp
      have hce := cell_own (e := eU) (z := 1) s.slots ys (s.slots.length - 1) 0 hk (by omega)
      have hlim : ((s.slots.length - 1 : Nat) : Int) ≤ s.slots.length + ys.length := by omega
      have hlimn : s.slots.length - 1 ≤ s.slots.length + ys.length := by omega
      have hki : ((s.slots.length - 1 : Nat) : Int) < s.slots.length := by omega
      simp at hce hp1
      simp [slc] at hwd
      simp [hge, hge2, hge3, hp1, hw, hk, hki, ha, hce, partOf, natOk, hlim, hlimn]
      refine Stk.callS 999 hwd rfl rfl rfl (by simp) ?_
      rintro v H2 n2 ⟨o2, rfl, w2, l2, f2, k2⟩
      have hp2 : H2 p = _ := (k2 p h1.lp).trans hp1
      simp [hp2]
      refine hr _ _ _ (.tup [U s.slots[s.slots.length - 1], I 0]) (by simp) ?_
      rw [if_pos hlt]
      refine ⟨by simp [hk], o2, ib, RStep.after l1 g1 (rslots h1 w2 l2 f2 k2 (by simp) (fun j hj => by simp [hj]) ⟨hmo, by simp; omega, hok.frames, hok.peak, Sk.rising_base (s := s) hok.rising (by simp; omega)⟩)⟩
  · have hge : ((s.slots.length - s.base : Nat) : Int) < 1 := by omega
    have hge2 : (s.slots.length - s.base = 0) := by omega
    have hge3 : (s.slots.length ≤ s.base) := by omega
    simp [hge, hge2, hge3]
    exact hr _ _ _ (.tup [U 0, I 24]) (by simp) (by rw [if_neg hlt]; exact ⟨rfl, l1, g1⟩)

theorem rootsR {H : Mem} {n p : Nat} {s : Sk} {ia ib : Option Nat} (h : Rt H n p s ia ib) :
    RunQ Try.prog T.T 106 [.own p 0] H n (fun r H' n' => ∃ o', r = slv o' s.slots.length ∧ Own H' 40 eU o' s.slots ∧ n ≤ n' ∧ (∀ i, o' = some i → n ≤ i ∧ i < n') ∧ ∀ j, j < n → H' j = H j) := by
  have hp := h.hp
  have hmo := h.ok.most
  have hsl := h.ok.slots
  have hwd := words (n := n) (c := none) h.ha (by omega)
  rw [slc_slv] at hwd
  refine RunQ.ev 999 Try.func106 rfl rfl rfl rfl rfl fun C hr hn => ?_
  simp [hp]
  refine Stk.callS 999 hwd rfl rfl rfl (by simp) ?_
  rintro v H1 n1 ⟨o1, rfl, w1, l1, f1, k1⟩
  simp
  exact hr _ _ _ (slv o1 s.slots.length) (by simp) ⟨o1, rfl, w1, l1, f1, k1⟩

theorem setR {H : Mem} {n p : Nat} {s : Sk} {ia ib : Option Nat} (h : Rt H n p s ia ib) (k x : Int) :
    RunQ Try.prog T.T 99 [.own p 0, I k, U x] H n (fun r H' n' => if 0 ≤ k ∧ k < (s.slots.length - s.base : Nat)
      then r = I 0 ∧ ∃ ia' ib', RStep H n p ia ib H' n' ⟨s.slots.set (s.base + k.toNat) x, s.frames, s.most, s.peak⟩ ia' ib'
      else r = I 24 ∧ n ≤ n' ∧ ∀ j, j < n → H' j = H j) := by
  have hlp := h.lp
  have hok := h.ok
  have hmo := hok.most
  have hsl := hok.slots
  have hle := hok.base_le
  refine RunQ.ev 999 Try.func99 rfl rfl rfl rfl rfl fun C hr hn => ?_
  simp
  refine Stk.callS 999 (getR h k) rfl rfl rfl (by simp) ?_
  rintro v H1 n1 ⟨rfl, l1, g1⟩
  by_cases hc : 0 ≤ k ∧ k < (s.slots.length - s.base : Nat)
  · rw [if_pos hc]
    obtain ⟨m, rfl⟩ := Int.eq_ofNat_of_zero_le hc.1
    have h1 := h.far l1 g1
    simp
    refine Stk.callS 999 (frameR h1) rfl rfl rfl (by simp) ?_
    rintro v H2 n2 ⟨rfl, l2, g2⟩
    obtain ⟨f, bb, htop, hbase⟩ : ∃ (f : Int × Int × Nat) (bb : Bool), s.top = .tup [.agg [I f.1, I f.2.1, I f.2.2], B bb] ∧ f.2.2 = s.base := by
      unfold Sk.top Sk.base
      cases s.frames.getLast? with
      | some f => exact ⟨f, true, rfl, rfl⟩
      | none => exact ⟨(0, 0, 0), false, rfl, rfl⟩
    rw [htop]
    have hm : m < s.slots.length - s.base := by omega
    cases ia with
    | none => have h0 : s.slots = [] := h.ha; rw [h0] at hm; simp at hm
    | some a =>
      obtain ⟨Z, hZ⟩ : ∃ Z : Mem, Z = upd (upd H2 n2 (some (.cells [.sc (.int .i64 0), .sc (.int .i64 0), .sc (.int .i64 0)] 79))) n2 (some (.cells [I f.1, I f.2.1, I f.2.2] 79)) := ⟨_, rfl⟩
      have hZk : ∀ j, j < n2 → Z j = H2 j := fun j hj => by rw [hZ, upd_ne _ _ (by omega), upd_ne _ _ (by omega)]
      have hz := (h1.far l2 g2).far (n' := n2 + 1) (by omega) hZk
      have zf : Z n2 = some (.cells [I f.1, I f.2.1, I f.2.2] 79) := by rw [hZ, upd_same]
      have hpz : Z p = _ := hz.hp
      have hwd := words (n := n2 + 1) (c := none) hz.ha (by omega)
      rw [slc_slv] at hwd
      have hp2 : H2 p = _ := (h1.far l2 g2).hp
      have hpn2 : ¬ p = n2 := by have := h1.lp; omega
      simp at hpz hwd hp2
      simp [hp2, hpn2]
      rw [← hZ]
      refine Stk.callS 999 hwd rfl rfl rfl (by simp) ?_
      rintro v H3 n3 ⟨o3, rfl, w3, l3, f3, k3⟩
      have hp3 : H3 p = _ := (k3 p hz.lp).trans hpz
      have hf3 : H3 n2 = _ := (k3 n2 (by omega)).trans zf
      cases o3 with
      | none => have h0 : s.slots = [] := w3; rw [h0] at hm; simp at hm
      | some b =>
        obtain ⟨ys, w3'⟩ := w3
        have hb3 := f3 b rfl
        have hlpz := hz.lp
        have hpb : ¬ p = b := by omega
        have hbp : ¬ b = p := by omega
        have hn2b : ¬ n2 = b := by omega
        have hn2p : ¬ n2 = p := by have := h1.lp; omega
        have hk : s.base + m < s.slots.length := by omega
        have hki : (s.base : Int) + m < s.slots.length := by omega
        have hw : IntKind.i64.wrap ((s.base : Int) + m) = ((s.base + m : Nat) : Int) := by rw [wrap64_id (by omega) (by omega)]; omega
        have hsp := splice_own (e := eU) (z := 1) s.slots ys (s.base + m) hk x
        simp [eU] at hsp
        have hll : s.base + m + 1 ≤ s.slots.length + ys.length := by omega
        have hp3n : p < n3 := by omega
        have hn2n3 : n2 < n3 := by omega
        simp [hp3]
        refine Stk.regionD 999 [.rd [], .rd [], .rd [], .rd [], .rd [p], .rd [], .rd [n2], .rd [], .rd [], .rd [], .rd [], .mem [b] n3] none (by kernel_rfl) (by rfl) rfl (by simp [below, hp3n, hn2n3]) rfl ?_
        have hnn : (0 : Int) ≤ (s.base : Int) + m := by omega
        have htn : ((s.base : Int) + m).toNat = s.base + m := by omega
        simp [hnn, htn, hp3, hf3, hn2p, hbase, hw, hk, hki, hbp, w3', hll, hsp]
        refine ⟨fun j hj hj' e => absurd e hj', ?_⟩
        refine hr _ _ _ (I 0) (by simp) ?_
        rw [if_pos hc]
        refine ⟨rfl, some b, ib, RStep.after (n1 := n2 + 1) (H1 := Z) (by omega) (fun j hj => by rw [hZk j (by omega), g2 j (by omega), g1 j hj]) (rslots (H' := upd H3 b (some (.cells (encs eU (s.slots.set (s.base + m) x) ++ ys) 40))) hz ⟨ys, by rw [upd_same]; simp⟩ l3 f3 (fun j hj => by rw [upd_ne _ _ (by omega), k3 j hj]) (by simp [hpb]) (fun j hj => ?_) ⟨hmo, by simpa using hsl, hok.frames, hok.peak, by simpa using hok.rising⟩)⟩
        by_cases hjb : j = b
        · subst hjb; simp
        · simp [hjb, hj]
  · rw [if_neg hc]
    simp
    exact hr _ _ _ (I 24) (by simp) (by rw [if_neg hc]; exact ⟨rfl, l1, g1⟩)
end Go.Proofs.Ytfflojbgikfbmaa.Sta
