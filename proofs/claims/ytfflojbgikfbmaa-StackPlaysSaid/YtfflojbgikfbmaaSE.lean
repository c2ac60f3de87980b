/-
  The document's own stack: Leave, Jump, Cut, Moved.
-/
import Derived.Test.YtfflojbgikfbmaaSD
namespace Go.Proofs.Ytfflojbgikfbmaa.Sta
open Go.Proofs.YtfflojbgikfbmaaW.Ah
set_option maxRecDepth 4000
set_option linter.unusedVariables false
set_option linter.unusedSimpArgs false
attribute [local simp] T.t3 T.t4 T.t5 T.t26 T.t39 T.t40 T.t41 T.t47 T.t49 T.t73 T.t77 T.t79 T.t128 T.t130 T.t132 T.t135 T.t150 Op.maxDepth List.range List.range.loop
attribute [-simp] appendAV cellsOf cellOk partOk
attribute [local simp] cellsOf_sc cellOk_sc partOk_sc cellsOf_own cellOk_own partOk_own cellsOf_osl cellOk_osl partOk_osl cellsOf_sh cellOk_sh partOk_sh cellsOf_ssl cellOk_ssl partOk_ssl cellsOf_esl cellOk_esl partOk_esl cellsOf_fn cellOk_fn partOk_fn cellsOf_omap cellOk_omap partOk_omap cellsOf_agg partOk_agg cellsOf_slv cellOk_slv partOk_slv

theorem RStep.trans {H H' H2 : Mem} {n n' n2 p : Nat} {s1 s2 : Sk} {ia ib ia' ib' ia2 ib2 : Option Nat} (h1 : RStep H n p ia ib H' n' s1 ia' ib') (h2 : RStep H' n' p ia' ib' H2 n2 s2 ia2 ib2) : RStep H n p ia ib H2 n2 s2 ia2 ib2 := by
  refine ⟨h2.st, Nat.le_trans h1.le h2.le, fun j hj hp ha hb => ?_, fun i hi => ?_, fun i hi => ?_⟩
  · have := h1.le
    rw [h2.keep j (by omega) hp (fun e => ?_) (fun e => ?_), h1.keep j hj hp ha hb]
    · rcases h1.fa j e with h | h
      · exact ha h
      · omega
    · rcases h1.fb j e with h | h
      · exact hb h
      · omega
  · rcases h2.fa i hi with h | h
    · exact h1.fa i h
    · exact .inr (Nat.le_trans h1.le h)
  · rcases h2.fb i hi with h | h
    · exact h1.fb i h
    · exact .inr (Nat.le_trans h1.le h)

theorem Rising.take : ∀ {fs : List (Int × Int × Nat)} {n : Nat}, Rising fs n → ∀ {k m : Nat}, k ≤ fs.length → (∀ h : 0 < k ∧ k - 1 < fs.length, (fs[k - 1]'h.2).2.2 ≤ m) → Rising (fs.take k) m
  | _, _, .nil _, k, m, _, _ => by simp; exact .nil _
  | _, _, .snoc (fs := fs) (f := f) h1 h2, k, m, hk, h => by
    by_cases hc : k ≤ fs.length
    · rw [List.take_append_of_le_length hc]
      refine Rising.take h1 hc fun hh => ?_
      have := h ⟨hh.1, by simp; omega⟩
      rwa [List.getElem_append_left hh.2] at this
    · have hk' : k = fs.length + 1 := by simp at hk; omega
      subst hk'
      have := h ⟨by omega, by simp⟩
      simp at this
      rw [List.take_of_length_le (by simp)]
      exact .snoc h1 this

/-- The top frame and where its slots begin. -/
theorem Sk.top_base (s : Sk) : ∃ (f : Int × Int × Nat) (bb : Bool), s.top = .tup [.agg [I f.1, I f.2.1, I f.2.2], B bb] ∧ f.2.2 = s.base ∧ bb = decide (s.frames ≠ []) := by
  unfold Sk.top Sk.base
  cases h : s.frames.getLast? with
  | some f => exact ⟨f, true, rfl, rfl, by cases hs : s.frames with | nil => rw [hs] at h; simp at h | cons => simp⟩
  | none => exact ⟨(0, 0, 0), false, rfl, rfl, by simp at h; simp [h]⟩

theorem leaveR {H : Mem} {n p : Nat} {s : Sk} {ia ib : Option Nat} (h : Rt H n p s ia ib) :
    RunQ Try.prog T.T 102 [.own p 0] H n (fun r H' n' => if s.base < s.slots.length ∧ s.frames ≠ []
      then r = I 0 ∧ ∃ ia' ib', RStep H n p ia ib H' n' ⟨s.slots.take s.base ++ [s.slots.getD (s.slots.length - 1) 0], s.frames.take (s.frames.length - 1), s.most, s.peak⟩ ia' ib'
      else r = I 24 ∧ n ≤ n' ∧ ∀ j, j < n → H' j = H j) := by
  have hlp := h.lp
  have hok := h.ok
  have hmo := hok.most
  have hsl := hok.slots
  have hfr := hok.frames
  have hle := hok.base_le
  refine RunQ.ev 999 Try.func102 rfl rfl rfl rfl rfl fun C hr hn => ?_
  simp
  refine Stk.callS 999 (frameR h) rfl rfl rfl (by simp) ?_
  rintro v H1 n1 ⟨rfl, l1, g1⟩
  have h1 := h.far l1 g1
  obtain ⟨f, bb, htop, hbase, hbb⟩ := s.top_base
  rw [htop]
  by_cases h0 : s.frames = []
  · have hb0 : bb = false := by rw [hbb]; simp [h0]
    subst hb0
    simp
    exact hr _ _ _ (I 24) (by simp) (by rw [if_neg (by simp [h0])]; exact ⟨rfl, by omega, fun j hj => by rw [upd_ne _ _ (by omega), upd_ne _ _ (by omega), g1 j hj]⟩)
  · have hb0 : bb = true := by rw [hbb]; simp [h0]
    subst hb0
    obtain ⟨Z, hZ⟩ : ∃ Z : Mem, Z = upd (upd H1 n1 (some (.cells [.sc (.int .i64 0), .sc (.int .i64 0), .sc (.int .i64 0)] 79))) n1 (some (.cells [I f.1, I f.2.1, I f.2.2] 79)) := ⟨_, rfl⟩
    have hZk : ∀ j, j < n1 → Z j = H1 j := fun j hj => by rw [hZ, upd_ne _ _ (by omega), upd_ne _ _ (by omega)]
    have hz := h1.far (n' := n1 + 1) (by omega) hZk
    have zf : Z n1 = some (.cells [I f.1, I f.2.1, I f.2.2] 79) := by rw [hZ, upd_same]
    simp
    rw [← hZ]
    refine Stk.callS 999 (ownR hz) rfl rfl rfl (by simp) ?_
    rintro v H2 n2 ⟨rfl, l2, g2⟩
    have h2 := hz.far l2 g2
    have f2 : H2 n1 = _ := (g2 n1 (by omega)).trans zf
    have hp2 : H2 p = _ := h2.hp
    by_cases hlt : s.base < s.slots.length
    · have hge : ¬ ((s.slots.length - s.base : Nat) : Int) < 1 := by omega
      have hge2 : ¬ (s.slots.length - s.base = 0) := by omega
      have hge3 : ¬ (s.slots.length ≤ s.base) := by omega
      have hge4 : ¬ (s.slots.length - s.base < 1) := by omega
      cases ia with
      | none => have h0 : s.slots = [] := h.ha; rw [h0] at hlt; simp at hlt
      | some a =>
        cases ib with
        | none => exact absurd h.hb h0
        | some b =>
        obtain ⟨ys, ha⟩ := h2.ha
        have han := (h2.la a rfl).1
        have hk : s.slots.length - 1 < s.slots.length := by omega
        have hki : ((s.slots.length - 1 : Nat) : Int) < s.slots.length := by omega
        have hw := wrap_pred (a := s.slots.length) (by omega) (by omega)
        obtain ⟨c, hc⟩ : ∃ c, c = s.base := ⟨_, rfl⟩
        have hfc : f.2.2 = c := by rw [hbase, hc]
        rw [hfc] at f2
        have hlim : (c : Int) ≤ s.slots.length + ys.length := by omega
        have hlimn : c ≤ s.slots.length + ys.length := by omega
        obtain ⟨x, hx⟩ : ∃ x, x = s.slots[s.slots.length - 1] := ⟨_, rfl⟩
        obtain ⟨W, hW, hWf⟩ := kept (n := n2) h2.ha c (by omega) (by omega) x h2.lp
        have hce := cell_own (e := eU) (z := 1) s.slots ys (s.slots.length - 1) 0 hk (by omega)
        simp [← hx] at hce
        simp at hp2
        have hn12 : n1 < n2 := by omega
        simp [hge, hge2, hge3, hge4, hp2]
        refine Stk.regionD 999 [.rd [], .rd [], .rd [], .rd [], .rd [], .rd [p], .rd [], .rd [n1], .rd [a], .mem [] n2, .rd [], .rd [], .rd [], .rd [], .rd [p], .rd [], .rd [], .rd [], .rd [a], .mem [] n2, .mem [] n2, .rd [], .rd [], .rd [], .mem [p] n2] (some 19) (by kernel_rfl) (by rfl) (by rfl) (by simp [below, h2.lp, han, hn12]) rfl ?_
        simp [hp2, f2, hw, natOk, ha, hlim, hlimn]
        refine Stk.callSD 999 rfl ?_ hW rfl rfl rfl rfl (by simp) ?_
        · intro v H2 n2 hv j hj _
          exact (hWf v H2 n2 hv).2.1 j hj
        intro v H3 n3 hv
        obtain ⟨l3, k3, o3, rfl, i, H4, n4, e1, o4, l4, gi, gi4, k4⟩ := hWf v H3 n3 hv
        have hp3 : H3 p = _ := (k3 p h2.lp).trans hp2
        have ha3 : H3 a = _ := (k3 a han).trans ha
        have hp4 : H4 p = _ := (k4 p h2.lp).trans hp2
        simp [hp3, hw, hk, hki, ha3, hce, partOf, e1, hp4]
        refine ⟨fun j hj e => absurd e (by omega), fun j hj => by rw [if_neg (by omega), k4 j hj, k3 j hj], fun j hj hj' e => absurd e hj', ?_⟩
        have hcl : (s.slots.take c ++ [x]).length = c + 1 := by simp; omega
        obtain ⟨H5, hH5⟩ : ∃ H5 : Mem, H5 = upd H4 p (some (.cells [.osl i 0 (c + 1) none, .osl b 0 s.frames.length none, I s.peak, I s.most] 150)) := ⟨_, rfl⟩
        have st5 := rslots (n' := n4) (H' := H4) (H2 := H5) h2 o4 (by omega) (fun j hj => by cases hj; exact ⟨gi, gi4⟩) (fun j hj => k4 j hj) (by rw [hcl, hH5]; simp) (fun j hj => by simp [hH5, hj]) ⟨hmo, by simp only [hcl]; omega, hok.frames, hok.peak, Sk.rising_base (s := s) hok.rising (by simp only [hcl]; omega)⟩
        rw [← hH5]
        have t5 := st5.st
        have hp5 : H5 p = _ := t5.hp
        have hb5 := t5.hb
        try simp only [hcl] at hp5
        obtain ⟨zs, hb5'⟩ := hb5
        simp only at hb5'
        have hpos : 0 < s.frames.length := List.length_pos_iff.2 h0
        have hwf := wrap_pred (a := s.frames.length) (by omega) (by omega)
        have hlf : ((s.frames.length - 1 : Nat) : Int) ≤ max s.frames.length ((s.frames.length * 3 + zs.length) / 3) := by omega
        have hlfn : s.frames.length - 1 ≤ max s.frames.length ((s.frames.length * 3 + zs.length) / 3) := by omega
        try simp at hp5
        have hbn := (t5.lb b rfl).1
        have hpn4 : p < n4 := t5.lp
        refine Stk.regionD 999 [.rd [], .rd [], .rd [], .rd [], .rd [], .rd [p], .rd [], .rd [], .rd [], .rd [], .rd [p], .rd [], .rd [], .rd [b], .rd [], .rd [], .rd [], .mem [p] n4] none (by kernel_rfl) (by rfl) rfl (by simp [below, hpn4, hbn]) rfl ?_
        simp [hp5, hwf, natOk, hb5', hlf, hlfn]
        refine ⟨fun j hj hj' e => absurd e hj', ?_⟩
        refine hr _ _ _ (I 0) (by simp) ?_
        rw [if_pos ⟨hlt, h0⟩]
        have hfl : (s.frames.take (s.frames.length - 1)).length = s.frames.length - 1 := by simp
        have hxs : s.slots.take s.base ++ [s.slots.getD (s.slots.length - 1) 0] = s.slots.take c ++ [x] := by rw [hc, hx]; simp [hk]
        rw [hxs]
        have hl2 := List.getLast?_eq_getElem? (l := s.frames)
        obtain ⟨g, hg⟩ : ∃ g, s.frames.getLast? = some g := ⟨s.frames[s.frames.length - 1], by rw [hl2]; simp [hpos]⟩
        have hbg : s.base = g.2.2 := by unfold Sk.base; rw [hg]
        refine ⟨rfl, some i, some b, RStep.after (n1 := n2) (H1 := H2) (by omega) (fun j hj => by rw [g2 j (by omega), hZk j (by omega), g1 j hj]) (st5.trans (rframes (s := ⟨s.slots.take c ++ [x], s.frames, s.most, s.peak⟩) (i := b) (fs := s.frames.take (s.frames.length - 1)) (H' := H5) t5 (t5.hb.take _) (Nat.le_refl _) (.inl rfl) (t5.lb b rfl).1 (fun _ _ _ => rfl) ?_ (fun j hj => by simp [hj]) ⟨hmo, by simp only [hcl]; omega, by simp only [hfl]; omega, hok.peak, ?_⟩))⟩
        · show _ = some (Blk.cells [slv (some i) (s.slots.take c ++ [x]).length, .osl b 0 (s.frames.take (s.frames.length - 1)).length none, I s.peak, I s.most] 150)
          rw [hcl, hfl]; simp
        · have := hok.rising.init g hg
          exact this.weak (by simp only [hcl]; omega)
    · have hge : ((s.slots.length - s.base : Nat) : Int) < 1 := by omega
      have hge2 : (s.slots.length - s.base = 0) := by omega
      have hge3 : (s.slots.length ≤ s.base) := by omega
      simp [hge, hge2, hge3]
      exact hr _ _ _ (I 24) (by simp) (by rw [if_neg (by simp [hlt])]; exact ⟨rfl, by omega, fun j hj => by rw [g2 j (by omega), hZk j (by omega), g1 j hj]⟩)
end Go.Proofs.Ytfflojbgikfbmaa.Sta
