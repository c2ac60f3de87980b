/-
  The document's own stack: what is pushed, popped, got, set.
-/
import Derived.Test.YtfflojbgikfbmaaSA
namespace Go.Proofs.Ytfflojbgikfbmaa.Sta
open Go.Proofs.YtfflojbgikfbmaaW.Ah
set_option maxRecDepth 4000
set_option linter.unusedVariables false
set_option linter.unusedSimpArgs false
attribute [local simp] T.t3 T.t4 T.t5 T.t26 T.t39 T.t40 T.t41 T.t47 T.t49 T.t73 T.t77 T.t79 T.t128 T.t130 T.t132 T.t135 T.t150 Op.maxDepth List.range List.range.loop
attribute [-simp] appendAV cellsOf cellOk partOk
attribute [local simp] cellsOf_sc cellOk_sc partOk_sc cellsOf_own cellOk_own partOk_own cellsOf_osl cellOk_osl partOk_osl cellsOf_sh cellOk_sh partOk_sh cellsOf_ssl cellOk_ssl partOk_ssl cellsOf_esl cellOk_esl partOk_esl cellsOf_fn cellOk_fn partOk_fn cellsOf_omap cellOk_omap partOk_omap cellsOf_agg partOk_agg cellsOf_slv cellOk_slv partOk_slv

theorem Rt.pa {H : Mem} {n p : Nat} {s : Sk} {ia ib : Option Nat} (h : Rt H n p s ia ib) : ia ≠ some p := fun e => (h.la p e).2 rfl
theorem Rt.pb {H : Mem} {n p : Nat} {s : Sk} {ia ib : Option Nat} (h : Rt H n p s ia ib) : ib ≠ some p := fun e => (h.lb p e).2 rfl

/-- New slots, in a block of their own. -/
theorem rslots {H H' H2 : Mem} {n n' p : Nat} {s : Sk} {ia ib o : Option Nat} {xs : List Int} {z : Nat} (h : Rt H n p s ia ib) (o1 : Own H' 40 eU o xs) (le1 : n ≤ n') (f1 : ∀ i, o = some i → n ≤ i ∧ i < n') (k1 : ∀ j, j < n → H' j = H j)
    (e1 : H2 p = some (.cells [slv o xs.length, slv ib s.frames.length, I z, I s.most] 150)) (e2 : ∀ j, j ≠ p → H2 j = H' j) (hok : Sk.Ok ⟨xs, s.frames, s.most, z⟩) : RStep H n p ia ib H2 n' ⟨xs, s.frames, s.most, z⟩ o ib := by
  have hlp := h.lp
  refine ⟨⟨e1, o1.mono fun j hj => e2 j (by have := f1 j hj; omega), h.hb.mono fun j hj => ?_, by omega, fun j hj => ?_, fun j hj => ?_, fun j hj hj' => ?_, hok⟩, le1, fun j hj hjp _ _ => ?_, fun j hj => .inr (f1 j hj).1, fun j hj => .inl hj⟩
  · rw [e2 j (h.lb j hj).2, k1 j (h.lb j hj).1]
  · have := f1 j hj; exact ⟨this.2, by omega⟩
  · exact ⟨by have := (h.lb j hj).1; omega, (h.lb j hj).2⟩
  · have := f1 j hj; have := (h.lb j hj').1; omega
  · rw [e2 j hjp, k1 j hj]

theorem slc_slv (o : Option Nat) (n : Nat) : slc o n none = slv o n := by cases o <;> rfl

theorem pushR {H : Mem} {n p : Nat} {s : Sk} {ia ib : Option Nat} (h : Rt H n p s ia ib) (x : Int) :
    RunQ Try.prog T.T 96 [.own p 0, U x] H n (fun r H' n' => if s.slots.length < s.most
      then r = I 0 ∧ ∃ ia' ib', RStep H n p ia ib H' n' ⟨s.slots ++ [x], s.frames, s.most, max s.peak (s.slots.length + 1)⟩ ia' ib'
      else r = I 24 ∧ H' = H ∧ n' = n) := by
  have hp := h.hp
  have hlp := h.lp
  have hok := h.ok
  have hmo := hok.most
  have hsl := hok.slots
  have hwd := words (n := n) (c := none) h.ha (by omega)
  rw [slc_slv] at hwd
  refine RunQ.ev 999 Try.func96 rfl rfl rfl rfl rfl fun C hr hn => ?_
  have ts0 : ia = none → s.slots.length = 0 := fun e => by subst e; have h0 : s.slots = [] := h.ha; rw [h0]; rfl
  by_cases hlt : s.slots.length < s.most
  · have fin : ∀ (o1 : Option Nat) (H1 : Mem) (n1 : Nat), Own H1 40 eU o1 s.slots → n ≤ n1 → (∀ i, o1 = some i → n ≤ i ∧ i < n1) → (∀ j, j < n → H1 j = H j) → ∃ (i : Nat) (H2 : Mem) (n2 : Nat), appendAV T.T (upd H1 n1 (some (.cells [U x] 40))) (n1 + 1) 39 (slv o1 s.slots.length) (.osl n1 0 1 (some 1)) = some (.osl i 0 (s.slots.length + 1) none, H2, n2) ∧ H2 p = H p ∧ p < n2 ∧
        ∀ (t : Nat → AV) (H3 : Mem) (z : Int), t 4 = I 0 → H3 p = some (.cells [.osl i 0 (s.slots.length + 1) none, slv ib s.frames.length, I z, I s.most] 150) → z = (max s.peak (s.slots.length + 1) : Nat) → (∀ j, j ≠ p → H3 j = H2 j) → C .ret t H3 n2 := by
      intro o1 H1 n1 w1 l1 f1 k1
      obtain ⟨i, H2, n2, e1, o2, l2, g1, g2, kk⟩ := more (n := n1) w1 (fun i hi => (f1 i hi).2) (by omega) x
      have hn1 : ∀ j, j < n → o1 ≠ some j := fun j hj e => by have := f1 j e; omega
      refine ⟨i, H2, n2, e1, by rw [kk p (by omega) (hn1 p hlp), k1 p hlp], by omega, fun t H3 z t4 q1 qz q2 => ?_⟩
      subst qz
      refine hr _ _ _ (I 0) (by simp [t4]) ?_
      rw [if_pos hlt]
      refine ⟨rfl, some i, ib, rslots h o2 (by omega) (fun j hj => ?_) (fun j hj => by rw [kk j (by omega) (hn1 j hj), k1 j hj]) (by simpa using q1) q2 ⟨hmo, by simp; omega, hok.frames, by have := hok.peak; simp only; omega, hok.rising.weak (by simp)⟩⟩
      cases hj
      refine ⟨?_, g2⟩
      rcases g1 with g | g
      · exact (f1 _ g).1
      · omega
    cases ia with
    | none =>
      have hl0 := ts0 rfl
      rw [hl0] at hlt hwd hp fin
      have q1 : ¬ s.most ≤ 0 := by omega
      have q2 : ¬ (s.most : Int) ≤ 0 := by omega
      have q3 : ¬ s.most = 0 := by omega
      simp at hp hwd
      simp
      refine Stk.regionD 999 [.rd [], .rd [], .rd [], .rd [], .rd [p], .rd [], .rd [], .rd [], .rd [], .rd [p], .rd []] none (by kernel_rfl) (by rfl) rfl (by simp [below]) rfl ?_
      simp [hp, q1, q2, q3]
      refine Stk.callS 999 hwd rfl rfl rfl (by simp) ?_
      rintro v H1 n1 ⟨o1, rfl, w1, l1, f1, k1⟩
      obtain ⟨i, H2, n2, e1, hp2, hlp2, fin⟩ := fin o1 H1 n1 w1 l1 f1 k1
      rw [hp] at hp2
      simp at e1 fin
      simp [e1, hp2]
      refine Stk.regionD 999 [.rd [], .rd [], .rd [], .rd [], .rd [], .rd [p], .rd [], .rd [], .rd [], .rd [], .rd [p], .rd [], .rd [], .rd [], .rd [], .rd [], .mem [p] n2] none (by kernel_rfl) (by rfl) rfl (by simp [below, hlp2]) rfl ?_
      simp
      refine ⟨fun j hj hs e => absurd e hs, ?_⟩
      refine fin _ _ _ (by simp) (by simp; rfl) ?_ (fun j hj => by simp [hj])
      split <;> omega
    | some a =>
      have q1 : ¬ s.most ≤ s.slots.length := by omega
      have q2 : ¬ (s.most : Int) ≤ s.slots.length := by omega
      simp at hp hwd
      simp
      refine Stk.regionD 999 [.rd [], .rd [], .rd [], .rd [], .rd [p], .rd [], .rd [], .rd [], .rd [], .rd [p], .rd []] none (by kernel_rfl) (by rfl) rfl (by simp [below]) rfl ?_
      simp [hp, q1, q2]
      refine Stk.callS 999 hwd rfl rfl rfl (by simp) ?_
      rintro v H1 n1 ⟨o1, rfl, w1, l1, f1, k1⟩
      obtain ⟨i, H2, n2, e1, hp2, hlp2, fin⟩ := fin o1 H1 n1 w1 l1 f1 k1
      rw [hp] at hp2
      simp [e1, hp2]
      refine Stk.regionD 999 [.rd [], .rd [], .rd [], .rd [], .rd [], .rd [p], .rd [], .rd [], .rd [], .rd [], .rd [p], .rd [], .rd [], .rd [], .rd [], .rd [], .mem [p] n2] none (by kernel_rfl) (by rfl) rfl (by simp [below, hlp2]) rfl ?_
      simp
      refine ⟨fun j hj hs e => absurd e hs, ?_⟩
      refine fin _ _ _ (by simp) (by simp; rfl) ?_ (fun j hj => by simp [hj])
      split <;> omega
  · have q1 : s.most ≤ s.slots.length := by omega
    have q2 : (s.most : Int) ≤ s.slots.length := by omega
    cases ia with
    | none =>
      have hl0 := ts0 rfl
      rw [hl0] at q1 q2 hp
      have q3 : s.most = 0 := by omega
      simp at hp
      simp
      refine Stk.regionD 999 [.rd [], .rd [], .rd [], .rd [], .rd [p], .rd [], .rd [], .rd [], .rd [], .rd [p], .rd []] none (by kernel_rfl) (by rfl) rfl (by simp [below]) rfl ?_
      simp [hp, q3]
      exact hr _ _ _ (I 24) (by simp) (by rw [if_neg hlt]; exact ⟨rfl, rfl, rfl⟩)
    | some a =>
      simp at hp
      simp
      refine Stk.regionD 999 [.rd [], .rd [], .rd [], .rd [], .rd [p], .rd [], .rd [], .rd [], .rd [], .rd [p], .rd []] none (by kernel_rfl) (by rfl) rfl (by simp [below]) rfl ?_
      simp [hp, q1, q2]
      exact hr _ _ _ (I 24) (by simp) (by rw [if_neg hlt]; exact ⟨rfl, rfl, rfl⟩)

theorem getR {H : Mem} {n p : Nat} {s : Sk} {ia ib : Option Nat} (h : Rt H n p s ia ib) (k : Int) :
    RunQ Try.prog T.T 98 [.own p 0, I k] H n (fun r H' n' => r = (if 0 ≤ k ∧ k < (s.slots.length - s.base : Nat) then .tup [U (s.slots.getD (s.base + k.toNat) 0), I 0] else .tup [U 0, I 24]) ∧ n ≤ n' ∧ ∀ j, j < n → H' j = H j) := by
  have hp := h.hp
  have hlp := h.lp
  have hok := h.ok
  have hmo := hok.most
  have hsl := hok.slots
  refine RunQ.ev 999 Try.func98 rfl rfl rfl rfl rfl fun C hr hn => ?_
  by_cases h0 : k < 0
  · simp [h0]
    exact hr _ _ _ (.tup [U 0, I 24]) (by simp) ⟨by rw [if_neg (by omega)], Nat.le_refl _, fun _ _ => rfl⟩
  · simp [h0]
    refine Stk.callS 999 (ownR h) rfl rfl rfl (by simp) ?_
    rintro v H1 n1 ⟨rfl, l1, g1⟩
    by_cases hlt : k < (s.slots.length - s.base : Nat)
    · have hge : ¬ ((s.slots.length - s.base : Nat) : Int) ≤ k := by omega
      obtain ⟨m, rfl⟩ := Int.eq_ofNat_of_zero_le (show 0 ≤ k by omega)
      have hr1 := h.far l1 g1
      simp [hge]
      refine Stk.callS 999 (frameR hr1) rfl rfl rfl (by simp) ?_
      rintro v H2 n2 ⟨rfl, l2, g2⟩
      obtain ⟨f, bb, htop, hbase⟩ : ∃ (f : Int × Int × Nat) (bb : Bool), s.top = .tup [.agg [I f.1, I f.2.1, I f.2.2], B bb] ∧ f.2.2 = s.base := by
        unfold Sk.top Sk.base
        cases s.frames.getLast? with
        | some f => exact ⟨f, true, rfl, rfl⟩
        | none => exact ⟨(0, 0, 0), false, rfl, rfl⟩
      rw [htop]
      cases ia with
      | none => have h0 : s.slots = [] := h.ha; rw [h0] at hlt; simp at hlt; omega
      | some a =>
        obtain ⟨ys, ha⟩ := (hr1.far l2 g2).ha
        have hp2 : H2 p = _ := (hr1.far l2 g2).hp
        have hpn : ¬ p = n2 := by have := hr1.lp; omega
        have han := (hr1.la a rfl).1
        have hann : ¬ a = n2 := by omega
        have hk : s.base + m < s.slots.length := by omega
        have hki : (s.base : Int) + m < s.slots.length := by omega
        have hw : IntKind.i64.wrap ((s.base : Int) + m) = ((s.base + m : Nat) : Int) := by rw [wrap64_id (by omega) (by omega)]; omega
        have hce := cell_own (e := eU) (z := 1) s.slots ys (s.base + m) 0 hk (by omega)
        simp at hce hp2
        simp
        refine Stk.regionD 999 [.rd [], .rd [], .rd [], .rd [], .rd [p], .rd [], .rd [n2], .rd [], .rd [], .rd [], .rd [a], .rd [], .rd []] none (by kernel_rfl) (by rfl) rfl (by simp [below]) rfl ?_
        have hnn : (0 : Int) ≤ (s.base : Int) + m := by omega
        have htn : ((s.base : Int) + m).toNat = s.base + m := by omega
        simp [hp2, hpn, hbase, hw, hk, hki, hnn, htn, ha, hann, hce, partOf]
        exact hr _ _ _ (.tup [U s.slots[s.base + m], I 0]) (by simp) ⟨by rw [if_pos ⟨by omega, hlt⟩]; simp [hk], by omega, fun j hj => by rw [upd_ne _ _ (by omega), upd_ne _ _ (by omega), g2 j (by omega), g1 j hj]⟩
    · have hge : ((s.slots.length - s.base : Nat) : Int) ≤ k := by omega
      simp [hge]
      exact hr _ _ _ (.tup [U 0, I 24]) (by simp) ⟨by rw [if_neg (by omega)], l1, g1⟩
end Go.Proofs.Ytfflojbgikfbmaa.Sta
