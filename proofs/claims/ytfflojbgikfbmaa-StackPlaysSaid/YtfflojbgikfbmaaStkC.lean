/-
  The stack's writers.
-/
import Derived.Test.YtfflojbgikfbmaaStkB
namespace Go.Proofs.Ytfflojbgikfbmaa.Sta
open Go.Proofs.YtfflojbgikfbmaaW.Ah
set_option maxRecDepth 4000
set_option linter.unusedVariables false
set_option linter.unusedSimpArgs false
attribute [local simp] T.t3 T.t4 T.t26 T.t39 T.t40 T.t41 T.t128 T.t130 T.t132 T.t135 T.t79 Op.maxDepth List.range List.range.loop
attribute [-simp] appendAV

theorem pop {H : Mem} {n p : Nat} {s : Sk} {ia ib : Option Nat} (h : St H n p s ia ib) :
    RunQ Try.prog T.T 25 [.own p 0] H n (fun r H' n' => if s.base < s.slots.length
      then r = .tup [U (s.slots.getD (s.slots.length - 1) 0), Er 0] ∧ Step H n p ia ib H' n' ⟨s.slots.take (s.slots.length - 1), s.frames, s.most, s.peak⟩ ia ib
      else r = .tup [U 0, Er 24] ∧ H' = H ∧ n' = n) := by
  have hp := h.hp
  have hlp := h.lp
  have hok := h.ok
  have hle := hok.base_le
  refine RunQ.ev 999 Try.func25 rfl rfl rfl rfl rfl fun C hr hn => ?_
  simp
  refine Stk.callS 999 (lacks h 1) rfl rfl rfl (by simp) ?_
  rintro v H' n' ⟨rfl, rfl, rfl⟩
  by_cases hlt : s.base < s.slots.length
  · rw [if_neg (by omega)]
    have hk : s.slots.length - 1 < s.slots.length := by omega
    cases ia with
    | none => have := h.ha; simp only [Own] at this; rw [this] at hlt; simp at hlt
    | some a =>
      obtain ⟨ys, ha⟩ := h.ha
      have hc := cell_own (e := eU) (z := 1) s.slots ys (s.slots.length - 1) 0 hk (by omega)
      have hw := wrap_pred (a := s.slots.length) (by omega) (by have := hok.slots; have := hok.most; omega)
      have hlim : ((s.slots.length - 1 : Nat) : Int) ≤ s.slots.length + ys.length := by omega
      simp at hc
      simp [hp, hw, hk, ha, hc, partOf, natOk, hlim]
      refine hr _ _ _ (.tup [U (s.slots[s.slots.length - 1]), Er 0]) (by simp) ?_
      rw [if_pos hlt]
      refine ⟨by simp [hk], head_step h (by simp) (fun j hj => by simp [hj]) (h.ha.take _) h.hb ⟨hok.most, ?_, hok.frames, hok.peak, Sk.rising_base (s := s) hok.rising (by simp; omega)⟩⟩
      have := hok.slots; simp; omega
  · rw [if_pos (by omega)]
    simp
    exact hr _ _ _ (.tup [U 0, Er 24]) (by simp) (by rw [if_neg hlt]; simp)

theorem slide {H : Mem} {n p : Nat} {s : Sk} {ia ib : Option Nat} (h : St H n p s ia ib) (k : Int) :
    RunQ Try.prog T.T 28 [.own p 0, I k] H n (fun r H' n' => if 0 ≤ k ∧ k < (s.slots.length - s.base : Nat)
      then r = Er 0 ∧ ∃ ia' ib', Step H n p ia ib H' n' ⟨s.slots.take (s.slots.length - 1 - k.toNat) ++ [s.slots.getD (s.slots.length - 1) 0], s.frames, s.most, s.peak⟩ ia' ib'
      else r = Er 24 ∧ H' = H ∧ n' = n) := by
  have hp := h.hp
  have hlp := h.lp
  have hok := h.ok
  have hle := hok.base_le
  refine RunQ.ev 999 Try.func28 rfl rfl rfl rfl rfl fun C hr hn => ?_
  by_cases hk0 : k < 0
  · simp [hk0]
    exact hr _ _ _ (Er 24) (by simp) (by rw [if_neg (by omega)]; simp)
  · simp [hk0]
    refine Stk.callS 999 (own h) rfl rfl rfl (by simp) ?_
    rintro v H' n' ⟨hv, rfl, rfl⟩
    by_cases hlt : k < (s.slots.length - s.base : Nat)
    · have hw := wrap_pred (a := s.slots.length) (by omega) (by have := hok.slots; have := hok.most; omega)
      have hw2 : IntKind.i64.wrap (((s.slots.length - 1 : Nat) : Int) - k) = ((s.slots.length - 1 - k.toNat : Nat) : Int) := by
        rw [wrap64_id (by omega) (by have := hok.slots; have := hok.most; omega)]; omega
      have hge : ¬ ((s.slots.length - s.base : Nat) : Int) ≤ k := by omega
      rcases hv with ⟨rfl, rfl, e⟩ | ⟨i, rfl, hlt', c, rfl⟩ | ⟨i, _, e, _⟩
      · omega
      · simp [hge, hp, hw, hw2]
        refine Stk.callS 999 (keep h (s.slots.length - 1 - k.toNat) (by omega) (by omega)) rfl rfl rfl (by simp) ?_
        rintro v H2 n2 ⟨rfl, ia', ib', hst⟩
        simp
        exact hr _ _ _ (Er 0) (by simp) (by rw [if_pos ⟨by omega, hlt⟩]; exact ⟨rfl, ia', ib', by simpa [show s.slots.length - 1 < s.slots.length by omega] using hst⟩)
      · omega
    · have hge : ((s.slots.length - s.base : Nat) : Int) ≤ k := by omega
      rcases hv with ⟨_, rfl, e⟩ | ⟨i, _, hlt', c, rfl⟩ | ⟨i, _, e, rfl | rfl⟩
      · have hge' : 0 ≤ k := by omega
        simp [hge']
        exact hr _ _ _ (Er 24) (by simp) (by rw [if_neg (by omega)]; simp)
      · simp [hge]
        exact hr _ _ _ (Er 24) (by simp) (by rw [if_neg (by omega)]; simp)
      · have hge' : 0 ≤ k := by omega
        simp [hge']
        exact hr _ _ _ (Er 24) (by simp) (by rw [if_neg (by omega)]; simp)
      · have hge' : 0 ≤ k := by omega
        simp [hge']
        exact hr _ _ _ (Er 24) (by simp) (by rw [if_neg (by omega)]; simp)

theorem slot {H : Mem} {n p : Nat} {s : Sk} {ia ib : Option Nat} (h : St H n p s ia ib) (k : Int) :
    RunQ Try.prog T.T 86 [.own p 0, I k] H n (fun r H' n' => (if 0 ≤ k ∧ k < (s.slots.length - s.base : Nat)
      then ∃ i, ia = some i ∧ r = .tup [.own i (s.base + k.toNat), Er 0]
      else r = .tup [.sc (.pointer none), Er 24]) ∧ H' = H ∧ n' = n) := by
  have hp := h.hp
  have hlp := h.lp
  have hok := h.ok
  have hle := hok.base_le
  refine RunQ.ev 999 Try.func86 rfl rfl rfl rfl rfl fun C hr hn => ?_
  by_cases hk0 : k < 0
  · simp [hk0]
    exact hr _ _ _ (.tup [.sc (.pointer none), Er 24]) (by simp) (by rw [if_neg (by omega)]; simp)
  · simp [hk0]
    refine Stk.callS 999 (own h) rfl rfl rfl (by simp) ?_
    rintro v H' n' ⟨hv, rfl, rfl⟩
    by_cases hlt : k < (s.slots.length - s.base : Nat)
    · have hge : ¬ ((s.slots.length - s.base : Nat) : Int) ≤ k := by omega
      rcases hv with ⟨rfl, rfl, e⟩ | ⟨i, rfl, hlt', c, rfl⟩ | ⟨i, _, e, _⟩
      · omega
      · simp [hge]
        refine Stk.callS 999 (own h) rfl rfl rfl (by simp) ?_
        rintro v H' n' ⟨hv, rfl, rfl⟩
        rcases hv with ⟨e, _⟩ | ⟨j, e, hlt', c, rfl⟩ | ⟨i, _, e, _⟩
        · cases e
        · cases e
          have hk0' : 0 ≤ k := by omega
          simp [hk0', hlt]
          exact hr _ _ _ (.tup [.own i (s.base + k.toNat), Er 0]) (by simp) (by rw [if_pos ⟨by omega, hlt⟩]; simp)
        · omega
      · omega
    · have hge : ((s.slots.length - s.base : Nat) : Int) ≤ k := by omega
      have hge' : 0 ≤ k := by omega
      rcases hv with ⟨_, rfl, e⟩ | ⟨i, _, hlt', c, rfl⟩ | ⟨i, _, e, rfl | rfl⟩
      all_goals simp [hge, hge']
      all_goals exact hr _ _ _ (.tup [.sc (.pointer none), Er 24]) (by simp) (by rw [if_neg (by omega)]; simp)

theorem get {H : Mem} {n p : Nat} {s : Sk} {ia ib : Option Nat} (h : St H n p s ia ib) (k : Int) :
    RunQ Try.prog T.T 27 [.own p 0, I k] H n (fun r H' n' => r = (if 0 ≤ k ∧ k < (s.slots.length - s.base : Nat) then .tup [U (s.slots.getD (s.base + k.toNat) 0), Er 0] else .tup [U 0, Er 24]) ∧ H' = H ∧ n' = n) := by
  have hp := h.hp
  have hlp := h.lp
  have hok := h.ok
  have hle := hok.base_le
  refine RunQ.ev 999 Try.func27 rfl rfl rfl rfl rfl fun C hr hn => ?_
  simp
  refine Stk.callS 999 (slot h k) rfl rfl rfl (by simp) ?_
  rintro v H' n' ⟨hv, rfl, rfl⟩
  by_cases hc : 0 ≤ k ∧ k < (s.slots.length - s.base : Nat)
  · rw [if_pos hc] at hv
    obtain ⟨i, rfl, rfl⟩ := hv
    obtain ⟨ys, ha⟩ := h.ha
    have hk : s.base + k.toNat < s.slots.length := by omega
    have hce := cell_own (e := eU) (z := 1) s.slots ys (s.base + k.toNat) 0 hk (by omega)
    simp at hce
    simp [ha, hce, partOf]
    exact hr _ _ _ (.tup [U (s.slots[s.base + k.toNat]), Er 0]) (by simp) (by rw [if_pos hc]; simp [hk])
  · rw [if_neg hc] at hv
    subst hv
    simp
    exact hr _ _ _ (.tup [U 0, Er 24]) (by simp) (by rw [if_neg hc]; simp)

theorem set {H : Mem} {n p : Nat} {s : Sk} {ia ib : Option Nat} (h : St H n p s ia ib) (k x : Int) :
    RunQ Try.prog T.T 26 [.own p 0, I k, U x] H n (fun r H' n' => if 0 ≤ k ∧ k < (s.slots.length - s.base : Nat)
      then r = Er 0 ∧ Step H n p ia ib H' n' ⟨s.slots.set (s.base + k.toNat) x, s.frames, s.most, s.peak⟩ ia ib
      else r = Er 24 ∧ H' = H ∧ n' = n) := by
  have hp := h.hp
  have hlp := h.lp
  have hok := h.ok
  have hle := hok.base_le
  refine RunQ.ev 999 Try.func26 rfl rfl rfl rfl rfl fun C hr hn => ?_
  simp
  refine Stk.callS 999 (slot h k) rfl rfl rfl (by simp) ?_
  rintro v H' n' ⟨hv, rfl, rfl⟩
  by_cases hc : 0 ≤ k ∧ k < (s.slots.length - s.base : Nat)
  · rw [if_pos hc] at hv
    obtain ⟨i, rfl, rfl⟩ := hv
    obtain ⟨ys, ha⟩ := h.ha
    have hk : s.base + k.toNat < s.slots.length := by omega
    have hsp := splice_own (e := eU) (z := 1) s.slots ys (s.base + k.toNat) hk x
    simp [eU] at hsp
    have hll : s.base + k.toNat + 1 ≤ s.slots.length + ys.length := by omega
    simp [ha, hll, hsp]
    have hip := (h.la i rfl).2
    refine hr _ _ _ (Er 0) (by simp) ?_
    rw [if_pos hc]
    refine ⟨rfl, ⟨by simp [hp, Ne.symm hip], ⟨ys, by simp⟩, h.hb.mono fun j hj => ?_, h.lp, h.la, h.lb, h.ab, ⟨hok.most, by simpa using hok.slots, hok.frames, hok.peak, by simpa using hok.rising⟩⟩, Nat.le_refl _, fun j hj hjp hja hjb => ?_, fun _ hj => .inl hj, fun _ hj => .inl hj⟩
    · have : j ≠ i := fun e => h.ab j (by rw [e]) hj
      simp [this]
    · have : j ≠ i := fun e => hja (by rw [e])
      simp [this]
  · rw [if_neg hc] at hv
    subst hv
    simp
    exact hr _ _ _ (Er 24) (by simp) (by rw [if_neg hc]; simp)

theorem moreF {H : Mem} {n : Nat} {o : Option Nat} {xs : List (Int × Int × Nat)} (ho : Own H 132 eF o xs) (hn : ∀ i, o = some i → i < n) (hl : xs.length ≤ 65536) (x : Int × Int × Nat) :
    ∃ i H' n', appendAV T.T (upd H n (some (.cells [I x.1, I x.2.1, I x.2.2] 132))) (n + 1) 128 (slv o xs.length) (.osl n 0 1 (some 1)) = some (.osl i 0 (xs.length + 1) none, H', n') ∧ Own H' 132 eF (some i) (xs ++ [x]) ∧ n ≤ n' ∧ (o = some i ∨ n ≤ i) ∧ i < n' ∧ (∀ j, j < n → o ≠ some j → H' j = H j) := by
  obtain ⟨o', H', n', e1, o1, le1, f1, k1⟩ := append_own (e := eF) (z := 3) T.t128 rfl T.t132 rfl (by decide) rfl (by decide) (H := upd H n (some (.cells [I x.1, I x.2.1, I x.2.2] 132))) (n := n + 1) (o := o) (xs := xs)
    (ho.mono fun i hi => upd_ne _ _ (by have := hn i hi; omega)) (fun i hi => by have := hn i hi; omega) (y := .osl n 0 1 (some 1)) [x] (by simp [encs, eF]) rfl (by simp [roomMax]; omega) (by simp [roomMax]; omega)
  cases o' with
  | none => simp [Own] at o1
  | some i =>
    have := f1 i rfl
    refine ⟨i, H', n', by simpa using e1, o1, by omega, ?_, this.2, fun j hj hne => by rw [k1 j (by omega) hne, upd_ne _ _ (by omega)]⟩
    rcases this.1 with h | h
    · exact .inl h
    · exact .inr (by omega)

theorem enter {H : Mem} {n p : Nat} {s : Sk} {ia ib : Option Nat} (h : St H n p s ia ib) (g k : Int) :
    RunQ Try.prog T.T 22 [.own p 0, I g, I k] H n (fun r H' n' => if 0 ≤ k ∧ k ≤ (s.slots.length - s.base : Nat) ∧ s.frames.length < 65536
      then r = Er 0 ∧ ∃ ia' ib', Step H n p ia ib H' n' ⟨s.slots, s.frames ++ [(g, 0, s.slots.length - k.toNat)], s.most, s.peak⟩ ia' ib'
      else r = Er 24 ∧ H' = H ∧ n' = n) := by
  have hp := h.hp
  have hlp := h.lp
  have hok := h.ok
  have hle := hok.base_le
  refine RunQ.ev 999 Try.func22 rfl rfl rfl rfl rfl fun C hr hn => ?_
  by_cases hk0 : k < 0
  · simp [hk0]
    exact hr _ _ _ (Er 24) (by simp) (by rw [if_neg (by omega)]; simp)
  · simp [hk0]
    refine Stk.callS 999 (own h) rfl rfl rfl (by simp) ?_
    rintro v H' n' ⟨hv, rfl, rfl⟩
    by_cases hlt : ((s.slots.length - s.base : Nat) : Int) < k
    · have hlt' : 0 < k := by omega
      rcases hv with ⟨_, rfl, e⟩ | ⟨i, _, _, c, rfl⟩ | ⟨i, _, e, rfl | rfl⟩
      all_goals simp [hlt, hlt']
      all_goals exact hr _ _ _ (Er 24) (by simp) (by rw [if_neg (by omega)]; simp)
    · obtain ⟨i, H2, n2, e1, o1, le1, f1, f2, k1⟩ := moreF h.hb (fun i hi => (h.lb i hi).1) hok.frames (g, 0, s.slots.length - k.toNat)
      have hp' : H2 p = H' p := k1 p h.lp h.pb
      have hlp2 : p < n2 := by omega
      have hw2 : IntKind.i64.wrap ((s.slots.length : Int) - k) = ((s.slots.length - k.toNat : Nat) : Int) := by
        rw [wrap64_id (by omega) (by have := hok.slots; have := hok.most; omega)]; omega
      by_cases hfr : s.frames.length < 65536
      · have fin : ∀ t H3, t 6 = Er 0 → H3 p = some (.cells [slv ia s.slots.length, .osl i 0 (s.frames.length + 1) none, I s.most, I s.peak] 130) → (∀ j, j ≠ p → H3 j = H2 j) → C .ret t H3 n2 := by
          intro t H3 ht q1 q2
          refine hr _ _ _ (Er 0) (by simp [ht]) ?_
          rw [if_pos ⟨by omega, by omega, hfr⟩]
          refine ⟨rfl, ia, some i, frames_step h o1 le1 f1 f2 k1 (by simpa using q1) q2 ⟨hok.most, hok.slots, by simp; omega, hok.peak, .snoc (Sk.rising_base hok.rising (by simp only; omega)) (by simp)⟩⟩
        have hfi : (s.frames.length : Int) < 65536 := by omega
        have hw3' : s.slots = [] → IntKind.i64.wrap (-k) = ((s.slots.length - k.toNat : Nat) : Int) := by
          intro e
          have e : s.slots.length = 0 := by rw [e]; rfl
          rw [wrap64_id (by omega) (by omega)]; omega
        rcases hv with ⟨rfl, rfl, e⟩ | ⟨a, rfl, _, c, rfl⟩ | ⟨a, rfl, e, rfl | rfl⟩
        all_goals cases ib
        all_goals simp only [slv_none, slv_some] at e1 fin hp'
        all_goals first | (have hlt0 : ¬ 0 < k := by omega) | (have hlt0 : True := trivial)
        all_goals simp only [slv_none, slv_some] at hp
        all_goals have hfi' : ¬ (65536 : Int) ≤ s.frames.length := by omega
        all_goals simp [hlt0, hlt, hp, hfi']
        all_goals first
          | (rename_i b; refine Stk.regionD 999 [.rd [], .rd [], .rd [], .rd [], .rd [p], .rd [], .rd [], .rd [], .rd [], .rd [p], .rd [], .rd [], .rd [], .rd [], .rd [], .mem [] n', .mem [b] n', .rd [], .rd [], .mem [p] n2] none (by kernel_rfl) (by rfl) rfl (by simp [below, *]) rfl ?_)
          | refine Stk.regionD 999 [.rd [], .rd [], .rd [], .rd [], .rd [p], .rd [], .rd [], .rd [], .rd [], .rd [p], .rd [], .rd [], .rd [], .rd [], .rd [], .mem [] n', .mem [] n', .rd [], .rd [], .mem [p] n2] none (by kernel_rfl) (by rfl) rfl (by simp [below, *]) rfl ?_
        all_goals first | have hw3 := hw3' h.ha | have hw3 : True := trivial
        all_goals simp [hp, hw2, hw3, e1, hp']
        all_goals first
          | exact ⟨fun j hj e => absurd e (by omega), fun j hj => by rw [if_neg (by omega)]; exact k1 j hj (by simp), fun j hj hs e => absurd e hs, fin _ _ (by simp) (by simp) (fun j hj => by simp [hj])⟩
          | exact ⟨fun j hj e => absurd e (by omega), fun j hj hjb => by rw [if_neg (by omega)]; exact k1 j hj (fun e => hjb (by cases e; rfl)), fun j hj hs e => absurd e hs, fin _ _ (by simp) (by simp) (fun j hj => by simp [hj])⟩
      · have hfi' : (65536 : Int) ≤ s.frames.length := by omega
        rcases hv with ⟨rfl, rfl, e⟩ | ⟨a, rfl, _, c, rfl⟩ | ⟨a, rfl, e, rfl | rfl⟩
        all_goals cases ib
        all_goals first | (have hlt0 : ¬ 0 < k := by omega) | (have hlt0 : True := trivial)
        all_goals simp only [slv_none, slv_some] at hp
        all_goals first
          | (exfalso; have := h.hb; simp only [Own] at this; rw [this] at hfr; simp at hfr; done)
          | simp [hlt0, hlt, hp, hfi']
        all_goals exact hr _ _ _ (Er 24) (by simp) (by rw [if_neg (by omega)]; simp)
end Go.Proofs.Ytfflojbgikfbmaa.Sta
