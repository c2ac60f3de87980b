/-
  The document's own stack: Slide, Enter, Leave.
-/
import Derived.Test.YtfflojbgikfbmaaSC
namespace Go.Proofs.Ytfflojbgikfbmaa.Sta
open Go.Proofs.YtfflojbgikfbmaaW.Ah
set_option maxRecDepth 4000
set_option linter.unusedVariables false
set_option linter.unusedSimpArgs false
attribute [local simp] T.t3 T.t4 T.t5 T.t26 T.t39 T.t40 T.t41 T.t47 T.t49 T.t73 T.t77 T.t79 T.t128 T.t130 T.t132 T.t135 T.t150 Op.maxDepth List.range List.range.loop
attribute [-simp] appendAV cellsOf cellOk partOk
attribute [local simp] cellsOf_sc cellOk_sc partOk_sc cellsOf_own cellOk_own partOk_own cellsOf_osl cellOk_osl partOk_osl cellsOf_sh cellOk_sh partOk_sh cellsOf_ssl cellOk_ssl partOk_ssl cellsOf_esl cellOk_esl partOk_esl cellsOf_fn cellOk_fn partOk_fn cellsOf_omap cellOk_omap partOk_omap cellsOf_agg partOk_agg cellsOf_slv cellOk_slv partOk_slv

/-- The slots up to a place, and one more: in a block of their own. -/
theorem kept {H : Mem} {n a : Nat} {ws : List Int} (ha : Own H 40 eU (some a) ws) (m : Nat) (hm : m < ws.length) (hl : ws.length ≤ 65536) (x : Int) {p : Nat} (hp : p < n) :
    ∃ W : AV → Mem → Nat → Prop, RunQ Try.prog T.T 111 [.osl a 0 m none] H n W ∧ ∀ v H2 n2, W v H2 n2 → n ≤ n2 ∧ (∀ j, j < n → H2 j = H j) ∧ ∃ o2, v = slv o2 m ∧ ∃ (i : Nat) (H3 : Mem) (n3 : Nat), appendAV T.T (upd H2 n2 (some (.cells [U x] 40))) (n2 + 1) 39 (slv o2 m) (.osl n2 0 1 (some 1)) = some (.osl i 0 (m + 1) none, H3, n3) ∧ Own H3 40 eU (some i) (ws.take m ++ [x]) ∧ n2 ≤ n3 ∧ n ≤ i ∧ i < n3 ∧ ∀ j, j < n → H3 j = H j := by
  have htl : (ws.take m).length = m := by simp; omega
  have hwd := words (n := n) (c := none) (ha.take m) (by simp; omega)
  rw [htl] at hwd
  refine ⟨_, hwd, ?_⟩
  rintro v H2 n2 ⟨o2, rfl, w2, l2, f2, k2⟩
  obtain ⟨i, H3, n3, e1, o3, l3, g1, g2, kk⟩ := more (n := n2) w2 (fun i hi => (f2 i hi).2) (by simp; omega) x
  rw [htl] at e1
  refine ⟨l2, k2, o2, rfl, i, H3, n3, e1, o3, l3, ?_, g2, fun j hj => ?_⟩
  · rcases g1 with g | g
    · exact (f2 i g).1
    · omega
  · rw [kk j (by omega) (fun e => by have := f2 j e; omega), k2 j hj]

theorem slideR {H : Mem} {n p : Nat} {s : Sk} {ia ib : Option Nat} (h : Rt H n p s ia ib) (k : Int) :
    RunQ Try.prog T.T 100 [.own p 0, I k] H n (fun r H' n' => if 0 ≤ k ∧ k < (s.slots.length - s.base : Nat)
      then r = I 0 ∧ ∃ ia' ib', RStep H n p ia ib H' n' ⟨s.slots.take (s.slots.length - 1 - k.toNat) ++ [s.slots.getD (s.slots.length - 1) 0], s.frames, s.most, s.peak⟩ ia' ib'
      else r = I 24 ∧ n ≤ n' ∧ ∀ j, j < n → H' j = H j) := by
  have hlp := h.lp
  have hok := h.ok
  have hmo := hok.most
  have hsl := hok.slots
  have hle := hok.base_le
  refine RunQ.ev 999 Try.func100 rfl rfl rfl rfl rfl fun C hr hn => ?_
  by_cases h0 : k < 0
  · simp [h0]
    exact hr _ _ _ (I 24) (by simp) (by rw [if_neg (by omega)]; exact ⟨rfl, Nat.le_refl _, fun _ _ => rfl⟩)
  · simp [h0]
    refine Stk.callS 999 (ownR h) rfl rfl rfl (by simp) ?_
    rintro v H1 n1 ⟨rfl, l1, g1⟩
    by_cases hlt : k < (s.slots.length - s.base : Nat)
    · have hge : ¬ ((s.slots.length - s.base : Nat) : Int) ≤ k := by omega
      obtain ⟨m, rfl⟩ := Int.eq_ofNat_of_zero_le (show 0 ≤ k by omega)
      have h1 := h.far l1 g1
      cases ia with
      | none => have h0 : s.slots = [] := h.ha; rw [h0] at hlt; simp at hlt; omega
      | some a =>
        obtain ⟨ys, ha⟩ := h1.ha
        have hp1 : H1 p = _ := h1.hp
        have han := (h1.la a rfl).1
        have hk : s.slots.length - 1 < s.slots.length := by omega
        have hki : ((s.slots.length - 1 : Nat) : Int) < s.slots.length := by omega
        have hw := wrap_pred (a := s.slots.length) (by omega) (by omega)
        obtain ⟨c, hc⟩ : ∃ c, c = s.slots.length - 1 - m := ⟨_, rfl⟩
        have hw2 : IntKind.i64.wrap (((s.slots.length - 1 : Nat) : Int) - m) = (c : Int) := by rw [wrap64_id (by omega) (by omega)]; omega
        have hlim : (c : Int) ≤ s.slots.length + ys.length := by omega
        have hlimn : c ≤ s.slots.length + ys.length := by omega
        obtain ⟨x, hx⟩ : ∃ x, x = s.slots[s.slots.length - 1] := ⟨_, rfl⟩
        obtain ⟨W, hW, hWf⟩ := kept (n := n1) h1.ha c (by omega) (by omega) x h1.lp
        have hce := cell_own (e := eU) (z := 1) s.slots ys (s.slots.length - 1) 0 hk (by omega)
        simp [← hx] at hce
        simp at hp1
        simp [hge, hp1]
        refine Stk.regionD 999 [.rd [], .rd [], .rd [], .rd [], .rd [], .rd [p], .rd [], .rd [], .rd [], .rd [], .rd [a], .mem [] n1, .rd [], .rd [], .rd [], .rd [], .rd [p], .rd [], .rd [], .rd [], .rd [a], .mem [] n1, .mem [] n1, .rd [], .rd [], .rd [], .mem [p] n1] (some 21) (by kernel_rfl) (by rfl) (by rfl) (by simp [below, h1.lp, han]) rfl ?_
        simp [hp1, hw, hw2, natOk, ha, hlim, hlimn]
        refine Stk.callSD 999 rfl ?_ hW rfl rfl rfl rfl (by simp) ?_
        · intro v H2 n2 hv j hj _
          exact (hWf v H2 n2 hv).2.1 j hj
        intro v H2 n2 hv
        obtain ⟨l2, k2, o2, rfl, i, H3, n3, e1, o3, l3, gi, gi3, k3⟩ := hWf v H2 n2 hv
        have hp2 : H2 p = _ := (k2 p h1.lp).trans hp1
        have ha2 : H2 a = _ := (k2 a han).trans ha
        have hp3 : H3 p = _ := (k3 p h1.lp).trans hp1
        simp [hp2, hw, hk, hki, ha2, hce, partOf, e1, hp3]
        refine ⟨fun j hj e => absurd e (by omega), fun j hj => by rw [if_neg (by omega), k3 j hj, k2 j hj], fun j hj hj' e => absurd e hj', ?_⟩
        refine hr _ _ _ (I 0) (by simp) ?_
        rw [if_pos ⟨by omega, hlt⟩]
        have hxs : s.slots.take (s.slots.length - 1 - ((m : Nat) : Int).toNat) ++ [s.slots.getD (s.slots.length - 1) 0] = s.slots.take c ++ [x] := by
          rw [hc, hx]; simp [hk]
        have hcl : (s.slots.take c ++ [x]).length = c + 1 := by simp; omega
        rw [hxs]
        exact ⟨rfl, some i, ib, RStep.after l1 g1 (rslots (H' := H3) h1 o3 (by omega) (fun j hj => by cases hj; exact ⟨gi, gi3⟩) (fun j hj => k3 j hj) (by rw [hcl]; simp) (fun j hj => by simp [hj]) ⟨hmo, by simp only [hcl]; omega, hok.frames, hok.peak, Sk.rising_base (s := s) hok.rising (by simp only [hcl]; omega)⟩)⟩
    · have hge : ((s.slots.length - s.base : Nat) : Int) ≤ k := by omega
      simp [hge]
      exact hr _ _ _ (I 24) (by simp) (by rw [if_neg (by omega)]; exact ⟨rfl, l1, g1⟩)

theorem moreR {H : Mem} {n : Nat} {o : Option Nat} {xs : List (Int × Int × Nat)} (ho : Own H 79 eF o xs) (hn : ∀ i, o = some i → i < n) (hl : xs.length ≤ 65536) (x : Int × Int × Nat) :
    ∃ i H' n', appendAV T.T (upd H n (some (.cells [I x.1, I x.2.1, I x.2.2] 79))) (n + 1) 47 (slv o xs.length) (.osl n 0 1 (some 1)) = some (.osl i 0 (xs.length + 1) none, H', n') ∧ Own H' 79 eF (some i) (xs ++ [x]) ∧ n ≤ n' ∧ (o = some i ∨ n ≤ i) ∧ i < n' ∧ (∀ j, j < n → o ≠ some j → H' j = H j) := by
  obtain ⟨o', H', n', e1, o1, le1, f1, k1⟩ := append_own (e := eF) (z := 3) T.t47 rfl T.t79 rfl (by decide) rfl (by decide) (H := upd H n (some (.cells [I x.1, I x.2.1, I x.2.2] 79))) (n := n + 1) (o := o) (xs := xs)
    (ho.mono fun i hi => upd_ne _ _ (by have := hn i hi; omega)) (fun i hi => by have := hn i hi; omega) (y := .osl n 0 1 (some 1)) [x] (by simp [encs, eF]) rfl (by simp [roomMax]; omega) (by simp [roomMax]; omega)
  cases o' with
  | none => simp [Own] at o1
  | some i =>
    have := f1 i rfl
    refine ⟨i, H', n', by simpa using e1, o1, by omega, ?_, this.2, fun j hj hne => by rw [k1 j (by omega) hne, upd_ne _ _ (by omega)]⟩
    rcases this.1 with h | h
    · exact .inl h
    · exact .inr (by omega)

/-- New frames. -/
theorem rframes {H H' H2 : Mem} {n n' p i : Nat} {s : Sk} {ia ib : Option Nat} {fs : List (Int × Int × Nat)} (h : Rt H n p s ia ib) (o1 : Own H' 79 eF (some i) fs) (le1 : n ≤ n') (f1 : ib = some i ∨ n ≤ i) (f2 : i < n') (k1 : ∀ j, j < n → ib ≠ some j → H' j = H j)
    (e1 : H2 p = some (.cells [slv ia s.slots.length, .osl i 0 fs.length none, I s.peak, I s.most] 150)) (e2 : ∀ j, j ≠ p → H2 j = H' j) (hok : Sk.Ok ⟨s.slots, fs, s.most, s.peak⟩) : RStep H n p ia ib H2 n' ⟨s.slots, fs, s.most, s.peak⟩ ia (some i) := by
  have hip : i ≠ p := by
    rcases f1 with f | f
    · exact (h.lb i f).2
    · have := h.lp; omega
  have hbi : ∀ j, ia = some j → j ≠ i := by
    intro j hj e
    subst e
    rcases f1 with f | f
    · exact h.ab _ hj f
    · have := (h.la _ hj).1; omega
  refine ⟨⟨e1, h.ha.mono fun j hj => ?_, o1.mono fun j hj => e2 j (by cases hj; exact hip), by have := h.lp; omega, fun j hj => ?_, fun j hj => ?_, fun j hj hj' => ?_, hok⟩, le1, fun j hj hjp hja hjb => ?_, fun j hj => .inl hj, fun j hj => ?_⟩
  · rw [e2 j (h.la j hj).2, k1 j (h.la j hj).1 (fun e => h.ab j hj e)]
  · exact ⟨by have := (h.la j hj).1; omega, (h.la j hj).2⟩
  · cases hj; exact ⟨f2, hip⟩
  · cases hj'; exact hbi _ hj rfl
  · rw [e2 j hjp, k1 j hj hjb]
  · cases hj; exact f1

theorem enterR {H : Mem} {n p : Nat} {s : Sk} {ia ib : Option Nat} (h : Rt H n p s ia ib) (g k : Int) :
    RunQ Try.prog T.T 101 [.own p 0, I g, I k] H n (fun r H' n' => if 0 ≤ k ∧ k ≤ (s.slots.length - s.base : Nat) ∧ s.frames.length < 65536
      then r = I 0 ∧ ∃ ia' ib', RStep H n p ia ib H' n' ⟨s.slots, s.frames ++ [(g, 0, s.slots.length - k.toNat)], s.most, s.peak⟩ ia' ib'
      else r = I 24 ∧ n ≤ n' ∧ ∀ j, j < n → H' j = H j) := by
  have hlp := h.lp
  have hok := h.ok
  have hmo := hok.most
  have hsl := hok.slots
  have hfr := hok.frames
  have hle := hok.base_le
  refine RunQ.ev 999 Try.func101 rfl rfl rfl rfl rfl fun C hr hn => ?_
  by_cases h0 : k < 0
  · simp [h0]
    exact hr _ _ _ (I 24) (by simp) (by rw [if_neg (by omega)]; exact ⟨rfl, Nat.le_refl _, fun _ _ => rfl⟩)
  · simp [h0]
    refine Stk.callS 999 (ownR h) rfl rfl rfl (by simp) ?_
    rintro v H1 n1 ⟨rfl, l1, g1⟩
    have h1 := h.far l1 g1
    have hp1 : H1 p = _ := h1.hp
    by_cases hlt : ((s.slots.length - s.base : Nat) : Int) < k
    · simp [hlt]
      exact hr _ _ _ (I 24) (by simp) (by rw [if_neg (by omega)]; exact ⟨rfl, l1, g1⟩)
    · obtain ⟨m, rfl⟩ := Int.eq_ofNat_of_zero_le (show 0 ≤ k by omega)
      obtain ⟨c, hc⟩ : ∃ c, c = s.slots.length - m := ⟨_, rfl⟩
      have hw2 : IntKind.i64.wrap ((s.slots.length : Int) - m) = (c : Int) := by rw [wrap64_id (by omega) (by omega)]; omega
      have hltn : ¬ (s.slots.length - s.base) < m := by omega
      have ts0 : ia = none → s.slots.length = 0 := fun e => by subst e; have h0 : s.slots = [] := h.ha; rw [h0]; rfl
      have fs0 : ib = none → s.frames.length = 0 := fun e => by subst e; have h0 : s.frames = [] := h.hb; rw [h0]; rfl
      by_cases hf : s.frames.length < 65536
      · have hfi : ¬ (65536 : Int) ≤ s.frames.length := by omega
        have hfn : ¬ 65536 ≤ s.frames.length := by omega
        obtain ⟨i, H2, n2, e1, o1, le1, f1, f2, k1⟩ := moreR (n := n1) h1.hb (fun i hi => (h1.lb i hi).1) hok.frames (g, 0, c)
        dsimp only at e1
        have hp2 : H2 p = _ := (k1 p h1.lp h1.pb).trans hp1
        have fin : ∀ (t : Nat → AV) H3, t 6 = I 0 → H3 p = some (.cells [slv ia s.slots.length, .osl i 0 (s.frames.length + 1) none, I s.peak, I s.most] 150) → (∀ j, j ≠ p → H3 j = H2 j) → C .ret t H3 n2 := by
          intro t H3 ht q1 q2
          refine hr _ _ _ (I 0) (by simp [ht]) ?_
          rw [if_pos ⟨by omega, by omega, hf⟩]
          have e0 : s.slots.length - ((m : Nat) : Int).toNat = c := by rw [hc]; rfl
          rw [e0]
          exact ⟨rfl, ia, some i, RStep.after l1 g1 (rframes h1 o1 le1 f1 f2 k1 (by simpa using q1) q2 ⟨hmo, hsl, by simp; omega, hok.peak, .snoc (Sk.rising_base hok.rising (by simp only; omega)) (by simp only; omega)⟩)⟩
        clear hr hn
        cases ia with
        | none =>
          have hl0 := ts0 rfl
          rw [hl0] at hw2 hp1 hp2 fin
          simp at hw2
          cases ib with
          | none =>
            have hf0 := fs0 rfl
            rw [hf0] at hp1 hp2 e1 fin
            simp at hp1 hp2 e1 fin
            simp [hlt, hltn, hp1]
            refine Stk.regionD 999 [.rd [], .rd [], .rd [], .rd [], .rd [], .rd [p], .rd [], .rd [], .rd [], .rd [], .rd [], .rd [p], .rd [], .rd [], .rd [], .rd [], .mem [] n1, .mem [] n1, .rd [], .rd [], .rd [], .mem [p] n1] none (by kernel_rfl) (by rfl) rfl (by simp [below, h1.lp]) rfl ?_
            simp [hp1, hw2, e1, hp2]
            exact ⟨fun j hj e => absurd e (by omega), fun j hj => by rw [if_neg (by omega)]; exact k1 j hj (by simp), fun j hj hs e => absurd e hs, fin _ _ (by simp) (by simp) (fun j hj => by simp [hj])⟩
          | some b =>
            simp at hp1 hp2 e1 fin
            simp [hlt, hltn, hp1, hfi, hfn]
            refine Stk.regionD 999 [.rd [], .rd [], .rd [], .rd [], .rd [], .rd [p], .rd [], .rd [], .rd [], .rd [], .rd [], .rd [p], .rd [], .rd [], .rd [], .rd [], .mem [] n1, .mem [b] n1, .rd [], .rd [], .rd [], .mem [p] n1] none (by kernel_rfl) (by rfl) rfl (by simp [below, h1.lp]) rfl ?_
            simp [hp1, hw2, e1, hp2]
            exact ⟨fun j hj e => absurd e (by omega), fun j hj hjb => by rw [if_neg (by omega)]; exact k1 j hj (fun e => hjb (by cases e; rfl)), fun j hj hs e => absurd e hs, fin _ _ (by simp) (by simp) (fun j hj => by simp [hj])⟩
        | some a =>
          cases ib with
          | none =>
            have hf0 := fs0 rfl
            rw [hf0] at hp1 hp2 e1 fin
            simp at hp1 hp2 e1 fin
            simp [hlt, hltn, hp1]
            refine Stk.regionD 999 [.rd [], .rd [], .rd [], .rd [], .rd [], .rd [p], .rd [], .rd [], .rd [], .rd [], .rd [], .rd [p], .rd [], .rd [], .rd [], .rd [], .mem [] n1, .mem [] n1, .rd [], .rd [], .rd [], .mem [p] n1] none (by kernel_rfl) (by rfl) rfl (by simp [below, h1.lp]) rfl ?_
            simp [hp1, hw2, e1, hp2]
            exact ⟨fun j hj e => absurd e (by omega), fun j hj => by rw [if_neg (by omega)]; exact k1 j hj (by simp), fun j hj hs e => absurd e hs, fin _ _ (by simp) (by simp) (fun j hj => by simp [hj])⟩
          | some b =>
            simp at hp1 hp2 e1 fin
            simp [hlt, hltn, hp1, hfi, hfn]
            refine Stk.regionD 999 [.rd [], .rd [], .rd [], .rd [], .rd [], .rd [p], .rd [], .rd [], .rd [], .rd [], .rd [], .rd [p], .rd [], .rd [], .rd [], .rd [], .mem [] n1, .mem [b] n1, .rd [], .rd [], .rd [], .mem [p] n1] none (by kernel_rfl) (by rfl) rfl (by simp [below, h1.lp]) rfl ?_
            simp [hp1, hw2, e1, hp2]
            exact ⟨fun j hj e => absurd e (by omega), fun j hj hjb => by rw [if_neg (by omega)]; exact k1 j hj (fun e => hjb (by cases e; rfl)), fun j hj hs e => absurd e hs, fin _ _ (by simp) (by simp) (fun j hj => by simp [hj])⟩
      · have hfi : (65536 : Int) ≤ s.frames.length := by omega
        have hfn : 65536 ≤ s.frames.length := by omega
        cases ib with
        | none => have := fs0 rfl; omega
        | some b =>
          simp at hp1
          simp [hlt, hltn, hp1, hfi, hfn]
          exact hr _ _ _ (I 24) (by simp) (by rw [if_neg (by omega)]; exact ⟨rfl, l1, g1⟩)
end Go.Proofs.Ytfflojbgikfbmaa.Sta
