/-
  One thing that is done with both: all slots changed.
-/
import Derived.Test.YtfflojbgikfbmaaSL
namespace Go.Proofs.Ytfflojbgikfbmaa.Sta
open Go.Proofs.YtfflojbgikfbmaaW.Ah
set_option maxRecDepth 4000
set_option linter.unusedVariables false
set_option linter.unusedSimpArgs false
attribute [local simp] T.t3 T.t4 T.t5 T.t26 T.t39 T.t40 T.t41 T.t47 T.t49 T.t73 T.t77 T.t79 T.t128 T.t130 T.t132 T.t135 T.t150 Op.maxDepth List.range List.range.loop
attribute [-simp] appendAV cellsOf cellOk partOk
attribute [local simp] cellsOf_sc cellOk_sc partOk_sc cellsOf_own cellOk_own partOk_own cellsOf_osl cellOk_osl partOk_osl cellsOf_sh cellOk_sh partOk_sh cellsOf_ssl cellOk_ssl partOk_ssl cellsOf_esl cellOk_esl partOk_esl cellsOf_fn cellOk_fn partOk_fn cellsOf_omap cellOk_omap partOk_omap cellsOf_agg partOk_agg cellsOf_slv cellOk_slv partOk_slv

def wadd (w x : Int) : Int := IntKind.u64.wrap (x + w)

theorem quo5 (w : Int) (hw : 0 ≤ w) : ∃ e d : Nat, d ≤ 1 ∧ IntKind.i64.wrap (w.tmod 5) = (e : Int) ∧ (e : Int).tdiv 4 = d := by
  obtain ⟨n, rfl⟩ := Int.eq_ofNat_of_zero_le hw
  have h : ((n : Int)).tmod 5 = ((n % 5 : Nat) : Int) := rfl
  have h5 : n % 5 < 5 := Nat.mod_lt _ (by omega)
  rw [h, wrap64_id (by omega) (by omega)]
  exact ⟨n % 5, n % 5 / 4, by omega, rfl, rfl⟩

section
attribute [local simp] cellsOf cellOk partOk
theorem clone2 {H : Mem} {n : Nat} {o : Option Nat} {xs : List Int} (ho : Own H 40 eU o xs) (hn : ∀ i, o = some i → i < n) (hl : xs.length ≤ 65536) :
    RunQ Try.prog T.T 85 [slv o xs.length] H n (fun r H' n' => ∃ o' c, r = slc o' xs.length c ∧ Own H' 40 eU o' xs ∧ n ≤ n' ∧ (∀ i, o' = some i → n ≤ i ∧ i < n') ∧ (∀ j, j < n → H' j = H j) ∧ ∀ cc, c = some cc → xs.length ≤ cc) := by
  refine RunQ.ev 999 Try.func85 rfl rfl rfl rfl rfl fun C hr hn' => ?_
  cases o with
  | none =>
    simp
    exact hr _ _ _ (.sc (.slice none 0 0)) (by simp) ⟨none, none, rfl, ho, Nat.le_refl _, fun i h => (by cases h), fun j _ => rfl, fun cc e => by cases e⟩
  | some i =>
    obtain ⟨ys, h1⟩ := ho
    have hi := hn i rfl
    have hne : ¬ i = n := by omega
    by_cases h0 : xs.length = 0
    · have : xs = [] := List.length_eq_zero_iff.1 h0
      subst this
      simp [appendAV, h1, hne, roomMax]
      exact hr _ _ _ (.osl n 0 0 (some 0)) (by simp) ⟨some n, some 0, rfl, ⟨[], by simp⟩, by omega, (fun j h => by cases h; omega), fun j hj => by simp [show j ≠ n by omega], fun cc e => by simp⟩
    · have hall : (encs eU xs).all cellOk = true := by
        rw [List.all_eq_true]
        intro x hx
        simp only [encs, List.mem_flatMap] at hx
        obtain ⟨y, _, hy⟩ := hx
        simp at hy; subst hy; rfl
      have hr1 : xs.length * 8 ≤ 70368744177664 := by omega
      have hr2 : xs.length ≤ 70368744177664 := by omega
      have hnx : ¬ xs = [] := fun e => h0 (by rw [e]; rfl)
      simp [appendAV, h1, hne, roomMax, hr1, hr2, hnx, hall, -cellOk, -List.all_eq_true]
      exact hr _ _ _ (.osl (n + 1) 0 xs.length none) (by simp) ⟨some (n + 1), none, rfl, ⟨[], by simp⟩, by omega, (fun j h => by cases h; omega), fun j hj => by simp [show j ≠ n by omega, show j ≠ n + 1 by omega], fun cc e => by cases e⟩

theorem roots2 {H : Mem} {n p : Nat} {s : Sk} {ia ib : Option Nat} (h : St H n p s ia ib) :
    RunQ Try.prog T.T 29 [.own p 0] H n (fun r H' n' => ∃ o' c, r = slc o' s.slots.length c ∧ Own H' 40 eU o' s.slots ∧ n ≤ n' ∧ (∀ i, o' = some i → n ≤ i ∧ i < n') ∧ (∀ j, j < n → H' j = H j) ∧ ∀ cc, c = some cc → s.slots.length ≤ cc) := by
  have hp := h.hp
  have hok := h.ok
  refine RunQ.ev 999 Try.func29 rfl rfl rfl rfl rfl fun C hr hn => ?_
  simp [hp]
  refine Stk.callS 999 (clone2 h.ha (fun i hi => (h.la i hi).1) (by have := hok.slots; have := hok.most; omega)) rfl rfl rfl (by simp) ?_
  rintro v H' n' ⟨o', c, rfl, hz⟩
  simp
  exact hr _ _ _ (slc o' s.slots.length c) (by simp) ⟨o', c, rfl, hz⟩

end

noncomputable def body46 : Code := Try.f46.body.getD .skip

theorem same_tail {H : Mem} {n p q z : Nat} {s : Sk} {ia ib ja jb : Option Nat} (h : Two H n p q s ia ib ja jb) (kd w i m : Int) (hzn : z < n) (zn : H z = some (.cells [.sc (.int .u8 kd), U w, I i, I m] 77)) (na : z ∉ blocks p ia ib) (nb : z ∉ blocks q ja jb)
    {o : Option Nat} {zs : List Int} {c : Option Nat} (ho : Own H 40 eU o zs) (hob : ∀ j, o = some j → j < n ∧ j ∉ blocks p ia ib ∧ j ∉ blocks q ja jb) (hl : zs.length ≤ 65536)
    (v : AV) (hv : v = slc o zs.length c) (t : Nat → AV) (t0 : t 0 = .own p 0) (t1 : t 1 = .own q 0) (t5 : t 5 = .own z 0) (t15 : t 15 = v) {C : Cont}
    (fin : ∀ (t : Nat → AV) H2 n2, t 6 = B true → (∃ s' ia' ib' ja' jb', Next H n p q ia ib ja jb H2 n2 s' ia' ib' ja' jb') → C .ret t H2 n2) :
    Stk Try.prog T.T 189 (codes ((seqs body46).drop 9)) t H n C := by
  refine Stk.cut (l' := []) [_, _] rfl fun J hJ => ?_
  refine evS_sound (f := 4) ?_
  simp [codes]
  refine Stk.regionD 30 [.rd [], .rd [], .rd [z], .mem (blocks p ia ib) n, .rd [], .rd [], .rd [z], .mem (blocks q ja jb) n, .rd [], .rd [], .rd [], .rd [], .mem (blocks p ia ib) n, .rd [], .rd [], .mem (blocks q ja jb) n, .rd [], .rd [], .rd []] none (by kernel_rfl) (drawOk2_read [.rd [], .rd [], .rd [z], .mem (blocks p ia ib) n, .rd [], .rd [], .rd [], .mem (blocks q ja jb) n, .rd [], .rd [], .rd [], .rd [], .mem (blocks p ia ib) n, .rd [], .rd [], .mem (blocks q ja jb) n, .rd [], .rd [], .rd []] 6 [z] (by intro c hc S b hS r hr; subst hS; simp at hc hr; subst hr; rcases hc with ⟨rfl, _⟩ | ⟨rfl, _⟩ | ⟨rfl, _⟩ | ⟨rfl, _⟩ <;> assumption) rfl (drawOk2_read [.rd [], .rd [], .rd [], .mem (blocks p ia ib) n, .rd [], .rd [], .rd [], .mem (blocks q ja jb) n, .rd [], .rd [], .rd [], .rd [], .mem (blocks p ia ib) n, .rd [], .rd [], .mem (blocks q ja jb) n, .rd [], .rd [], .rd []] 2 [z] (by intro c hc S b hS r hr; subst hS; simp at hc hr; subst hr; rcases hc with ⟨rfl, _⟩ | ⟨rfl, _⟩ | ⟨rfl, _⟩ | ⟨rfl, _⟩ <;> assumption) rfl (by rfl))) rfl (by simp [below, hzn]) rfl ?_
  simp [t0, t1, t5, t15, zn, partOf]
  refine Stk.callSD 30 rfl ?_ (gJump h.a m) rfl rfl rfl rfl (by simp) ?_
  · rintro v H' n' ⟨_, ia', ib', st⟩ j hj hm; exact st.kept hj hm
  rintro v1 H1 n1 ⟨rfl, ia1, ib1, st⟩
  have rt0 := h.left st
  have zn1 : H1 z = _ := (st.kept hzn na).trans zn
  simp [t0, t1, t5, t15, zn1, partOf]
  refine Stk.callSD 30 rfl ?_ (rJump rt0 m) rfl rfl rfl rfl (by simp) ?_
  · rintro v H' n' ⟨_, ja', jb', rt⟩ j hj hm; exact rt.kept (by have := st.le; omega) hm
  rintro v2 H2 n2 ⟨rfl, ja1, jb1, rt⟩
  have nx := h.next st rt
  have g2 := nx.two
  have ho2 : Own H2 40 eU o zs := ho.mono fun j hj => nx.keep j (hob j hj).1 (hob j hj).2.1 (hob j hj).2.2
  have ob1 : ∀ j, o = some j → j ∉ blocks p ia1 ib1 ∧ j ∉ blocks q ja1 jb1 := fun j hj => ⟨fun e => by
    rcases nx.fa j e with e | e
    · exact (hob j hj).2.1 e
    · have := (hob j hj).1; omega, fun e => by
    rcases nx.fb j e with e | e
    · exact (hob j hj).2.2 e
    · have := (hob j hj).1; omega⟩
  have gm := gMoved g2.a (c := c) ho2 (fun j hj => ⟨fun e => (ob1 j hj).1 (mem_blocks.2 (.inl e)), fun e => (ob1 j hj).1 (mem_blocks.2 (.inr (.inl e)))⟩)
  rw [← hv] at gm
  have hln : n ≤ n2 := nx.le
  simp [t0, t1, t5, t15]
  refine Stk.callSD 30 rfl ?_ gm rfl rfl rfl rfl (by simp) ?_
  · rintro v H' n' ⟨_, ia', ib', st⟩ j hj hm
    refine st.kept (by omega) fun e => ?_
    rcases nx.fa j e with e | e
    · exact hm e
    · omega
  rintro v3 H3 n3 ⟨rfl, ia2, ib2, st2⟩
  have rt2 := g2.left st2
  have ho3 : Own H3 40 eU o zs := ho2.mono fun j hj => st2.kept (by have := (hob j hj).1; omega) (ob1 j hj).1
  have rm := rMoved rt2 (c := c) ho3 hl
  rw [← hv] at rm
  simp [t0, t1, t5, t15]
  refine Stk.callSD 30 rfl ?_ rm rfl rfl rfl rfl (by simp) ?_
  · rintro v H' n' ⟨_, ia', ib', rt⟩ j hj hm
    refine rt.kept (by have := st2.le; omega) fun e => ?_
    rcases nx.fb j e with e | e
    · exact hm e
    · omega
  rintro v4 H4 n4 ⟨rfl, ja2, jb2, rt3⟩
  simp
  exact fin _ _ _ (by simp) ⟨_, ia2, ib2, ja2, jb2, nx.comp (g2.next st2 rt3)⟩

theorem same_8 {H : Mem} {n p q : Nat} {s : Sk} {ia ib ja jb : Option Nat} (h : Two H n p q s ia ib ja jb) (kd w i m : Int) (hk : kd.tmod 10 = 8) (hw0 : 0 ≤ w) :
    RunQ Try.prog T.T 46 [.own p 0, .own q 0, .agg [.sc (.int .u8 kd), U w, I i, I m]] H n (Fine H n p q ia ib ja jb) := by
  obtain ⟨Z, hZ⟩ : ∃ Z : Mem, Z = upd H n (some (.cells [.sc (.int .u8 kd), U w, I i, I m] 77)) := ⟨_, rfl⟩
  have hZk : ∀ j, j < n → Z j = H j := fun j hj => by rw [hZ, upd_ne _ _ (by omega)]
  have hz := h.far (n' := n + 1) (by omega) hZk
  have zn : Z n = some (.cells [.sc (.int .u8 kd), U w, I i, I m] 77) := by rw [hZ, upd_same]
  have na : n ∉ blocks p ia ib := fun hm => by have := h.a.under hm; omega
  have nb : n ∉ blocks q ja jb := fun hm => by have := h.b.under hm; omega
  have hmo := h.a.ok.most
  have hsl := h.a.ok.slots
  obtain ⟨e, d, hd, hq1, hq2⟩ := quo5 w hw0
  refine RunQ.ev 40 Try.func46 rfl rfl rfl rfl rfl fun C hr hn => ?_
  have fin : ∀ (t : Nat → AV) H2 n2, t 6 = B true → (∃ s' ia' ib' ja' jb', Next Z (n + 1) p q ia ib ja jb H2 n2 s' ia' ib' ja' jb') → C .ret t H2 n2 := fun t H2 n2 ht ⟨s', a1, a2, a3, a4, nx⟩ => hr _ _ _ (B true) (by simp [ht]) ⟨rfl, s', a1, a2, a3, a4, nx.after (by omega) hZk⟩
  clear hr hn
  simp [hk]
  iterate 2 (try (refine evS_sound (f := 30) ?_; simp [hk]))
  rw [← hZ]
  refine Stk.callS 30 (roots2 hz.a) rfl rfl rfl (by simp) ?_
  rintro v H1 n1 ⟨o, c, rfl, w1, l1, f1, k1, hcc⟩
  have t1 := hz.far l1 k1
  have z1 : H1 n = _ := (k1 n (by omega)).trans zn
  simp
  refine Stk.callS 30 (rootsR t1.b) rfl rfl rfl (by simp) ?_
  rintro v H2 n2 ⟨o', rfl, w2, l2, f2, k2⟩
  have t2 := t1.far l2 k2
  have z2 : H2 n = _ := (k2 n (by omega)).trans z1
  have w12 := w1.mono (H' := H2) fun j hj => k2 j (f1 j hj).2
  have hwe := wordsEq (n := n2) (c1 := c) (c2 := none) w12 w2 (by omega)
  rw [slc_slv] at hwe
  refine Stk.callS 30 hwe rfl rfl rfl (by simp) ?_
  rintro v H3 n3 ⟨rfl, rfl, rfl⟩
  cases o with
  | none =>
    have hx : s.slots = [] := w1
    simp [slc]
    refine Stk.loop 6 (fun μ t H4 n4 => t 0 = .own p 0 ∧ t 1 = .own q 0 ∧ t 5 = .own n 0 ∧ t 15 = .sc (.slice none 0 0) ∧ t 147 = I 0 ∧ t 148 = I 0 ∧ H4 = H3 ∧ n4 = n3) 0 ⟨by simp, by simp, by simp, by simp, by simp, by simp, rfl, rfl⟩ ?_
    rintro J hJ μ t H4 n4 ⟨t0, t1', t5, t15, t147, t148, rfl, rfl⟩
    have w0 : IntKind.i64.wrap 0 = 0 := by decide
    have w1 : IntKind.i64.wrap 1 = 1 := by decide
    have w2' : IntKind.i64.wrap (-1) = -1 := by decide
    have hd2 : d = 0 ∨ d = 1 := by omega
    have fin2 : ∀ (t : Nat → AV) H2 n2, t 6 = B true → (∃ s' ia' ib' ja' jb', Next H4 n4 p q ia ib ja jb H2 n2 s' ia' ib' ja' jb') → C .ret t H2 n2 := fun t H2 n2 ht ⟨s', a1, a2, a3, a4, nx⟩ => fin t H2 n2 ht ⟨s', a1, a2, a3, a4, nx.after (by omega) fun j hj => by rw [k2 j (by omega), k1 j hj]⟩
    have hnn : n < n4 := by omega
    rcases hd2 with rfl | rfl
    · simp [t147, t148]
      iterate 3 (try (refine evS_sound (f := 12) ?_; simp [t15, t5, z2, partOf, hq1, hq2, w0, w1, w2', natOk]))
      exact same_tail t2 kd w i m hnn z2 na nb (o := none) (zs := []) (c := none) rfl (fun j hj => by cases hj) (by simp) _ (by simp [slc]) _ (by simp [t0]) (by simp [t1']) (by simp [t5]) rfl fin2
    · simp [t147, t148]
      iterate 3 (try (refine evS_sound (f := 12) ?_; simp [t15, t5, z2, partOf, hq1, hq2, w0, w1, w2', natOk]))
      exact same_tail t2 kd w i m hnn z2 na nb (o := none) (zs := []) (c := none) rfl (fun j hj => by cases hj) (by simp) _ (by simp [slc]) _ (by simp [t0]) (by simp [t1']) (by simp [t5]) rfl fin2
  | some b =>
    have hb := f1 b rfl
    obtain ⟨rest, w1b⟩ := w12
    simp [slc]
    refine Stk.loop 9 (fun μ t H4 n4 => n4 = n3 ∧ ∃ (k : Nat) (ys : List Int), k ≤ s.slots.length ∧ μ = s.slots.length - k ∧ ys.length = s.slots.length ∧ t 0 = .own p 0 ∧ t 1 = .own q 0 ∧ t 5 = .own n 0 ∧ t 15 = .osl b 0 s.slots.length c ∧ t 147 = I s.slots.length ∧ t 148 = I k ∧ H4 b = some (.cells (encs eU ys ++ rest) 40) ∧ ∀ j, j ≠ b → H4 j = H3 j) s.slots.length
      ⟨rfl, 0, s.slots, Nat.zero_le _, rfl, rfl, by simp, by simp, by simp, by simp, by simp, by simp, w1b, fun _ _ => rfl⟩ ?_
    rintro J hJ μ t H4 n4 ⟨rfl, k, ys, hkl, rfl, hyl, t0, t1', t5, t15, t147, t148, g1, g2⟩
    simp [t147, t148]
    refine ⟨fun hlt => ?_, fun hge => ?_⟩
    · (try (refine evS_sound (f := 14) ?_; simp [t148]))
      have hlt2 : k < ys.length := by omega
      have z4 : H4 n = _ := (g2 n (by omega)).trans z2
      have hce := cell_own (e := eU) (z := 1) ys rest k 0 hlt2 (by omega)
      obtain ⟨x, hx⟩ : ∃ x, x = IntKind.u64.wrap (ys[k] + w) := ⟨_, rfl⟩
      have hsp := splice_own (e := eU) (z := 1) ys rest k hlt2 x
      have hll : k + 1 ≤ ys.length + rest.length := by omega
      have hw1 := wrap_succ k (by omega)
      have hnb : ¬ n = b := by omega
      have hbn : b < n4 := by omega
      have hnn : n < n4 := by omega
      simp [eU] at hsp hce
      refine Stk.regionD 40 [.rd [], .rd [], .rd [], .rd [b], .rd [], .rd [n], .rd [], .rd [], .mem [b] n4] none (by kernel_rfl) (by rfl) rfl (by simp [below, hbn, hnn]) rfl ?_
      simp [t5, t15, t148, hw1, hlt, g1, hce, z4, partOf, hll, ← hx, hsp]
      refine ⟨fun j hj hj' e => absurd e hj', ?_⟩
      exact ⟨s.slots.length - (k + 1), by omega, hJ _ _ _ _ ⟨rfl, k + 1, ys.set k x, by omega, rfl, by simp [hyl], by simp [t0], by simp [t1'], by simp [t5], by simp [t15], by simp [t147], by simp, by simp, fun j hj => by rw [upd_ne _ _ hj, g2 j hj]⟩⟩
    · have z4 : H4 n = _ := (g2 n (by omega)).trans z2
      have w0 : IntKind.i64.wrap 0 = 0 := by decide
      have w1' : IntKind.i64.wrap 1 = 1 := by decide
      have w2' : IntKind.i64.wrap (-1) = -1 := by decide
      have hd2 : d = 0 ∨ d = 1 := by omega
      have h3 : ∀ j, j < n + 1 → H4 j = Z j := fun j hj => by rw [g2 j (by omega), k2 j (by omega), k1 j hj]
      have T4 := hz.far (H' := H4) (n' := n4) (by omega) h3
      have fin2 : ∀ (t : Nat → AV) H2 n2, t 6 = B true → (∃ s' ia' ib' ja' jb', Next H4 n4 p q ia ib ja jb H2 n2 s' ia' ib' ja' jb') → C .ret t H2 n2 := fun t H2 n2 ht ⟨s', a1, a2, a3, a4, nx⟩ => fin t H2 n2 ht ⟨s', a1, a2, a3, a4, nx.after (by omega) h3⟩
      have hnn : n < n4 := by omega
      have hob : ∀ j, some b = some j → j < n4 ∧ j ∉ blocks p ia ib ∧ j ∉ blocks q ja jb := fun j hj => by
        cases hj
        exact ⟨by omega, fun e => by have := h.a.under e; omega, fun e => by have := h.b.under e; omega⟩
      have own4 : ∀ k, Own H4 40 eU (some b) (ys.take k) := fun k => Own.take (show Own H4 40 eU (some b) ys from ⟨rest, g1⟩) k
      have hwl := wrap_nat s.slots.length (by omega)
      have fini : ∀ (k : Nat) (cc : Option Nat) (t' : Nat → AV), k ≤ s.slots.length → t' 15 = .osl b 0 k cc → t' 0 = .own p 0 → t' 1 = .own q 0 → t' 5 = .own n 0 → Stk Try.prog T.T 189 (codes ((seqs body46).drop 9)) t' H4 n4 C := by
        intro k cc t' hk e15 e0 e1 e5
        have hkl : (ys.take k).length = k := by simp; omega
        exact same_tail T4 kd w i m hnn z4 na nb (own4 k) hob (by omega) (slc (some b) (ys.take k).length cc) rfl _ e0 e1 e5 (by rw [e15, hkl]; rfl) fin2
      have q1 : ¬ (s.slots.length : Int) < 0 := by omega
      have hlim : (s.slots.length : Int) ≤ s.slots.length + rest.length := by omega
      have hwp := wrap_pred (a := s.slots.length)
      have hlm : s.slots.length - 1 ≤ s.slots.length + rest.length := by omega
      have hlmi : ((s.slots.length - 1 : Nat) : Int) ≤ (s.slots.length : Int) + rest.length := by omega
      cases c with
      | none =>
        rcases hd2 with rfl | rfl
        · (try simp)
          iterate 3 (try (refine evS_sound (f := 12) ?_; simp [t15, t5, z4, partOf, hq1, hq2, w0, w1', w2', hwl, q1, natOk, g1, hyl, hlim]))
          exact fini s.slots.length _ _ (Nat.le_refl _) (by simp; rfl) (by simp [t0]) (by simp [t1']) (by simp [t5])
        · by_cases h0 : s.slots.length = 0
          · (try simp)
            iterate 3 (try (refine evS_sound (f := 12) ?_; simp [t15, t5, z4, partOf, hq1, hq2, w0, w1', w2', hwl, q1, natOk, g1, hyl, hlim, h0]))
            exact fini 0 _ _ (by omega) (by simp; rfl) (by simp [t0]) (by simp [t1']) (by simp [t5])
          · have hwq := hwp (by omega) (by omega)
            have q2 : ¬ ((s.slots.length - 1 : Nat) : Int) < 0 := by omega
            (try simp)
            iterate 3 (try (refine evS_sound (f := 12) ?_; simp [t15, t5, z4, partOf, hq1, hq2, w0, w1', w2', hwq, q2, natOk, g1, hyl, hlm, hlmi]))
            exact fini (s.slots.length - 1) _ _ (by omega) (by simp; rfl) (by simp [t0]) (by simp [t1']) (by simp [t5])
      | some cc =>
        have hcl := hcc cc rfl
        have hcl1 : s.slots.length - 1 ≤ cc := by omega
        rcases hd2 with rfl | rfl
        · (try simp)
          iterate 3 (try (refine evS_sound (f := 12) ?_; simp [t15, t5, z4, partOf, hq1, hq2, w0, w1', w2', hwl, q1, natOk, g1, hyl, hcl]))
          exact fini s.slots.length _ _ (Nat.le_refl _) (by simp; rfl) (by simp [t0]) (by simp [t1']) (by simp [t5])
        · by_cases h0 : s.slots.length = 0
          · (try simp)
            iterate 3 (try (refine evS_sound (f := 12) ?_; simp [t15, t5, z4, partOf, hq1, hq2, w0, w1', w2', hwl, q1, natOk, g1, hyl, hcl, h0]))
            exact fini 0 _ _ (by omega) (by simp; rfl) (by simp [t0]) (by simp [t1']) (by simp [t5])
          · have hwq := hwp (by omega) (by omega)
            have q2 : ¬ ((s.slots.length - 1 : Nat) : Int) < 0 := by omega
            (try simp)
            iterate 3 (try (refine evS_sound (f := 12) ?_; simp [t15, t5, z4, partOf, hq1, hq2, w0, w1', w2', hwq, q2, natOk, g1, hyl, hcl1]))
            exact fini (s.slots.length - 1) _ _ (by omega) (by simp; rfl) (by simp [t0]) (by simp [t1']) (by simp [t5])
end Go.Proofs.Ytfflojbgikfbmaa.Sta
