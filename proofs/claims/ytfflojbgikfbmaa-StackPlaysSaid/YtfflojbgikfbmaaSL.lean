/-
  One thing that is done with both.
-/
import Derived.Test.YtfflojbgikfbmaaSK
namespace Go.Proofs.Ytfflojbgikfbmaa.Sta
open Go.Proofs.YtfflojbgikfbmaaW.Ah
set_option maxRecDepth 4000
set_option linter.unusedVariables false
set_option linter.unusedSimpArgs false
attribute [local simp] T.t3 T.t4 T.t5 T.t26 T.t39 T.t40 T.t41 T.t47 T.t49 T.t73 T.t77 T.t79 T.t128 T.t130 T.t132 T.t135 T.t150 Op.maxDepth List.range List.range.loop
attribute [-simp] appendAV cellsOf cellOk partOk
attribute [local simp] cellsOf_sc cellOk_sc partOk_sc cellsOf_own cellOk_own partOk_own cellsOf_osl cellOk_osl partOk_osl cellsOf_sh cellOk_sh partOk_sh cellsOf_ssl cellOk_ssl partOk_ssl cellsOf_esl cellOk_esl partOk_esl cellsOf_fn cellOk_fn partOk_fn cellsOf_omap cellOk_omap partOk_omap cellsOf_agg partOk_agg cellsOf_slv cellOk_slv partOk_slv

abbrev eD (d : Int × Int × Int × Int) : List AV := [.sc (.int .u8 d.1), U d.2.1, I d.2.2.1, I d.2.2.2]
instance : Enc eD 4 := ⟨fun _ => rfl⟩


theorem same_push0 {H : Mem} {n p q : Nat} {s : Sk} {ia ib ja jb : Option Nat} (h : Two H n p q s ia ib ja jb) (kd w i m : Int) (hk : kd.tmod 10 = 0) :
    RunQ Try.prog T.T 46 [.own p 0, .own q 0, .agg [.sc (.int .u8 kd), U w, I i, I m]] H n (Fine H n p q ia ib ja jb) := by
  obtain ⟨Z, hZ⟩ : ∃ Z : Mem, Z = upd H n (some (.cells [.sc (.int .u8 kd), U w, I i, I m] 77)) := ⟨_, rfl⟩
  have hZk : ∀ j, j < n → Z j = H j := fun j hj => by rw [hZ, upd_ne _ _ (by omega)]
  have hz := h.far (n' := n + 1) (by omega) hZk
  have zn : Z n = some (.cells [.sc (.int .u8 kd), U w, I i, I m] 77) := by rw [hZ, upd_same]
  have na : n ∉ blocks p ia ib := fun hm => by have := h.a.under hm; omega
  have nb : n ∉ blocks q ja jb := fun hm => by have := h.b.under hm; omega
  refine RunQ.ev 40 Try.func46 rfl rfl rfl rfl rfl fun C hr hn => ?_
  have fin : ∀ (t : Nat → AV) H2 n2, t 6 = B true → (∃ s' ia' ib' ja' jb', Next Z (n + 1) p q ia ib ja jb H2 n2 s' ia' ib' ja' jb') → C .ret t H2 n2 := fun t H2 n2 ht ⟨s', a1, a2, a3, a4, nx⟩ => hr _ _ _ (B true) (by simp [ht]) ⟨rfl, s', a1, a2, a3, a4, nx.after (by omega) hZk⟩
  clear hr hn
  simp [hk]
  iterate 2 (try (refine evS_sound (f := 30) ?_; simp [hk]))
  rw [← hZ]
  refine Stk.regionD 30 [.rd [], .rd [], .rd [n], .mem (blocks p ia ib) (n + 1), .rd [], .rd [], .rd [n], .mem (blocks q ja jb) (n + 1), .rd [], .rd []] none (by kernel_rfl) (drawOk2_read [.rd [], .rd [], .rd [n], .mem (blocks p ia ib) (n + 1), .rd [], .rd [], .rd [], .mem (blocks q ja jb) (n + 1), .rd [], .rd []] 6 [n] (by intro c hc S b hS r hr; subst hS; simp at hc hr; subst hr; rcases hc with ⟨rfl, _⟩ | ⟨rfl, _⟩ <;> assumption) rfl (drawOk2_read [.rd [], .rd [], .rd [], .mem (blocks p ia ib) (n + 1), .rd [], .rd [], .rd [], .mem (blocks q ja jb) (n + 1), .rd [], .rd []] 2 [n] (by intro c hc S b hS r hr; subst hS; simp at hc hr; subst hr; rcases hc with ⟨rfl, _⟩ | ⟨rfl, _⟩ <;> assumption) rfl (by rfl))) rfl (by simp [below]) rfl ?_
  simp [zn]
  refine Stk.callSD 30 rfl ?_ (gPush hz.a w) rfl rfl rfl rfl (by simp) ?_
  · rintro v H' n' ⟨_, ia', ib', st⟩ j hj hm; exact st.kept hj hm
  rintro v H1 n1 ⟨rfl, ia1, ib1, st⟩
  have rt0 := hz.left st
  have zn1 : H1 n = _ := (st.kept (by omega) na).trans zn
  simp [zn1]
  refine Stk.callSD 30 rfl ?_ (rPush rt0 w) rfl rfl rfl rfl (by simp) ?_
  · rintro v H' n' ⟨_, ja', jb', rt⟩ j hj hm; exact rt.kept (by have := st.le; omega) hm
  rintro v H2 n2 ⟨rfl, ja1, jb1, rt⟩
  simp
  exact fin _ _ _ (by simp) ⟨_, ia1, ib1, ja1, jb1, hz.next st rt⟩

theorem same_push1 {H : Mem} {n p q : Nat} {s : Sk} {ia ib ja jb : Option Nat} (h : Two H n p q s ia ib ja jb) (kd w i m : Int) (hk : kd.tmod 10 = 1) :
    RunQ Try.prog T.T 46 [.own p 0, .own q 0, .agg [.sc (.int .u8 kd), U w, I i, I m]] H n (Fine H n p q ia ib ja jb) := by
  obtain ⟨Z, hZ⟩ : ∃ Z : Mem, Z = upd H n (some (.cells [.sc (.int .u8 kd), U w, I i, I m] 77)) := ⟨_, rfl⟩
  have hZk : ∀ j, j < n → Z j = H j := fun j hj => by rw [hZ, upd_ne _ _ (by omega)]
  have hz := h.far (n' := n + 1) (by omega) hZk
  have zn : Z n = some (.cells [.sc (.int .u8 kd), U w, I i, I m] 77) := by rw [hZ, upd_same]
  have na : n ∉ blocks p ia ib := fun hm => by have := h.a.under hm; omega
  have nb : n ∉ blocks q ja jb := fun hm => by have := h.b.under hm; omega
  refine RunQ.ev 40 Try.func46 rfl rfl rfl rfl rfl fun C hr hn => ?_
  have fin : ∀ (t : Nat → AV) H2 n2, t 6 = B true → (∃ s' ia' ib' ja' jb', Next Z (n + 1) p q ia ib ja jb H2 n2 s' ia' ib' ja' jb') → C .ret t H2 n2 := fun t H2 n2 ht ⟨s', a1, a2, a3, a4, nx⟩ => hr _ _ _ (B true) (by simp [ht]) ⟨rfl, s', a1, a2, a3, a4, nx.after (by omega) hZk⟩
  clear hr hn
  simp [hk]
  iterate 2 (try (refine evS_sound (f := 30) ?_; simp [hk]))
  rw [← hZ]
  refine Stk.regionD 30 [.rd [], .rd [], .rd [n], .mem (blocks p ia ib) (n + 1), .rd [], .rd [], .rd [n], .mem (blocks q ja jb) (n + 1), .rd [], .rd []] none (by kernel_rfl) (drawOk2_read [.rd [], .rd [], .rd [n], .mem (blocks p ia ib) (n + 1), .rd [], .rd [], .rd [], .mem (blocks q ja jb) (n + 1), .rd [], .rd []] 6 [n] (by intro c hc S b hS r hr; subst hS; simp at hc hr; subst hr; rcases hc with ⟨rfl, _⟩ | ⟨rfl, _⟩ <;> assumption) rfl (drawOk2_read [.rd [], .rd [], .rd [], .mem (blocks p ia ib) (n + 1), .rd [], .rd [], .rd [], .mem (blocks q ja jb) (n + 1), .rd [], .rd []] 2 [n] (by intro c hc S b hS r hr; subst hS; simp at hc hr; subst hr; rcases hc with ⟨rfl, _⟩ | ⟨rfl, _⟩ <;> assumption) rfl (by rfl))) rfl (by simp [below]) rfl ?_
  simp [zn]
  refine Stk.callSD 30 rfl ?_ (gPush hz.a w) rfl rfl rfl rfl (by simp) ?_
  · rintro v H' n' ⟨_, ia', ib', st⟩ j hj hm; exact st.kept hj hm
  rintro v H1 n1 ⟨rfl, ia1, ib1, st⟩
  have rt0 := hz.left st
  have zn1 : H1 n = _ := (st.kept (by omega) na).trans zn
  simp [zn1]
  refine Stk.callSD 30 rfl ?_ (rPush rt0 w) rfl rfl rfl rfl (by simp) ?_
  · rintro v H' n' ⟨_, ja', jb', rt⟩ j hj hm; exact rt.kept (by have := st.le; omega) hm
  rintro v H2 n2 ⟨rfl, ja1, jb1, rt⟩
  simp
  exact fin _ _ _ (by simp) ⟨_, ia1, ib1, ja1, jb1, hz.next st rt⟩

theorem same_pop {H : Mem} {n p q : Nat} {s : Sk} {ia ib ja jb : Option Nat} (h : Two H n p q s ia ib ja jb) (kd w i m : Int) (hk : kd.tmod 10 = 2) :
    RunQ Try.prog T.T 46 [.own p 0, .own q 0, .agg [.sc (.int .u8 kd), U w, I i, I m]] H n (Fine H n p q ia ib ja jb) := by
  obtain ⟨Z, hZ⟩ : ∃ Z : Mem, Z = upd H n (some (.cells [.sc (.int .u8 kd), U w, I i, I m] 77)) := ⟨_, rfl⟩
  have hZk : ∀ j, j < n → Z j = H j := fun j hj => by rw [hZ, upd_ne _ _ (by omega)]
  have hz := h.far (n' := n + 1) (by omega) hZk
  have zn : Z n = some (.cells [.sc (.int .u8 kd), U w, I i, I m] 77) := by rw [hZ, upd_same]
  have na : n ∉ blocks p ia ib := fun hm => by have := h.a.under hm; omega
  have nb : n ∉ blocks q ja jb := fun hm => by have := h.b.under hm; omega
  refine RunQ.ev 40 Try.func46 rfl rfl rfl rfl rfl fun C hr hn => ?_
  have fin : ∀ (t : Nat → AV) H2 n2, t 6 = B true → (∃ s' ia' ib' ja' jb', Next Z (n + 1) p q ia ib ja jb H2 n2 s' ia' ib' ja' jb') → C .ret t H2 n2 := fun t H2 n2 ht ⟨s', a1, a2, a3, a4, nx⟩ => hr _ _ _ (B true) (by simp [ht]) ⟨rfl, s', a1, a2, a3, a4, nx.after (by omega) hZk⟩
  clear hr hn
  simp [hk]
  iterate 2 (try (refine evS_sound (f := 30) ?_; simp [hk]))
  rw [← hZ]
  (try simp [zn])
  refine Stk.callS 30 (gPop hz.a) rfl rfl rfl (by simp) ?_
  rintro v H1 n1 ⟨rfl, ia1, ib1, st⟩
  have rt0 := hz.left st
  have zn1 : H1 n = _ := (st.kept (by omega) na).trans zn
  simp [zn1]
  refine Stk.callS 30 (rPop rt0) rfl rfl rfl (by simp) ?_
  rintro v H2 n2 ⟨rfl, ja1, jb1, rt⟩
  simp
  exact fin _ _ _ (by simp) ⟨_, ia1, ib1, ja1, jb1, hz.next st rt⟩

theorem same_get {H : Mem} {n p q : Nat} {s : Sk} {ia ib ja jb : Option Nat} (h : Two H n p q s ia ib ja jb) (kd w i m : Int) (hk : kd.tmod 10 = 3) :
    RunQ Try.prog T.T 46 [.own p 0, .own q 0, .agg [.sc (.int .u8 kd), U w, I i, I m]] H n (Fine H n p q ia ib ja jb) := by
  obtain ⟨Z, hZ⟩ : ∃ Z : Mem, Z = upd H n (some (.cells [.sc (.int .u8 kd), U w, I i, I m] 77)) := ⟨_, rfl⟩
  have hZk : ∀ j, j < n → Z j = H j := fun j hj => by rw [hZ, upd_ne _ _ (by omega)]
  have hz := h.far (n' := n + 1) (by omega) hZk
  have zn : Z n = some (.cells [.sc (.int .u8 kd), U w, I i, I m] 77) := by rw [hZ, upd_same]
  have na : n ∉ blocks p ia ib := fun hm => by have := h.a.under hm; omega
  have nb : n ∉ blocks q ja jb := fun hm => by have := h.b.under hm; omega
  refine RunQ.ev 40 Try.func46 rfl rfl rfl rfl rfl fun C hr hn => ?_
  have fin : ∀ (t : Nat → AV) H2 n2, t 6 = B true → (∃ s' ia' ib' ja' jb', Next Z (n + 1) p q ia ib ja jb H2 n2 s' ia' ib' ja' jb') → C .ret t H2 n2 := fun t H2 n2 ht ⟨s', a1, a2, a3, a4, nx⟩ => hr _ _ _ (B true) (by simp [ht]) ⟨rfl, s', a1, a2, a3, a4, nx.after (by omega) hZk⟩
  clear hr hn
  simp [hk]
  iterate 2 (try (refine evS_sound (f := 30) ?_; simp [hk]))
  rw [← hZ]
  (try simp [zn])
  refine Stk.callS 30 (gGet hz.a i) rfl rfl rfl (by simp) ?_
  rintro v H1 n1 ⟨rfl, ia1, ib1, st⟩
  have rt0 := hz.left st
  have zn1 : H1 n = _ := (st.kept (by omega) na).trans zn
  simp [zn1]
  refine Stk.callS 30 (rGet rt0 i) rfl rfl rfl (by simp) ?_
  rintro v H2 n2 ⟨rfl, ja1, jb1, rt⟩
  simp
  exact fin _ _ _ (by simp) ⟨_, ia1, ib1, ja1, jb1, hz.next st rt⟩

theorem same_set {H : Mem} {n p q : Nat} {s : Sk} {ia ib ja jb : Option Nat} (h : Two H n p q s ia ib ja jb) (kd w i m : Int) (hk : kd.tmod 10 = 4) :
    RunQ Try.prog T.T 46 [.own p 0, .own q 0, .agg [.sc (.int .u8 kd), U w, I i, I m]] H n (Fine H n p q ia ib ja jb) := by
  obtain ⟨Z, hZ⟩ : ∃ Z : Mem, Z = upd H n (some (.cells [.sc (.int .u8 kd), U w, I i, I m] 77)) := ⟨_, rfl⟩
  have hZk : ∀ j, j < n → Z j = H j := fun j hj => by rw [hZ, upd_ne _ _ (by omega)]
  have hz := h.far (n' := n + 1) (by omega) hZk
  have zn : Z n = some (.cells [.sc (.int .u8 kd), U w, I i, I m] 77) := by rw [hZ, upd_same]
  have na : n ∉ blocks p ia ib := fun hm => by have := h.a.under hm; omega
  have nb : n ∉ blocks q ja jb := fun hm => by have := h.b.under hm; omega
  refine RunQ.ev 40 Try.func46 rfl rfl rfl rfl rfl fun C hr hn => ?_
  have fin : ∀ (t : Nat → AV) H2 n2, t 6 = B true → (∃ s' ia' ib' ja' jb', Next Z (n + 1) p q ia ib ja jb H2 n2 s' ia' ib' ja' jb') → C .ret t H2 n2 := fun t H2 n2 ht ⟨s', a1, a2, a3, a4, nx⟩ => hr _ _ _ (B true) (by simp [ht]) ⟨rfl, s', a1, a2, a3, a4, nx.after (by omega) hZk⟩
  clear hr hn
  simp [hk]
  iterate 2 (try (refine evS_sound (f := 30) ?_; simp [hk]))
  rw [← hZ]
  refine Stk.regionD 30 [.rd [], .rd [], .rd [n], .rd [], .rd [n], .mem (blocks p ia ib) (n + 1), .rd [], .rd [], .rd [n], .rd [], .rd [n], .mem (blocks q ja jb) (n + 1), .rd [], .rd []] none (by kernel_rfl) (drawOk2_read [.rd [], .rd [], .rd [n], .rd [], .rd [n], .mem (blocks p ia ib) (n + 1), .rd [], .rd [], .rd [n], .rd [], .rd [], .mem (blocks q ja jb) (n + 1), .rd [], .rd []] 10 [n] (by intro c hc S b hS r hr; subst hS; simp at hc hr; subst hr; rcases hc with ⟨rfl, _⟩ | ⟨rfl, _⟩ <;> assumption) rfl (drawOk2_read [.rd [], .rd [], .rd [n], .rd [], .rd [n], .mem (blocks p ia ib) (n + 1), .rd [], .rd [], .rd [], .rd [], .rd [], .mem (blocks q ja jb) (n + 1), .rd [], .rd []] 8 [n] (by intro c hc S b hS r hr; subst hS; simp at hc hr; subst hr; rcases hc with ⟨rfl, _⟩ | ⟨rfl, _⟩ <;> assumption) rfl (drawOk2_read [.rd [], .rd [], .rd [n], .rd [], .rd [], .mem (blocks p ia ib) (n + 1), .rd [], .rd [], .rd [], .rd [], .rd [], .mem (blocks q ja jb) (n + 1), .rd [], .rd []] 4 [n] (by intro c hc S b hS r hr; subst hS; simp at hc hr; subst hr; rcases hc with ⟨rfl, _⟩ | ⟨rfl, _⟩ <;> assumption) rfl (drawOk2_read [.rd [], .rd [], .rd [], .rd [], .rd [], .mem (blocks p ia ib) (n + 1), .rd [], .rd [], .rd [], .rd [], .rd [], .mem (blocks q ja jb) (n + 1), .rd [], .rd []] 2 [n] (by intro c hc S b hS r hr; subst hS; simp at hc hr; subst hr; rcases hc with ⟨rfl, _⟩ | ⟨rfl, _⟩ <;> assumption) rfl (by rfl))))) rfl (by simp [below]) rfl ?_
  simp [zn]
  refine Stk.callSD 30 rfl ?_ (gSet hz.a i w) rfl rfl rfl rfl (by simp) ?_
  · rintro v H' n' ⟨_, ia', ib', st⟩ j hj hm; exact st.kept hj hm
  rintro v H1 n1 ⟨rfl, ia1, ib1, st⟩
  have rt0 := hz.left st
  have zn1 : H1 n = _ := (st.kept (by omega) na).trans zn
  simp [zn1]
  refine Stk.callSD 30 rfl ?_ (rSet rt0 i w) rfl rfl rfl rfl (by simp) ?_
  · rintro v H' n' ⟨_, ja', jb', rt⟩ j hj hm; exact rt.kept (by have := st.le; omega) hm
  rintro v H2 n2 ⟨rfl, ja1, jb1, rt⟩
  simp
  exact fin _ _ _ (by simp) ⟨_, ia1, ib1, ja1, jb1, hz.next st rt⟩

theorem same_slide {H : Mem} {n p q : Nat} {s : Sk} {ia ib ja jb : Option Nat} (h : Two H n p q s ia ib ja jb) (kd w i m : Int) (hk : kd.tmod 10 = 5) :
    RunQ Try.prog T.T 46 [.own p 0, .own q 0, .agg [.sc (.int .u8 kd), U w, I i, I m]] H n (Fine H n p q ia ib ja jb) := by
  obtain ⟨Z, hZ⟩ : ∃ Z : Mem, Z = upd H n (some (.cells [.sc (.int .u8 kd), U w, I i, I m] 77)) := ⟨_, rfl⟩
  have hZk : ∀ j, j < n → Z j = H j := fun j hj => by rw [hZ, upd_ne _ _ (by omega)]
  have hz := h.far (n' := n + 1) (by omega) hZk
  have zn : Z n = some (.cells [.sc (.int .u8 kd), U w, I i, I m] 77) := by rw [hZ, upd_same]
  have na : n ∉ blocks p ia ib := fun hm => by have := h.a.under hm; omega
  have nb : n ∉ blocks q ja jb := fun hm => by have := h.b.under hm; omega
  refine RunQ.ev 40 Try.func46 rfl rfl rfl rfl rfl fun C hr hn => ?_
  have fin : ∀ (t : Nat → AV) H2 n2, t 6 = B true → (∃ s' ia' ib' ja' jb', Next Z (n + 1) p q ia ib ja jb H2 n2 s' ia' ib' ja' jb') → C .ret t H2 n2 := fun t H2 n2 ht ⟨s', a1, a2, a3, a4, nx⟩ => hr _ _ _ (B true) (by simp [ht]) ⟨rfl, s', a1, a2, a3, a4, nx.after (by omega) hZk⟩
  clear hr hn
  simp [hk]
  iterate 2 (try (refine evS_sound (f := 30) ?_; simp [hk]))
  rw [← hZ]
  refine Stk.regionD 30 [.rd [], .rd [], .rd [n], .mem (blocks p ia ib) (n + 1), .rd [], .rd [], .rd [n], .mem (blocks q ja jb) (n + 1), .rd [], .rd []] none (by kernel_rfl) (drawOk2_read [.rd [], .rd [], .rd [n], .mem (blocks p ia ib) (n + 1), .rd [], .rd [], .rd [], .mem (blocks q ja jb) (n + 1), .rd [], .rd []] 6 [n] (by intro c hc S b hS r hr; subst hS; simp at hc hr; subst hr; rcases hc with ⟨rfl, _⟩ | ⟨rfl, _⟩ <;> assumption) rfl (drawOk2_read [.rd [], .rd [], .rd [], .mem (blocks p ia ib) (n + 1), .rd [], .rd [], .rd [], .mem (blocks q ja jb) (n + 1), .rd [], .rd []] 2 [n] (by intro c hc S b hS r hr; subst hS; simp at hc hr; subst hr; rcases hc with ⟨rfl, _⟩ | ⟨rfl, _⟩ <;> assumption) rfl (by rfl))) rfl (by simp [below]) rfl ?_
  simp [zn]
  refine Stk.callSD 30 rfl ?_ (gSlide hz.a i) rfl rfl rfl rfl (by simp) ?_
  · rintro v H' n' ⟨_, ia', ib', st⟩ j hj hm; exact st.kept hj hm
  rintro v H1 n1 ⟨rfl, ia1, ib1, st⟩
  have rt0 := hz.left st
  have zn1 : H1 n = _ := (st.kept (by omega) na).trans zn
  simp [zn1]
  refine Stk.callSD 30 rfl ?_ (rSlide rt0 i) rfl rfl rfl rfl (by simp) ?_
  · rintro v H' n' ⟨_, ja', jb', rt⟩ j hj hm; exact rt.kept (by have := st.le; omega) hm
  rintro v H2 n2 ⟨rfl, ja1, jb1, rt⟩
  simp
  exact fin _ _ _ (by simp) ⟨_, ia1, ib1, ja1, jb1, hz.next st rt⟩

theorem same_enter {H : Mem} {n p q : Nat} {s : Sk} {ia ib ja jb : Option Nat} (h : Two H n p q s ia ib ja jb) (kd w i m : Int) (hk : kd.tmod 10 = 6) :
    RunQ Try.prog T.T 46 [.own p 0, .own q 0, .agg [.sc (.int .u8 kd), U w, I i, I m]] H n (Fine H n p q ia ib ja jb) := by
  obtain ⟨Z, hZ⟩ : ∃ Z : Mem, Z = upd H n (some (.cells [.sc (.int .u8 kd), U w, I i, I m] 77)) := ⟨_, rfl⟩
  have hZk : ∀ j, j < n → Z j = H j := fun j hj => by rw [hZ, upd_ne _ _ (by omega)]
  have hz := h.far (n' := n + 1) (by omega) hZk
  have zn : Z n = some (.cells [.sc (.int .u8 kd), U w, I i, I m] 77) := by rw [hZ, upd_same]
  have na : n ∉ blocks p ia ib := fun hm => by have := h.a.under hm; omega
  have nb : n ∉ blocks q ja jb := fun hm => by have := h.b.under hm; omega
  refine RunQ.ev 40 Try.func46 rfl rfl rfl rfl rfl fun C hr hn => ?_
  have fin : ∀ (t : Nat → AV) H2 n2, t 6 = B true → (∃ s' ia' ib' ja' jb', Next Z (n + 1) p q ia ib ja jb H2 n2 s' ia' ib' ja' jb') → C .ret t H2 n2 := fun t H2 n2 ht ⟨s', a1, a2, a3, a4, nx⟩ => hr _ _ _ (B true) (by simp [ht]) ⟨rfl, s', a1, a2, a3, a4, nx.after (by omega) hZk⟩
  clear hr hn
  simp [hk]
  iterate 2 (try (refine evS_sound (f := 30) ?_; simp [hk]))
  rw [← hZ]
  refine Stk.regionD 30 [.rd [], .rd [], .rd [n], .rd [], .rd [n], .mem (blocks p ia ib) (n + 1), .rd [], .rd [], .rd [n], .rd [], .rd [n], .mem (blocks q ja jb) (n + 1), .rd [], .rd []] none (by kernel_rfl) (drawOk2_read [.rd [], .rd [], .rd [n], .rd [], .rd [n], .mem (blocks p ia ib) (n + 1), .rd [], .rd [], .rd [n], .rd [], .rd [], .mem (blocks q ja jb) (n + 1), .rd [], .rd []] 10 [n] (by intro c hc S b hS r hr; subst hS; simp at hc hr; subst hr; rcases hc with ⟨rfl, _⟩ | ⟨rfl, _⟩ <;> assumption) rfl (drawOk2_read [.rd [], .rd [], .rd [n], .rd [], .rd [n], .mem (blocks p ia ib) (n + 1), .rd [], .rd [], .rd [], .rd [], .rd [], .mem (blocks q ja jb) (n + 1), .rd [], .rd []] 8 [n] (by intro c hc S b hS r hr; subst hS; simp at hc hr; subst hr; rcases hc with ⟨rfl, _⟩ | ⟨rfl, _⟩ <;> assumption) rfl (drawOk2_read [.rd [], .rd [], .rd [n], .rd [], .rd [], .mem (blocks p ia ib) (n + 1), .rd [], .rd [], .rd [], .rd [], .rd [], .mem (blocks q ja jb) (n + 1), .rd [], .rd []] 4 [n] (by intro c hc S b hS r hr; subst hS; simp at hc hr; subst hr; rcases hc with ⟨rfl, _⟩ | ⟨rfl, _⟩ <;> assumption) rfl (drawOk2_read [.rd [], .rd [], .rd [], .rd [], .rd [], .mem (blocks p ia ib) (n + 1), .rd [], .rd [], .rd [], .rd [], .rd [], .mem (blocks q ja jb) (n + 1), .rd [], .rd []] 2 [n] (by intro c hc S b hS r hr; subst hS; simp at hc hr; subst hr; rcases hc with ⟨rfl, _⟩ | ⟨rfl, _⟩ <;> assumption) rfl (by rfl))))) rfl (by simp [below]) rfl ?_
  simp [zn]
  refine Stk.callSD 30 rfl ?_ (gEnter hz.a m i) rfl rfl rfl rfl (by simp) ?_
  · rintro v H' n' ⟨_, ia', ib', st⟩ j hj hm; exact st.kept hj hm
  rintro v H1 n1 ⟨rfl, ia1, ib1, st⟩
  have rt0 := hz.left st
  have zn1 : H1 n = _ := (st.kept (by omega) na).trans zn
  simp [zn1]
  refine Stk.callSD 30 rfl ?_ (rEnter rt0 m i) rfl rfl rfl rfl (by simp) ?_
  · rintro v H' n' ⟨_, ja', jb', rt⟩ j hj hm; exact rt.kept (by have := st.le; omega) hm
  rintro v H2 n2 ⟨rfl, ja1, jb1, rt⟩
  simp
  exact fin _ _ _ (by simp) ⟨_, ia1, ib1, ja1, jb1, hz.next st rt⟩

theorem same_leave {H : Mem} {n p q : Nat} {s : Sk} {ia ib ja jb : Option Nat} (h : Two H n p q s ia ib ja jb) (kd w i m : Int) (hk : kd.tmod 10 = 7) :
    RunQ Try.prog T.T 46 [.own p 0, .own q 0, .agg [.sc (.int .u8 kd), U w, I i, I m]] H n (Fine H n p q ia ib ja jb) := by
  obtain ⟨Z, hZ⟩ : ∃ Z : Mem, Z = upd H n (some (.cells [.sc (.int .u8 kd), U w, I i, I m] 77)) := ⟨_, rfl⟩
  have hZk : ∀ j, j < n → Z j = H j := fun j hj => by rw [hZ, upd_ne _ _ (by omega)]
  have hz := h.far (n' := n + 1) (by omega) hZk
  have zn : Z n = some (.cells [.sc (.int .u8 kd), U w, I i, I m] 77) := by rw [hZ, upd_same]
  have na : n ∉ blocks p ia ib := fun hm => by have := h.a.under hm; omega
  have nb : n ∉ blocks q ja jb := fun hm => by have := h.b.under hm; omega
  refine RunQ.ev 40 Try.func46 rfl rfl rfl rfl rfl fun C hr hn => ?_
  have fin : ∀ (t : Nat → AV) H2 n2, t 6 = B true → (∃ s' ia' ib' ja' jb', Next Z (n + 1) p q ia ib ja jb H2 n2 s' ia' ib' ja' jb') → C .ret t H2 n2 := fun t H2 n2 ht ⟨s', a1, a2, a3, a4, nx⟩ => hr _ _ _ (B true) (by simp [ht]) ⟨rfl, s', a1, a2, a3, a4, nx.after (by omega) hZk⟩
  clear hr hn
  simp [hk]
  iterate 2 (try (refine evS_sound (f := 30) ?_; simp [hk]))
  rw [← hZ]
  (try simp [zn])
  refine Stk.callS 30 (gLeave hz.a) rfl rfl rfl (by simp) ?_
  rintro v H1 n1 ⟨rfl, ia1, ib1, st⟩
  have rt0 := hz.left st
  have zn1 : H1 n = _ := (st.kept (by omega) na).trans zn
  simp [zn1]
  refine Stk.callS 30 (rLeave rt0) rfl rfl rfl (by simp) ?_
  rintro v H2 n2 ⟨rfl, ja1, jb1, rt⟩
  simp
  exact fin _ _ _ (by simp) ⟨_, ia1, ib1, ja1, jb1, hz.next st rt⟩

theorem same_cut {H : Mem} {n p q : Nat} {s : Sk} {ia ib ja jb : Option Nat} (h : Two H n p q s ia ib ja jb) (kd w i m : Int) (hk : kd.tmod 10 = 9) :
    RunQ Try.prog T.T 46 [.own p 0, .own q 0, .agg [.sc (.int .u8 kd), U w, I i, I m]] H n (Fine H n p q ia ib ja jb) := by
  obtain ⟨Z, hZ⟩ : ∃ Z : Mem, Z = upd H n (some (.cells [.sc (.int .u8 kd), U w, I i, I m] 77)) := ⟨_, rfl⟩
  have hZk : ∀ j, j < n → Z j = H j := fun j hj => by rw [hZ, upd_ne _ _ (by omega)]
  have hz := h.far (n' := n + 1) (by omega) hZk
  have zn : Z n = some (.cells [.sc (.int .u8 kd), U w, I i, I m] 77) := by rw [hZ, upd_same]
  have na : n ∉ blocks p ia ib := fun hm => by have := h.a.under hm; omega
  have nb : n ∉ blocks q ja jb := fun hm => by have := h.b.under hm; omega
  refine RunQ.ev 40 Try.func46 rfl rfl rfl rfl rfl fun C hr hn => ?_
  have fin : ∀ (t : Nat → AV) H2 n2, t 6 = B true → (∃ s' ia' ib' ja' jb', Next Z (n + 1) p q ia ib ja jb H2 n2 s' ia' ib' ja' jb') → C .ret t H2 n2 := fun t H2 n2 ht ⟨s', a1, a2, a3, a4, nx⟩ => hr _ _ _ (B true) (by simp [ht]) ⟨rfl, s', a1, a2, a3, a4, nx.after (by omega) hZk⟩
  clear hr hn
  simp [hk]
  iterate 2 (try (refine evS_sound (f := 30) ?_; simp [hk]))
  rw [← hZ]
  refine Stk.regionD 30 [.rd [], .rd [], .rd [n], .rd [], .rd [n], .mem (blocks p ia ib) (n + 1), .rd [], .rd [], .rd [n], .rd [], .rd [n], .mem (blocks q ja jb) (n + 1), .rd [], .rd []] none (by kernel_rfl) (drawOk2_read [.rd [], .rd [], .rd [n], .rd [], .rd [n], .mem (blocks p ia ib) (n + 1), .rd [], .rd [], .rd [n], .rd [], .rd [], .mem (blocks q ja jb) (n + 1), .rd [], .rd []] 10 [n] (by intro c hc S b hS r hr; subst hS; simp at hc hr; subst hr; rcases hc with ⟨rfl, _⟩ | ⟨rfl, _⟩ <;> assumption) rfl (drawOk2_read [.rd [], .rd [], .rd [n], .rd [], .rd [n], .mem (blocks p ia ib) (n + 1), .rd [], .rd [], .rd [], .rd [], .rd [], .mem (blocks q ja jb) (n + 1), .rd [], .rd []] 8 [n] (by intro c hc S b hS r hr; subst hS; simp at hc hr; subst hr; rcases hc with ⟨rfl, _⟩ | ⟨rfl, _⟩ <;> assumption) rfl (drawOk2_read [.rd [], .rd [], .rd [n], .rd [], .rd [], .mem (blocks p ia ib) (n + 1), .rd [], .rd [], .rd [], .rd [], .rd [], .mem (blocks q ja jb) (n + 1), .rd [], .rd []] 4 [n] (by intro c hc S b hS r hr; subst hS; simp at hc hr; subst hr; rcases hc with ⟨rfl, _⟩ | ⟨rfl, _⟩ <;> assumption) rfl (drawOk2_read [.rd [], .rd [], .rd [], .rd [], .rd [], .mem (blocks p ia ib) (n + 1), .rd [], .rd [], .rd [], .rd [], .rd [], .mem (blocks q ja jb) (n + 1), .rd [], .rd []] 2 [n] (by intro c hc S b hS r hr; subst hS; simp at hc hr; subst hr; rcases hc with ⟨rfl, _⟩ | ⟨rfl, _⟩ <;> assumption) rfl (by rfl))))) rfl (by simp [below]) rfl ?_
  simp [zn]
  refine Stk.callSD 30 rfl ?_ (gCut hz.a i m) rfl rfl rfl rfl (by simp) ?_
  · rintro v H' n' ⟨_, ia', ib', st⟩ j hj hm; exact st.kept hj hm
  rintro v H1 n1 ⟨rfl, ia1, ib1, st⟩
  have rt0 := hz.left st
  have zn1 : H1 n = _ := (st.kept (by omega) na).trans zn
  simp [zn1]
  refine Stk.callSD 30 rfl ?_ (rCut rt0 i m) rfl rfl rfl rfl (by simp) ?_
  · rintro v H' n' ⟨_, ja', jb', rt⟩ j hj hm; exact rt.kept (by have := st.le; omega) hm
  rintro v H2 n2 ⟨rfl, ja1, jb1, rt⟩
  simp
  exact fin _ _ _ (by simp) ⟨_, ia1, ib1, ja1, jb1, hz.next st rt⟩
end Go.Proofs.Ytfflojbgikfbmaa.Sta
