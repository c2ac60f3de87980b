/-
  Timers: how one is taken, and the statements' own small check.
-/
import Derived.Test.YtfbkgjmpadknfaaTmC
namespace Go.Proofs.Ytfbkgjmpadknfaa.Tim
open Go.Proofs.YtfbkgjmpadknfaaW.Ah
set_option maxRecDepth 4000
set_option linter.unusedVariables false
set_option linter.unusedSimpArgs false
attribute [local simp] T.t2 T.t3 T.t4 T.t22 T.t23 T.t28 T.t89 T.t90 T.t92 T.t148 Op.maxDepth List.range List.range.loop
attribute [-simp] appendAV cellsOf cellOk partOk
attribute [local simp] cellsOf_sc cellOk_sc partOk_sc cellsOf_own cellOk_own partOk_own cellsOf_osl cellOk_osl partOk_osl cellsOf_sh cellOk_sh partOk_sh cellsOf_ssl cellOk_ssl partOk_ssl cellsOf_esl cellOk_esl partOk_esl cellsOf_fn cellOk_fn partOk_fn cellsOf_omap cellOk_omap partOk_omap cellsOf_agg partOk_agg cellsOf_slv cellOk_slv partOk_slv

def cutL (ts : List Ti) : List Ti := downL (ts.length - 1) ((ts.set 0 (ts.getD (ts.length - 1) dT)).take (ts.length - 1)) 0

theorem downL_nil (f : Nat) (i : Nat) : downL f [] i = [] := List.length_eq_zero_iff.1 (by rw [downL_len]; rfl)

theorem cut {H : Mem} {n a : Nat} {ts : List Ti} {ys : List AV} (ha : H a = some (.cells (encs eT ts ++ ys) 28)) (han : a < n) (hl : ts.length ≤ 65536) (h0 : 0 < ts.length) :
    RunQ Try.prog T.T 93 [.osl a 0 ts.length none, I 0] H n (fun r H' n' => r = .osl a 0 (ts.length - 1) none ∧ n' = n ∧ Own H' 28 eT (some a) (cutL ts) ∧ ∀ j, j ≠ a → H' j = H j) := by
  have hw := wrap_pred (a := ts.length) (by omega) (by omega)
  obtain ⟨k, hk⟩ : ∃ k, k = ts.length - 1 := ⟨_, rfl⟩
  have hkl : k < ts.length := by omega
  have pK := part_own (e := eT) (z := 3) T.t28 rfl rfl ts ys k hkl
  obtain ⟨x, hx⟩ : ∃ x, x = ts[k] := ⟨_, rfl⟩
  rw [← hx] at pK
  have gK : ts.getD k dT = x := by simp [hkl, hx]
  have s1 := splice_own (e := eT) (z := 3) ts ys 0 h0 x
  simp [eT] at s1
  have r1 : 3 ≤ ts.length * 3 + ys.length := by omega
  have hlim : (k : Int) ≤ max ts.length ((ts.length * 3 + ys.length) / 3) := by omega
  have h0' : (0 : Int) < ts.length := by omega
  rw [← hk] at hw
  obtain ⟨us, hus⟩ : ∃ us, us = (ts.set 0 x).take k := ⟨_, rfl⟩
  have hul : us.length = k := by rw [hus]; simp; omega
  obtain ⟨vs, hvs⟩ : ∃ vs : List Ti, vs = (ts.set 0 x).drop k := ⟨_, rfl⟩
  have huv : encs eT (ts.set 0 x) ++ ys = encs eT us ++ (encs eT vs ++ ys) := by rw [← List.append_assoc, ← encs_append, hus, hvs, List.take_append_drop]
  have hc : cutL ts = downL k us 0 := by unfold cutL; rw [← hk, gK, ← hus]
  refine RunQ.ev 999 Try.func93 rfl rfl rfl rfl rfl fun C hr hn => ?_
  have hu0 : H a = some (.cells (encs eT ts ++ ys) 28) := ha
  by_cases hk0 : k = 0
  · have pK0 : partOf T.T 28 (encs eT ts ++ ys) 0 = some (.agg (eT x)) := by simpa [hk0] using pK
    simp [hw, hkl, h0, ha, pK0, s1, r1, natOk, hk0, hlim]
    have hus0 : us = [] := List.length_eq_zero_iff.1 (by omega)
    refine hr _ _ _ (.osl a 0 0 none) (by simp) ⟨by rw [← hk, hk0], rfl, ⟨encs eT (ts.set 0 x) ++ ys, by rw [hc, hus0, downL_nil]; simp [encs]⟩, fun j hj => by simp [hj]⟩
  · have hk0' : 0 < k := by omega
    simp [hw, hkl, h0, ha, pK, s1, r1, natOk, hk0', hlim]
    have hdn := down (upd H a (some (.cells (encs eT (ts.set 0 x) ++ ys) 28))) n a us (encs eT vs ++ ys) none 0 (by rw [upd_same, huv]) han (by omega) (by omega)
    rw [hul] at hdn
    refine Stk.callS 999 hdn rfl rfl rfl (by simp) ?_
    rintro v H2 n2 ⟨rfl, rfl, g1, g2⟩
    have hup := up H2 n2 a (downL k us 0) (encs eT vs ++ ys) none 0 g1 han (by rw [downL_len]; omega) (by rw [downL_len]; omega)
    rw [downL_len, hul] at hup
    simp
    refine Stk.callS 999 hup rfl rfl rfl (by simp) ?_
    rintro v H3 n3 ⟨rfl, rfl, g3, g4⟩
    simp
    refine hr _ _ _ (.osl a 0 k none) (by simp) ⟨by rw [← hk], rfl, ⟨encs eT vs ++ ys, by rw [hc, g3, upL_zero]⟩, fun j hj => by rw [g4 j hj, g2 j hj, upd_ne _ _ hj]⟩

theorem drop {H : Mem} {n p a : Nat} {s : Tm} (h : St H n p s (some a)) {x : Ti} {l : List Ti} (hx : s.ts = x :: l) :
    RunQ Try.prog T.T 78 [.own p 0, .agg (eT x)] H n (fun r H' n' => r = .tup [] ∧ Step H n p (some a) H' n' ⟨s.now, cutL s.ts, s.most, s.seq⟩ (some a)) := by
  have hp := h.hp
  have hlp := h.lp
  have hok := h.ok
  have hm := hok.most
  have hml := hok.len
  have hpn : ¬ p = n := by omega
  have han := (h.la a rfl).1
  have hap := (h.la a rfl).2
  have hpa : ¬ p = a := fun e => hap e.symm
  have hana : ¬ a = n := by omega
  have hp1 : p < n + 1 := by omega
  have ha1 : a < n + 1 := by omega
  obtain ⟨ys, ha⟩ := h.ha
  have hlen : s.ts.length = l.length + 1 := by rw [hx]; rfl
  have hi := idx (H := upd H n (some (.cells (eT x) 28))) (n := n + 1) (x := x) (l := l) (ys := ys) (c := none) (by rw [upd_ne _ _ hana, ha, hx]) ha1
  rw [← hlen] at hi
  refine RunQ.ev 999 Try.func78 rfl rfl rfl rfl rfl fun C hr hn => ?_
  simp at hp
  simp
  refine Stk.regionD 999 [.rd [], .rd [], .rd [], .rd [], .rd [p], .rd [], .rd [], .rd [], .rd [p], .rd [n], .mem [] (n + 1), .mem [a] (n + 1), .rd [], .rd [], .mem [p] (n + 1)] none (by kernel_rfl) (by rfl) rfl (by simp [below, *]) rfl ?_
  simp [hp, hpn, partOf]
  refine Stk.callSD 999 rfl ?_ hi rfl rfl rfl rfl (by simp) ?_
  · rintro v H1 n1 ⟨_, _, g⟩ j hj _
    exact g j hj
  rintro v H1 n1 ⟨rfl, g1, g2⟩
  have ha2 : H1 a = some (.cells (encs eT s.ts ++ ys) 28) := by rw [g2 a ha1, upd_ne _ _ hana, ha]
  simp
  refine Stk.callSD 999 rfl ?_ (cut ha2 (by omega) (by omega) (by omega)) rfl rfl rfl rfl (by simp) ?_
  · rintro v H2 n2 ⟨_, _, _, g⟩ j hj hj'
    exact g j (by simpa using hj')
  rintro v H2 n2 ⟨rfl, rfl, o2, g3⟩
  have hp2 : H2 p = some (.cells [I s.now, .osl a 0 s.ts.length none, I s.most, I s.seq] 92) := by rw [g3 p hpa, g2 p hp1, upd_ne _ _ hpn, hp]
  simp [hp2]
  refine ⟨fun j hj hj' e => absurd e hj', ?_⟩
  have hcl : (cutL s.ts).length = s.ts.length - 1 := by unfold cutL; rw [downL_len]; simp
  refine hn _ _ _ (.tup []) (by simp) ⟨rfl, ⟨by simp [hcl], o2.mono fun j hj => by cases hj; rw [upd_ne _ _ hap], by omega, fun j hj => ?_, ⟨hok.n0, hok.n1, hok.most, by simp only [hcl]; omega, hok.seq⟩⟩, by omega, fun j hj hjp hja => ?_, fun j hj => .inl hj⟩
  · cases hj; exact ⟨by omega, hap⟩
  · rw [upd_ne _ _ hjp, g3 j (fun e => hja (by rw [e])), g2 j (by omega), upd_ne _ _ (by omega)]

theorem take {H : Mem} {n p : Nat} {s : Tm} {ia : Option Nat} (h : St H n p s ia) {x : Ti} {l : List Ti} (hx : s.ts = x :: l) (hle : x.1 ≤ s.now) :
    RunQ Try.prog T.T 43 [.own p 0] H n (fun r H' n' => r = .tup [.agg (eT x), B true] ∧ Step H n p ia H' n' ⟨s.now, cutL s.ts, s.most, s.seq⟩ ia) := by
  cases ia with
  | none => have := h.ha; simp only [Own] at this; rw [this] at hx; cases hx
  | some a =>
    refine RunQ.ev 999 Try.func43 rfl rfl rfl rfl rfl fun C hr hn => ?_
    simp
    have hd := due (h.far (H' := upd H n (some (.cells [.sc (.int .i64 0), .sc (.int .i64 0), .sc (.int .i64 0)] 28))) (n' := n + 1) (by omega) (fun j hj => upd_ne _ _ (by omega)))
    refine Stk.callS 999 hd rfl rfl rfl (by simp) ?_
    rintro v H1 n1 ⟨hv, g1, g2⟩
    rw [hx] at hv
    simp [hle] at hv
    subst hv
    simp
    obtain ⟨H2, hH2⟩ : ∃ H2 : Mem, H2 = upd (upd H1 n1 (some (.cells [.sc (.int .i64 0), .sc (.int .i64 0), .sc (.int .i64 0)] 28))) n1 (some (.cells (eT x) 28)) := ⟨_, rfl⟩
    have h2j : ∀ j, j < n1 → H2 j = H1 j := fun j hj => by rw [hH2, upd_ne _ _ (by omega), upd_ne _ _ (by omega)]
    have h2x : H2 n1 = some (.cells (eT x) 28) := by rw [hH2, upd_same]
    have st2 : St H2 (n1 + 1) p s (some a) := h.far (by omega) (fun j hj => by rw [h2j j (by omega), g2 j (by omega), upd_ne _ _ (by omega)])
    have h2n : H2 n = some (.cells [.sc (.int .i64 0), .sc (.int .i64 0), .sc (.int .i64 0)] 28) := by rw [h2j n (by omega), g2 n (by omega), upd_same]
    rw [← hH2]
    refine Stk.callS 999 (drop st2 hx) rfl rfl rfl (by simp) ?_
    rintro v H3 n3 ⟨rfl, st3⟩
    have han := (h.la a rfl).1
    have h3x : H3 n1 = some (.cells (eT x) 28) := by rw [st3.keep n1 (by omega) (by have := h.lp; omega) (fun e => by cases e; omega), h2x]
    have h3n : H3 n = some (.cells [.sc (.int .i64 0), .sc (.int .i64 0), .sc (.int .i64 0)] 28) := by rw [st3.keep n (by omega) (by have := h.lp; omega) (fun e => by cases e; omega), h2n]
    simp [h3x, h3n, partOf]
    have := st3.le
    have hlp := h.lp
    refine hr _ _ _ (.tup [.agg (eT x), B true]) (by simp [partOf]) ⟨rfl, ⟨?_, st3.st.ha.mono fun j hj => ?_, st3.st.lp, st3.st.la, st3.st.ok⟩, by omega, fun j hj hjp hja => ?_, fun j hj => .inl hj⟩
    · rw [upd_ne _ _ (by omega)]; exact st3.st.hp
    · cases hj; rw [upd_ne _ _ (by omega)]
    · rw [upd_ne _ _ (by omega), st3.keep j (by omega) hjp hja, h2j j (by omega), g2 j (by omega), upd_ne _ _ (by omega)]
end Go.Proofs.Ytfbkgjmpadknfaa.Tim
