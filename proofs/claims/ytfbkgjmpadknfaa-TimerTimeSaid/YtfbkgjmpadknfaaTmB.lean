/-
  Timers: what each method does.
-/
import Derived.Test.YtfbkgjmpadknfaaTmA
namespace Go.Proofs.Ytfbkgjmpadknfaa.Tim
open Go.Proofs.YtfbkgjmpadknfaaW.Ah
set_option maxRecDepth 4000
set_option linter.unusedVariables false
set_option linter.unusedSimpArgs false
attribute [local simp] T.t2 T.t3 T.t4 T.t22 T.t23 T.t28 T.t89 T.t90 T.t92 T.t148 Op.maxDepth List.range List.range.loop
attribute [-simp] appendAV cellsOf cellOk partOk
attribute [local simp] cellsOf_sc cellOk_sc partOk_sc cellsOf_own cellOk_own partOk_own cellsOf_osl cellOk_osl partOk_osl cellsOf_sh cellOk_sh partOk_sh cellsOf_ssl cellOk_ssl partOk_ssl cellsOf_esl cellOk_esl partOk_esl cellsOf_fn cellOk_fn partOk_fn cellsOf_omap cellOk_omap partOk_omap cellsOf_agg partOk_agg cellsOf_slv cellOk_slv partOk_slv

abbrev MC : Int := 4611686018427387903
def later (now d : Int) : Int := if now > MC - max d 0 then MC else now + max d 0

theorem laterF (now d : Int) (h0 : 0 ≤ now) (h1 : now ≤ MC) (h2 : d < 9223372036854775808) : RunF Try.prog T.T 59 [.agg [I now], I d] (I (later now d)) := by
  refine RunF.ev 999 Try.func59 rfl rfl rfl rfl rfl fun C hr hn => ?_
  unfold MC at h1
  by_cases h : d < 0
  · have e1 : IntKind.i64.wrap 4611686018427387903 = 4611686018427387903 := by decide
    have e2 : IntKind.i64.wrap now = now := wrap64_id (by omega) (by omega)
    have e3 : ¬ 4611686018427387903 < now := by omega
    have hl : later now d = now := by unfold later MC; split <;> omega
    simp [h, e1, e2, e3]
    exact hr _ _ _ (by simp [hl, e2])
  · have e1 : IntKind.i64.wrap (4611686018427387903 - d) = 4611686018427387903 - d := wrap64_id (by omega) (by omega)
    by_cases h3 : 4611686018427387903 - d < now
    · have hl : later now d = 4611686018427387903 := by unfold later MC; split <;> omega
      simp [h, e1, h3]
      exact hr _ _ _ (by simp [hl])
    · have e2 : IntKind.i64.wrap (now + d) = now + d := wrap64_id (by omega) (by omega)
      have hl : later now d = now + d := by unfold later MC; split <;> omega
      simp [h, e1, h3, e2]
      exact hr _ _ _ (by simp [hl, e2])

structure Tm where
  now : Int
  ts : List Ti
  most : Nat
  seq : Nat

structure Tm.Ok (s : Tm) : Prop where
  n0 : 0 ≤ s.now
  n1 : s.now ≤ MC
  most : s.most ≤ 32
  len : s.ts.length ≤ s.most
  seq : s.seq ≤ 1000000

structure St (H : Mem) (n p : Nat) (s : Tm) (ia : Option Nat) : Prop where
  hp : H p = some (.cells [I s.now, slv ia s.ts.length, I s.most, I s.seq] 92)
  ha : Own H 28 eT ia s.ts
  lp : p < n
  la : ∀ i, ia = some i → i < n ∧ i ≠ p
  ok : s.Ok

theorem St.far {H H' : Mem} {n n' p : Nat} {s : Tm} {ia : Option Nat} (h : St H n p s ia) (hn : n ≤ n') (hk : ∀ j, j < n → H' j = H j) : St H' n' p s ia :=
  ⟨by rw [hk p h.lp, h.hp], h.ha.mono fun i hi => hk i (h.la i hi).1, by have := h.lp; omega, fun i hi => ⟨by have := (h.la i hi).1; omega, (h.la i hi).2⟩, h.ok⟩

structure Step (H : Mem) (n p : Nat) (ia : Option Nat) (H' : Mem) (n' : Nat) (s' : Tm) (ia' : Option Nat) : Prop where
  st : St H' n' p s' ia'
  le : n ≤ n'
  keep : ∀ j, j < n → j ≠ p → ia ≠ some j → H' j = H j
  fa : ∀ i, ia' = some i → ia = some i ∨ n ≤ i

theorem new (H : Mem) (n : Nat) (m : Nat) (h1 : m ≤ 32) :
    RunQ Try.prog T.T 12 [I m] H n (fun r H' n' => ∃ p, r = .tup [.own p 0, I 0] ∧ n ≤ p ∧ p < n' ∧ (∀ j, j < n → H' j = H j) ∧ St H' n' p ⟨0, [], m, 0⟩ none) := by
  refine RunQ.ev 999 Try.func12 rfl rfl rfl rfl rfl fun C hr hn => ?_
  have e1 : ¬ (m : Int) < 0 := by omega
  have e2 : ¬ 32 < (m : Int) := by omega
  have e3 : ¬ 32 < m := by omega
  simp [e1, e2, e3]
  refine hr _ _ _ _ (by simp) ⟨n, rfl, Nat.le_refl _, by omega, fun j hj => upd_ne _ _ (by omega), ?_⟩
  constructor
  · simp [upd]
  · rfl
  · omega
  · intro i h; cases h
  · exact ⟨by simp, by simp [MC], h1, by simp, by simp⟩

theorem now {H : Mem} {n p : Nat} {s : Tm} {ia : Option Nat} (h : St H n p s ia) :
    RunQ Try.prog T.T 16 [.own p 0] H n (fun r H' n' => r = I s.now ∧ H' = H ∧ n' = n) := by
  have hp := h.hp
  refine RunQ.ev 999 Try.func16 rfl rfl rfl rfl rfl fun C hr hn => ?_
  simp [hp]
  exact hr _ _ _ (I s.now) (by simp) ⟨rfl, rfl, rfl⟩

theorem later_ok (now d : Int) (h0 : 0 ≤ now) (h1 : now ≤ MC) : 0 ≤ later now d ∧ later now d ≤ MC ∧ now ≤ later now d := by
  unfold later
  unfold MC at *
  split <;> omega

theorem tick {H : Mem} {n p : Nat} {s : Tm} {ia : Option Nat} (h : St H n p s ia) (d : Int) (hd : d < 9223372036854775808) :
    RunQ Try.prog T.T 13 [.own p 0, I d] H n (fun r H' n' => r = I 0 ∧ Step H n p ia H' n' ⟨later s.now d, s.ts, s.most, s.seq⟩ ia) := by
  have hp := h.hp
  have hok := h.ok
  refine RunQ.ev 999 Try.func13 rfl rfl rfl rfl rfl fun C hr hn => ?_
  simp [hp]
  refine Stk.callF 999 (laterF s.now d hok.n0 hok.n1 hd) rfl rfl rfl (by simp) rfl rfl ?_
  simp [hp]
  have hl := later_ok s.now d hok.n0 hok.n1
  refine hr _ _ _ (I 0) (by simp) ⟨rfl, ⟨by simp, h.ha.mono fun j hj => ?_, h.lp, h.la, ⟨hl.1, hl.2.1, hok.most, hok.len, hok.seq⟩⟩, Nat.le_refl _, fun j hj hjp _ => by simp [hjp], fun _ hj => .inl hj⟩
  simp [(h.la j hj).2]

/-- The timers get one more. -/
theorem more {H : Mem} {n : Nat} {o : Option Nat} {xs : List Ti} (ho : Own H 28 eT o xs) (hn : ∀ i, o = some i → i < n) (hl : xs.length ≤ 65536) (x : Ti) :
    ∃ i H' n', appendAV T.T (upd H n (some (.cells (eT x) 28))) (n + 1) 90 (slv o xs.length) (.osl n 0 1 (some 1)) = some (.osl i 0 (xs.length + 1) none, H', n') ∧ Own H' 28 eT (some i) (xs ++ [x]) ∧ n ≤ n' ∧ (o = some i ∨ n ≤ i) ∧ i < n' ∧ (∀ j, j < n → o ≠ some j → H' j = H j) := by
  obtain ⟨o', H', n', e1, o1, le1, f1, k1⟩ := append_own (e := eT) (z := 3) T.t90 rfl T.t28 rfl (by decide) rfl (by decide) (H := upd H n (some (.cells (eT x) 28))) (n := n + 1) (o := o) (xs := xs)
    (ho.mono fun i hi => upd_ne _ _ (by have := hn i hi; omega)) (fun i hi => by have := hn i hi; omega) (y := .osl n 0 1 (some 1)) [x] (by simp [encs, eT]) rfl (by simp [roomMax]; omega) (by simp [roomMax]; omega)
  cases o' with
  | none => simp [Own] at o1
  | some i =>
    have := f1 i rfl
    refine ⟨i, H', n', by simpa using e1, o1, by omega, ?_, this.2, fun j hj hne => by rw [k1 j (by omega) hne, upd_ne _ _ (by omega)]⟩
    rcases this.1 with h | h
    · exact .inl h
    · exact .inr (by omega)

theorem due {H : Mem} {n p : Nat} {s : Tm} {ia : Option Nat} (h : St H n p s ia) :
    RunQ Try.prog T.T 15 [.own p 0] H n (fun r H' n' => (match s.ts with | x :: _ => if x.1 ≤ s.now then r = .tup [.agg (eT x), B true] else r = .tup [.agg (eT dT), B false] | [] => r = .tup [.agg (eT dT), B false]) ∧ n ≤ n' ∧ ∀ j, j < n → H' j = H j) := by
  have hp := h.hp
  have hlp := h.lp
  have hok := h.ok
  have hpn : ¬ p = n := by omega
  refine RunQ.ev 999 Try.func15 rfl rfl rfl rfl rfl fun C hr hn => ?_
  cases hts : s.ts with
  | nil =>
    have fin : ∀ (t : Nat → AV) H2 n2, t 2 = .own n 0 → t 3 = B false → H2 n = some (.cells [I 0, I 0, I 0] 28) → n < n2 → (∀ j, j < n → H2 j = H j) → C .ret t H2 n2 := by
      intro t H2 n2 g2 g3 g4 g5 g6
      refine hr _ _ _ (.tup [.agg (eT dT), B false]) (by simp [g2, g3, g4, partOf, dT]) ⟨by rw [hts], by omega, g6⟩
    cases ia with
    | none =>
      simp
      refine Stk.regionD 999 [.rd [], .rd [], .rd [], .rd [], .rd [], .rd [], .rd [p], .rd [], .rd [], .rd [], .rd [], .rd [], .rd [], .rd [], .rd [], .rd [], .rd [], .rd [], .rd [], .rd [], .rd [], .rd [], .rd [], .rd [], .rd []] none (by kernel_rfl) (by rfl) rfl (by simp [below, *]) rfl ?_
      simp [hp, hpn, hts]
      exact fin _ _ _ (by simp) (by simp) (by simp) (by omega) (fun j hj => by simp [show j ≠ n by omega])
    | some a =>
      simp
      refine Stk.regionD 999 [.rd [], .rd [], .rd [], .rd [], .rd [], .rd [], .rd [p], .rd [], .rd [], .rd [], .rd [], .rd [], .rd [], .rd [], .rd [], .rd [], .rd [], .rd [], .rd [], .rd [], .rd [], .rd [], .rd [], .rd [], .rd []] none (by kernel_rfl) (by rfl) rfl (by simp [below, *]) rfl ?_
      simp [hp, hpn, hts]
      exact fin _ _ _ (by simp) (by simp) (by simp) (by omega) (fun j hj => by simp [show j ≠ n by omega])
  | cons x l =>
    cases ia with
    | none => have := h.ha; simp only [Own] at this; rw [this] at hts; cases hts
    | some a =>
      obtain ⟨ys, ha⟩ := h.ha
      have han := (h.la a rfl).1
      have hn2 : ¬ a = n := by omega
      simp
      refine Stk.regionD 999 [.rd [], .rd [], .rd [], .rd [], .rd [], .rd [], .rd [p], .rd [], .rd [], .rd [], .rd [], .rd [], .rd [], .rd [], .rd [p], .rd [], .rd [], .rd [a], .rd [], .rd [], .rd [], .rd [], .rd [p], .rd [], .rd []] none (by kernel_rfl) (by rfl) rfl (by simp [below, *]) rfl ?_
      have hlen : ((l.length : Int) + 1 == 0) = false := by simp; omega
      have hpos : (0 : Int) < (l.length : Int) + 1 := by omega
      simp [hp, ha, hpn, hn2, hts, encs, partOf, hlen, hpos]
      refine ⟨fun hlt => ?_, fun hge => ?_⟩
      · refine hr _ _ _ (.tup [.agg (eT dT), B false]) (by simp [partOf, dT]) ⟨by rw [hts]; simp [show ¬ x.1 ≤ s.now by omega], by omega, fun j hj => by simp [show j ≠ n by omega]⟩
      · refine hr _ _ _ (.tup [.agg (eT x), B true]) (by simp [partOf]) ⟨by rw [hts]; simp [hge], by omega, fun j hj => by simp [show j ≠ n by omega]⟩

theorem arm {H : Mem} {n p : Nat} {s : Tm} {ia : Option Nat} (h : St H n p s ia) (d k : Int) (hd : d < 9223372036854775808) (hlt : s.ts.length < s.most) (hs : s.seq < 1000000) :
    RunQ Try.prog T.T 14 [.own p 0, I d, I k] H n (fun r H' n' => r = .tup [.agg (eT (later s.now d, (s.seq : Int) + 1, k)), I 0] ∧ ∃ ia', Step H n p ia H' n' ⟨s.now, upL s.ts.length (s.ts ++ [(later s.now d, (s.seq : Int) + 1, k)]) s.ts.length, s.most, s.seq + 1⟩ ia') := by
  have hp := h.hp
  have hlp := h.lp
  have hok := h.ok
  have hpn : ¬ p = n := by omega
  have hnp : ¬ n = p := by omega
  have hpn1 : ¬ p = n + 1 := by omega
  have hlp1 : p < n + 1 := by omega
  have hlp2 : p < n + 2 := by omega
  obtain ⟨L, hL⟩ : ∃ L, L = later s.now d := ⟨_, rfl⟩
  rw [← hL]
  have hll := later_ok s.now d hok.n0 hok.n1
  rw [← hL] at hll
  have hw := wrap_succ s.seq (by omega)
  have hm := hok.most
  have hge : ¬ s.most ≤ s.ts.length := by omega
  have hlf := laterF s.now d hok.n0 hok.n1 hd
  rw [← hL] at hlf
  have hpos : ia = none → 0 < s.most := by omega
  refine RunQ.ev 999 Try.func14 rfl rfl rfl rfl rfl fun C hr hn => ?_
  obtain ⟨x, hx⟩ : ∃ x : Ti, x = (L, (s.seq : Int) + 1, k) := ⟨_, rfl⟩
  obtain ⟨Z, hZ⟩ : ∃ Z : Mem, Z = upd (upd H n (some (.cells [.sc (.int .i64 0), .sc (.int .i64 0), .sc (.int .i64 0)] 28))) p (some (.cells [I s.now, slv ia s.ts.length, I s.most, I ((s.seq : Int) + 1)] 92)) := ⟨_, rfl⟩
  obtain ⟨Z2, hZ2⟩ : ∃ Z2 : Mem, Z2 = upd (upd Z (n + 1) (some (.cells [.sc (.int .i64 0), .sc (.int .i64 0), .sc (.int .i64 0)] 28))) (n + 1) (some (.cells (eT x) 28)) := ⟨_, rfl⟩
  have z2p : Z2 p = some (.cells [I s.now, slv ia s.ts.length, I s.most, I ((s.seq : Int) + 1)] 92) := by rw [hZ2, upd_ne _ _ hpn1, upd_ne _ _ hpn1, hZ, upd_same]
  have z2n : Z2 n = some (.cells [.sc (.int .i64 0), .sc (.int .i64 0), .sc (.int .i64 0)] 28) := by rw [hZ2, upd_ne _ _ (by omega), upd_ne _ _ (by omega), hZ, upd_ne _ _ hnp, upd_same]
  have z2x : Z2 (n + 1) = some (.cells (eT x) 28) := by rw [hZ2, upd_same]
  have z2j : ∀ j, j < n → j ≠ p → Z2 j = H j := fun j hj hjp => by rw [hZ2, upd_ne _ _ (by omega), upd_ne _ _ (by omega), hZ, upd_ne _ _ hjp, upd_ne _ _ (by omega)]
  obtain ⟨i, H', n', e1, o1, le1, f1, f2, k1⟩ := more (H := Z2) (n := n + 2) (h.ha.mono fun i hi => z2j i (h.la i hi).1 (h.la i hi).2) (fun i hi => by have := (h.la i hi).1; omega) (by omega) x
  have hip : i ≠ p := by
    rcases f1 with f | f
    · exact (h.la i f).2
    · omega
  have hpi : p ≠ i := Ne.symm hip
  have hp' : H' p = Z2 p := k1 p (by omega) (fun e => (h.la p e).2 rfl)
  have hx' : H' (n + 1) = Z2 (n + 1) := k1 (n + 1) (by omega) (fun e => by have := (h.la _ e).1; omega)
  have hn' : H' n = Z2 n := k1 n (by omega) (fun e => by have := (h.la _ e).1; omega)
  have hni : n ≠ i := by
    rcases f1 with f | f
    · have := (h.la i f).1; omega
    · omega
  have hn1i : n + 1 ≠ i := by
    rcases f1 with f | f
    · have := (h.la i f).1; omega
    · omega
  obtain ⟨ys, o1⟩ := o1
  obtain ⟨H3, hH3⟩ : ∃ H3 : Mem, H3 = upd H' p (some (.cells [I s.now, .osl i 0 (s.ts.length + 1) none, I s.most, I ((s.seq : Int) + 1)] 92)) := ⟨_, rfl⟩
  have hup := up H3 n' i (s.ts ++ [x]) ys none s.ts.length (by rw [hH3, upd_ne _ _ hip, o1]) f2 (by simp) (by simp; omega)
  have hl1 : (s.ts ++ [x]).length = s.ts.length + 1 := by simp
  rw [hl1] at hup
  have hw2 : IntKind.i64.wrap ((s.ts.length : Int) + 1) = ((s.ts.length + 1 : Nat) : Int) := wrap_succ _ (by omega)
  have hw3 := wrap_pred (a := s.ts.length + 1) (by omega) (by omega)
  rw [Nat.add_sub_cancel] at hw3
  have fin : ∀ (t : Nat → AV) (H4 : Mem), t 6 = .own n 0 → t 7 = I 0 → t 8 = .own (n + 1) 0 → H4 i = some (.cells (encs eT (upL s.ts.length (s.ts ++ [x]) s.ts.length) ++ ys) 28) → (∀ j, j ≠ i → j ≠ n → H4 j = H3 j) → H4 n = some (.cells (eT x) 28) → C .ret t H4 n' := by
    intro t H4 t6 t7 t8 g1 g2 g3
    refine hr _ _ _ (.tup [.agg (eT x), I 0]) (by simp [t6, t7, g3, partOf]) ⟨by rw [hx], some i, ⟨?_, ⟨ys, by rw [g1, hx]⟩, by omega, fun j hj => ?_, ⟨hok.n0, hok.n1, hok.most, ?_, by simp; omega⟩⟩, by omega, fun j hj hjp hja => ?_, fun j hj => ?_⟩
    · rw [g2 p hpi hpn, hH3, upd_same]; simp [upL_len]
    · cases hj; exact ⟨f2, hip⟩
    · simp [upL_len]; omega
    · have hji : j ≠ i := fun e => by
        rcases f1 with f | f
        · exact hja (by rw [f, e])
        · omega
      rw [g2 j hji (by omega), hH3, upd_ne _ _ hjp, k1 j (by omega) hja, z2j j hj hjp]
    · cases hj
      rcases f1 with f | f
      · exact .inl f
      · exact .inr (by omega)
  clear hr hn
  have hpn' : p < n' := by omega
  have hn1n' : n + 1 < n' := by omega
  have hin' : i < n' := f2
  have ts0 : ia = none → s.ts = [] := fun e => by subst e; exact h.ha
  cases ia with
  | none =>
    have w0 : IntKind.i64.wrap 0 = 0 := by decide
    have h0 := ts0 rfl
    rw [h0] at hlt hp e1 fin hup z2p hZ hH3
    simp at hH3 hup
    simp at hlt e1
    simp at hp z2p hZ
    simp
    refine Stk.regionD 999 [.rd [], .rd [], .rd [], .rd [p], .rd [], .rd [], .rd [], .rd [], .rd [p], .rd [], .rd []] none (by kernel_rfl) (by rfl) rfl (by simp [below, *]) rfl ?_
    have hm0 : ¬ s.most = 0 := by omega
    have hm1 : ¬ (s.most : Int) ≤ 0 := by omega
    simp [hp, hpn, hnp, hm0, hm1, hw]
    rw [← hZ]
    refine Stk.regionD 999 [.rd [], .rd [], .rd [], .rd [p], .rd [], .rd [], .rd [], .rd [], .rd [], .rd [p], .rd [], .rd [], .mem [] (n + 1), .mem [] (n + 1)] none (by kernel_rfl) (by rfl) rfl (by simp [below, *]) rfl ?_
    have zp : Z p = some (.cells [I s.now, .sc (.slice none 0 0), I s.most, I ((s.seq : Int) + 1)] 92) := by rw [hZ, upd_same]
    have hZ2' : upd (upd Z (n + 1) (some (.cells [.sc (.int .i64 0), .sc (.int .i64 0), .sc (.int .i64 0)] 28))) (n + 1) (some (.cells [.sc (.int .i64 L), .sc (.int .i64 ((s.seq : Int) + 1)), .sc (.int .i64 k)] 28)) = Z2 := by rw [hZ2, hx]
    simp [zp]
    refine Stk.callFD 999 hlf rfl rfl rfl rfl rfl (by simp) rfl rfl ?_
    simp [zp]
    rw [hZ2']
    refine ⟨fun j hj e => absurd e (by omega), fun j hj e => absurd e (by omega), ?_⟩
    refine Stk.regionD 999 [.rd [], .rd [], .rd [], .rd [], .rd [p], .rd [n + 1], .mem [] (n + 2), .mem [] (n + 2), .rd [], .rd [], .mem [p] n'] none (by kernel_rfl) (by rfl) rfl (by simp [below, *]) rfl ?_
    simp [z2p, z2x, e1, hp', partOf]
    refine ⟨fun j hj e => absurd e (by omega), fun j hj => by rw [if_neg (by omega)]; exact k1 j hj (by simp), fun j hj hj' e => absurd e hj', ?_⟩
    rw [← hH3]
    have h3p : H3 p = some (.cells [I s.now, .osl i 0 1 none, I s.most, I ((s.seq : Int) + 1)] 92) := by rw [hH3, upd_same]
    have h3n : H3 n = Z2 n := by rw [hH3, upd_ne _ _ hnp, hn']
    have h3x : H3 (n + 1) = Z2 (n + 1) := by rw [hH3, upd_ne _ _ (Ne.symm hpn1), hx']
    refine Stk.regionD 999 [.rd [], .rd [], .rd [], .rd [p], .rd [], .rd [], .rd [], .rd [p], .rd [], .rd [], .mem [i] n'] none (by kernel_rfl) (by rfl) rfl (by simp [below, *]) rfl ?_
    simp [h3p]
    refine Stk.callSD 999 rfl ?_ hup rfl rfl rfl rfl (by simp [w0]) ?_
    · rintro v H4 n4 ⟨_, _, _, g⟩ j hj hj'
      exact g j (by simpa using hj')
    rintro v H4 n4 ⟨rfl, rfl, g1, g2⟩
    have h4x : H4 (n + 1) = some (.cells (eT x) 28) := by rw [g2 _ hn1i, h3x, z2x]
    have h4n : H4 n = some (.cells [.sc (.int .i64 0), .sc (.int .i64 0), .sc (.int .i64 0)] 28) := by rw [g2 _ hni, h3n, z2n]
    simp [h4x, h4n, partOf]
    exact fin _ _ (by simp) (by simp) (by simp) (by simpa [Ne.symm hni] using g1) (fun j hj hjn => by simp [hjn, g2 j hj]) (by simp)
  | some a =>
    simp at e1 hp z2p hZ hup
    obtain ⟨zs, ha⟩ := h.ha
    have han := (h.la a rfl).1
    simp
    refine Stk.regionD 999 [.rd [], .rd [], .rd [], .rd [p], .rd [], .rd [], .rd [], .rd [], .rd [p], .rd [], .rd []] none (by kernel_rfl) (by rfl) rfl (by simp [below, *]) rfl ?_
    simp [hp, hpn, hnp, hge, hw]
    rw [← hZ]
    refine Stk.regionD 999 [.rd [], .rd [], .rd [], .rd [p], .rd [], .rd [], .rd [], .rd [], .rd [], .rd [p], .rd [], .rd [], .mem [] (n + 1), .mem [] (n + 1)] none (by kernel_rfl) (by rfl) rfl (by simp [below, *]) rfl ?_
    have zp : Z p = some (.cells [I s.now, .osl a 0 s.ts.length none, I s.most, I ((s.seq : Int) + 1)] 92) := by rw [hZ, upd_same]
    have hZ2' : upd (upd Z (n + 1) (some (.cells [.sc (.int .i64 0), .sc (.int .i64 0), .sc (.int .i64 0)] 28))) (n + 1) (some (.cells [.sc (.int .i64 L), .sc (.int .i64 ((s.seq : Int) + 1)), .sc (.int .i64 k)] 28)) = Z2 := by rw [hZ2, hx]
    simp [zp]
    refine Stk.callFD 999 hlf rfl rfl rfl rfl rfl (by simp) rfl rfl ?_
    simp [zp]
    rw [hZ2']
    refine ⟨fun j hj e => absurd e (by omega), fun j hj e => absurd e (by omega), ?_⟩
    refine Stk.regionD 999 [.rd [], .rd [], .rd [], .rd [], .rd [p], .rd [n + 1], .mem [] (n + 2), .mem [a] (n + 2), .rd [], .rd [], .mem [p] n'] none (by kernel_rfl) (by rfl) rfl (by simp [below, *]) rfl ?_
    simp [z2p, z2x, e1, hp', partOf]
    refine ⟨fun j hj e => absurd e (by omega), fun j hj hja => by rw [if_neg (by omega)]; exact k1 j hj (fun e => hja (by cases e; rfl)), fun j hj hj' e => absurd e hj', ?_⟩
    rw [← hH3]
    have h3p : H3 p = some (.cells [I s.now, .osl i 0 (s.ts.length + 1) none, I s.most, I ((s.seq : Int) + 1)] 92) := by rw [hH3, upd_same]
    have h3n : H3 n = Z2 n := by rw [hH3, upd_ne _ _ hnp, hn']
    have h3x : H3 (n + 1) = Z2 (n + 1) := by rw [hH3, upd_ne _ _ (Ne.symm hpn1), hx']
    refine Stk.regionD 999 [.rd [], .rd [], .rd [], .rd [p], .rd [], .rd [], .rd [], .rd [p], .rd [], .rd [], .mem [i] n'] none (by kernel_rfl) (by rfl) rfl (by simp [below, *]) rfl ?_
    have hw3' : IntKind.i64.wrap (s.ts.length : Int) = s.ts.length := wrap64_id (by omega) (by omega)
    simp [h3p]
    refine Stk.callSD 999 rfl ?_ hup rfl rfl rfl rfl (by simp [hw3']) ?_
    · rintro v H4 n4 ⟨_, _, _, g⟩ j hj hj'
      exact g j (by simpa using hj')
    rintro v H4 n4 ⟨rfl, rfl, g1, g2⟩
    have h4x : H4 (n + 1) = some (.cells (eT x) 28) := by rw [g2 _ hn1i, h3x, z2x]
    have h4n : H4 n = some (.cells [.sc (.int .i64 0), .sc (.int .i64 0), .sc (.int .i64 0)] 28) := by rw [g2 _ hni, h3n, z2n]
    simp [h4x, h4n, partOf]
    exact fin _ _ (by simp) (by simp) (by simp) (by simpa [Ne.symm hni] using g1) (fun j hj hjn => by simp [hjn, g2 j hj]) (by simp)
end Go.Proofs.Ytfbkgjmpadknfaa.Tim
