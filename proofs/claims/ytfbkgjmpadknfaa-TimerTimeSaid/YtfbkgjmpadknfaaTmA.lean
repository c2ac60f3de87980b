/-
  Timers: their order, the time, and how they are kept.
-/
import Derived.Test.YtfbkgjmpadknfaaTab
import Derived.Test.YtfbkgjmpadknfaaAhC
namespace Go.Proofs.Ytfbkgjmpadknfaa.Tim
open Go.Proofs.YtfbkgjmpadknfaaW.Ah
set_option maxRecDepth 4000
set_option linter.unusedVariables false
set_option linter.unusedSimpArgs false
attribute [local simp] T.t2 T.t3 T.t4 T.t22 T.t23 T.t28 T.t89 T.t90 T.t92 T.t148 Op.maxDepth List.range List.range.loop
attribute [-simp] appendAV cellsOf cellOk partOk
attribute [local simp] cellsOf_sc cellOk_sc partOk_sc cellsOf_own cellOk_own partOk_own cellsOf_osl cellOk_osl partOk_osl cellsOf_sh cellOk_sh partOk_sh cellsOf_ssl cellOk_ssl partOk_ssl cellsOf_esl cellOk_esl partOk_esl cellsOf_fn cellOk_fn partOk_fn cellsOf_omap cellOk_omap partOk_omap cellsOf_agg partOk_agg cellsOf_slv cellOk_slv partOk_slv

theorem wrap_nsub {a b : Nat} (h : b ≤ a) (ha : a < 9223372036854775808) : IntKind.i64.wrap ((a : Int) - b) = ((a - b : Nat) : Int) := by rw [wrap64_id (by omega) (by omega)]; omega
theorem wrap_pred {a : Nat} (h : 1 ≤ a) (ha : a < 9223372036854775808) : IntKind.i64.wrap ((a : Int) - 1) = ((a - 1 : Nat) : Int) := by rw [wrap64_id (by omega) (by omega)]; omega

/-- A timer: when it is due, its number, its key. -/
abbrev Ti := Int × Int × Int
abbrev eT (x : Ti) : List AV := [I x.1, I x.2.1, I x.2.2]
instance : Enc eT 3 := ⟨fun _ => rfl⟩

def cmp (a b : Int) : Int := if a < b then -1 else if b < a then 1 else 0
def ord (x y : Ti) : Int := if cmp x.1 y.1 ≠ 0 then cmp x.1 y.1 else cmp x.2.1 y.2.1

theorem nan2 (a : Int) : RunF Try.prog T.T 107 [I a] (B false) := by
  refine RunF.ev 999 Try.func107 rfl rfl rfl rfl rfl fun C hr hn => ?_
  simp
  exact hr _ _ _ (by simp)
theorem nan3 (a : Int) : RunF Try.prog T.T 108 [I a] (B false) := by
  refine RunF.ev 999 Try.func108 rfl rfl rfl rfl rfl fun C hr hn => ?_
  simp
  exact hr _ _ _ (by simp)

theorem cmp2 (a b : Int) : RunF Try.prog T.T 99 [I a, I b] (I (cmp a b)) := by
  refine RunF.ev 999 Try.func99 rfl rfl rfl rfl rfl fun C hr hn => ?_
  simp
  refine Stk.callF 999 (nan2 a) rfl rfl rfl (by simp) rfl rfl ?_
  simp
  refine Stk.callF 999 (nan2 b) rfl rfl rfl (by simp) rfl rfl ?_
  simp
  refine ⟨fun h => hr _ _ _ (by simp [cmp, h]), fun h => ⟨fun h2 => hr _ _ _ (by simp [cmp, h2]; omega), fun h2 => hr _ _ _ (by simp [cmp]; omega)⟩⟩
theorem cmp3 (a b : Int) : RunF Try.prog T.T 100 [I a, I b] (I (cmp a b)) := by
  refine RunF.ev 999 Try.func100 rfl rfl rfl rfl rfl fun C hr hn => ?_
  simp
  refine Stk.callF 999 (nan3 a) rfl rfl rfl (by simp) rfl rfl ?_
  simp
  refine Stk.callF 999 (nan3 b) rfl rfl rfl (by simp) rfl rfl ?_
  simp
  refine ⟨fun h => hr _ _ _ (by simp [cmp, h]), fun h => ⟨fun h2 => hr _ _ _ (by simp [cmp, h2]; omega), fun h2 => hr _ _ _ (by simp [cmp]; omega)⟩⟩

theorem orF (a b : Int) (H : Mem) (n i : Nat) (c : Option Nat) (hi : H i = some (.cells [I a, I b] 3)) :
    RunQ Try.prog T.T 98 [.osl i 0 2 c] H n (fun r H' n' => r = I (if a ≠ 0 then a else b) ∧ H' = H ∧ n' = n) := by
  refine RunQ.ev 999 Try.func98 rfl rfl rfl rfl rfl fun C hr hn => ?_
  simp
  refine Stk.loop 999 (fun μ t H2 n2 => H2 = H ∧ n2 = n ∧ ∃ m : Nat, m ≤ 2 ∧ μ = 2 - m ∧ t 3 = I 0 ∧ t 6 = .osl i 0 2 c ∧ t 7 = I 2 ∧ t 8 = I m ∧ (1 ≤ m → a = 0) ∧ (2 ≤ m → b = 0)) 2 ?_ ?_
  · exact ⟨rfl, rfl, 0, by omega, rfl, by simp, by simp, by simp, by simp, by omega, by omega⟩
  rintro J hJ μ t H2 n2 ⟨rfl, rfl, m, hm, rfl, t3, t6, t7, t8, z1, z2⟩
  have hm3 : m = 0 ∨ m = 1 ∨ m = 2 := by omega
  rcases hm3 with rfl | rfl | rfl
  · simp [t3, t6, t7, t8, hi, partOf]
    refine ⟨fun h => hr _ _ _ (I a) (by simp) ⟨by rw [if_pos h], rfl, rfl⟩, fun h => ⟨1, by omega, hJ _ _ _ _ ⟨rfl, rfl, 1, by omega, rfl, by simp [t3], by simp [t6], by simp [t7], by simp [show IntKind.i64.wrap 1 = 1 by decide], fun _ => h, by omega⟩⟩⟩
  · have h := z1 (by omega)
    have hw : IntKind.i64.wrap 2 = 2 := by decide
    simp [t3, t6, t7, t8, hi, partOf]
    refine ⟨fun h' => hr _ _ _ (I b) (by simp) ⟨by rw [if_neg (by simp [h])], rfl, rfl⟩, fun h' => hJ _ _ _ _ ⟨rfl, rfl, 2, by omega, rfl, by simp [t3], by simp [t6], by simp [t7], by simp [hw], fun _ => h, fun _ => h'⟩⟩
  · have h := z1 (by omega)
    have h' := z2 (by omega)
    simp [t3, t6, t7, t8]
    exact hr _ _ _ (I 0) (by simp [t3]) ⟨by rw [if_neg (by simp [h]), h'], rfl, rfl⟩

theorem order (x y : Ti) : RunF Try.prog T.T 81 [.agg (eT x), .agg (eT y)] (I (ord x y)) := by
  refine RunF.ev 999 Try.func81 rfl rfl rfl rfl rfl fun C hr hn => ?_
  simp
  refine Stk.regionD 999 [.rd [], .rd [0], .rd [], .rd [1], .rd [], .rd [], .rd [0], .rd [], .rd [1], .rd [], .mem [] 2, .mem [] 3, .rd []] none (by kernel_rfl) (by rfl) rfl (by simp [below, *]) rfl ?_
  simp
  refine Stk.callFD 999 (cmp2 x.1 y.1) rfl rfl rfl rfl rfl (by simp) rfl rfl ?_
  simp
  refine Stk.callFD 999 (cmp3 x.2.1 y.2.1) rfl rfl rfl rfl rfl (by simp) rfl rfl ?_
  simp
  refine ⟨fun j hj e => absurd e (by omega), ?_⟩
  refine Stk.callSD 999 rfl (by rintro v H' n' ⟨rfl, rfl, rfl⟩ j _ _; rfl) (orF (cmp x.1 y.1) (cmp x.2.1 y.2.1) _ _ 2 (some 2) (by simp)) rfl rfl rfl rfl (by simp) ?_
  rintro v H' n' ⟨rfl, rfl, rfl⟩
  simp
  exact hr _ _ _ (by simp [ord])

def dT : Ti := (0, 0, 0)
/-- A timer is brought ahead. -/
def upL : Nat → List Ti → Nat → List Ti
  | 0, l, _ => l
  | f + 1, l, i => if 0 < i ∧ ord (l.getD i dT) (l.getD ((i - 1) / 2) dT) < 0 then upL f ((l.set i (l.getD ((i - 1) / 2) dT)).set ((i - 1) / 2) (l.getD i dT)) ((i - 1) / 2) else l

theorem upL_len : ∀ (f : Nat) (l : List Ti) (i : Nat), (upL f l i).length = l.length
  | 0, l, i => rfl
  | f + 1, l, i => by
    simp only [upL]
    split
    · rw [upL_len f]; simp
    · rfl
theorem upL_zero (f : Nat) (l : List Ti) : upL f l 0 = l := by cases f <;> simp [upL]

theorem up (H : Mem) (n b : Nat) (l : List Ti) (ys : List AV) (c : Option Nat) (i : Nat) (hb : H b = some (.cells (encs eT l ++ ys) 28)) (hbn : b < n) (hi : i < l.length) (hl : l.length ≤ 65536) :
    RunQ Try.prog T.T 60 [.osl b 0 l.length c, I i] H n (fun r H' n' => r = .tup [] ∧ n' = n ∧ H' b = some (.cells (encs eT (upL i l i) ++ ys) 28) ∧ ∀ j, j ≠ b → H' j = H j) := by
  refine RunQ.ev 999 Try.func60 rfl rfl rfl rfl rfl fun C hr hn => ?_
  simp
  refine Stk.loop 999 (fun μ t H2 n2 => n2 = n ∧ ∃ (l2 : List Ti) (i2 f : Nat), μ = i2 ∧ i2 ≤ f ∧ i2 < l2.length ∧ l2.length = l.length ∧ upL f l2 i2 = upL i l i ∧ t 0 = .osl b 0 l.length c ∧ t 1 = I i2 ∧ H2 b = some (.cells (encs eT l2 ++ ys) 28) ∧ ∀ j, j ≠ b → H2 j = H j) i ?_ ?_
  · exact ⟨rfl, l, i, i, rfl, Nat.le_refl _, hi, rfl, rfl, by simp, by simp, hb, fun _ _ => rfl⟩
  rintro J hJ μ t H2 n2 ⟨rfl, l2, i2, f, hμ, hif, hil, hll, hu, t0, t1, hb2, hk⟩
  refine Stk.regionD 999 [.rd [], .rd [], .rd [], .rd [], .rd [], .rd [], .rd [b], .rd [], .rd [], .rd [], .rd [], .rd [], .rd [b], .rd [], .rd [], .rd []] none (by kernel_rfl) (by rfl) rfl (by simp [below, *]) rfl ?_
  have e0 : H2 b = some (.cells (encs eT l2 ++ ys) 28) := hb2
  have fin : i2 = 0 ∨ ¬ ord (l2.getD i2 dT) (l2.getD ((i2 - 1) / 2) dT) < 0 → upL i l i = l2 := by
    intro h
    rw [← hu]
    rcases h with h | h
    · subst h; exact upL_zero _ _
    · cases f with
      | zero => rfl
      | succ f => simp only [upL]; rw [if_neg (by simp only [not_and]; exact fun _ => h)]
  by_cases h0 : i2 = 0
  · subst h0
    simp [t0, t1]
    refine hn _ _ _ (.tup []) (by simp) ⟨rfl, rfl, by rw [fin (.inl rfl)]; exact hb2, hk⟩
  · have h0' : (0 : Int) < i2 := by omega
    have hw1 := wrap_pred (a := i2) (by omega) (by omega)
    have hq : ((i2 - 1 : Nat) : Int).tdiv 2 = ((i2 - 1) / 2 : Nat) := rfl
    have hq2 : IntKind.i64.wrap (((i2 - 1) / 2 : Nat) : Int) = ((i2 - 1) / 2 : Nat) := wrap64_id (by omega) (by omega)
    obtain ⟨j2, hj2⟩ : ∃ j2, j2 = (i2 - 1) / 2 := ⟨_, rfl⟩
    rw [← hj2] at hq hq2 fin
    have hjl : j2 < l2.length := by omega
    have hil' : i2 < l.length := by omega
    have hjl' : j2 < l.length := by omega
    have g1 : l2.getD i2 dT = l2[i2] := by simp [hil]
    have g2 : l2.getD j2 dT = l2[j2] := by simp [hjl]
    rw [g1, g2] at fin
    have p1 := part_own (e := eT) (z := 3) T.t28 rfl rfl l2 ys i2 hil
    have p2 := part_own (e := eT) (z := 3) T.t28 rfl rfl l2 ys j2 hjl
    obtain ⟨x, hx⟩ : ∃ x, x = l2[i2] := ⟨_, rfl⟩
    obtain ⟨y, hy⟩ : ∃ y, y = l2[j2] := ⟨_, rfl⟩
    rw [← hx] at p1 fin g1
    rw [← hy] at p2 fin g2
    have h0n : 0 < i2 := by omega
    simp [t0, t1, h0n, hw1, hq, hq2, hil', hjl', hb2, p1, p2]
    refine Stk.callFD 6 (order x y) rfl rfl rfl rfl rfl (by simp) rfl rfl ?_
    simp
    refine ⟨fun hlt => ?_, fun hge => hn _ _ _ (.tup []) (by simp) ⟨rfl, rfl, by rw [fin (.inr (by omega))]; exact hb2, hk⟩⟩
    refine evS_sound (f := 2) ?_
    simp
    refine Stk.regionD 999 [.rd [], .rd [], .rd [], .rd [], .rd [], .rd [], .rd [], .rd [], .rd [], .rd [], .rd [], .rd [b], .rd [], .rd [], .rd [], .rd [b], .rd [], .mem [b] n2, .rd [], .mem [b] n2] none (by kernel_rfl) (by rfl) rfl (by simp [below, *]) rfl ?_
    have s1 := splice_own (e := eT) (z := 3) l2 ys i2 hil y
    have s2 := splice_own (e := eT) (z := 3) (l2.set i2 y) ys j2 (by simpa using hjl) x
    simp [eT] at s1 s2
    have r1 : i2 * 3 + 3 ≤ l2.length * 3 + ys.length := by omega
    have r2 : j2 * 3 + 3 ≤ l2.length * 3 + ys.length := by omega
    simp [t0, t1, h0n, hw1, hq, hq2, hil', hjl', hb2, p1, p2, s1, s2, r1, r2]
    refine ⟨fun j hj hj' e => absurd e hj', fun j hj hj' e => absurd e hj', j2, by omega, hJ _ _ _ _ ⟨rfl, (l2.set i2 y).set j2 x, j2, f - 1, rfl, by omega, by simpa using hjl, by simpa using hll, ?_, by simp [t0], by simp, by simp, fun j hj => by simp [hj, hk]⟩⟩
    rw [← hu]
    obtain ⟨f', rfl⟩ : ∃ f', f = f' + 1 := ⟨f - 1, by omega⟩
    simp only [upL, ← hj2, g1, g2]
    rw [if_pos ⟨h0n, hlt⟩, Nat.add_sub_cancel]
end Go.Proofs.Ytfbkgjmpadknfaa.Tim
