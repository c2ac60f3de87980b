/-
  The stack's readers.
-/
import Derived.Test.YtfflojbgikfbmaaStkA
namespace Go.Proofs.Ytfflojbgikfbmaa.Sta
open Go.Proofs.YtfflojbgikfbmaaW.Ah
set_option maxRecDepth 4000
set_option linter.unusedVariables false
set_option linter.unusedSimpArgs false
attribute [local simp] T.t3 T.t4 T.t26 T.t39 T.t40 T.t41 T.t128 T.t130 T.t132 T.t135 T.t79 Op.maxDepth List.range List.range.loop
attribute [-simp] appendAV

theorem wrap_nsub {a b : Nat} (h : b ≤ a) (ha : a < 9223372036854775808) : IntKind.i64.wrap ((a : Int) - b) = ((a - b : Nat) : Int) := by rw [wrap64_id (by omega) (by omega)]; omega
theorem wrap_pred {a : Nat} (h : 1 ≤ a) (ha : a < 9223372036854775808) : IntKind.i64.wrap ((a : Int) - 1) = ((a - 1 : Nat) : Int) := by rw [wrap64_id (by omega) (by omega)]; omega

theorem Rising.le_last : ∀ {fs : List (Int × Int × Nat)} {k : Nat}, Rising fs k → ∀ {f}, fs.getLast? = some f → f.2.2 ≤ k
  | _, _, .nil _, f, h => by simp at h
  | _, _, .snoc h1 h2, f, h => by simp at h; subst h; exact h2

theorem Sk.Ok.base_le {s : Sk} (h : s.Ok) : s.base ≤ s.slots.length := by
  unfold Sk.base
  split
  · rename_i f hf; exact h.rising.le_last hf
  · omega

theorem base {H : Mem} {n p : Nat} {s : Sk} {ia ib : Option Nat} (h : St H n p s ia ib) :
    RunQ Try.prog T.T 84 [.own p 0] H n (fun r H' n' => r = I s.base ∧ H' = H ∧ n' = n) := by
  have hp := h.hp
  have hlp := h.lp
  have hok := h.ok
  refine RunQ.ev 999 Try.func84 rfl rfl rfl rfl rfl fun C hr hn => ?_
  cases ib with
  | none =>
    have h0 : s.frames = [] := h.hb
    simp [hp]
    exact hr _ _ _ (I 0) (by simp) (by simp [Sk.base, h0])
  | some b =>
    obtain ⟨ys, hb⟩ := h.hb
    simp [hp]
    refine ⟨fun hlt => ?_, fun h0 => ?_⟩
    · have hk : s.frames.length - 1 < s.frames.length := by omega
      have hc := cell_own (e := eF) (z := 3) s.frames ys (s.frames.length - 1) 2 hk (by omega)
      have hw := wrap_pred (a := s.frames.length) (by omega) (by have := hok.frames; omega)
      have hbase : s.base = (s.frames[s.frames.length - 1]).2.2 := by
        unfold Sk.base; rw [List.getLast?_eq_getElem?, List.getElem?_eq_getElem hk]
      simp at hc
      simp [hw, hk, hb, hc, partOf]
      exact hr _ _ _ (I s.base) (by simp [hbase]) (by simp)
    · have h0' : s.frames = [] := by simpa using h0
      exact hr _ _ _ (I 0) (by simp) (by simp [Sk.base, h0'])

/-- What a slice tells of its length, where nothing else matters. -/
def LenIs (v : AV) (k : Nat) : Prop := (v = .sc (.slice none 0 0) ∧ k = 0) ∨ (∃ f, v = .esl f ∧ k = 0) ∨ ∃ i o c, v = .osl i o k c

theorem own {H : Mem} {n p : Nat} {s : Sk} {ia ib : Option Nat} (h : St H n p s ia ib) :
    RunQ Try.prog T.T 81 [.own p 0] H n (fun r H' n' => ((ia = none ∧ r = .sc (.slice none 0 0) ∧ s.slots.length = s.base) ∨ (∃ i, ia = some i ∧ s.base < s.slots.length ∧ ∃ c, r = .osl i s.base (s.slots.length - s.base) c) ∨ (∃ i, ia = some i ∧ s.slots.length = s.base ∧ (r = .osl i 0 0 (some 0) ∨ r = .esl true))) ∧ H' = H ∧ n' = n) := by
  have hp := h.hp
  have hlp := h.lp
  have hok := h.ok
  have hle := hok.base_le
  refine RunQ.ev 999 Try.func81 rfl rfl rfl rfl rfl fun C hr hn => ?_
  cases ia with
  | none =>
    have h0 : s.slots = [] := h.ha
    have hb0 : s.base = 0 := by rw [h0] at hle; simpa using hle
    simp [hp]
    refine Stk.regionD 999 [.rd [], .rd [], .rd [], .rd [p], .rd [], .mem [] n, .rd [], .rd [], .rd [], .rd []] none (by kernel_rfl) (by rfl) rfl (by simp [below, *]) rfl ?_
    simp [hp]
    refine Stk.callSD 999 rfl (by rintro v H' n' ⟨rfl, rfl, rfl⟩ j _ _; rfl) (base h) rfl rfl rfl rfl (by simp) ?_
    rintro v H' n' ⟨rfl, rfl, rfl⟩
    simp [hb0]
    exact hr _ _ _ (.sc (.slice none 0 0)) (by simp) ⟨.inl ⟨rfl, rfl, by simp [h0, hb0]⟩, rfl, rfl⟩
  | some i =>
    obtain ⟨ys, ha⟩ := h.ha
    have hin := (h.la i rfl).1
    simp [hp]
    refine Stk.regionD 999 [.rd [], .rd [], .rd [], .rd [p], .rd [], .mem [] n, .rd [], .rd [], .rd [i], .rd []] none (by kernel_rfl) (by rfl) rfl (by simp [below, *]) rfl ?_
    simp [hp]
    refine Stk.callSD 999 rfl (by rintro v H' n' ⟨rfl, rfl, rfl⟩ j _ _; rfl) (base h) rfl rfl rfl rfl (by simp) ?_
    rintro v H' n' ⟨rfl, rfl, rfl⟩
    have hlim : (s.slots.length : Int) ≤ s.slots.length + ys.length := by omega
    by_cases hlt : s.base < s.slots.length
    · have hor : s.base = 0 ∨ s.base < s.slots.length := .inr hlt
      simp [natOk, ha, hle, hlim, hor]
      exact hr _ _ _ (.osl i s.base (s.slots.length - s.base) (some (s.slots.length - s.base))) (by simp) ⟨.inr (.inl ⟨i, rfl, hlt, _, rfl⟩), rfl, rfl⟩
    · have he : s.slots.length = s.base := by omega
      by_cases h0 : s.base = 0
      · simp [natOk, ha, he, h0]
        exact hr _ _ _ (.osl i 0 0 (some 0)) (by simp) ⟨.inr (.inr ⟨i, rfl, he, .inl rfl⟩), rfl, rfl⟩
      · have hlim' : (s.base : Int) ≤ s.base + ys.length := by omega
        simp [natOk, ha, he, h0, hlim']
        exact hr _ _ _ (.esl true) (by simp) ⟨.inr (.inr ⟨i, rfl, he, .inr rfl⟩), rfl, rfl⟩

theorem lacks {H : Mem} {n p : Nat} {s : Sk} {ia ib : Option Nat} (h : St H n p s ia ib) (k : Int) :
    RunQ Try.prog T.T 82 [.own p 0, I k] H n (fun r H' n' => r = Er (if ((s.slots.length - s.base : Nat) : Int) < k then 24 else 0) ∧ H' = H ∧ n' = n) := by
  have hp := h.hp
  refine RunQ.ev 999 Try.func82 rfl rfl rfl rfl rfl fun C hr hn => ?_
  have fin : ∀ t, t 8 = B (decide (((s.slots.length - s.base : Nat) : Int) < k)) → evS Try.prog T.T 14 900 [.code (.cond (.tmp 8) ((Code.region 4 #[{ dst := some 4, op := .assign (.const (.int .i64 24)), type := 26, pos := "stack.go:70", after := #[], guard := none }] false).seq .ret) .skip)] t H n C → True := fun _ _ _ => trivial
  simp
  refine Stk.callS 999 (own h) rfl rfl rfl (by simp) ?_
  rintro v H' n' ⟨hv, rfl, rfl⟩
  rcases hv with ⟨_, rfl, e⟩ | ⟨i, _, hlt, c, rfl⟩ | ⟨i, _, e, rfl | rfl⟩
  all_goals simp
  all_goals refine ⟨fun hk => hr _ _ _ (Er 24) (by simp) ⟨?_, rfl, rfl⟩, fun hk => hr _ _ _ (Er 0) (by simp) ⟨?_, rfl, rfl⟩⟩
  all_goals split <;> first | rfl | (exfalso; omega)

theorem Rising.to : ∀ {fs : List (Int × Int × Nat)} {k : Nat}, Rising fs k → ∀ {m : Nat}, (∀ f, fs.getLast? = some f → f.2.2 ≤ m) → Rising fs m
  | _, _, .nil _, m, _ => .nil _
  | _, _, .snoc h1 h2, m, h => .snoc h1 (h _ (by simp))

theorem Sk.rising_base {s : Sk} {k m : Nat} (h : Rising s.frames k) (hm : s.base ≤ m) : Rising s.frames m :=
  h.to fun f hf => by unfold Sk.base at hm; rw [hf] at hm; exact hm

/-- New slots. -/
theorem slots_step {H H' H2 : Mem} {n n' p i z : Nat} {s : Sk} {ia ib : Option Nat} {xs : List Int} (h : St H n p s ia ib) (o1 : Own H' 40 eU (some i) xs) (le1 : n ≤ n') (f1 : ia = some i ∨ n ≤ i) (f2 : i < n') (k1 : ∀ j, j < n → ia ≠ some j → H' j = H j)
    (e1 : H2 p = some (.cells [.osl i 0 xs.length none, slv ib s.frames.length, I s.most, I z] 130)) (e2 : ∀ j, j ≠ p → H2 j = H' j) (hok : Sk.Ok ⟨xs, s.frames, s.most, z⟩) : Step H n p ia ib H2 n' ⟨xs, s.frames, s.most, z⟩ (some i) ib := by
  have hip : i ≠ p := by
    rcases f1 with f | f
    · exact (h.la i f).2
    · have := h.lp; omega
  have hbi : ∀ j, ib = some j → j ≠ i := by
    intro j hj e
    subst e
    rcases f1 with f | f
    · exact h.ab _ f hj
    · have := (h.lb _ hj).1; omega
  refine ⟨⟨e1, o1.mono fun j hj => e2 j (by cases hj; exact hip), h.hb.mono fun j hj => ?_, by have := h.lp; omega, fun j hj => ?_, fun j hj => ?_, fun j hj hj' => ?_, hok⟩, le1, fun j hj hjp hja hjb => ?_, fun j hj => ?_, fun j hj => .inl hj⟩
  · rw [e2 j (h.lb j hj).2, k1 j (h.lb j hj).1 (fun e => h.ab j e hj)]
  · cases hj; exact ⟨f2, hip⟩
  · exact ⟨by have := (h.lb j hj).1; omega, (h.lb j hj).2⟩
  · cases hj; exact hbi _ hj' rfl
  · rw [e2 j hjp, k1 j hj hja]
  · cases hj; exact f1

/-- New frames. -/
theorem frames_step {H H' H2 : Mem} {n n' p i : Nat} {s : Sk} {ia ib : Option Nat} {fs : List (Int × Int × Nat)} (h : St H n p s ia ib) (o1 : Own H' 132 eF (some i) fs) (le1 : n ≤ n') (f1 : ib = some i ∨ n ≤ i) (f2 : i < n') (k1 : ∀ j, j < n → ib ≠ some j → H' j = H j)
    (e1 : H2 p = some (.cells [slv ia s.slots.length, .osl i 0 fs.length none, I s.most, I s.peak] 130)) (e2 : ∀ j, j ≠ p → H2 j = H' j) (hok : Sk.Ok ⟨s.slots, fs, s.most, s.peak⟩) : Step H n p ia ib H2 n' ⟨s.slots, fs, s.most, s.peak⟩ ia (some i) := by
  have hip : i ≠ p := by
    rcases f1 with f | f
    · exact (h.lb i f).2
    · have := h.lp; omega
  have hbi : ∀ j, ia = some j → j ≠ i := by
    intro j hj e
    subst e
    rcases f1 with f | f
    · exact h.ab _ hj f
    · have := (h.la _ hj).1; omega
  refine ⟨⟨e1, h.ha.mono fun j hj => ?_, o1.mono fun j hj => e2 j (by cases hj; exact hip), by have := h.lp; omega, fun j hj => ?_, fun j hj => ?_, fun j hj hj' => ?_, hok⟩, le1, fun j hj hjp hja hjb => ?_, fun j hj => .inl hj, fun j hj => ?_⟩
  · rw [e2 j (h.la j hj).2, k1 j (h.la j hj).1 (fun e => h.ab j hj e)]
  · exact ⟨by have := (h.la j hj).1; omega, (h.la j hj).2⟩
  · cases hj; exact ⟨f2, hip⟩
  · cases hj'; exact hbi _ hj rfl
  · rw [e2 j hjp, k1 j hj hjb]
  · cases hj; exact f1

/-- The stack's own block alone. -/
theorem head_step {H H2 : Mem} {n p : Nat} {s s' : Sk} {ia ib : Option Nat} (h : St H n p s ia ib) (e1 : H2 p = some (.cells [slv ia s'.slots.length, slv ib s'.frames.length, I s'.most, I s'.peak] 130)) (e2 : ∀ j, j ≠ p → H2 j = H j)
    (oa : Own H 40 eU ia s'.slots) (ob : Own H 132 eF ib s'.frames) (hok : s'.Ok) : Step H n p ia ib H2 n s' ia ib :=
  ⟨⟨e1, oa.mono fun j hj => e2 j (h.la j hj).2, ob.mono fun j hj => e2 j (h.lb j hj).2, h.lp, h.la, h.lb, h.ab, hok⟩, Nat.le_refl _, fun j _ hj _ _ => e2 j hj, fun _ hj => .inl hj, fun _ hj => .inl hj⟩

theorem Step.trans {H H' H2 : Mem} {n n' n2 p : Nat} {s1 s2 : Sk} {ia ib ia' ib' ia2 ib2 : Option Nat} (h1 : Step H n p ia ib H' n' s1 ia' ib') (h2 : Step H' n' p ia' ib' H2 n2 s2 ia2 ib2) : Step H n p ia ib H2 n2 s2 ia2 ib2 := by
  refine ⟨h2.st, Nat.le_trans h1.le h2.le, fun j hj hp ha hb => ?_, fun i hi => ?_, fun i hi => ?_⟩
  · have := h1.le
    rw [h2.keep j (by omega) hp (fun e => ?_) (fun e => ?_), h1.keep j hj hp ha hb]
    · rcases h1.fa j e with h | h
      · exact ha h
      · omega
    · rcases h1.fb j e with h | h
      · exact hb h
      · omega
  · rcases h2.fa i hi with h | h
    · exact h1.fa i h
    · exact .inr (Nat.le_trans h1.le h)
  · rcases h2.fb i hi with h | h
    · exact h1.fb i h
    · exact .inr (Nat.le_trans h1.le h)

theorem keep {H : Mem} {n p : Nat} {s : Sk} {ia ib : Option Nat} (h : St H n p s ia ib) (m : Nat) (hm : m < s.slots.length) (hb : s.base ≤ m) :
    RunQ Try.prog T.T 83 [.own p 0, I m] H n (fun r H' n' => r = .tup [] ∧ ∃ ia' ib', Step H n p ia ib H' n' ⟨s.slots.take m ++ [s.slots[s.slots.length - 1]'(by omega)], s.frames, s.most, s.peak⟩ ia' ib') := by
  have hp := h.hp
  have hlp := h.lp
  have hok := h.ok
  have hk : s.slots.length - 1 < s.slots.length := by omega
  obtain ⟨x, hx⟩ : ∃ x, x = s.slots[s.slots.length - 1] := ⟨_, rfl⟩
  rw [← hx]
  obtain ⟨i, H', n', e1, o1, le1, f1, f2, k1⟩ := more (h.ha.take m) (fun i hi => (h.la i hi).1) (by simp; have := hok.slots; have := hok.most; omega) x
  rw [List.length_take, Nat.min_eq_left (by omega)] at e1
  have hp' : H' p = H p := k1 p h.lp h.pa
  have hw := wrap_pred (a := s.slots.length) (by omega) (by have := hok.slots; have := hok.most; omega)
  refine RunQ.ev 999 Try.func83 rfl rfl rfl rfl rfl fun C hr hn => ?_
  cases ia with
  | none => have := h.ha; simp only [Own] at this; rw [this] at hm; simp at hm
  | some a =>
    obtain ⟨ys, ha⟩ := h.ha
    have hla := (h.la a rfl).1
    have hc := cell_own (e := eU) (z := 1) s.slots ys (s.slots.length - 1) 0 hk (by omega)
    simp [← hx] at hc
    simp at e1
    refine Stk.regionD 999 [.rd [], .rd [], .rd [], .rd [p], .rd [], .rd [], .rd [], .rd [p], .rd [], .rd [], .rd [], .rd [a], .rd []] none (by kernel_rfl) (by rfl) rfl (by simp [below, *]) rfl ?_
    have hlim : (m : Int) ≤ s.slots.length + ys.length := by omega
    simp [hp, hw, hk, ha, hc, partOf, natOk, hlim, e1, hp']
    refine hn _ _ _ (.tup []) (by simp) ⟨rfl, some i, ib, slots_step h o1 le1 f1 f2 k1 (by simp [Nat.min_eq_left (Nat.le_of_lt hm)]) (fun j hj => by simp [hj]) ⟨hok.most, ?_, hok.frames, hok.peak, ?_⟩⟩
    · have := hok.slots; simp; omega
    · exact Sk.rising_base (s := s) hok.rising (by simp; omega)
end Go.Proofs.Ytfflojbgikfbmaa.Sta
