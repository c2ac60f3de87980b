/-
  The stack: its state, and what each method does to it.
-/
import Derived.Test.YtfflojbgikfbmaaTab
import Derived.Test.YtfflojbgikfbmaaAhO
namespace Go.Proofs.Ytfflojbgikfbmaa.Sta
open Go.Proofs.YtfflojbgikfbmaaW.Ah
set_option maxRecDepth 4000
set_option linter.unusedVariables false
set_option linter.unusedSimpArgs false
attribute [local simp] T.t3 T.t4 T.t26 T.t39 T.t40 T.t41 T.t128 T.t130 T.t132 T.t135 T.t79 Op.maxDepth List.range List.range.loop
attribute [-simp] appendAV

abbrev U (n : Int) : AV := .sc (.int .u64 n)
abbrev Er (n : Int) : AV := I n
abbrev eU (x : Int) : List AV := [U x]
abbrev eF (f : Int × Int × Nat) : List AV := [I f.1, I f.2.1, I f.2.2]
instance : Enc eF 3 := ⟨fun _ => rfl⟩
instance : Enc eU 1 := ⟨fun _ => rfl⟩

structure Sk where
  slots : List Int
  frames : List (Int × Int × Nat)
  most : Nat
  peak : Nat

/-- Where the top frame's own slots begin. -/
def Sk.base (s : Sk) : Nat := match s.frames.getLast? with | some f => f.2.2 | none => 0

/-- Each frame begins where the one below it may. -/
inductive Rising : List (Int × Int × Nat) → Nat → Prop
  | nil (k : Nat) : Rising [] k
  | snoc {fs : List (Int × Int × Nat)} {f : Int × Int × Nat} {k : Nat} : Rising fs f.2.2 → f.2.2 ≤ k → Rising (fs ++ [f]) k

structure Sk.Ok (s : Sk) : Prop where
  most : s.most ≤ 65536
  slots : s.slots.length ≤ s.most
  frames : s.frames.length ≤ 65536
  peak : s.peak ≤ s.most
  rising : Rising s.frames s.slots.length

structure St (H : Mem) (n p : Nat) (s : Sk) (ia ib : Option Nat) : Prop where
  hp : H p = some (.cells [slv ia s.slots.length, slv ib s.frames.length, I s.most, I s.peak] 130)
  ha : Own H 40 eU ia s.slots
  hb : Own H 132 eF ib s.frames
  lp : p < n
  la : ∀ i, ia = some i → i < n ∧ i ≠ p
  lb : ∀ i, ib = some i → i < n ∧ i ≠ p
  ab : ∀ i, ia = some i → ib = some i → False
  ok : s.Ok

/-- From one state to another; nothing else is touched. -/
structure Step (H : Mem) (n p : Nat) (ia ib : Option Nat) (H' : Mem) (n' : Nat) (s' : Sk) (ia' ib' : Option Nat) : Prop where
  st : St H' n' p s' ia' ib'
  le : n ≤ n'
  keep : ∀ j, j < n → j ≠ p → ia ≠ some j → ib ≠ some j → H' j = H j
  fa : ∀ i, ia' = some i → ia = some i ∨ n ≤ i
  fb : ∀ i, ib' = some i → ib = some i ∨ n ≤ i

theorem new (H : Mem) (n : Nat) (m : Int) (h0 : 0 ≤ m) (h1 : m ≤ 65536) :
    RunQ Try.prog T.T 20 [I m] H n (fun r H' n' => ∃ p, r = .tup [.own p 0, Er 0] ∧ n ≤ p ∧ p < n' ∧ (∀ j, j < n → H' j = H j) ∧ St H' n' p ⟨[], [], m.toNat, 0⟩ none none) := by
  refine RunQ.ev 999 Try.func20 rfl rfl rfl rfl rfl fun C hr hn => ?_
  have e1 : ¬ m < 0 := by omega
  have e2 : ¬ m > 65536 := by omega
  simp [T.t130, T.t39, T.t128, T.t3, e1, e2]
  refine hr _ _ _ _ (by simp) ⟨n, rfl, Nat.le_refl _, by omega, fun j hj => upd_ne _ _ (by omega), ?_⟩
  constructor
  · simp [upd, Int.toNat_of_nonneg h0]
  · rfl
  · rfl
  · omega
  · intro i h; cases h
  · intro i h; cases h
  · intro i h; cases h
  · exact ⟨by simp; omega, by simp, by simp, by simp, .nil _⟩

theorem St.pa {H : Mem} {n p : Nat} {s : Sk} {ia ib : Option Nat} (h : St H n p s ia ib) : ia ≠ some p := fun e => (h.la p e).2 rfl
theorem St.pb {H : Mem} {n p : Nat} {s : Sk} {ia ib : Option Nat} (h : St H n p s ia ib) : ib ≠ some p := fun e => (h.lb p e).2 rfl

/-- The slots get one more. -/
theorem more {H : Mem} {n : Nat} {o : Option Nat} {xs : List Int} (ho : Own H 40 eU o xs) (hn : ∀ i, o = some i → i < n) (hl : xs.length ≤ 65536) (x : Int) :
    ∃ i H' n', appendAV T.T (upd H n (some (.cells [U x] 40))) (n + 1) 39 (slv o xs.length) (.osl n 0 1 (some 1)) = some (.osl i 0 (xs.length + 1) none, H', n') ∧ Own H' 40 eU (some i) (xs ++ [x]) ∧ n ≤ n' ∧ (o = some i ∨ n ≤ i) ∧ i < n' ∧ (∀ j, j < n → o ≠ some j → H' j = H j) := by
  obtain ⟨o', H', n', e1, o1, le1, f1, k1⟩ := append_own (e := eU) (z := 1) T.t39 rfl T.t40 rfl (by decide) rfl (by decide) (H := upd H n (some (.cells [U x] 40))) (n := n + 1) (o := o) (xs := xs)
    (ho.mono fun i hi => upd_ne _ _ (by have := hn i hi; omega)) (fun i hi => by have := hn i hi; omega) (y := .osl n 0 1 (some 1)) [x] (by simp [encs, eU]) rfl (by simp [roomMax]; omega) (by simp [roomMax]; omega)
  cases o' with
  | none => simp [Own] at o1
  | some i =>
    have := f1 i rfl
    refine ⟨i, H', n', by simpa using e1, o1, by omega, ?_, this.2, fun j hj hne => by rw [k1 j (by omega) hne, upd_ne _ _ (by omega)]⟩
    rcases this.1 with h | h
    · exact .inl h
    · exact .inr (by omega)

theorem Rising.weak : ∀ {fs : List (Int × Int × Nat)} {k : Nat}, Rising fs k → ∀ {m : Nat}, k ≤ m → Rising fs m
  | _, _, .nil _, m, _ => .nil _
  | _, _, .snoc h1 h2, m, h => .snoc h1 (by omega)

theorem push {H : Mem} {n p : Nat} {s : Sk} {ia ib : Option Nat} (h : St H n p s ia ib) (x : Int) :
    RunQ Try.prog T.T 21 [.own p 0, U x] H n (fun r H' n' => if s.slots.length < s.most
      then r = Er 0 ∧ ∃ ia' ib', Step H n p ia ib H' n' ⟨s.slots ++ [x], s.frames, s.most, max s.peak (s.slots.length + 1)⟩ ia' ib'
      else r = Er 24 ∧ H' = H ∧ n' = n) := by
  have hp := h.hp
  have hlp := h.lp
  have hok := h.ok
  have hw : IntKind.i64.wrap 1 = 1 := by decide
  obtain ⟨i, H', n', e1, o1, le1, f1, f2, k1⟩ := more h.ha (fun i hi => (h.la i hi).1) (by have := hok.slots; have := hok.most; omega) x
  have hp' : H' p = H p := k1 p h.lp h.pa
  have hlp2 : p < n' := by have := h.lp; omega
  refine RunQ.ev 999 Try.func21 rfl rfl rfl rfl rfl fun C hr hn => ?_
  simp
  refine Stk.regionD 999 [.rd [], .rd [], .rd [], .rd [p], .rd [], .rd [], .rd [], .rd [], .rd [p], .rd [], .rd []] none (by kernel_rfl) (by rfl) rfl (by simp [below, *]) rfl ?_
  have hfin : s.slots.length < s.most → ∀ t H2 (z : Int), t 4 = Er 0 → H2 p = some (.cells [.osl i 0 (s.slots.length + 1) none, slv ib s.frames.length, I s.most, I z] 130) → (∀ j, j ≠ p → H2 j = H' j) → z = (max s.peak (s.slots.length + 1) : Nat) → C .ret t H2 n' := by
    intro hlt t H2 z ht e1 e2 ez
    subst ez
    refine hr _ _ _ (Er 0) (by simp [ht]) ?_
    rw [if_pos hlt]
    have hip : i ≠ p := by
      rcases f1 with f | f
      · exact (h.la i f).2
      · have := h.lp; omega
    have hbi : ∀ j, ib = some j → j ≠ i := by
      intro j hj e
      subst e
      rcases f1 with f | f
      · exact h.ab _ f hj
      · have := (h.lb _ hj).1; omega
    refine ⟨rfl, some i, ib, ⟨by simpa using e1, o1.mono fun j hj => e2 j (by cases hj; exact hip), h.hb.mono fun j hj => ?_, by have := h.lp; omega, fun j hj => ?_, fun j hj => ?_, fun j hj hj' => ?_, ⟨hok.most, by simp; omega, hok.frames, ?_, hok.rising.weak (by simp)⟩⟩, le1, fun j hj hjp hja hjb => ?_, fun j hj => ?_, fun j hj => .inl hj⟩
    · rw [e2 j (h.lb j hj).2, k1 j (h.lb j hj).1 (fun e => h.ab j e hj)]
    · cases hj; exact ⟨f2, hip⟩
    · exact ⟨by have := (h.lb j hj).1; omega, (h.lb j hj).2⟩
    · cases hj; exact hbi _ hj' rfl
    · have := hok.peak; simp only; omega
    · rw [e2 j hjp, k1 j hj hja]
    · cases hj; rcases f1 with f | f
      · exact .inl f
      · exact .inr f
  cases ia with
  | none =>
    have h0 : s.slots = [] := h.ha
    simp [h0] at e1 hfin
    simp [hp, e1, hp', h0]
    refine ⟨fun hm => hr _ _ _ (Er 24) (by simp) (by simp [h0, hm]), fun hm => ?_⟩
    refine Stk.regionD 999 [.rd [], .rd [], .rd [], .rd [], .rd [p], .rd [], .rd [], .rd [], .rd [p], .rd [], .rd [], .rd [], .rd [], .mem [p] n'] none (by kernel_rfl) (by rfl) rfl (by simp [below, *]) rfl ?_
    simp [h.lp]
    refine ⟨fun j hj hs e => absurd e hs, ?_⟩
    refine hfin (by omega) _ _ _ (by simp) (by simp; rfl) (fun j hj => by simp [hj]) ?_
    split <;> omega
  | some b =>
    simp at e1 hfin
    simp [hp, e1, hp']
    refine ⟨fun hm => hr _ _ _ (Er 24) (by simp) (by rw [if_neg (by omega)]; simp), fun hm => ?_⟩
    refine Stk.regionD 999 [.rd [], .rd [], .rd [], .rd [], .rd [p], .rd [], .rd [], .rd [], .rd [p], .rd [], .rd [], .rd [], .rd [], .mem [p] n'] none (by kernel_rfl) (by rfl) rfl (by simp [below, *]) rfl ?_
    simp [h.lp]
    refine ⟨fun j hj hs e => absurd e hs, ?_⟩
    refine hfin (by omega) _ _ _ (by simp) (by simp; rfl) (fun j hj => by simp [hj]) ?_
    split <;> omega
end Go.Proofs.Ytfflojbgikfbmaa.Sta
