/-
  Both stacks side by side: what one thing comes to.
-/
import Derived.Test.YtfflojbgikfbmaaSJ
namespace Go.Proofs.Ytfflojbgikfbmaa.Sta
open Go.Proofs.YtfflojbgikfbmaaW.Ah
set_option maxRecDepth 4000
set_option linter.unusedVariables false
set_option linter.unusedSimpArgs false
attribute [local simp] T.t3 T.t4 T.t5 T.t26 T.t39 T.t40 T.t41 T.t47 T.t49 T.t73 T.t77 T.t79 T.t128 T.t130 T.t132 T.t135 T.t150 Op.maxDepth List.range List.range.loop
attribute [-simp] appendAV cellsOf cellOk partOk
attribute [local simp] cellsOf_sc cellOk_sc partOk_sc cellsOf_own cellOk_own partOk_own cellsOf_osl cellOk_osl partOk_osl cellsOf_sh cellOk_sh partOk_sh cellsOf_ssl cellOk_ssl partOk_ssl cellsOf_esl cellOk_esl partOk_esl cellsOf_fn cellOk_fn partOk_fn cellsOf_omap cellOk_omap partOk_omap cellsOf_agg partOk_agg cellsOf_slv cellOk_slv partOk_slv

theorem impQ {f : FuncId} {args : List AV} {H : Mem} {n : Nat} {Q Q' : AV → Mem → Nat → Prop} (h : RunQ Try.prog T.T f args H n Q) (hq : ∀ r H' n', Q r H' n' → Q' r H' n') : RunQ Try.prog T.T f args H n Q' := by
  obtain ⟨r, H', n', h1, h2⟩ := h
  exact ⟨r, H', n', h1, hq _ _ _ h2⟩

theorem St.stay {H H' : Mem} {n n' p : Nat} {s : Sk} {ia ib : Option Nat} (h : St H n p s ia ib) (hn : n ≤ n') (hk : ∀ j, j < n → H' j = H j) : Step H n p ia ib H' n' s ia ib :=
  ⟨h.far hn hk, hn, fun j hj _ _ _ => hk j hj, fun _ h => .inl h, fun _ h => .inl h⟩
theorem Rt.stay {H H' : Mem} {n n' p : Nat} {s : Sk} {ia ib : Option Nat} (h : Rt H n p s ia ib) (hn : n ≤ n') (hk : ∀ j, j < n → H' j = H j) : RStep H n p ia ib H' n' s ia ib :=
  ⟨h.far hn hk, hn, fun j hj _ _ _ => hk j hj, fun _ h => .inl h, fun _ h => .inl h⟩

/-- What comes of each thing: a number, and how the stack stands. -/
def Sk.dPush (s : Sk) (x : Int) : Int × Sk := if s.slots.length < s.most then (0, ⟨s.slots ++ [x], s.frames, s.most, max s.peak (s.slots.length + 1)⟩) else (24, s)
def Sk.dPop (s : Sk) : Int × Int × Sk := if s.base < s.slots.length then (s.slots.getD (s.slots.length - 1) 0, 0, ⟨s.slots.take (s.slots.length - 1), s.frames, s.most, s.peak⟩) else (0, 24, s)
def Sk.dGet (s : Sk) (k : Int) : Int × Int := if 0 ≤ k ∧ k < (s.slots.length - s.base : Nat) then (s.slots.getD (s.base + k.toNat) 0, 0) else (0, 24)
def Sk.dSet (s : Sk) (k x : Int) : Int × Sk := if 0 ≤ k ∧ k < (s.slots.length - s.base : Nat) then (0, ⟨s.slots.set (s.base + k.toNat) x, s.frames, s.most, s.peak⟩) else (24, s)
def Sk.dSlide (s : Sk) (k : Int) : Int × Sk := if 0 ≤ k ∧ k < (s.slots.length - s.base : Nat) then (0, ⟨s.slots.take (s.slots.length - 1 - k.toNat) ++ [s.slots.getD (s.slots.length - 1) 0], s.frames, s.most, s.peak⟩) else (24, s)
def Sk.dEnter (s : Sk) (g k : Int) : Int × Sk := if 0 ≤ k ∧ k ≤ (s.slots.length - s.base : Nat) ∧ s.frames.length < 65536 then (0, ⟨s.slots, s.frames ++ [(g, 0, s.slots.length - k.toNat)], s.most, s.peak⟩) else (24, s)
def Sk.dLeave (s : Sk) : Int × Sk := if s.base < s.slots.length ∧ s.frames ≠ [] then (0, ⟨s.slots.take s.base ++ [s.slots.getD (s.slots.length - 1) 0], s.frames.take (s.frames.length - 1), s.most, s.peak⟩) else (24, s)
def Sk.dJump (s : Sk) (pc : Int) : Int × Sk := if s.frames ≠ [] then (0, ⟨s.slots, s.jumped pc, s.most, s.peak⟩) else (24, s)
def Sk.dMoved (s : Sk) (xs : List Int) : Int × Sk := if xs.length = s.slots.length then (0, ⟨xs, s.frames, s.most, s.peak⟩) else (24, s)
open Classical in
noncomputable def Sk.dCut (s : Sk) (k m : Int) : Int × Sk := if s.cuts k m then (0, ⟨s.slots.take m.toNat, s.frames.take k.toNat, s.most, s.peak⟩) else (24, s)

section
variable {H : Mem} {n p : Nat} {s : Sk} {ia ib : Option Nat}

def Did (H : Mem) (n p : Nat) (ia ib : Option Nat) (v : AV) (s' : Sk) (r : AV) (H' : Mem) (n' : Nat) : Prop := r = v ∧ ∃ ia' ib', Step H n p ia ib H' n' s' ia' ib'
def RDid (H : Mem) (n p : Nat) (ia ib : Option Nat) (v : AV) (s' : Sk) (r : AV) (H' : Mem) (n' : Nat) : Prop := r = v ∧ ∃ ia' ib', RStep H n p ia ib H' n' s' ia' ib'

theorem gPush (h : St H n p s ia ib) (x : Int) : RunQ Try.prog T.T 21 [.own p 0, U x] H n (Did H n p ia ib (I (s.dPush x).1) (s.dPush x).2) := by
  refine impQ (push h x) fun r H' n' hz => ?_
  unfold Sk.dPush
  split at hz
  · rename_i hc; rw [if_pos hc]; exact hz
  · rename_i hc; obtain ⟨rfl, rfl, rfl⟩ := hz; rw [if_neg hc]; exact ⟨rfl, ia, ib, h.stay (Nat.le_refl _) fun _ _ => rfl⟩
theorem rPush (h : Rt H n p s ia ib) (x : Int) : RunQ Try.prog T.T 96 [.own p 0, U x] H n (RDid H n p ia ib (I (s.dPush x).1) (s.dPush x).2) := by
  refine impQ (pushR h x) fun r H' n' hz => ?_
  unfold Sk.dPush
  split at hz
  · rename_i hc; rw [if_pos hc]; exact hz
  · rename_i hc; obtain ⟨rfl, rfl, rfl⟩ := hz; rw [if_neg hc]; exact ⟨rfl, ia, ib, h.stay (Nat.le_refl _) fun _ _ => rfl⟩

theorem gPop (h : St H n p s ia ib) : RunQ Try.prog T.T 25 [.own p 0] H n (Did H n p ia ib (.tup [U s.dPop.1, I s.dPop.2.1]) s.dPop.2.2) := by
  refine impQ (pop h) fun r H' n' hz => ?_
  unfold Sk.dPop
  split at hz
  · rename_i hc; rw [if_pos hc]; exact ⟨hz.1, ia, ib, hz.2⟩
  · rename_i hc; obtain ⟨rfl, rfl, rfl⟩ := hz; rw [if_neg hc]; exact ⟨rfl, ia, ib, h.stay (Nat.le_refl _) fun _ _ => rfl⟩
theorem rPop (h : Rt H n p s ia ib) : RunQ Try.prog T.T 97 [.own p 0] H n (RDid H n p ia ib (.tup [U s.dPop.1, I s.dPop.2.1]) s.dPop.2.2) := by
  refine impQ (popR h) fun r H' n' hz => ?_
  unfold Sk.dPop
  split at hz
  · rename_i hc; rw [if_pos hc]; exact hz
  · rename_i hc; rw [if_neg hc]; exact ⟨hz.1, ia, ib, h.stay hz.2.1 hz.2.2⟩

theorem gGet (h : St H n p s ia ib) (k : Int) : RunQ Try.prog T.T 27 [.own p 0, I k] H n (Did H n p ia ib (.tup [U (s.dGet k).1, I (s.dGet k).2]) s) := by
  refine impQ (get h k) fun r H' n' hz => ?_
  unfold Sk.dGet
  obtain ⟨rfl, rfl, rfl⟩ := hz
  exact ⟨by split <;> rfl, ia, ib, h.stay (Nat.le_refl _) fun _ _ => rfl⟩
theorem rGet (h : Rt H n p s ia ib) (k : Int) : RunQ Try.prog T.T 98 [.own p 0, I k] H n (RDid H n p ia ib (.tup [U (s.dGet k).1, I (s.dGet k).2]) s) := by
  refine impQ (getR h k) fun r H' n' hz => ?_
  unfold Sk.dGet
  obtain ⟨rfl, l, g⟩ := hz
  exact ⟨by split <;> rfl, ia, ib, h.stay l g⟩

theorem gSet (h : St H n p s ia ib) (k x : Int) : RunQ Try.prog T.T 26 [.own p 0, I k, U x] H n (Did H n p ia ib (I (s.dSet k x).1) (s.dSet k x).2) := by
  refine impQ (set h k x) fun r H' n' hz => ?_
  unfold Sk.dSet
  split at hz
  · rename_i hc; rw [if_pos hc]; exact ⟨hz.1, ia, ib, hz.2⟩
  · rename_i hc; obtain ⟨rfl, rfl, rfl⟩ := hz; rw [if_neg hc]; exact ⟨rfl, ia, ib, h.stay (Nat.le_refl _) fun _ _ => rfl⟩
theorem rSet (h : Rt H n p s ia ib) (k x : Int) : RunQ Try.prog T.T 99 [.own p 0, I k, U x] H n (RDid H n p ia ib (I (s.dSet k x).1) (s.dSet k x).2) := by
  refine impQ (setR h k x) fun r H' n' hz => ?_
  unfold Sk.dSet
  split at hz
  · rename_i hc; rw [if_pos hc]; exact hz
  · rename_i hc; rw [if_neg hc]; exact ⟨hz.1, ia, ib, h.stay hz.2.1 hz.2.2⟩

theorem gSlide (h : St H n p s ia ib) (k : Int) : RunQ Try.prog T.T 28 [.own p 0, I k] H n (Did H n p ia ib (I (s.dSlide k).1) (s.dSlide k).2) := by
  refine impQ (slide h k) fun r H' n' hz => ?_
  unfold Sk.dSlide
  split at hz
  · rename_i hc; rw [if_pos hc]; exact hz
  · rename_i hc; obtain ⟨rfl, rfl, rfl⟩ := hz; rw [if_neg hc]; exact ⟨rfl, ia, ib, h.stay (Nat.le_refl _) fun _ _ => rfl⟩
theorem rSlide (h : Rt H n p s ia ib) (k : Int) : RunQ Try.prog T.T 100 [.own p 0, I k] H n (RDid H n p ia ib (I (s.dSlide k).1) (s.dSlide k).2) := by
  refine impQ (slideR h k) fun r H' n' hz => ?_
  unfold Sk.dSlide
  split at hz
  · rename_i hc; rw [if_pos hc]
    obtain ⟨h1, ia', ib', h2⟩ := hz
    exact ⟨h1, ia', ib', h2⟩
  · rename_i hc; rw [if_neg hc]; exact ⟨hz.1, ia, ib, h.stay hz.2.1 hz.2.2⟩

theorem gEnter (h : St H n p s ia ib) (g k : Int) : RunQ Try.prog T.T 22 [.own p 0, I g, I k] H n (Did H n p ia ib (I (s.dEnter g k).1) (s.dEnter g k).2) := by
  refine impQ (enter h g k) fun r H' n' hz => ?_
  unfold Sk.dEnter
  split at hz
  · rename_i hc; rw [if_pos hc]; exact hz
  · rename_i hc; obtain ⟨rfl, rfl, rfl⟩ := hz; rw [if_neg hc]; exact ⟨rfl, ia, ib, h.stay (Nat.le_refl _) fun _ _ => rfl⟩
theorem rEnter (h : Rt H n p s ia ib) (g k : Int) : RunQ Try.prog T.T 101 [.own p 0, I g, I k] H n (RDid H n p ia ib (I (s.dEnter g k).1) (s.dEnter g k).2) := by
  refine impQ (enterR h g k) fun r H' n' hz => ?_
  unfold Sk.dEnter
  split at hz
  · rename_i hc; rw [if_pos hc]; exact hz
  · rename_i hc; rw [if_neg hc]; exact ⟨hz.1, ia, ib, h.stay hz.2.1 hz.2.2⟩

theorem gLeave (h : St H n p s ia ib) : RunQ Try.prog T.T 23 [.own p 0] H n (Did H n p ia ib (I s.dLeave.1) s.dLeave.2) := by
  refine impQ (leave h) fun r H' n' hz => ?_
  unfold Sk.dLeave
  split at hz
  · rename_i hc; rw [if_pos hc]; exact hz
  · rename_i hc; obtain ⟨rfl, rfl, rfl⟩ := hz; rw [if_neg hc]; exact ⟨rfl, ia, ib, h.stay (Nat.le_refl _) fun _ _ => rfl⟩
theorem rLeave (h : Rt H n p s ia ib) : RunQ Try.prog T.T 102 [.own p 0] H n (RDid H n p ia ib (I s.dLeave.1) s.dLeave.2) := by
  refine impQ (leaveR h) fun r H' n' hz => ?_
  unfold Sk.dLeave
  split at hz
  · rename_i hc; rw [if_pos hc]; exact hz
  · rename_i hc; rw [if_neg hc]; exact ⟨hz.1, ia, ib, h.stay hz.2.1 hz.2.2⟩

theorem gJump (h : St H n p s ia ib) (pc : Int) : RunQ Try.prog T.T 107 [.own p 0, I pc] H n (Did H n p ia ib (I (s.dJump pc).1) (s.dJump pc).2) := by
  refine impQ (jump h pc) fun r H' n' hz => ?_
  unfold Sk.dJump
  split at hz
  · rename_i hc; rw [if_pos hc]; exact hz
  · rename_i hc; rw [if_neg hc]; exact ⟨hz.1, ia, ib, h.stay hz.2.1 hz.2.2⟩
theorem rJump (h : Rt H n p s ia ib) (pc : Int) : RunQ Try.prog T.T 108 [.own p 0, I pc] H n (RDid H n p ia ib (I (s.dJump pc).1) (s.dJump pc).2) := by
  refine impQ (jumpR h pc) fun r H' n' hz => ?_
  unfold Sk.dJump
  split at hz
  · rename_i hc; rw [if_pos hc]; exact hz
  · rename_i hc; rw [if_neg hc]; exact ⟨hz.1, ia, ib, h.stay hz.2.1 hz.2.2⟩

theorem gMoved (h : St H n p s ia ib) {o : Option Nat} {xs : List Int} {c : Option Nat} (ho : Own H 40 eU o xs) (hd : ∀ j, o = some j → j ≠ p ∧ ia ≠ some j) : RunQ Try.prog T.T 109 [.own p 0, slc o xs.length c] H n (Did H n p ia ib (I (s.dMoved xs).1) (s.dMoved xs).2) := by
  refine impQ (moved h ho hd) fun r H' n' hz => ?_
  unfold Sk.dMoved
  split at hz
  · rename_i hc; rw [if_pos hc]; exact hz
  · rename_i hc; rw [if_neg hc]; exact ⟨hz.1, ia, ib, h.stay hz.2.1 hz.2.2⟩
theorem rMoved (h : Rt H n p s ia ib) {o : Option Nat} {xs : List Int} {c : Option Nat} (ho : Own H 40 eU o xs) (hl : xs.length ≤ 65536) : RunQ Try.prog T.T 110 [.own p 0, slc o xs.length c] H n (RDid H n p ia ib (I (s.dMoved xs).1) (s.dMoved xs).2) := by
  refine impQ (movedR h ho hl) fun r H' n' hz => ?_
  unfold Sk.dMoved
  split at hz
  · rename_i hc; rw [if_pos hc]; exact hz
  · rename_i hc; rw [if_neg hc]; exact ⟨hz.1, ia, ib, h.stay hz.2.1 hz.2.2⟩

theorem gCut (h : St H n p s ia ib) (k m : Int) : RunQ Try.prog T.T 103 [.own p 0, I k, I m] H n (Did H n p ia ib (I (s.dCut k m).1) (s.dCut k m).2) := by
  refine impQ (cutG h k m) fun r H' n' hz => ?_
  unfold Sk.dCut
  by_cases hc : s.cuts k m
  · rw [if_pos hc]; exact hz.1 hc
  · have hz := hz.2 hc
    rw [if_neg hc]; exact ⟨hz.1, ia, ib, h.stay hz.2.1 hz.2.2⟩
theorem rCut (h : Rt H n p s ia ib) (k m : Int) : RunQ Try.prog T.T 104 [.own p 0, I k, I m] H n (RDid H n p ia ib (I (s.dCut k m).1) (s.dCut k m).2) := by
  refine impQ (cutR h k m) fun r H' n' hz => ?_
  unfold Sk.dCut
  by_cases hc : s.cuts k m
  · rw [if_pos hc]; exact hz.1 hc
  · have hz := hz.2 hc
    rw [if_neg hc]; exact ⟨hz.1, ia, ib, h.stay hz.2.1 hz.2.2⟩
end

/-- A stack's blocks. -/
def blocks (p : Nat) (ia ib : Option Nat) : List Nat := p :: (ia.toList ++ ib.toList)

theorem mem_blocks {p : Nat} {ia ib : Option Nat} {j : Nat} : j ∈ blocks p ia ib ↔ j = p ∨ ia = some j ∨ ib = some j := by
  unfold blocks
  simp

theorem Step.kept {H H' : Mem} {n n' p : Nat} {s' : Sk} {ia ib ia' ib' : Option Nat} (h : Step H n p ia ib H' n' s' ia' ib') {j : Nat} (hj : j < n) (hm : j ∉ blocks p ia ib) : H' j = H j := by
  rw [mem_blocks] at hm
  exact h.keep j hj (fun e => hm (.inl e)) (fun e => hm (.inr (.inl e))) (fun e => hm (.inr (.inr e)))
theorem RStep.kept {H H' : Mem} {n n' p : Nat} {s' : Sk} {ia ib ia' ib' : Option Nat} (h : RStep H n p ia ib H' n' s' ia' ib') {j : Nat} (hj : j < n) (hm : j ∉ blocks p ia ib) : H' j = H j := by
  rw [mem_blocks] at hm
  exact h.keep j hj (fun e => hm (.inl e)) (fun e => hm (.inr (.inl e))) (fun e => hm (.inr (.inr e)))
theorem Step.from {H H' : Mem} {n n' p : Nat} {s' : Sk} {ia ib ia' ib' : Option Nat} (h : Step H n p ia ib H' n' s' ia' ib') {j : Nat} (hm : j ∈ blocks p ia' ib') : j ∈ blocks p ia ib ∨ n ≤ j := by
  rw [mem_blocks] at hm ⊢
  rcases hm with e | e | e
  · exact .inl (.inl e)
  · exact (h.fa j e).imp (fun e => .inr (.inl e)) id
  · exact (h.fb j e).imp (fun e => .inr (.inr e)) id
theorem RStep.from {H H' : Mem} {n n' p : Nat} {s' : Sk} {ia ib ia' ib' : Option Nat} (h : RStep H n p ia ib H' n' s' ia' ib') {j : Nat} (hm : j ∈ blocks p ia' ib') : j ∈ blocks p ia ib ∨ n ≤ j := by
  rw [mem_blocks] at hm ⊢
  rcases hm with e | e | e
  · exact .inl (.inl e)
  · exact (h.fa j e).imp (fun e => .inr (.inl e)) id
  · exact (h.fb j e).imp (fun e => .inr (.inr e)) id

/-- As it was where its blocks are. -/
theorem St.same {H H' : Mem} {n n' p : Nat} {s : Sk} {ia ib : Option Nat} (h : St H n p s ia ib) (hn : n ≤ n') (hk : ∀ j ∈ blocks p ia ib, H' j = H j) : St H' n' p s ia ib :=
  ⟨by rw [hk p (mem_blocks.2 (.inl rfl)), h.hp], h.ha.mono fun i hi => hk i (mem_blocks.2 (.inr (.inl hi))), h.hb.mono fun i hi => hk i (mem_blocks.2 (.inr (.inr hi))), by have := h.lp; omega, fun i hi => ⟨by have := (h.la i hi).1; omega, (h.la i hi).2⟩, fun i hi => ⟨by have := (h.lb i hi).1; omega, (h.lb i hi).2⟩, h.ab, h.ok⟩
theorem Rt.same {H H' : Mem} {n n' p : Nat} {s : Sk} {ia ib : Option Nat} (h : Rt H n p s ia ib) (hn : n ≤ n') (hk : ∀ j ∈ blocks p ia ib, H' j = H j) : Rt H' n' p s ia ib :=
  ⟨by rw [hk p (mem_blocks.2 (.inl rfl)), h.hp], h.ha.mono fun i hi => hk i (mem_blocks.2 (.inr (.inl hi))), h.hb.mono fun i hi => hk i (mem_blocks.2 (.inr (.inr hi))), by have := h.lp; omega, fun i hi => ⟨by have := (h.la i hi).1; omega, (h.la i hi).2⟩, fun i hi => ⟨by have := (h.lb i hi).1; omega, (h.lb i hi).2⟩, h.ab, h.ok⟩
theorem St.under {H : Mem} {n p : Nat} {s : Sk} {ia ib : Option Nat} (h : St H n p s ia ib) {j : Nat} (hm : j ∈ blocks p ia ib) : j < n := by
  rcases mem_blocks.1 hm with e | e | e
  · rw [e]; exact h.lp
  · exact (h.la j e).1
  · exact (h.lb j e).1
theorem Rt.under {H : Mem} {n p : Nat} {s : Sk} {ia ib : Option Nat} (h : Rt H n p s ia ib) {j : Nat} (hm : j ∈ blocks p ia ib) : j < n := by
  rcases mem_blocks.1 hm with e | e | e
  · rw [e]; exact h.lp
  · exact (h.la j e).1
  · exact (h.lb j e).1

/-- Both, apart. -/
structure Two (H : Mem) (n p q : Nat) (s : Sk) (ia ib ja jb : Option Nat) : Prop where
  a : St H n p s ia ib
  b : Rt H n q s ja jb
  d : ∀ j, j ∈ blocks p ia ib → j ∈ blocks q ja jb → False

theorem Two.far {H H' : Mem} {n n' p q : Nat} {s : Sk} {ia ib ja jb : Option Nat} (h : Two H n p q s ia ib ja jb) (hn : n ≤ n') (hk : ∀ j, j < n → H' j = H j) : Two H' n' p q s ia ib ja jb :=
  ⟨h.a.far hn hk, h.b.far hn hk, h.d⟩

/-- The second one, behind what the first one did. -/
theorem Two.left {H H1 : Mem} {n n1 p q : Nat} {s s1 : Sk} {ia ib ja jb ia1 ib1 : Option Nat} (h : Two H n p q s ia ib ja jb) (st : Step H n p ia ib H1 n1 s1 ia1 ib1) : Rt H1 n1 q s ja jb :=
  h.b.same st.le fun j hj => st.kept (h.b.under hj) fun g => h.d j g hj

theorem Two.both {H H1 H2 : Mem} {n n1 n2 p q : Nat} {s s1 : Sk} {ia ib ja jb ia1 ib1 ja1 jb1 : Option Nat} (h : Two H n p q s ia ib ja jb) (st : Step H n p ia ib H1 n1 s1 ia1 ib1) (rt : RStep H1 n1 q ja jb H2 n2 s1 ja1 jb1) : Two H2 n2 p q s1 ia1 ib1 ja1 jb1 := by
  have hd : ∀ j, j ∈ blocks p ia1 ib1 → j ∈ blocks q ja jb → False := fun j g1 g2 => by
    rcases st.from g1 with e | e
    · exact h.d j e g2
    · have := h.b.under g2; omega
  refine ⟨st.st.same rt.le fun j hj => rt.kept (st.st.under hj) fun g => hd j hj g, rt.st, fun j g1 g2 => ?_⟩
  rcases rt.from g2 with e | e
  · exact hd j g1 e
  · have := st.st.under g1; omega

/-- Behind one thing that was done with both. -/
structure Next (H : Mem) (n p q : Nat) (ia ib ja jb : Option Nat) (H' : Mem) (n' : Nat) (s' : Sk) (ia' ib' ja' jb' : Option Nat) : Prop where
  two : Two H' n' p q s' ia' ib' ja' jb'
  le : n ≤ n'
  keep : ∀ j, j < n → j ∉ blocks p ia ib → j ∉ blocks q ja jb → H' j = H j
  fa : ∀ j, j ∈ blocks p ia' ib' → j ∈ blocks p ia ib ∨ n ≤ j
  fb : ∀ j, j ∈ blocks q ja' jb' → j ∈ blocks q ja jb ∨ n ≤ j

theorem Two.next {H H1 H2 : Mem} {n n1 n2 p q : Nat} {s s1 : Sk} {ia ib ja jb ia1 ib1 ja1 jb1 : Option Nat} (h : Two H n p q s ia ib ja jb) (st : Step H n p ia ib H1 n1 s1 ia1 ib1) (rt : RStep H1 n1 q ja jb H2 n2 s1 ja1 jb1) : Next H n p q ia ib ja jb H2 n2 s1 ia1 ib1 ja1 jb1 :=
  ⟨h.both st rt, Nat.le_trans st.le rt.le, fun j hj g1 g2 => by rw [rt.kept (by have := st.le; omega) g2, st.kept hj g1], fun j hj => st.from hj, fun j hj => (rt.from hj).imp id fun g => by have := st.le; omega⟩

theorem Next.after {H H0 H2 : Mem} {n n0 n2 p q : Nat} {s1 : Sk} {ia ib ja jb ia1 ib1 ja1 jb1 : Option Nat} (hn : n ≤ n0) (hk : ∀ j, j < n → H0 j = H j) (h : Next H0 n0 p q ia ib ja jb H2 n2 s1 ia1 ib1 ja1 jb1) : Next H n p q ia ib ja jb H2 n2 s1 ia1 ib1 ja1 jb1 :=
  ⟨h.two, Nat.le_trans hn h.le, fun j hj g1 g2 => by rw [h.keep j (by omega) g1 g2, hk j hj], fun j hj => (h.fa j hj).imp id fun g => by omega, fun j hj => (h.fb j hj).imp id fun g => by omega⟩

theorem Next.comp {H H1 H2 : Mem} {n n1 n2 p q : Nat} {s1 s2 : Sk} {ia ib ja jb ia1 ib1 ja1 jb1 ia2 ib2 ja2 jb2 : Option Nat} (h : Next H n p q ia ib ja jb H1 n1 s1 ia1 ib1 ja1 jb1) (g : Next H1 n1 p q ia1 ib1 ja1 jb1 H2 n2 s2 ia2 ib2 ja2 jb2) : Next H n p q ia ib ja jb H2 n2 s2 ia2 ib2 ja2 jb2 := by
  have hl := h.le
  refine ⟨g.two, Nat.le_trans h.le g.le, fun j hj g1 g2 => ?_, fun j hj => ?_, fun j hj => ?_⟩
  · rw [g.keep j (by omega) (fun e => ?_) (fun e => ?_), h.keep j hj g1 g2]
    · rcases h.fa j e with e | e
      · exact g1 e
      · omega
    · rcases h.fb j e with e | e
      · exact g2 e
      · omega
  · rcases g.fa j hj with e | e
    · exact h.fa j e
    · exact .inr (by omega)
  · rcases g.fb j hj with e | e
    · exact h.fb j e
    · exact .inr (by omega)

def Fine (H : Mem) (n p q : Nat) (ia ib ja jb : Option Nat) (r : AV) (H' : Mem) (n' : Nat) : Prop := r = B true ∧ ∃ s' ia' ib' ja' jb', Next H n p q ia ib ja jb H' n' s' ia' ib' ja' jb'
end Go.Proofs.Ytfflojbgikfbmaa.Sta
