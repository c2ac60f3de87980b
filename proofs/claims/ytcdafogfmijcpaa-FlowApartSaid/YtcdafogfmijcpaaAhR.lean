/-
  Walking through a range over a function: the statement, and a call of what is handed to it.
-/
import Derived.Test.YtcdafogfmijcpaaAhX
namespace Go.Proofs.YtcdafogfmijcpaaW.Ah
set_option linter.unusedVariables false
set_option linter.unusedSimpArgs false
section
variable {P : Program} {T : Tab} {k : Nat} {t : Nat → AV} {H : Mem} {n : Nat} {C : Cont} {st : List It}

theorem EvQ.stk {c : Code} (h : Stk P T k [.code c] t H n C) : EvQ P T k c ⟨t, H, n⟩ (fun e s => C e s.t s.H s.n) := by
  rw [Stk] at h
  refine EvQ.mono h fun e s hq => ?_
  cases e <;> exact hq

/-- One round. -/
def Round (P : Program) (T : Tab) (k : Nat) (t0 : Nat → AV) (ps : Array Nat) (asg bod : Code) (i : Nat) (args : List AV) (H : Mem) (n : Nat) (W : Bool → Mem → Nat → Prop) : Prop :=
  EvQ P T k asg ⟨fillT t0 (ps.toList.zip args), H, n⟩ (fun e s1 => e = .normal ∧ ∃ t1 k1 ps1 asg1 bod1, s1.H i = some (.loop t1 k1 ps1 asg1 bod1 .ready) ∧
    EvQ P T k bod ⟨s1.t, upd s1.H i (some (.loop t1 k1 ps1 asg1 bod1 .busy)), s1.n⟩ (fun e2 s2 => ∃ t2 k2 ps2 asg2 bod2, s2.H i = some (.loop t2 k2 ps2 asg2 bod2 .busy) ∧ W (e2 == .normal) (upd s2.H i (some (.loop t2 k2 ps2 asg2 bod2 e2.stt))) s2.n))

theorem Round.walk {t0 : Nat → AV} {ps : Array Nat} {asg bod : Code} {i : Nat} {args : List AV} {W : Bool → Mem → Nat → Prop}
    (h : ∀ C : Cont, (∀ t H n, (∃ t1 k1 ps1 asg1 bod1, H i = some (.loop t1 k1 ps1 asg1 bod1 .ready) ∧
      ∀ C2 : Cont, (∀ e t2 H2 n2, (∃ t3 k2 ps2 asg2 bod2, H2 i = some (.loop t3 k2 ps2 asg2 bod2 .busy) ∧ W (e == .normal) (upd H2 i (some (.loop t3 k2 ps2 asg2 bod2 e.stt))) n2) → C2 e t2 H2 n2) → Stk P T k [.code bod] t (upd H i (some (.loop t1 k1 ps1 asg1 bod1 .busy))) n C2) → C .normal t H n) →
      Stk P T k [.code asg] (fillT t0 (ps.toList.zip args)) H n C) : Round P T k t0 ps asg bod i args H n W := by
  refine EvQ.stk (h (fun e t H n => e = .normal ∧ ∃ t1 k1 ps1 asg1 bod1, H i = some (.loop t1 k1 ps1 asg1 bod1 .ready) ∧
    EvQ P T k bod ⟨t, upd H i (some (.loop t1 k1 ps1 asg1 bod1 .busy)), n⟩ (fun e2 s2 => ∃ t2 k2 ps2 asg2 bod2, s2.H i = some (.loop t2 k2 ps2 asg2 bod2 .busy) ∧ W (e2 == .normal) (upd s2.H i (some (.loop t2 k2 ps2 asg2 bod2 e2.stt))) s2.n)) ?_)
  rintro t H n ⟨t1, k1, ps1, asg1, bod1, h1, h2⟩
  exact ⟨rfl, t1, k1, ps1, asg1, bod1, h1, EvQ.stk (h2 (fun e t2 H2 n2 => ∃ t3 k2 ps2 asg2 bod2, H2 i = some (.loop t3 k2 ps2 asg2 bod2 .busy) ∧ W (e == .normal) (upd H2 i (some (.loop t3 k2 ps2 asg2 bod2 e.stt))) n2) fun e t2 H2 n2 h => h)⟩

theorem Stk.round {i k0 : Nat} {t0 : Nat → AV} {ps : Array Nat} {asg bod : Code} {W : Bool → Mem → Nat → Prop} {G : Array Oper} {l : List Oper} {dst : Option Nat} {f : Operand} {xs : Array Operand} {ats : Array TypeId} {ty : TypeId} {pos : String} {after : Array Edge} {guard : Option (Nat × Bool)}
    (h1 : wantedA G ⟨dst, .call ⟨.value f, xs, ats⟩, ty, pos, after, guard⟩ t = some true) (h2 : dstOk k ⟨dst, .call ⟨.value f, xs, ats⟩, ty, pos, after, guard⟩ = true)
    (hf : ev t f = .yld i) (hi : H i = some (.loop t0 k0 ps asg bod .ready)) (hps : ps.size = xs.size) (hk : ps.toList.all (fun p => decide (p < k0)) = true)
    (hr : Round P T k0 t0 ps asg bod i (xs.toList.map (ev t)) H n W)
    (h4 : ∀ b H' n', W b H' n' → Stk P T k (.ops G l :: st) (putA t dst (.sc (.bool b))) H' n' C) : Stk P T k (.ops G (⟨dst, .call ⟨.value f, xs, ats⟩, ty, pos, after, guard⟩ :: l) :: st) t H n C := by
  obtain ⟨e, s1, q1, rfl, t1, k1, ps1, asg1, bod1, q2, e2, s2, q3, t2, k2, ps2, asg2, bod2, q4, q5⟩ := hr
  have := h4 _ _ _ q5
  simp only [Stk] at this ⊢
  obtain ⟨s', g1, g2⟩ := this
  exact ⟨s', .op h1 h2 (.round rfl rfl hf hi hps hk q1 q2 q3 q4) g1, g2⟩

theorem Stk.range {Z : AV → Mem → Nat → Prop} {f : Operand} {ps : Array Nat} {asg bod : Code} {g : FuncId} {first caps : List AV} (hf : ev t f = .fn (.func g) first caps)
    (hr : RunQ P T g (first ++ [.yld n] ++ caps) (upd H n (some (.loop t k ps asg bod .ready))) (n + 1) Z)
    (h : ∀ v H' n', Z v H' n' → (∃ t0 k0 ps0 asg0 bod0, H' n = some (.loop t0 k0 ps0 asg0 bod0 .ready)) ∧ Stk P T k st t (upd H' n none) n' C) : Stk P T k (.code (.rangeFunc f ps asg bod) :: st) t H n C := by
  obtain ⟨v, H', n', q1, q2⟩ := hr
  obtain ⟨⟨t0, k0, ps0, asg0, bod0, q3⟩, q4⟩ := h v H' n' q2
  simp only [Stk]
  exact ⟨.normal, ⟨t, upd H' n none, n'⟩, .rangeN hf q1 q3, q4⟩
/-- Likewise, its codes given names. -/
theorem Stk.rangeC {f : Operand} {ps : Array Nat} {asg bod : Code} {g : FuncId} {first caps : List AV} (hf : ev t f = .fn (.func g) first caps)
    (h : ∀ A B, A = asg → B = bod → ∃ Z : AV → Mem → Nat → Prop, RunQ P T g (first ++ [.yld n] ++ caps) (upd H n (some (.loop t k ps A B .ready))) (n + 1) Z ∧
      ∀ v H' n', Z v H' n' → (∃ t0 k0 ps0 asg0 bod0, H' n = some (.loop t0 k0 ps0 asg0 bod0 .ready)) ∧ Stk P T k st t (upd H' n none) n' C) : Stk P T k (.code (.rangeFunc f ps asg bod) :: st) t H n C := by
  obtain ⟨Z, h1, h2⟩ := h asg bod rfl rfl
  exact Stk.range hf h1 h2
end
end Go.Proofs.YtcdafogfmijcpaaW.Ah
