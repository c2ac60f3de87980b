/-
  Long functions are walked in pieces.
-/
import Derived.Test.YtfflojbgikfbmaaAhO
namespace Go.Proofs.YtfflojbgikfbmaaW.Ah
set_option linter.unusedVariables false
set_option linter.unusedSimpArgs false

/-- A code's parts, one behind the other. -/
def seqs : Code → List Code
  | .seq x y => seqs x ++ seqs y
  | c => [c]

def codes (l : List Code) : List It := l.map .code

section
variable {P : Program} {T : Tab} {k : Nat} {t : Nat → AV} {H : Mem} {n : Nat} {C : Cont}

theorem resX_codes (id : Nat) : ∀ (l : List Code) (t : Nat → AV) (H : Mem) (n : Nat) (C : Cont), Stk.resX P T k id (codes l) t H n C = C (.exit id) t H n
  | [], _, _, _, _ => rfl
  | _ :: l, t, H, n, C => by
    show Stk.resX P T k id (codes l) t H n C = _
    exact resX_codes id l t H n C

theorem Stk.seqs : ∀ (c : Code) (st : List It) {t : Nat → AV} {H : Mem} {n : Nat} {C : Cont}, Stk P T k (codes (seqs c) ++ st) t H n C → Stk P T k (.code c :: st) t H n C := by
  intro c
  induction c with
  | seq x y ihx ihy =>
    intro st t H n C h
    have h2 : Stk P T k (.code x :: .code y :: st) t H n C := by
      refine ihx _ ?_
      have : codes (Ah.seqs (.seq x y)) ++ st = codes (Ah.seqs x) ++ (codes (Ah.seqs y) ++ st) := by simp [codes, Ah.seqs]
      rw [this] at h
      have key : ∀ (l : List Code) (s1 s2 : List It), (∀ t H n, Stk P T k s1 t H n C → Stk P T k s2 t H n C) → (∀ id t H n, Stk.resX P T k id s1 t H n C → Stk.resX P T k id s2 t H n C) → ∀ t H n, Stk P T k (codes l ++ s1) t H n C → Stk P T k (codes l ++ s2) t H n C := by
        intro l
        induction l with
        | nil => intro s1 s2 a b t H n h; exact a t H n h
        | cons c l ih =>
          intro s1 s2 a b t H n h
          show Stk P T k (.code c :: (codes l ++ s2)) t H n C
          have h : Stk P T k (.code c :: (codes l ++ s1)) t H n C := h
          simp only [Stk] at h ⊢
          refine EvQ.mono h fun e s hq => ?_
          cases e with
          | normal => exact ih s1 s2 a b _ _ _ hq
          | exit id =>
            have kx : ∀ (l : List Code) t H n, Stk.resX P T k id (codes l ++ s1) t H n C → Stk.resX P T k id (codes l ++ s2) t H n C := by
              intro l
              induction l with
              | nil => intro t H n h; exact b id t H n h
              | cons c l ih => intro t H n h; exact ih t H n h
            exact kx l _ _ _ hq
          | _ => exact hq
      refine key _ _ _ (fun t H n h => ihy _ h) (fun id t H n h => ?_) _ _ _ h
      have kx : ∀ (l : List Code), Stk.resX P T k id (codes l ++ st) t H n C → Stk.resX P T k id st t H n C := by
        intro l
        induction l with
        | nil => intro h; exact h
        | cons c l ih => intro h; exact ih h
      exact kx _ h
    simp only [Stk] at h2 ⊢
    refine EvQ.seq (EvQ.mono h2 fun e s hq => ?_)
    cases e <;> exact hq
  | _ => intro st t H n C h; exact h

theorem Stk.tail {s1 s2 : List It} (a : ∀ t H n, Stk P T k s1 t H n C → Stk P T k s2 t H n C) (b : ∀ id t H n, Stk.resX P T k id s1 t H n C → Stk.resX P T k id s2 t H n C) : ∀ (l : List Code) t H n, Stk P T k (codes l ++ s1) t H n C → Stk P T k (codes l ++ s2) t H n C
  | [], t, H, n, h => a t H n h
  | c :: l, t, H, n, h => by
    show Stk P T k (.code c :: (codes l ++ s2)) t H n C
    have h : Stk P T k (.code c :: (codes l ++ s1)) t H n C := h
    simp only [Stk] at h ⊢
    refine EvQ.mono h fun e s hq => ?_
    cases e with
    | normal => exact Stk.tail a b l _ _ _ hq
    | exit id =>
      have kx : ∀ (l : List Code) t H n, Stk.resX P T k id (codes l ++ s1) t H n C → Stk.resX P T k id (codes l ++ s2) t H n C := by
        intro l
        induction l with
        | nil => intro t H n h; exact b id t H n h
        | cons c l ih => intro t H n h; exact ih t H n h
      exact kx l _ _ _ hq
    | _ => exact hq

/-- The next codes alone; what comes behind them is J. -/
theorem Stk.cut {l l' : List Code} (cs : List Code) (hl : l = cs ++ l') (h : ∀ J : Nat → (Nat → AV) → Mem → Nat → Prop, (∀ t H n, Stk P T k (codes l') t H n C → J 0 t H n) → Stk P T k (codes cs ++ [.loop J 1]) t H n C) : Stk P T k (codes l) t H n C := by
  subst hl
  have := h (fun _ t H n => Stk P T k (codes l') t H n C) (fun _ _ _ h => h)
  have e : codes (cs ++ l') = codes cs ++ codes l' := by simp [codes]
  rw [e]
  refine Stk.tail (fun t H n h => ?_) (fun id t H n h => ?_) cs _ _ _ this
  · obtain ⟨m, _, h⟩ := h; exact h
  · simp only [Stk.resX] at h
    rw [resX_codes]; exact h

theorem RunF.parts {f : FuncId} {fn : Func} {c : Code} {args : List AV} {r : AV} (h1 : P.funcs[f]? = some fn) (h2 : fn.body = some c) (h3 : (fn.name == "runtime.NumGoroutine") = false) {k : Nat} (hk : fn.ntmps = k) (h4 : Nat.ble args.length k = true) {rs : List ResultVar} (hrs : fn.results.toList = rs)
    (h : ∀ C : Cont, (∀ t H n, resOf T rs ⟨t, H, n⟩ = some r → C .ret t H n) → (∀ t H n, resOf T rs ⟨t, H, n⟩ = some r → C .normal t H n) → Stk P T k (codes (seqs c)) (initT args) (fun _ => none) 0 C) : RunF P T f args r := by
  refine RunF.ev 0 h1 h2 h3 hk h4 hrs fun C a b => ?_
  have := Stk.seqs c [] (by rw [List.append_nil]; exact h C a b)
  exact this
end

end Go.Proofs.YtfflojbgikfbmaaW.Ah
