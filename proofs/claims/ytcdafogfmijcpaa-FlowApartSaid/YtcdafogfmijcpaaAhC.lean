/-
  Long functions are walked in pieces.
-/
import Derived.Test.YtcdafogfmijcpaaAhO
namespace Go.Proofs.YtcdafogfmijcpaaW.Ah
set_option linter.unusedVariables false
set_option linter.unusedSimpArgs false

/-- A code's parts, one behind the other. -/
def seqs : Code → List Code
  | .seq x y => seqs x ++ seqs y
  | c => [c]

def codes (l : List Code) : List It := l.map .code

section
variable {P : Program} {T : Tab} {k : Nat} {t : Nat → AV} {H : Mem} {n : Nat} {C : Cont}

theorem resX_codes (id : Nat) : ∀ (l : List Code) (t : Nat → AV) (H : Mem) (n : Nat) (C : Cont), Stk.resX P T k id (codes l) t H n C = C (.exit id) t H n
  | [], _, _, _, _ => rfl
  | _ :: l, t, H, n, C => by
    show Stk.resX P T k id (codes l) t H n C = _
    exact resX_codes id l t H n C

theorem Stk.seqs : ∀ (c : Code) (st : List It) {t : Nat → AV} {H : Mem} {n : Nat} {C : Cont}, Stk P T k (codes (seqs c) ++ st) t H n C → Stk P T k (.code c :: st) t H n C := by
  intro c
  induction c with
  | seq x y ihx ihy =>
    intro st t H n C h
    have h2 : Stk P T k (.code x :: .code y :: st) t H n C := by
      refine ihx _ ?_
      have : codes (Ah.seqs (.seq x y)) ++ st = codes (Ah.seqs x) ++ (codes (Ah.seqs y) ++ st) := by simp [codes, Ah.seqs]
      rw [this] at h
      have key : ∀ (l : List Code) (s1 s2 : List It), (∀ t H n, Stk P T k s1 t H n C → Stk P T k s2 t H n C) → (∀ id t H n, Stk.resX P T k id s1 t H n C → Stk.resX P T k id s2 t H n C) → ∀ t H n, Stk P T k (codes l ++ s1) t H n C → Stk P T k (codes l ++ s2) t H n C := by
        intro l
        induction l with
        | nil => intro s1 s2 a b t H n h; exact a t H n h
        | cons c l ih =>
          intro s1 s2 a b t H n h
          show Stk P T k (.code c :: (codes l ++ s2)) t H n C
          have h : Stk P T k (.code c :: (codes l ++ s1)) t H n C := h
          simp only [Stk] at h ⊢
          refine EvQ.mono h fun e s hq => ?_
          cases e with
          | normal => exact ih s1 s2 a b _ _ _ hq
          | exit id =>
            have kx : ∀ (l : List Code) t H n, Stk.resX P T k id (codes l ++ s1) t H n C → Stk.resX P T k id (codes l ++ s2) t H n C := by
              intro l
              induction l with
              | nil => intro t H n h; exact b id t H n h
              | cons c l ih => intro t H n h; exact ih t H n h
            exact kx l _ _ _ hq
          | _ => exact hq
      refine key _ _ _ (fun t H n h => ihy _ h) (fun id t H n h => ?_) _ _ _ h
      have kx : ∀ (l : List Code), Stk.resX P T k id (codes l ++ st) t H n C → Stk.resX P T k id st t H n C := by
        intro l
        induction l with
        | nil => intro h; exact h
        | cons c l ih => intro h; exact ih h
      exact kx _ h
    simp only [Stk] at h2 ⊢
    refine EvQ.seq (EvQ.mono h2 fun e s hq => ?_)
    cases e <;> exact hq
  | _ => intro st t H n C h; exact h

theorem Stk.tail {s1 s2 : List It} (a : ∀ t H n, Stk P T k s1 t H n C → Stk P T k s2 t H n C) (b : ∀ id t H n, Stk.resX P T k id s1 t H n C → Stk.resX P T k id s2 t H n C) : ∀ (l : List Code) t H n, Stk P T k (codes l ++ s1) t H n C → Stk P T k (codes l ++ s2) t H n C
  | [], t, H, n, h => a t H n h
  | c :: l, t, H, n, h => by
    show Stk P T k (.code c :: (codes l ++ s2)) t H n C
    have h : Stk P T k (.code c :: (codes l ++ s1)) t H n C := h
    simp only [Stk] at h ⊢
    refine EvQ.mono h fun e s hq => ?_
    cases e with
    | normal => exact Stk.tail a b l _ _ _ hq
    | exit id =>
      have kx : ∀ (l : List Code) t H n, Stk.resX P T k id (codes l ++ s1) t H n C → Stk.resX P T k id (codes l ++ s2) t H n C := by
        intro l
        induction l with
        | nil => intro t H n h; exact b id t H n h
        | cons c l ih => intro t H n h; exact ih t H n h
      exact kx l _ _ _ hq
    | _ => exact hq

/-- The next codes alone; what comes behind them is J. -/
theorem Stk.cut {l l' : List Code} (cs : List Code) (hl : l = cs ++ l') (h : ∀ J : Nat → (Nat → AV) → Mem → Nat → Prop, (∀ t H n, Stk P T k (codes l') t H n C → J 0 t H n) → Stk P T k (codes cs ++ [.loop J 1]) t H n C) : Stk P T k (codes l) t H n C := by
  subst hl
  have := h (fun _ t H n => Stk P T k (codes l') t H n C) (fun _ _ _ h => h)
  have e : codes (cs ++ l') = codes cs ++ codes l' := by simp [codes]
  rw [e]
  refine Stk.tail (fun t H n h => ?_) (fun id t H n h => ?_) cs _ _ _ this
  · obtain ⟨m, _, h⟩ := h; exact h
  · simp only [Stk.resX] at h
    rw [resX_codes]; exact h

theorem RunF.parts {f : FuncId} {fn : Func} {c : Code} {args : List AV} {r : AV} (h1 : P.funcs[f]? = some fn) (h2 : fn.body = some c) (h3 : (fn.name == "runtime.NumGoroutine") = false) {k : Nat} (hk : fn.ntmps = k) (h4 : Nat.ble args.length k = true) {rs : List ResultVar} (hrs : fn.results.toList = rs)
    (h : ∀ C : Cont, (∀ t H n, resOf T rs ⟨t, H, n⟩ = some r → C .ret t H n) → (∀ t H n, resOf T rs ⟨t, H, n⟩ = some r → C .normal t H n) → Stk P T k (codes (seqs c)) (initT args) (fun _ => none) 0 C) : RunF P T f args r := by
  refine RunF.ev 0 h1 h2 h3 hk h4 hrs fun C a b => ?_
  have := Stk.seqs c [] (by rw [List.append_nil]; exact h C a b)
  exact this
end

/-- What is read besides hinders no order, if nobody writes it. -/
theorem drawOk2_read {G : Array Oper} {q : Option Nat} (cl : List Cls) (k : Nat) (R : List Nat) (hs : ∀ c ∈ cl, ∀ S b, c = .mem S b → ∀ r ∈ R, r ∉ S) (hk : cl[k]? = some (.rd [])) (hd : drawOk2 G cl q = true) : drawOk2 G (cl.set k (.rd R)) q = true := by
  have hkl : k < cl.length := by
    cases h : decide (k < cl.length) with
    | true => simpa using h
    | false => rw [List.getElem?_eq_none (by simpa using h)] at hk; cases hk
  have e : ∀ x : Nat, (cl.set k (.rd R))[x]? = if x = k then some (.rd R) else cl[x]? := by
    intro x
    rw [List.getElem?_set]
    by_cases h : k = x
    · subst h; simp [hkl]
    · rw [if_neg h, if_neg (fun e => h e.symm)]
  have hS : ∀ (x : Nat) (S : List Nat) (b : Nat), cl[x]? = some (.mem S b) → (R.all fun j => !S.contains j) = true := by
    intro x S b hx
    have := hs _ (List.mem_of_getElem? hx) S b rfl
    rw [List.all_eq_true]
    intro r hr
    simpa using this r hr
  have key : ∀ a b : Nat, Cls.indep' cl[a]? cl[b]? = true → Cls.indep' (cl.set k (.rd R))[a]? (cl.set k (.rd R))[b]? = true := by
    intro a b h
    rw [e a, e b]
    by_cases ha : a = k
    · subst ha
      rw [if_pos rfl]
      by_cases hb : b = a
      · subst hb; rw [if_pos rfl]; rfl
      · rw [if_neg hb]
        rw [hk] at h
        cases hc : cl[b]? with
        | none => rw [hc] at h; simp [Cls.indep'] at h
        | some c =>
          cases c with
          | rd R2 => rfl
          | mem S b2 => simp only [Cls.indep']; exact hS b S b2 hc
    · rw [if_neg ha]
      by_cases hb : b = k
      · subst hb
        rw [if_pos rfl]
        rw [hk] at h
        cases hc : cl[a]? with
        | none => rw [hc] at h; simp [Cls.indep'] at h
        | some c =>
          cases c with
          | rd R2 => rfl
          | mem S b2 => simp only [Cls.indep']; exact hS a S b2 hc
      · rw [if_neg hb]; exact h
  have key2 : ∀ a b : Nat, indep2 G cl a b = true → indep2 G (cl.set k (.rd R)) a b = true := by
    intro a b h
    unfold indep2 at h ⊢
    split at h
    · rename_i x y hx hy
      simp only [Bool.and_eq_true] at h ⊢
      exact ⟨h.1, key a b h.2⟩
    · cases h
  have key3 : ∀ a b : Nat, pairOk2 G cl q a b = true → pairOk2 G (cl.set k (.rd R)) q a b = true := by
    intro a b h
    unfold pairOk2 at h ⊢
    split
    · rename_i hq
      rw [if_pos hq, Bool.or_eq_true] at h
      rw [Bool.or_eq_true]
      rcases h with h | h
      · refine .inl ?_
        unfold barrier2 at h ⊢
        rw [Bool.and_eq_true, List.all_eq_true] at h ⊢
        refine ⟨h.1, fun x hx => ?_⟩
        have := h.2 x hx
        rw [Bool.or_eq_true] at this ⊢
        exact this.imp (key2 x a) id
      · exact .inr (key2 a b h)
    · rename_i hq
      rw [if_neg hq] at h
      split
      · rename_i hq2
        rw [if_pos hq2] at h; exact h
      · rename_i hq2
        rw [if_neg hq2, Bool.or_eq_true] at h
        rw [Bool.or_eq_true]
        rcases h with h | h
        · exact .inl h
        · exact .inr (key2 a b h)
  unfold drawOk2 at hd ⊢
  rw [List.all_eq_true] at hd ⊢
  intro i hi
  have := hd i hi
  rw [Bool.and_eq_true, List.all_eq_true] at this ⊢
  exact ⟨this.1, fun a ha => key3 a i (this.2 a ha)⟩


end Go.Proofs.YtcdafogfmijcpaaW.Ah
