/-
  Walking through codes on abstract memory.
-/
import Derived.Test.YtcdafogfmijcpaaAh14
namespace Go.Proofs.YtcdafogfmijcpaaW.Ah
set_option linter.unusedVariables false
set_option linter.unusedSimpArgs false

section
variable (P : Program) (T : Tab)
def EvQ (k : Nat) (c : Code) (s : St) (Q : Ex → St → Prop) : Prop := ∃ e s', Ev P T k c s e s' ∧ Q e s'
def EvLQ (k : Nat) (G : Array Oper) (l : List Oper) (s : St) (Q : St → Prop) : Prop := ∃ s', EvL P T k G l s s' ∧ Q s'
/-- A call that knows nothing of the table and leaves nothing in it. -/
def RunF (f : FuncId) (args : List AV) (r : AV) : Prop := ∃ H' n', Run P T f args (fun _ => none) 0 r H' n'
def RunQ (f : FuncId) (args : List AV) (H : Nat → Option Blk) (n : Nat) (Q : AV → (Nat → Option Blk) → Nat → Prop) : Prop := ∃ r H' n', Run P T f args H n r H' n' ∧ Q r H' n'
end

def thenQ (K : St → Prop) (Q : Ex → St → Prop) : Ex → St → Prop
  | .normal, s => K s
  | e, s => Q e s
def blockQ (id : Nat) (Q : Ex → St → Prop) : Ex → St → Prop
  | .exit j, s => if j = id then Q .normal s else Q (.exit j) s
  | e, s => Q e s
@[simp] theorem thenQ_normal {K : St → Prop} {Q : Ex → St → Prop} {s : St} : thenQ K Q .normal s = K s := rfl
@[simp] theorem thenQ_ret {K : St → Prop} {Q : Ex → St → Prop} {s : St} : thenQ K Q .ret s = Q .ret s := rfl
@[simp] theorem thenQ_exit {K : St → Prop} {Q : Ex → St → Prop} {s : St} {i : Nat} : thenQ K Q (.exit i) s = Q (.exit i) s := rfl
@[simp] theorem thenQ_goto {K : St → Prop} {Q : Ex → St → Prop} {s : St} {i : Nat} : thenQ K Q (.goto i) s = Q (.goto i) s := rfl
@[simp] theorem blockQ_normal {Q : Ex → St → Prop} {s : St} {i : Nat} : blockQ i Q .normal s = Q .normal s := rfl
@[simp] theorem blockQ_ret {Q : Ex → St → Prop} {s : St} {i : Nat} : blockQ i Q .ret s = Q .ret s := rfl
@[simp] theorem blockQ_goto {Q : Ex → St → Prop} {s : St} {i j : Nat} : blockQ i Q (.goto j) s = Q (.goto j) s := rfl
@[simp] theorem blockQ_exit {Q : Ex → St → Prop} {s : St} {i j : Nat} : blockQ i Q (.exit j) s = if j = i then Q .normal s else Q (.exit j) s := rfl

section
variable {P : Program} {T : Tab} {k : Nat} {s : St} {Q : Ex → St → Prop}

theorem EvQ.skip (h : Q .normal s) : EvQ P T k .skip s Q := ⟨_, _, .skip, h⟩
theorem EvQ.label {l : Nat} (h : Q .normal s) : EvQ P T k (.label l) s Q := ⟨_, _, .label, h⟩
theorem EvQ.exit {id : Nat} (h : Q (.exit id) s) : EvQ P T k (.exit id) s Q := ⟨_, _, .exit, h⟩
theorem EvQ.goto {l : Nat} (h : Q (.goto l) s) : EvQ P T k (.goto l) s Q := ⟨_, _, .goto, h⟩
theorem EvQ.ret (h : Q .ret s) : EvQ P T k .ret s Q := ⟨_, _, .ret, h⟩
theorem EvQ.region {id : Nat} {ops : Array Oper} (h : EvLQ P T k ops ops.toList s (Q .normal)) : EvQ P T k (.region id ops false) s Q :=
  let ⟨s', h1, h2⟩ := h
  ⟨_, s', .region h1, h2⟩
theorem EvQ.seq {x y : Code} (h : EvQ P T k x s (thenQ (fun s1 => EvQ P T k y s1 Q) Q)) : EvQ P T k (.seq x y) s Q := by
  obtain ⟨e, s1, h1, h2⟩ := h
  cases e with
  | normal => obtain ⟨e, s2, h3, h4⟩ := h2; exact ⟨e, s2, .seqN h1 h3, h4⟩
  | _ => exact ⟨_, s1, .seqX h1 (by simp), h2⟩
theorem EvQ.cond {c : Operand} {x y : Code} {b : Bool} (hc : ev s.t c = .sc (.bool b)) (h1 : b = true → EvQ P T k x s Q) (h2 : b = false → EvQ P T k y s Q) : EvQ P T k (.cond c x y) s Q := by
  cases b with
  | true => obtain ⟨e, s1, h3, h4⟩ := h1 rfl; exact ⟨e, s1, .condT hc h3, h4⟩
  | false => obtain ⟨e, s1, h3, h4⟩ := h2 rfl; exact ⟨e, s1, .condF hc h3, h4⟩
theorem EvQ.block {id : Nat} {c : Code} (h : EvQ P T k c s (blockQ id Q)) : EvQ P T k (.block id c) s Q := by
  obtain ⟨e, s1, h1, h2⟩ := h
  cases e with
  | exit j =>
    by_cases e : j = id
    · subst e; simp at h2; exact ⟨_, s1, .blockX h1, h2⟩
    · simp [e] at h2; exact ⟨_, s1, .blockN h1 (by simp [e]), h2⟩
  | _ => exact ⟨_, s1, .blockN h1 (by simp), h2⟩
/-- A loop: I m s holds at each round's head, m going down. -/
theorem EvQ.loop {c : Code} (I : Nat → St → Prop) (m : Nat) (h0 : I m s) (h : ∀ m s, I m s → EvQ P T k c s (thenQ (fun s' => ∃ m', m' < m ∧ I m' s') Q)) : EvQ P T k (.loop c) s Q := by
  have key : ∀ (m : Nat) (s : St), I m s → ∃ e s', EvLoop P T k c s e s' ∧ Q e s' := by
    intro m
    induction m using Nat.strongRecOn with
    | _ m ih =>
      intro s hI
      obtain ⟨e, s1, h1, h2⟩ := h m s hI
      cases e with
      | normal =>
        obtain ⟨m', hlt, hI'⟩ := h2
        obtain ⟨e, s2, h3, h4⟩ := ih m' hlt s1 hI'
        exact ⟨e, s2, .more h1 h3, h4⟩
      | _ => exact ⟨_, s1, .done h1 (by simp), h2⟩
  obtain ⟨e, s', h1, h2⟩ := key m s h0
  exact ⟨e, s', .loop h1, h2⟩
theorem EvQ.mono {c : Code} {Q' : Ex → St → Prop} (h : EvQ P T k c s Q) (hq : ∀ e s', Q e s' → Q' e s') : EvQ P T k c s Q' :=
  let ⟨e, s', h1, h2⟩ := h
  ⟨e, s', h1, hq _ _ h2⟩
theorem EvQ.weak {c : Code} {s1 : St} (ids : List Nat) (hw : Weak T s s1 ids) (h : EvQ P T k c s1 Q) : EvQ P T k c s Q :=
  let ⟨e, s', h1, h2⟩ := h
  ⟨e, s', .weak ids hw h1, h2⟩

variable {G : Array Oper} {o : Oper} {l : List Oper} {K : St → Prop}
theorem EvLQ.nil (h : K s) : EvLQ P T k G [] s K := ⟨s, .nil, h⟩
theorem EvLQ.op {v : AV} {H' : Nat → Option Blk} {n' : Nat} (h1 : wantedA G o s.t = some true) (h2 : dstOk k o = true) (h3 : Does P T o s.t s.H s.n v H' n') (h4 : EvLQ P T k G l ⟨putA s.t o.dst v, H', n'⟩ K) : EvLQ P T k G (o :: l) s K :=
  let ⟨s', q1, q2⟩ := h4
  ⟨s', .op h1 h2 h3 q1, q2⟩
theorem EvLQ.skip (h1 : wantedA G o s.t = some false) (h2 : dstOk k o = true) (h4 : EvLQ P T k G l ⟨putA s.t o.dst (.tup []), s.H, s.n⟩ K) : EvLQ P T k G (o :: l) s K :=
  let ⟨s', q1, q2⟩ := h4
  ⟨s', .skip h1 h2 q1, q2⟩
theorem EvLQ.weak {s1 : St} (ids : List Nat) (hw : Weak T s s1 ids) (h : EvLQ P T k G l s1 K) : EvLQ P T k G l s K :=
  let ⟨s', h1, h2⟩ := h
  ⟨s', .weak ids hw h1, h2⟩

/-- As far as the evaluator comes by itself. -/
def evSeg (T : Tab) (k : Nat) (G : Array Oper) : List Oper → (Nat → AV) → (Nat → Option Blk) → Nat → (List Oper → (Nat → AV) → (Nat → Option Blk) → Nat → Prop) → Prop
  | [], t, H, n, Z => Z [] t H n
  | o :: l, t, H, n, Z =>
    match wantedA G o t with
    | some true =>
      match vop T t H o.op with
      | some v => dstOk k o = true ∧ evSeg T k G l (putA t o.dst v) H n Z
      | none =>
        match mop T t H n o.op with
        | some (v, H', n') => dstOk k o = true ∧ evSeg T k G l (putA t o.dst v) H' n' Z
        | none => Z (o :: l) t H n
    | some false => dstOk k o = true ∧ evSeg T k G l (putA t o.dst (.tup [])) H n Z
    | none => Z (o :: l) t H n

theorem EvLQ.seg : ∀ {l : List Oper} {t : Nat → AV} {H : Nat → Option Blk} {n : Nat}, evSeg T k G l t H n (fun l t H n => EvLQ P T k G l ⟨t, H, n⟩ K) → EvLQ P T k G l ⟨t, H, n⟩ K
  | [], _, _, _, h => h
  | o :: l, t, H, n, h => by
    simp only [evSeg] at h
    split at h
    · rename_i hw
      split at h
      · rename_i v hv
        exact EvLQ.op hw h.1 (.vop hv) (EvLQ.seg h.2)
      · split at h
        · rename_i v H' n' hm
          exact EvLQ.op hw h.1 (.mop hm) (EvLQ.seg h.2)
        · exact h
    · rename_i hw
      exact EvLQ.skip hw h.1 (EvLQ.seg h.2)
    · exact h

theorem EvLQ.segK {t : Nat → AV} {H : Nat → Option Blk} {n : Nat} (h : ∀ Z : List Oper → (Nat → AV) → (Nat → Option Blk) → Nat → Prop, (∀ l t H n, EvLQ P T k G l ⟨t, H, n⟩ K → Z l t H n) → evSeg T k G l t H n Z) : EvLQ P T k G l ⟨t, H, n⟩ K :=
  EvLQ.seg (h _ fun _ _ _ _ h => h)

theorem EvQ.seqK {x y : Code} (h : ∀ Y : St → Prop, (∀ s1, EvQ P T k y s1 Q → Y s1) → EvQ P T k x s (thenQ Y Q)) : EvQ P T k (.seq x y) s Q := EvQ.seq (h _ fun _ h => h)

theorem RunQ.of {f : FuncId} {fn : Func} {c : Code} {args : List AV} {H : Nat → Option Blk} {n : Nat} {Z : AV → (Nat → Option Blk) → Nat → Prop} (h1 : P.funcs[f]? = some fn) (h2 : fn.body = some c) (h3 : (fn.name == "runtime.NumGoroutine") = false) (h4 : args.length ≤ fn.ntmps)
    (h : EvQ P T fn.ntmps c ⟨initT args, H, n⟩ (fun e s' => (e = .ret ∨ e = .normal) ∧ ∃ r, resOf T fn.results.toList s' = some r ∧ Z r s'.H s'.n)) : RunQ P T f args H n Z :=
  let ⟨e, s', q1, q2, r, q3, q4⟩ := h
  ⟨r, s'.H, s'.n, .mk h1 h2 h3 h4 q1 q2 q3, q4⟩

theorem RunF.of {f : FuncId} {fn : Func} {c : Code} {args : List AV} {r : AV} (h1 : P.funcs[f]? = some fn) (h2 : fn.body = some c) (h3 : (fn.name == "runtime.NumGoroutine") = false) (h4 : args.length ≤ fn.ntmps)
    (h : EvQ P T fn.ntmps c ⟨initT args, fun _ => none, 0⟩ (fun e s' => (e = .ret ∨ e = .normal) ∧ resOf T fn.results.toList s' = some r)) : RunF P T f args r :=
  let ⟨e, s', q1, q2, q3⟩ := h
  ⟨s'.H, s'.n, .mk h1 h2 h3 h4 q1 q2 q3⟩

theorem EvLQ.callF {c : Call} {f : Operand} {g : FuncId} {first caps args : List AV} {v : AV} (h1 : wantedA G o s.t = some true) (h2 : dstOk k o = true)
    (ho : o.op = .call c) (hc : c.callee = .value f) (hf : ev s.t f = .fn (.func g) first caps) (ha : first ++ c.args.toList.map (ev s.t) ++ caps = args) (hfr : freeL args = true) (hr : RunF P T g args v) (hv : free v = true)
    (h4 : EvLQ P T k G l ⟨putA s.t o.dst v, s.H, s.n⟩ K) : EvLQ P T k G (o :: l) s K := by
  obtain ⟨H', n', h⟩ := hr
  subst ha
  exact EvLQ.op h1 h2 (.callF ho hc hf hfr h hv) h4

theorem EvLQ.callB {c : Call} {f : Operand} {g : FuncId} {first caps args args' : List AV} {v : AV} (ids : List Nat) (h1 : wantedA G o s.t = some true) (h2 : dstOk k o = true)
    (ho : o.op = .call c) (hc : c.callee = .value f) (hf : ev s.t f = .fn (.func g) first caps) (ha : first ++ c.args.toList.map (ev s.t) ++ caps = args) (hvw : ViewL T s.H ids args args') (hr : RunF P T g args' v) (hv : flat v = true)
    (h4 : EvLQ P T k G l ⟨putA s.t o.dst v, s.H, s.n⟩ K) : EvLQ P T k G (o :: l) s K := by
  obtain ⟨H', n', h⟩ := hr
  subst ha
  exact EvLQ.op h1 h2 (.callB ids ho hc hf hvw h (.inr hv)) h4

theorem EvLQ.callS {c : Call} {f : Operand} {g : FuncId} {first caps args : List AV} (h1 : wantedA G o s.t = some true) (h2 : dstOk k o = true)
    (ho : o.op = .call c) (hc : c.callee = .value f) (hf : ev s.t f = .fn (.func g) first caps) (ha : first ++ c.args.toList.map (ev s.t) ++ caps = args)
    (h4 : RunQ P T g args s.H s.n (fun v H' n' => EvLQ P T k G l ⟨putA s.t o.dst v, H', n'⟩ K)) : EvLQ P T k G (o :: l) s K := by
  obtain ⟨v, H', n', h, h5⟩ := h4
  subst ha
  exact EvLQ.op h1 h2 (.callS ho hc hf h) h5
end

end Go.Proofs.YtcdafogfmijcpaaW.Ah
