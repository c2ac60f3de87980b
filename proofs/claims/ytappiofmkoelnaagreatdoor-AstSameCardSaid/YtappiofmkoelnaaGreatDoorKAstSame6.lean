/-
  For AstSame: texts of the road to it, 7 of 16.
-/
import Derived.Test.YtappiofmkoelnaaGreatDoorKAstSame5
import Derived.KernelRfl
section
namespace Go.Proofs.YtappiofmkoelnaaGreatDoorW.Ah
set_option linter.unusedVariables false
set_option linter.unusedSimpArgs false
def sameZero : Value → Value → Bool
 | .bool a, .bool b => a == b
 | .int k a, .int l b => decide (k = l) && decide (a = b)
 | .string a, .string b => decide (a.data.toList = b.data.toList)
 | .pointer none, .pointer none => true
 | .slice none 0 0, .slice none 0 0 => true
 | .map none, .map none => true
 | .nilFunc, .nilFunc => true
 | .nilIface, .nilIface => true
 | _, _ => false
theorem sameZero_eq : ∀ {a b : Value}, sameZero a b = true → a = b := by
 intro a b h
 unfold sameZero at h
 split at h
 all_goals first
  | rfl
  | (simp at h; done)
  | (simp only [beq_iff_eq] at h; rw [h])
  | (simp only [Bool.and_eq_true, decide_eq_true_eq] at h; rw [h.1, h.2])
  | skip
 ·rename_i x y
  simp only [decide_eq_true_eq] at h
  congr 1
  cases x; cases y
  simp only at h
  congr 1
  exact Array.toList_inj.1 h
def sameZeros : List Value → List Value → Bool
 | [], [] => true
 | a :: as', b :: bs => sameZero a b && sameZeros as' bs
 | _, _ => false
theorem sameZeros_eq : ∀ {a b : List Value}, sameZeros a b = true → a = b
 | [], [], _ => rfl
 | a :: as', b :: bs, h => by
  simp only [sameZeros, Bool.and_eq_true] at h
  rw [sameZero_eq h.1, sameZeros_eq h.2]
 | [], _ :: _, h => by simp [sameZeros] at h
 | _ :: _, [], h => by simp [sameZeros] at h
def okB (P : Program) (t : Nat) (i : TI) : Bool :=
 (match P.info? t with
  | some info => info.size == i.size && info.bytes == i.bytes && (match info.zero with | some (.agg z) => aggK i.k && sameZeros z.toList i.zero | some (.tuple _) => false | some z => !(aggK i.k) && sameZeros [z] i.zero | none => false)
  | none => false) &&
 (match P.underlying t with
  | some d => TK.fits d i.k && (!(decide (i.k = .other)) || !(aggD d)) &&
   (!i.eq || (!(P.stoodInHeld t) && !(P.eqGuardType P.depth t) && (match d with | .struct fs => fs.toList.all fun f => !(decide (f.name = "_")) | _ => true)))
  | none => false)
theorem okB_ok {P : Program} {t : Nat} {i : TI} (h : okB P t i = true) : TI.Ok P t i := by
 unfold okB at h
 simp only [Bool.and_eq_true] at h
 obtain ⟨h1, h2⟩ := h
 split at h1
 case h_2 => cases h1
 case h_1 info hi =>
  simp only [Bool.and_eq_true, beq_iff_eq] at h1
  obtain ⟨⟨a1, a2⟩, a3⟩ := h1
  obtain ⟨z, hz, hzc, hone, hagg⟩ : ∃ z, info.zero = some z ∧ z.cells.toList = i.zero ∧ (aggK i.k = false → i.zero = [z]) ∧ (aggK i.k = true → ∃ y, z = .agg y ∧ i.zero = y.toList) := by
   split at a3
   ·rename_i z hz
    simp only [Bool.and_eq_true] at a3
    exact ⟨_, hz, sameZeros_eq a3.2, fun h => (by rw [a3.1] at h; cases h), fun _ => ⟨z, rfl, (sameZeros_eq a3.2).symm⟩⟩
   ·cases a3
   ·rename_i z hn1 hn2 hz
    simp only [Bool.and_eq_true, Bool.not_eq_true'] at a3
    have h1 := sameZeros_eq a3.2
    refine ⟨z, hz, ?_, fun _ => h1.symm, fun h => (by rw [a3.1] at h; cases h)⟩
    rw [← h1]
    cases z <;> first | rfl | exact absurd rfl (hn1 _)
   ·cases a3
  split at h2
  case h_2 => cases h2
  case h_1 d hd =>
   simp only [Bool.and_eq_true, Bool.or_eq_true, Bool.not_eq_true', decide_eq_false_iff_not] at h2
   obtain ⟨⟨b1, b2⟩, b3⟩ := h2
   refine ⟨⟨info, z, hi, a1, a2, hz, hzc⟩, ⟨d, hd, b1, fun hk => ?_⟩, fun h => ⟨info, z, hi, hz, hone h⟩, fun h => ?_, fun he => ?_⟩
   ·rcases b2 with b2 | b2
    ·exact absurd hk b2
    ·exact b2
   ·obtain ⟨y, rfl, e⟩ := hagg h
    exact ⟨info, y, hi, hz, e⟩
   ·rcases b3 with b3 | b3
    ·rw [he] at b3; cases b3
    ·obtain ⟨⟨c1, c2⟩, c3⟩ := b3
     refine ⟨c1, c2, fun fs hfs f hf => ?_⟩
     rw [hd] at hfs
     cases hfs
     simp only [List.all_eq_true] at c3
     have := c3 f hf
     simpa using this
def tabOf (L : List (Nat × TI)) : Tab := fun t => (L.find? fun p => p.1 == t).map (·.2)
theorem tabOk {P : Program} {L : List (Nat × TI)} (h : (L.all fun p => okB P p.1 p.2) = true) : TOk P (tabOf L) := by
 intro t i ht
 simp only [tabOf, Option.map_eq_some_iff] at ht
 obtain ⟨p, hp, rfl⟩ := ht
 have h1 := List.find?_some hp
 simp only [beq_iff_eq] at h1
 subst h1
 exact okB_ok (List.all_eq_true.1 h p (List.mem_of_find?_eq_some hp))
section
variable (P : Program) (T : Tab)
def EvQ (k : Nat) (c : Code) (s : St) (Q : Ex → St → Prop) : Prop := ∃ e s', Ev P T k c s e s' ∧ Q e s'
def EvLQ (k : Nat) (G : Array Oper) (l : List Oper) (s : St) (Q : St → Prop) : Prop := ∃ s', EvL P T k G l s s' ∧ Q s'
def RunF (f : FuncId) (args : List AV) (r : AV) : Prop := ∃ H' n', Run P T f args (fun _ => none) 0 r H' n'
def RunQ (f : FuncId) (args : List AV) (H : Nat → Option Blk) (n : Nat) (Q : AV → (Nat → Option Blk) → Nat → Prop) : Prop := ∃ r H' n', Run P T f args H n r H' n' ∧ Q r H' n'
end
def thenQ (K : St → Prop) (Q : Ex → St → Prop) : Ex → St → Prop
 | .normal, s => K s
 | e, s => Q e s
def blockQ (id : Nat) (Q : Ex → St → Prop) : Ex → St → Prop
 | .exit j, s => if j = id then Q .normal s else Q (.exit j) s
 | e, s => Q e s
@[simp] theorem thenQ_normal {K : St → Prop} {Q : Ex → St → Prop} {s : St} : thenQ K Q .normal s = K s := rfl
@[simp] theorem thenQ_ret {K : St → Prop} {Q : Ex → St → Prop} {s : St} : thenQ K Q .ret s = Q .ret s := rfl
@[simp] theorem thenQ_exit {K : St → Prop} {Q : Ex → St → Prop} {s : St} {i : Nat} : thenQ K Q (.exit i) s = Q (.exit i) s := rfl
@[simp] theorem thenQ_goto {K : St → Prop} {Q : Ex → St → Prop} {s : St} {i : Nat} : thenQ K Q (.goto i) s = Q (.goto i) s := rfl
@[simp] theorem blockQ_normal {Q : Ex → St → Prop} {s : St} {i : Nat} : blockQ i Q .normal s = Q .normal s := rfl
@[simp] theorem blockQ_ret {Q : Ex → St → Prop} {s : St} {i : Nat} : blockQ i Q .ret s = Q .ret s := rfl
@[simp] theorem blockQ_goto {Q : Ex → St → Prop} {s : St} {i j : Nat} : blockQ i Q (.goto j) s = Q (.goto j) s := rfl
@[simp] theorem blockQ_exit {Q : Ex → St → Prop} {s : St} {i j : Nat} : blockQ i Q (.exit j) s = if j = i then Q .normal s else Q (.exit j) s := rfl
section
variable {P : Program} {T : Tab} {k : Nat} {s : St} {Q : Ex → St → Prop}
theorem EvQ.skip (h : Q .normal s) : EvQ P T k .skip s Q := ⟨_, _, .skip, h⟩
theorem EvQ.label {l : Nat} (h : Q .normal s) : EvQ P T k (.label l) s Q := ⟨_, _, .label, h⟩
theorem EvQ.exit {id : Nat} (h : Q (.exit id) s) : EvQ P T k (.exit id) s Q := ⟨_, _, .exit, h⟩
theorem EvQ.goto {l : Nat} (h : Q (.goto l) s) : EvQ P T k (.goto l) s Q := ⟨_, _, .goto, h⟩
theorem EvQ.ret (h : Q .ret s) : EvQ P T k .ret s Q := ⟨_, _, .ret, h⟩
theorem EvQ.region {id : Nat} {ops : Array Oper} (h : EvLQ P T k ops ops.toList s (Q .normal)) : EvQ P T k (.region id ops false) s Q :=
 let ⟨s', h1, h2⟩ := h
 ⟨_, s', .region h1, h2⟩
theorem EvQ.seq {x y : Code} (h : EvQ P T k x s (thenQ (fun s1 => EvQ P T k y s1 Q) Q)) : EvQ P T k (.seq x y) s Q := by
 obtain ⟨e, s1, h1, h2⟩ := h
 cases e with
 | normal => obtain ⟨e, s2, h3, h4⟩ := h2; exact ⟨e, s2, .seqN h1 h3, h4⟩
 | _ => exact ⟨_, s1, .seqX h1 (by simp), h2⟩
theorem EvQ.cond {c : Operand} {x y : Code} {b : Bool} (hc : ev s.t c = .sc (.bool b)) (h1 : b = true → EvQ P T k x s Q) (h2 : b = false → EvQ P T k y s Q) : EvQ P T k (.cond c x y) s Q := by
 cases b with
 | true => obtain ⟨e, s1, h3, h4⟩ := h1 rfl; exact ⟨e, s1, .condT hc h3, h4⟩
 | false => obtain ⟨e, s1, h3, h4⟩ := h2 rfl; exact ⟨e, s1, .condF hc h3, h4⟩
theorem EvQ.block {id : Nat} {c : Code} (h : EvQ P T k c s (blockQ id Q)) : EvQ P T k (.block id c) s Q := by
 obtain ⟨e, s1, h1, h2⟩ := h
 cases e with
 | exit j =>
  by_cases e : j = id
  ·subst e; simp at h2; exact ⟨_, s1, .blockX h1, h2⟩
  ·simp [e] at h2; exact ⟨_, s1, .blockN h1 (by simp [e]), h2⟩
 | _ => exact ⟨_, s1, .blockN h1 (by simp), h2⟩
theorem EvQ.loop {c : Code} (I : Nat → St → Prop) (m : Nat) (h0 : I m s) (h : ∀ m s, I m s → EvQ P T k c s (thenQ (fun s' => ∃ m', m' < m ∧ I m' s') Q)) : EvQ P T k (.loop c) s Q := by
 have key : ∀ (m : Nat) (s : St), I m s → ∃ e s', EvLoop P T k c s e s' ∧ Q e s' := by
  intro m
  induction m using Nat.strongRecOn with
  | _ m ih =>
   intro s hI
   obtain ⟨e, s1, h1, h2⟩ := h m s hI
   cases e with
   | normal =>
    obtain ⟨m', hlt, hI'⟩ := h2
    obtain ⟨e, s2, h3, h4⟩ := ih m' hlt s1 hI'
    exact ⟨e, s2, .more h1 h3, h4⟩
   | _ => exact ⟨_, s1, .done h1 (by simp), h2⟩
 obtain ⟨e, s', h1, h2⟩ := key m s h0
 exact ⟨e, s', .loop h1, h2⟩
theorem EvQ.mono {c : Code} {Q' : Ex → St → Prop} (h : EvQ P T k c s Q) (hq : ∀ e s', Q e s' → Q' e s') : EvQ P T k c s Q' :=
 let ⟨e, s', h1, h2⟩ := h
 ⟨e, s', h1, hq _ _ h2⟩
theorem EvQ.weak {c : Code} {s1 : St} (ids : List Nat) (hw : Weak T s s1 ids) (h : EvQ P T k c s1 Q) : EvQ P T k c s Q :=
 let ⟨e, s', h1, h2⟩ := h
 ⟨e, s', .weak ids hw h1, h2⟩
variable {G : Array Oper} {o : Oper} {l : List Oper} {K : St → Prop}
theorem EvLQ.nil (h : K s) : EvLQ P T k G [] s K := ⟨s, .nil, h⟩
theorem EvLQ.op {v : AV} {H' : Nat → Option Blk} {n' : Nat} (h1 : wantedA G o s.t = some true) (h2 : dstOk k o = true) (h3 : Does P T o s.t s.H s.n v H' n') (h4 : EvLQ P T k G l ⟨putA s.t o.dst v, H', n'⟩ K) : EvLQ P T k G (o :: l) s K :=
 let ⟨s', q1, q2⟩ := h4
 ⟨s', .op h1 h2 h3 q1, q2⟩
theorem EvLQ.skip (h1 : wantedA G o s.t = some false) (h2 : dstOk k o = true) (h4 : EvLQ P T k G l ⟨putA s.t o.dst (.tup []), s.H, s.n⟩ K) : EvLQ P T k G (o :: l) s K :=
 let ⟨s', q1, q2⟩ := h4
 ⟨s', .skip h1 h2 q1, q2⟩
theorem EvLQ.weak {s1 : St} (ids : List Nat) (hw : Weak T s s1 ids) (h : EvLQ P T k G l s1 K) : EvLQ P T k G l s K :=
 let ⟨s', h1, h2⟩ := h
 ⟨s', .weak ids hw h1, h2⟩
theorem RunQ.of {f : FuncId} {fn : Func} {c : Code} {args : List AV} {H : Nat → Option Blk} {n : Nat} {Z : AV → (Nat → Option Blk) → Nat → Prop} (h1 : P.funcs[f]? = some fn) (h2 : fn.body = some c) (h3 : (fn.name == "runtime.NumGoroutine") = false) (h4 : args.length ≤ fn.ntmps)
  (h : EvQ P T fn.ntmps c ⟨initT args, H, n⟩ (fun e s' => (e = .ret ∨ e = .normal) ∧ ∃ r, resOf T fn.results.toList s' = some r ∧ Z r s'.H s'.n)) : RunQ P T f args H n Z :=
 let ⟨e, s', q1, q2, r, q3, q4⟩ := h
 ⟨r, s'.H, s'.n, .mk h1 h2 h3 h4 q1 q2 q3, q4⟩
theorem RunF.of {f : FuncId} {fn : Func} {c : Code} {args : List AV} {r : AV} (h1 : P.funcs[f]? = some fn) (h2 : fn.body = some c) (h3 : (fn.name == "runtime.NumGoroutine") = false) (h4 : args.length ≤ fn.ntmps)
  (h : EvQ P T fn.ntmps c ⟨initT args, fun _ => none, 0⟩ (fun e s' => (e = .ret ∨ e = .normal) ∧ resOf T fn.results.toList s' = some r)) : RunF P T f args r :=
 let ⟨e, s', q1, q2, q3⟩ := h
 ⟨s'.H, s'.n, .mk h1 h2 h3 h4 q1 q2 q3⟩
theorem EvLQ.callF {c : Call} {f : Operand} {g : FuncId} {first caps args : List AV} {v : AV} (h1 : wantedA G o s.t = some true) (h2 : dstOk k o = true)
  (ho : o.op = .call c) (hc : c.callee = .value f) (hf : ev s.t f = .fn (.func g) first caps) (ha : first ++ c.args.toList.map (ev s.t) ++ caps = args) (hfr : freeL args = true) (hr : RunF P T g args v) (hv : free v = true)
  (h4 : EvLQ P T k G l ⟨putA s.t o.dst v, s.H, s.n⟩ K) : EvLQ P T k G (o :: l) s K := by
 obtain ⟨H', n', h⟩ := hr
 subst ha
 exact EvLQ.op h1 h2 (.callF ho hc hf hfr h hv) h4
theorem EvLQ.callB {c : Call} {f : Operand} {g : FuncId} {first caps args args' : List AV} {v : AV} (ids : List Nat) (h1 : wantedA G o s.t = some true) (h2 : dstOk k o = true)
  (ho : o.op = .call c) (hc : c.callee = .value f) (hf : ev s.t f = .fn (.func g) first caps) (ha : first ++ c.args.toList.map (ev s.t) ++ caps = args) (hvw : ViewL T s.H ids args args') (hr : RunF P T g args' v) (hv : flat v = true)
  (h4 : EvLQ P T k G l ⟨putA s.t o.dst v, s.H, s.n⟩ K) : EvLQ P T k G (o :: l) s K := by
 obtain ⟨H', n', h⟩ := hr
 subst ha
 exact EvLQ.op h1 h2 (.callB ids ho hc hf hvw h (.inr hv)) h4
theorem EvLQ.callS {c : Call} {f : Operand} {g : FuncId} {first caps args : List AV} (h1 : wantedA G o s.t = some true) (h2 : dstOk k o = true)
  (ho : o.op = .call c) (hc : c.callee = .value f) (hf : ev s.t f = .fn (.func g) first caps) (ha : first ++ c.args.toList.map (ev s.t) ++ caps = args)
  (h4 : RunQ P T g args s.H s.n (fun v H' n' => EvLQ P T k G l ⟨putA s.t o.dst v, H', n'⟩ K)) : EvLQ P T k G (o :: l) s K := by
 obtain ⟨v, H', n', h, h5⟩ := h4
 subst ha
 exact EvLQ.op h1 h2 (.callS ho hc hf h) h5
end
abbrev Mem := Nat → Option Blk
abbrev Cont := Ex → (Nat → AV) → Mem → Nat → Prop
inductive It where
 | code (c : Code)
 | ops (G : Array Oper) (l : List Oper)
 | opsD (G : Array Oper) (cl : List Cls) (l : List Nat)
 | block (id : Nat)
 | loop (I : Nat → (Nat → AV) → Mem → Nat → Prop) (m : Nat)
def unwind (id : Nat) : List It → Option (List It)
 | .block j :: st => if j = id then some st else unwind id st
 | _ :: st => unwind id st
 | [] => none
section
variable (P : Program) (T : Tab) (k : Nat)
def Stk : List It → (Nat → AV) → Mem → Nat → Cont → Prop
 | [], t, H, n, C => C .normal t H n
 | .code c :: st, t, H, n, C => EvQ P T k c ⟨t, H, n⟩ (fun e s =>
  match e with
  | .normal => Stk st s.t s.H s.n C
  | .exit id => resX id st s.t s.H s.n C
  | e => C e s.t s.H s.n)
 | .ops G l :: st, t, H, n, C => EvLQ P T k G l ⟨t, H, n⟩ (fun s => Stk st s.t s.H s.n C)
 | .opsD G cl l :: st, t, H, n, C => ∃ s', EvD P T k G cl l ⟨t, H, n⟩ s' ∧ Stk st s'.t s'.H s'.n C
 | .block _ :: st, t, H, n, C => Stk st t H n C
 | .loop I m :: _, t, H, n, _ => ∃ m', m' < m ∧ I m' t H n
where
 resX (id : Nat) : List It → (Nat → AV) → Mem → Nat → Cont → Prop
 | [], t, H, n, C => C (.exit id) t H n
 | .block j :: st, t, H, n, C => if j = id then Stk st t H n C else resX id st t H n C
 | .code _ :: st, t, H, n, C => resX id st t H n C
 | .ops _ _ :: st, t, H, n, C => resX id st t H n C
 | .opsD _ _ _ :: st, t, H, n, C => resX id st t H n C
 | .loop _ _ :: st, t, H, n, C => resX id st t H n C
def rdOk : Option Cls → List Nat → Bool
 | some (.rd R'), R => R.all fun j => R'.contains j
 | _, _ => false
def memOk : Option Cls → Mem → Mem → Prop
 | some (.mem S b), H, H' => ∀ j, j < b → j ∉ S → H' j = H j
 | _, _, _ => False
theorem memOk_spec {c : Option Cls} {H H' : Mem} (h : memOk c H H') : ∃ S b, c = some (.mem S b) ∧ ∀ j, j < b → j ∉ S → H' j = H j := by
 unfold memOk at h
 split at h
 ·exact ⟨_, _, rfl, h⟩
 ·exact h.elim
theorem rdOk_spec {c : Option Cls} {R : List Nat} (h : rdOk c R = true) : ∃ R', c = some (.rd R') ∧ ∀ j ∈ R, j ∈ R' := by
 unfold rdOk at h
 split at h
 ·rename_i R'
  refine ⟨R', rfl, fun j hj => ?_⟩
  simpa using List.all_eq_true.1 h j hj
 ·cases h
def evS : Nat → List It → (Nat → AV) → Mem → Nat → Cont → Prop
 | 0, st, t, H, n, C => Stk P T k st t H n C
 | _ + 1, [], t, H, n, C => C .normal t H n
 | f + 1, .block _ :: st, t, H, n, C => evS f st t H n C
 | _ + 1, .loop I m :: _, t, H, n, _ => ∃ m', m' < m ∧ I m' t H n
 | f + 1, .ops _ [] :: st, t, H, n, C => evS f st t H n C
 | f + 1, .ops G (o :: l) :: st, t, H, n, C =>
  match wantedA G o t with
  | some true =>
   match vop T t H o.op with
   | some v => if dstOk k o = true then evS f (.ops G l :: st) (putA t o.dst v) H n C else False
   | none =>
    match mop T t H n o.op with
    | some (v, H', n') => if dstOk k o = true then evS f (.ops G l :: st) (putA t o.dst v) H' n' C else False
    | none => Stk P T k (.ops G (o :: l) :: st) t H n C
  | some false => if dstOk k o = true then evS f (.ops G l :: st) (putA t o.dst (.tup [])) H n C else False
  | none => Stk P T k (.ops G (o :: l) :: st) t H n C
 | f + 1, .opsD _ _ [] :: st, t, H, n, C => evS f st t H n C
 | f + 1, .opsD G cl (i :: l) :: st, t, H, n, C =>
  match G[i]? with
  | none => False
  | some o =>
   match wantedA G o t with
   | some true =>
    match vop T t H o.op with
    | some v => if dstOk k o = true ∧ rdOk cl[i]? (readsOf t o.op) = true then evS f (.opsD G cl l :: st) (putA t o.dst v) H n C else False
    | none =>
     match mop T t H n o.op with
     | some (v, H', n') => memOk cl[i]? H H' ∧ if dstOk k o = true then evS f (.opsD G cl l :: st) (putA t o.dst v) H' n' C else False
     | none => Stk P T k (.opsD G cl (i :: l) :: st) t H n C
   | some false => if dstOk k o = true then evS f (.opsD G cl l :: st) (putA t o.dst (.tup [])) H n C else False
   | none => Stk P T k (.opsD G cl (i :: l) :: st) t H n C
 | f + 1, .code c :: st, t, H, n, C =>
  match c with
  | .skip => evS f st t H n C
  | .label _ => evS f st t H n C
  | .ret => C .ret t H n
  | .goto l => C (.goto l) t H n
  | .exit id =>
   match unwind id st with
   | some st' => evS f st' t H n C
   | none => C (.exit id) t H n
  | .region _ ops false => evS f (.ops ops ops.toList :: st) t H n C
  | .seq x y => evS f (.code x :: .code y :: st) t H n C
  | .block id c => evS f (.code c :: .block id :: st) t H n C
  | .cond c x y =>
   match ev t c with
   | .sc (.bool b) => (b = true → evS f (.code x :: st) t H n C) ∧ (b = false → evS f (.code y :: st) t H n C)
   | _ => False
  | c => Stk P T k (.code c :: st) t H n C
end
section
variable {P : Program} {T : Tab} {k : Nat}
theorem resX_unwind (id : Nat) : ∀ {st : List It} {t : Nat → AV} {H : Mem} {n : Nat} {C : Cont}, (match unwind id st with | some st' => Stk P T k st' t H n C | none => C (.exit id) t H n) → Stk.resX P T k id st t H n C
 | [], _, _, _, _, h => h
 | .block j :: st, t, H, n, C, h => by
  simp only [unwind] at h
  simp only [Stk.resX]
  split
  ·rename_i e; rw [if_pos e] at h; exact h
  ·rename_i e; rw [if_neg e] at h; exact resX_unwind id h
 | .code _ :: st, t, H, n, C, h => by simp only [unwind] at h; simp only [Stk.resX]; exact resX_unwind id h
 | .ops _ _ :: st, t, H, n, C, h => by simp only [unwind] at h; simp only [Stk.resX]; exact resX_unwind id h
 | .opsD _ _ _ :: st, t, H, n, C, h => by simp only [unwind] at h; simp only [Stk.resX]; exact resX_unwind id h
 | .loop _ _ :: st, t, H, n, C, h => by simp only [unwind] at h; simp only [Stk.resX]; exact resX_unwind id h
theorem evS_sound : ∀ {f : Nat} {st : List It} {t : Nat → AV} {H : Mem} {n : Nat} {C : Cont}, evS P T k f st t H n C → Stk P T k st t H n C
 | 0, _, _, _, _, _, h => h
 | _ + 1, [], _, _, _, _, h => h
 | f + 1, .block _ :: st, t, H, n, C, h => by simp only [evS] at h; simp only [Stk]; exact evS_sound h
 | _ + 1, .loop I m :: _, t, H, n, _, h => by simpa only [evS, Stk] using h
 | f + 1, .ops _ [] :: st, t, H, n, C, h => by simp only [evS] at h; simp only [Stk]; exact EvLQ.nil (evS_sound h)
 | f + 1, .ops G (o :: l) :: st, t, H, n, C, h => by
  simp only [evS] at h
  split at h
  ·rename_i hw
   split at h
   ·rename_i v hv
    split at h
    ·rename_i hd
     have := evS_sound h
     simp only [Stk] at this ⊢
     exact EvLQ.op hw hd (.vop hv) this
    ·exact h.elim
   ·split at h
    ·rename_i v H' n' hm
     split at h
     ·rename_i hd
      have := evS_sound h
      simp only [Stk] at this ⊢
      exact EvLQ.op hw hd (.mop hm) this
     ·exact h.elim
    ·exact h
  ·rename_i hw
   split at h
   ·rename_i hd
    have := evS_sound h
    simp only [Stk] at this ⊢
    exact EvLQ.skip hw hd this
   ·exact h.elim
  ·exact h
 | f + 1, .opsD _ _ [] :: st, t, H, n, C, h => by simp only [evS] at h; simp only [Stk]; exact ⟨_, .nil, evS_sound h⟩
 | f + 1, .opsD G cl (i :: l) :: st, t, H, n, C, h => by
  simp only [evS] at h
  split at h
  ·exact h.elim
  ·rename_i o ho
   split at h
   ·rename_i hw
    split at h
    ·rename_i v hv
     split at h
     ·rename_i hd
      have := evS_sound h
      simp only [Stk] at this ⊢
      obtain ⟨s', q1, q2⟩ := this
      obtain ⟨R', r1, r2⟩ := rdOk_spec hd.2
      exact ⟨s', .rd ho hw hd.1 (.vop hv) r1 r2 q1, q2⟩
     ·exact h.elim
    ·split at h
     ·rename_i v H' n' hm
      obtain ⟨hm0, h⟩ := h
      obtain ⟨S, b, r1, r2⟩ := memOk_spec hm0
      split at h
      ·rename_i hd
       have := evS_sound h
       simp only [Stk] at this ⊢
       obtain ⟨s', q1, q2⟩ := this
       exact ⟨s', .mem ho hw hd (.mop hm) r1 r2 q1, q2⟩
      ·exact h.elim
     ·exact h
   ·rename_i hw
    split at h
    ·rename_i hd
     have := evS_sound h
     simp only [Stk] at this ⊢
     obtain ⟨s', q1, q2⟩ := this
     exact ⟨s', .skip ho hw hd q1, q2⟩
    ·exact h.elim
   ·exact h
 | f + 1, .code c :: st, t, H, n, C, h => by
  simp only [evS] at h
  split at h
  ·simp only [Stk]; exact EvQ.skip (evS_sound h)
  ·simp only [Stk]; exact EvQ.label (evS_sound h)
  ·simp only [Stk]; exact EvQ.ret h
  ·simp only [Stk]; exact EvQ.goto h
  ·rename_i id
   simp only [Stk]
   refine EvQ.exit (resX_unwind id ?_)
   split at h
   ·exact evS_sound h
   ·exact h
  ·have := evS_sound h
   simp only [Stk] at this ⊢
   exact EvQ.region this
  ·have := evS_sound h
   simp only [Stk] at this ⊢
   refine EvQ.seq (EvQ.mono this fun e s hq => ?_)
   cases e <;> exact hq
  ·have := evS_sound h
   simp only [Stk] at this ⊢
   refine EvQ.block (EvQ.mono this fun e s hq => ?_)
   cases e with
   | exit j =>
    simp only [Stk.resX] at hq
    simp only [blockQ]
    split
    ·rename_i e; subst e; simpa using hq
    ·rename_i e; rw [if_neg (fun e' => e e'.symm)] at hq; exact hq
   | _ => exact hq
  ·split at h
   ·rename_i b hb
    simp only [Stk]
    refine EvQ.cond hb (fun e => ?_) (fun e => ?_)
    ·have := evS_sound (h.1 e); simpa only [Stk] using this
    ·have := evS_sound (h.2 e); simpa only [Stk] using this
   ·exact h.elim
  ·exact h
variable {G : Array Oper} {l : List Oper} {st : List It} {t : Nat → AV} {H : Mem} {n : Nat} {C : Cont} {g : FuncId} {first caps args : List AV} {v : AV} {xs : Array Operand} {ats : Array TypeId} {f : Operand} {ty : TypeId} {pos : String} {after : Array Edge} {guard : Option (Nat × Bool)} {dst : Option Nat}
theorem Stk.callF (fuel : Nat) (hr : RunF P T g args v) (h1 : wantedA G ⟨dst, .call ⟨.value f, xs, ats⟩, ty, pos, after, guard⟩ t = some true) (h2 : dstOk k ⟨dst, .call ⟨.value f, xs, ats⟩, ty, pos, after, guard⟩ = true)
  (hf : ev t f = .fn (.func g) first caps) (ha : first ++ xs.toList.map (ev t) ++ caps = args) (hfr : freeL args = true) (hv : free v = true)
  (h4 : evS P T k fuel (.ops G l :: st) (putA t dst v) H n C) : Stk P T k (.ops G (⟨dst, .call ⟨.value f, xs, ats⟩, ty, pos, after, guard⟩ :: l) :: st) t H n C := by
 have := evS_sound h4
 simp only [Stk] at this ⊢
 exact EvLQ.callF (s := ⟨t, H, n⟩) h1 h2 rfl rfl hf ha hfr hr hv this
theorem Stk.callB (fuel : Nat) {args' : List AV} (ids : List Nat) (hr : RunF P T g args' v) (h1 : wantedA G ⟨dst, .call ⟨.value f, xs, ats⟩, ty, pos, after, guard⟩ t = some true) (h2 : dstOk k ⟨dst, .call ⟨.value f, xs, ats⟩, ty, pos, after, guard⟩ = true)
  (hf : ev t f = .fn (.func g) first caps) (ha : first ++ xs.toList.map (ev t) ++ caps = args) (hvw : ViewL T H ids args args') (hv : flat v = true)
  (h4 : evS P T k fuel (.ops G l :: st) (putA t dst v) H n C) : Stk P T k (.ops G (⟨dst, .call ⟨.value f, xs, ats⟩, ty, pos, after, guard⟩ :: l) :: st) t H n C := by
 have := evS_sound h4
 simp only [Stk] at this ⊢
 exact EvLQ.callB (s := ⟨t, H, n⟩) ids h1 h2 rfl rfl hf ha hvw hr hv this
theorem Stk.callS (fuel : Nat) {Z : AV → Mem → Nat → Prop} (hr : RunQ P T g args H n Z) (h1 : wantedA G ⟨dst, .call ⟨.value f, xs, ats⟩, ty, pos, after, guard⟩ t = some true) (h2 : dstOk k ⟨dst, .call ⟨.value f, xs, ats⟩, ty, pos, after, guard⟩ = true)
  (hf : ev t f = .fn (.func g) first caps) (ha : first ++ xs.toList.map (ev t) ++ caps = args)
  (h4 : ∀ v H' n', Z v H' n' → evS P T k fuel (.ops G l :: st) (putA t dst v) H' n' C) : Stk P T k (.ops G (⟨dst, .call ⟨.value f, xs, ats⟩, ty, pos, after, guard⟩ :: l) :: st) t H n C := by
 obtain ⟨r, H', n', q1, q2⟩ := hr
 have := evS_sound (h4 r H' n' q2)
 simp only [Stk] at this ⊢
 exact EvLQ.callS (s := ⟨t, H, n⟩) h1 h2 rfl rfl hf ha ⟨r, H', n', q1, this⟩
def Cls.indep' : Option Cls → Option Cls → Bool
 | some (.rd _), some (.rd _) => true
 | some (.rd R), some (.mem S _) => R.all fun j => !S.contains j
 | some (.mem S _), some (.rd R) => R.all fun j => !S.contains j
 | _, _ => false
def below (cl : List Cls) : Prop := ∀ c ∈ cl, ∀ d ∈ cl, match c, d with | .rd R, .mem _ b => ∀ j ∈ R, j < b | _, _ => True
def indep2 (G : Array Oper) (cl : List Cls) (a i : Nat) : Bool := match G[a]?, G[i]? with | some x, some y => x.apart G y && Cls.indep' cl[a]? cl[i]? | _, _ => false
def barrier2 (G : Array Oper) (cl : List Cls) (q i : Nat) : Bool := waits G G.size q i && (List.range q).all fun x => indep2 G cl x q || waits G G.size x i
def pairOk2 (G : Array Oper) (cl : List Cls) (q : Option Nat) (a i : Nat) : Bool :=
 if q = some a then barrier2 G cl a i || indep2 G cl a i
 else if q = some i then waits G G.size a i || apartB G a i
 else waits G G.size a i || indep2 G cl a i
def drawOk2 (G : Array Oper) (cl : List Cls) (q : Option Nat) : Bool :=
 (List.range G.size).all fun i =>
  (match G[i]? with | some o => o.after.toList.all fun e => !Region.binds .any e || decide (e.on < i) | none => false) &&
  (List.range i).all fun a => pairOk2 G cl q a i
theorem Cls.indep_of {cl : List Cls} (hl : below cl) {i j : Nat} (h : Cls.indep' cl[i]? cl[j]? = true) : Cls.indep cl[i]? cl[j]? = true := by
 cases hi : cl[i]? with
 | none => rw [hi] at h; simp [Cls.indep'] at h
 | some c =>
  cases hj : cl[j]? with
  | none => rw [hi, hj] at h; cases c <;> simp [Cls.indep'] at h
  | some d =>
   rw [hi, hj] at h
   have m1 := List.mem_of_getElem? hi
   have m2 := List.mem_of_getElem? hj
   cases c <;> cases d <;> simp only [Cls.indep', Cls.indep] at h ⊢ <;> try exact h
   ·have := hl _ m1 _ m2
    simp only at this
    rw [List.all_eq_true] at h ⊢
    intro x hx
    have h1 := h x hx
    have h2 := this x hx
    simp [h2] at h1 ⊢
    exact h1
   ·have := hl _ m2 _ m1
    simp only at this
    rw [List.all_eq_true] at h ⊢
    intro x hx
    have h1 := h x hx
    have h2 := this x hx
    simp [h2] at h1 ⊢
    exact h1
theorem indep2_ok {G : Array Oper} {cl : List Cls} (hl : below cl) {a i : Nat} (h : indep2 G cl a i = true) : indep G cl a i = true := by
 unfold indep2 at h
 unfold indep
 split at h
 ·rename_i x y hx hy
  rw [hx, hy]
  simp only [Bool.and_eq_true] at h ⊢
  exact ⟨h.1, Cls.indep_of hl h.2⟩
 ·cases h
theorem drawOk2_ok {G : Array Oper} {cl : List Cls} {q : Option Nat} (h : drawOk2 G cl q = true) (hl : below cl) : drawOk G cl q = true := by
 unfold drawOk2 at h
 unfold drawOk
 rw [List.all_eq_true] at h ⊢
 intro i hi
 have := h i hi
 rw [Bool.and_eq_true] at this ⊢
 refine ⟨this.1, ?_⟩
 have h2 := this.2
 rw [List.all_eq_true] at h2 ⊢
 intro a ha
 have h3 := h2 a ha
 unfold pairOk2 at h3
 unfold pairOk
 split
 ·rename_i e
  rw [if_pos e, Bool.or_eq_true] at h3
  rw [Bool.or_eq_true]
  rcases h3 with h3 | h3
  ·refine .inr ?_
   unfold barrier2 at h3
   unfold barrier
   rw [Bool.and_eq_true, List.all_eq_true] at h3 ⊢
   refine ⟨h3.1, fun x hx => ?_⟩
   have := h3.2 x hx
   rw [Bool.or_eq_true] at this ⊢
   rcases this with h | h
   ·exact .inl (indep2_ok hl h)
   ·exact .inr h
  ·exact .inl (indep2_ok hl h3)
 ·rename_i e
  rw [if_neg e] at h3
  split
  ·rename_i e2
   rw [if_pos e2] at h3
   exact h3
  ·rename_i e2
   rw [if_neg e2, Bool.or_eq_true] at h3
   rw [Bool.or_eq_true]
   rcases h3 with h3 | h3
   ·exact .inr h3
   ·exact .inl (indep2_ok hl h3)
theorem Stk.regionD (fuel : Nat) {id : Nat} {ops : Array Oper} (cl : List Cls) (q : Option Nat) (hm : P.follows .mixedOrders = true) (hok : drawOk2 ops cl q = true) (hlt : lateOk T ops q = true) (hl : below cl) {R : List Nat} (hR : List.range ops.size = R)
  (h : evS P T k fuel (.opsD ops cl R :: st) t H n C) : Stk P T k (.code (.region id ops true) :: st) t H n C := by
 subst hR
 have := evS_sound h
 simp only [Stk] at this ⊢
 obtain ⟨s', q1, q2⟩ := this
 exact ⟨.normal, s', .regionD cl q hm (drawOk2_ok hok hl) hlt q1, q2⟩
variable {cl : List Cls} {i : Nat} {L : List Nat}
theorem Stk.loop (fuel : Nat) {c : Code} (I : Nat → (Nat → AV) → Mem → Nat → Prop) (m : Nat) (h0 : I m t H n)
  (h : ∀ J : Nat → (Nat → AV) → Mem → Nat → Prop, (∀ m t H n, I m t H n → J m t H n) → ∀ m t H n, I m t H n → evS P T k fuel (.code c :: .loop J m :: st) t H n C) : Stk P T k (.code (.loop c) :: st) t H n C := by
 replace h := h I fun _ _ _ _ h => h
 simp only [Stk]
 refine EvQ.loop (fun m s => I m s.t s.H s.n) m h0 fun m s hI => ?_
 have := evS_sound (h m s.t s.H s.n hI)
 simp only [Stk] at this
 refine EvQ.mono this fun e s' hq => ?_
 cases e with
 | normal => exact hq
 | _ => exact hq
theorem RunF.ev (fuel : Nat) {f : FuncId} {fn : Func} {c : Code} {args : List AV} {r : AV} (h1 : P.funcs[f]? = some fn) (h2 : fn.body = some c) (h3 : (fn.name == "runtime.NumGoroutine") = false) {k : Nat} (hk : fn.ntmps = k) (h4 : Nat.ble args.length k = true) {rs : List ResultVar} (hrs : fn.results.toList = rs)
  (h : ∀ C : Cont, (∀ t H n, resOf T rs ⟨t, H, n⟩ = some r → C .ret t H n) → (∀ t H n, resOf T rs ⟨t, H, n⟩ = some r → C .normal t H n) → evS P T k fuel [.code c] (initT args) (fun _ => none) 0 C) : RunF P T f args r := by
 subst hk; subst hrs
 have := evS_sound (h (fun e t H n => (e = .ret ∨ e = .normal) ∧ resOf T fn.results.toList ⟨t, H, n⟩ = some r) (fun t H n h => ⟨.inl rfl, h⟩) (fun t H n h => ⟨.inr rfl, h⟩))
 refine RunF.of h1 h2 h3 (Nat.le_of_ble_eq_true h4) ?_
 rw [Stk] at this
 refine EvQ.mono this fun e s hq => ?_
 cases e <;> exact hq
theorem RunQ.ev (fuel : Nat) {f : FuncId} {fn : Func} {c : Code} {args : List AV} {H : Mem} {n : Nat} {Z : AV → Mem → Nat → Prop} (h1 : P.funcs[f]? = some fn) (h2 : fn.body = some c) (h3 : (fn.name == "runtime.NumGoroutine") = false) {k : Nat} (hk : fn.ntmps = k) (h4 : Nat.ble args.length k = true) {rs : List ResultVar} (hrs : fn.results.toList = rs)
  (h : ∀ C : Cont, (∀ t H n r, resOf T rs ⟨t, H, n⟩ = some r → Z r H n → C .ret t H n) → (∀ t H n r, resOf T rs ⟨t, H, n⟩ = some r → Z r H n → C .normal t H n) → evS P T k fuel [.code c] (initT args) H n C) : RunQ P T f args H n Z := by
 subst hk; subst hrs
 have := evS_sound (h (fun e t H n => (e = .ret ∨ e = .normal) ∧ ∃ r, resOf T fn.results.toList ⟨t, H, n⟩ = some r ∧ Z r H n) (fun t H n r h h' => ⟨.inl rfl, r, h, h'⟩) (fun t H n r h h' => ⟨.inr rfl, r, h, h'⟩))
 refine RunQ.of h1 h2 h3 (Nat.le_of_ble_eq_true h4) ?_
 rw [Stk] at this
 refine EvQ.mono this fun e s hq => ?_
 cases e <;> exact hq
end
attribute [simp] evS rdOk memOk readsOf unwind wantedA dstOk vop mop ev ofVal putA partOk cellOk cellsOf initT binAV intBin shiftBin strBin eqT eqT.eqFs unAV convAV fillAV optBound boundOf bounds limOf natOk elemsOf splice resOf resOne sizeT aggK Value.oneCell' upd free freeL flat flatL fitsC appendAV
@[simp] theorem partOf_cons {T : Tab} {ty : Nat} (a : AV) (cs : List AV) (off : Nat) : partOf T ty (a :: cs) off =
  match T ty with
  | some i => if aggK i.k = true then (if off + i.size ≤ (a :: cs).length then some (.agg (((a :: cs).drop off).take i.size)) else none) else (a :: cs)[off]?
  | none => none := rfl
def encs {α : Type} (e : α → List AV) (xs : List α) : List AV := xs.flatMap e
class Enc {α : Type} (e : α → List AV) (z : outParam Nat) : Prop where
 len : ∀ x, (e x).length = z
section
variable {α : Type} {e : α → List AV} {z : Nat} [h : Enc e z]
@[simp] theorem encs_nil : encs e [] = [] := rfl
theorem encs_cons (x : α) (xs : List α) : encs e (x :: xs) = e x ++ encs e xs := rfl
theorem encs_append (xs ys : List α) : encs e (xs ++ ys) = encs e xs ++ encs e ys := by simp [encs]
theorem encs_one (x : α) : encs e [x] = e x := by simp [encs]
@[simp] theorem length_encs (xs : List α) : (encs e xs).length = xs.length * z := by
 induction xs with
 | nil => simp [encs]
 | cons x xs ih => rw [encs_cons, List.length_append, ih, h.len]; simp [Nat.add_mul, Nat.add_comm]
theorem drop_encs (xs : List α) : ∀ (k : Nat), (encs e xs).drop (k * z) = encs e (xs.drop k) := by
 induction xs with
 | nil => intro k; simp [encs]
 | cons x xs ih =>
  intro k
  cases k with
  | zero => simp
  | succ k =>
   rw [encs_cons, List.drop_succ_cons, ← ih, Nat.succ_mul, Nat.add_comm, List.drop_append, h.len]
   rw [List.drop_of_length_le (by rw [h.len]; omega), List.nil_append]
   congr 1
   omega
theorem take_encs (xs : List α) : ∀ (k : Nat), (encs e xs).take (k * z) = encs e (xs.take k) := by
 induction xs with
 | nil => intro k; simp [encs]
 | cons x xs ih =>
  intro k
  cases k with
  | zero => simp
  | succ k =>
   rw [encs_cons, List.take_succ_cons, encs_cons, ← ih, Nat.succ_mul, List.take_append, h.len]
   rw [List.take_of_length_le (by rw [h.len]; omega)]
   congr 2
   omega
theorem elem_encs (xs : List α) (k : Nat) (hk : k < xs.length) : ((encs e xs).drop (k * z)).take z = e xs[k] := by
 rw [drop_encs]
 have := take_encs (e := e) (xs.drop k) 1
 rw [Nat.one_mul] at this
 rw [this, List.drop_eq_getElem_cons hk, List.take_succ_cons, List.take_zero, encs_one]
end
@[simp] theorem freeL_append (a b : List AV) : freeL (a ++ b) = (freeL a && freeL b) := by
 induction a with
 | nil => simp [freeL]
 | cons x a ih => simp [freeL, ih, Bool.and_assoc]
theorem freeL_encs {α : Type} {e : α → List AV} (he : ∀ x, freeL (e x) = true) (xs : List α) : freeL (encs e xs) = true := by
 induction xs with
 | nil => rfl
 | cons x xs ih => rw [encs_cons, freeL_append, he, ih]; rfl
instance encOne {α : Type} (f : α → AV) : Enc (fun x => [f x]) 1 := ⟨fun _ => rfl⟩
theorem wrap64_id {x : Int} (h1 : -9223372036854775808 ≤ x) (h2 : x < 9223372036854775808) : IntKind.i64.wrap x = x := by
 simp [IntKind.wrap, IntKind.bits, IntKind.signed]; omega
theorem wrap_succ (m : Nat) (h : m + 1 < 9223372036854775808) : IntKind.i64.wrap ((m : Int) + 1) = ((m + 1 : Nat) : Int) := by rw [wrap64_id (by omega) (by omega)]; simp
def slv : Option Nat → Nat → AV
 | none, _ => .sc (.slice none 0 0)
 | some i, n => .osl i 0 n none
@[simp] theorem slv_none (n : Nat) : slv none n = .sc (.slice none 0 0) := rfl
@[simp] theorem slv_some (i n : Nat) : slv (some i) n = .osl i 0 n none := rfl
def Own {α : Type} (H : Mem) (ty : Nat) (e : α → List AV) : Option Nat → List α → Prop
 | none, xs => xs = []
 | some i, xs => ∃ ys, H i = some (.cells (encs e xs ++ ys) ty)
theorem Own.mono {α : Type} {H H' : Mem} {ty : Nat} {e : α → List AV} {o : Option Nat} {xs : List α} (h : Own H ty e o xs) (hk : ∀ i, o = some i → H' i = H i) : Own H' ty e o xs := by
 cases o with
 | none => exact h
 | some i =>
  obtain ⟨ys, h⟩ := h
  exact ⟨ys, by rw [hk i rfl, h]⟩
theorem Own.take {α : Type} {H : Mem} {ty : Nat} {e : α → List AV} {o : Option Nat} {xs : List α} (h : Own H ty e o xs) (k : Nat) : Own H ty e o (xs.take k) := by
 cases o with
 | none => simp only [Own] at h ⊢; subst h; simp
 | some i =>
  obtain ⟨ys, h⟩ := h
  refine ⟨encs e (xs.drop k) ++ ys, ?_⟩
  rw [h, ← List.append_assoc, ← encs_append, List.take_append_drop]
section
variable {α : Type} {e : α → List AV} {z : Nat} [hE : Enc e z]
end
def seqs : Code → List Code
 | .seq x y => seqs x ++ seqs y
 | c => [c]
def codes (l : List Code) : List It := l.map .code
section
variable {P : Program} {T : Tab} {k : Nat} {t : Nat → AV} {H : Mem} {n : Nat} {C : Cont}
theorem resX_codes (id : Nat) : ∀ (l : List Code) (t : Nat → AV) (H : Mem) (n : Nat) (C : Cont), Stk.resX P T k id (codes l) t H n C = C (.exit id) t H n
 | [], _, _, _, _ => rfl
 | _ :: l, t, H, n, C => by
  show Stk.resX P T k id (codes l) t H n C = _
  exact resX_codes id l t H n C
theorem Stk.seqs : ∀ (c : Code) (st : List It) {t : Nat → AV} {H : Mem} {n : Nat} {C : Cont}, Stk P T k (codes (seqs c) ++ st) t H n C → Stk P T k (.code c :: st) t H n C := by
 intro c
 induction c with
 | seq x y ihx ihy =>
  intro st t H n C h
  have h2 : Stk P T k (.code x :: .code y :: st) t H n C := by
   refine ihx _ ?_
   have : codes (Ah.seqs (.seq x y)) ++ st = codes (Ah.seqs x) ++ (codes (Ah.seqs y) ++ st) := by simp [codes, Ah.seqs]
   rw [this] at h
   have key : ∀ (l : List Code) (s1 s2 : List It), (∀ t H n, Stk P T k s1 t H n C → Stk P T k s2 t H n C) → (∀ id t H n, Stk.resX P T k id s1 t H n C → Stk.resX P T k id s2 t H n C) → ∀ t H n, Stk P T k (codes l ++ s1) t H n C → Stk P T k (codes l ++ s2) t H n C := by
    intro l
    induction l with
    | nil => intro s1 s2 a b t H n h; exact a t H n h
    | cons c l ih =>
     intro s1 s2 a b t H n h
     show Stk P T k (.code c :: (codes l ++ s2)) t H n C
     have h : Stk P T k (.code c :: (codes l ++ s1)) t H n C := h
     simp only [Stk] at h ⊢
     refine EvQ.mono h fun e s hq => ?_
     cases e with
     | normal => exact ih s1 s2 a b _ _ _ hq
     | exit id =>
      have kx : ∀ (l : List Code) t H n, Stk.resX P T k id (codes l ++ s1) t H n C → Stk.resX P T k id (codes l ++ s2) t H n C := by
       intro l
       induction l with
       | nil => intro t H n h; exact b id t H n h
       | cons c l ih => intro t H n h; exact ih t H n h
      exact kx l _ _ _ hq
     | _ => exact hq
   refine key _ _ _ (fun t H n h => ihy _ h) (fun id t H n h => ?_) _ _ _ h
   have kx : ∀ (l : List Code), Stk.resX P T k id (codes l ++ st) t H n C → Stk.resX P T k id st t H n C := by
    intro l
    induction l with
    | nil => intro h; exact h
    | cons c l ih => intro h; exact ih h
   exact kx _ h
  simp only [Stk] at h2 ⊢
  refine EvQ.seq (EvQ.mono h2 fun e s hq => ?_)
  cases e <;> exact hq
 | _ => intro st t H n C h; exact h
theorem Stk.tail {s1 s2 : List It} (a : ∀ t H n, Stk P T k s1 t H n C → Stk P T k s2 t H n C) (b : ∀ id t H n, Stk.resX P T k id s1 t H n C → Stk.resX P T k id s2 t H n C) : ∀ (l : List Code) t H n, Stk P T k (codes l ++ s1) t H n C → Stk P T k (codes l ++ s2) t H n C
 | [], t, H, n, h => a t H n h
 | c :: l, t, H, n, h => by
  show Stk P T k (.code c :: (codes l ++ s2)) t H n C
  have h : Stk P T k (.code c :: (codes l ++ s1)) t H n C := h
  simp only [Stk] at h ⊢
  refine EvQ.mono h fun e s hq => ?_
  cases e with
  | normal => exact Stk.tail a b l _ _ _ hq
  | exit id =>
   have kx : ∀ (l : List Code) t H n, Stk.resX P T k id (codes l ++ s1) t H n C → Stk.resX P T k id (codes l ++ s2) t H n C := by
    intro l
    induction l with
    | nil => intro t H n h; exact b id t H n h
    | cons c l ih => intro t H n h; exact ih t H n h
   exact kx l _ _ _ hq
  | _ => exact hq
theorem Stk.cut {l l' : List Code} (cs : List Code) (hl : l = cs ++ l') (h : ∀ J : Nat → (Nat → AV) → Mem → Nat → Prop, (∀ t H n, Stk P T k (codes l') t H n C → J 0 t H n) → Stk P T k (codes cs ++ [.loop J 1]) t H n C) : Stk P T k (codes l) t H n C := by
 subst hl
 have := h (fun _ t H n => Stk P T k (codes l') t H n C) (fun _ _ _ h => h)
 have e : codes (cs ++ l') = codes cs ++ codes l' := by simp [codes]
 rw [e]
 refine Stk.tail (fun t H n h => ?_) (fun id t H n h => ?_) cs _ _ _ this
 ·obtain ⟨m, _, h⟩ := h; exact h
 ·simp only [Stk.resX] at h
  rw [resX_codes]; exact h
theorem RunF.parts {f : FuncId} {fn : Func} {c : Code} {args : List AV} {r : AV} (h1 : P.funcs[f]? = some fn) (h2 : fn.body = some c) (h3 : (fn.name == "runtime.NumGoroutine") = false) {k : Nat} (hk : fn.ntmps = k) (h4 : Nat.ble args.length k = true) {rs : List ResultVar} (hrs : fn.results.toList = rs)
  (h : ∀ C : Cont, (∀ t H n, resOf T rs ⟨t, H, n⟩ = some r → C .ret t H n) → (∀ t H n, resOf T rs ⟨t, H, n⟩ = some r → C .normal t H n) → Stk P T k (codes (seqs c)) (initT args) (fun _ => none) 0 C) : RunF P T f args r := by
 refine RunF.ev 0 h1 h2 h3 hk h4 hrs fun C a b => ?_
 have := Stk.seqs c [] (by rw [List.append_nil]; exact h C a b)
 exact this
end
def Cls.ren (L : List Nat) (b0 : Nat) : Cls → Cls
 | .rd R => .rd (R.map fun i => L.getD i 0)
 | .mem S _ => .mem (S.map fun i => L.getD i 0) b0
def Cls.small (k : Nat) : Cls → Bool
 | .rd R => R.all fun i => decide (i < k)
 | .mem S _ => S.all fun i => decide (i < k)
theorem getD_inj {L : List Nat} (hL : L.Nodup) {i j : Nat} (hi : i < L.length) (hj : j < L.length) (h : L.getD i 0 = L.getD j 0) : i = j := by
 rw [List.getD_eq_getElem?_getD, List.getD_eq_getElem?_getD, List.getElem?_eq_getElem hi, List.getElem?_eq_getElem hj] at h
 simp only [Option.getD_some] at h
 rcases Nat.lt_trichotomy i j with g | g | g
 ·exact absurd h (List.pairwise_iff_getElem.1 hL i j hi hj g)
 ·exact g
 ·exact absurd h.symm (List.pairwise_iff_getElem.1 hL j i hj hi g)
theorem drawOk2_ren {G : Array Oper} {q : Option Nat} (L : List Nat) (hL : L.Nodup) (b0 : Nat) (cl : List Cls) (hs : cl.all (Cls.small L.length) = true) (hd : drawOk2 G cl q = true) : drawOk2 G (cl.map (Cls.ren L b0)) q = true := by
 have dis : ∀ (R S : List Nat), (R.all fun i => decide (i < L.length)) = true → (S.all fun i => decide (i < L.length)) = true → (R.all fun j => !S.contains j) = true → ((R.map fun i => L.getD i 0).all fun j => !(S.map fun i => L.getD i 0).contains j) = true := by
  intro R S hR hS h
  rw [List.all_eq_true] at h hR hS ⊢
  intro x hx
  obtain ⟨r, hr, rfl⟩ := List.mem_map.1 hx
  have h1 := h r hr
  simp only [Bool.not_eq_true', List.contains_eq_mem, decide_eq_false_iff_not] at h1 ⊢
  intro hm
  obtain ⟨s, hs, e⟩ := List.mem_map.1 hm
  have := getD_inj hL (by simpa using hS s hs) (by simpa using hR r hr) e
  exact h1 (this ▸ hs)
 have key : ∀ a b : Nat, Cls.indep' cl[a]? cl[b]? = true → Cls.indep' (cl.map (Cls.ren L b0))[a]? (cl.map (Cls.ren L b0))[b]? = true := by
  intro a b h
  rw [List.getElem?_map, List.getElem?_map]
  cases ha : cl[a]? with
  | none => rw [ha] at h; simp [Cls.indep'] at h
  | some c =>
   cases hb : cl[b]? with
   | none => rw [ha, hb] at h; cases c <;> simp [Cls.indep'] at h
   | some d =>
    rw [ha, hb] at h
    rw [List.all_eq_true] at hs
    have hc := hs c (List.mem_of_getElem? ha)
    have hd := hs d (List.mem_of_getElem? hb)
    cases c with
    | rd R =>
     cases d with
     | rd R2 => rfl
     | mem S b2 => exact dis R S hc hd h
    | mem S b2 =>
     cases d with
     | rd R => exact dis R S hd hc h
     | mem S2 b3 => simp [Cls.indep'] at h
 have key2 : ∀ a b : Nat, indep2 G cl a b = true → indep2 G (cl.map (Cls.ren L b0)) a b = true := by
  intro a b h
  unfold indep2 at h ⊢
  split at h
  ·rename_i x y hx hy
   simp only [Bool.and_eq_true] at h ⊢
   exact ⟨h.1, key a b h.2⟩
  ·cases h
 have key3 : ∀ a b : Nat, pairOk2 G cl q a b = true → pairOk2 G (cl.map (Cls.ren L b0)) q a b = true := by
  intro a b h
  unfold pairOk2 at h ⊢
  split
  ·rename_i hq
   rw [if_pos hq, Bool.or_eq_true] at h
   rw [Bool.or_eq_true]
   rcases h with h | h
   ·refine .inl ?_
    unfold barrier2 at h ⊢
    rw [Bool.and_eq_true, List.all_eq_true] at h ⊢
    refine ⟨h.1, fun x hx => ?_⟩
    have := h.2 x hx
    rw [Bool.or_eq_true] at this ⊢
    exact this.imp (key2 x a) id
   ·exact .inr (key2 a b h)
  ·rename_i hq
   rw [if_neg hq] at h
   split
   ·rename_i hq2
    rw [if_pos hq2] at h; exact h
   ·rename_i hq2
    rw [if_neg hq2, Bool.or_eq_true] at h
    rw [Bool.or_eq_true]
    rcases h with h | h
    ·exact .inl h
    ·exact .inr (key2 a b h)
 unfold drawOk2 at hd ⊢
 rw [List.all_eq_true] at hd ⊢
 intro i hi
 have := hd i hi
 rw [Bool.and_eq_true, List.all_eq_true] at this ⊢
 exact ⟨this.1, fun a ha => key3 a i (this.2 a ha)⟩
section
variable (P : Program) (T : Tab) (k : Nat)
def evZ : Nat → List It → (Nat → AV) → Mem → Nat → Cont → Prop
 | 0, st, t, H, n, C => Stk P T k st t H n C
 | _ + 1, [], t, H, n, C => C .normal t H n
 | f + 1, .block _ :: st, t, H, n, C => evZ f st t H n C
 | _ + 1, .loop I m :: _, t, H, n, _ => ∃ m', m' < m ∧ I m' t H n
 | f + 1, .ops _ [] :: st, t, H, n, C => evZ f st t H n C
 | f + 1, .ops G (o :: l) :: st, t, H, n, C =>
  match wantedA G o t with
  | some true =>
   match vop T t H o.op with
   | some v => if dstOk k o = true then evZ f (.ops G l :: st) (putA t o.dst v) H n C else False
   | none =>
    match mop T t H n o.op with
    | some (v, H', n') => if dstOk k o = true then evZ f (.ops G l :: st) (putA t o.dst v) H' n' C else False
    | none => Stk P T k (.ops G (o :: l) :: st) t H n C
  | some false => if dstOk k o = true then evZ f (.ops G l :: st) (putA t o.dst (.tup [])) H n C else False
  | none => Stk P T k (.ops G (o :: l) :: st) t H n C
 | f + 1, .opsD _ _ [] :: st, t, H, n, C => evZ f st t H n C
 | f + 1, .opsD G cl (i :: l) :: st, t, H, n, C =>
  match G[i]? with
  | none => False
  | some o =>
   match wantedA G o t with
   | some true =>
    match vop T t H o.op with
    | some v => if dstOk k o = true ∧ rdOk cl[i]? (readsOf t o.op) = true then evZ f (.opsD G cl l :: st) (putA t o.dst v) H n C else False
    | none =>
     match mop T t H n o.op with
     | some (v, H', n') => memOk cl[i]? H H' ∧ if dstOk k o = true then evZ f (.opsD G cl l :: st) (putA t o.dst v) H' n' C else False
     | none => Stk P T k (.opsD G cl (i :: l) :: st) t H n C
   | some false => if dstOk k o = true then evZ f (.opsD G cl l :: st) (putA t o.dst (.tup [])) H n C else False
   | none => Stk P T k (.opsD G cl (i :: l) :: st) t H n C
 | f + 1, .code c :: st, t, H, n, C =>
  match c with
  | .skip => evZ f st t H n C
  | .label _ => evZ f st t H n C
  | .ret => C .ret t H n
  | .goto l => C (.goto l) t H n
  | .exit id =>
   match unwind id st with
   | some st' => evZ f st' t H n C
   | none => C (.exit id) t H n
  | .region _ ops false => evZ f (.ops ops ops.toList :: st) t H n C
  | .seq x y => evZ f (.code x :: .code y :: st) t H n C
  | .block id c => evZ f (.code c :: .block id :: st) t H n C
  | c => Stk P T k (.code c :: st) t H n C
end
section
variable {P : Program} {T : Tab} {k : Nat}
theorem evZ_sound : ∀ {f : Nat} {st : List It} {t : Nat → AV} {H : Mem} {n : Nat} {C : Cont}, evZ P T k f st t H n C → Stk P T k st t H n C
 | 0, _, _, _, _, _, h => h
 | _ + 1, [], _, _, _, _, h => h
 | f + 1, .block _ :: st, t, H, n, C, h => by simp only [evZ] at h; simp only [Stk]; exact evZ_sound h
 | _ + 1, .loop I m :: _, t, H, n, _, h => by simpa only [evZ, Stk] using h
 | f + 1, .ops _ [] :: st, t, H, n, C, h => by simp only [evZ] at h; simp only [Stk]; exact EvLQ.nil (evZ_sound h)
 | f + 1, .ops G (o :: l) :: st, t, H, n, C, h => by
  simp only [evZ] at h
  split at h
  ·rename_i hw
   split at h
   ·rename_i v hv
    split at h
    ·rename_i hd
     have := evZ_sound h
     simp only [Stk] at this ⊢
     exact EvLQ.op hw hd (.vop hv) this
    ·exact h.elim
   ·split at h
    ·rename_i v H' n' hm
     split at h
     ·rename_i hd
      have := evZ_sound h
      simp only [Stk] at this ⊢
      exact EvLQ.op hw hd (.mop hm) this
     ·exact h.elim
    ·exact h
  ·rename_i hw
   split at h
   ·rename_i hd
    have := evZ_sound h
    simp only [Stk] at this ⊢
    exact EvLQ.skip hw hd this
   ·exact h.elim
  ·exact h
 | f + 1, .opsD _ _ [] :: st, t, H, n, C, h => by simp only [evZ] at h; simp only [Stk]; exact ⟨_, .nil, evZ_sound h⟩
 | f + 1, .opsD G cl (i :: l) :: st, t, H, n, C, h => by
  simp only [evZ] at h
  split at h
  ·exact h.elim
  ·rename_i o ho
   split at h
   ·rename_i hw
    split at h
    ·rename_i v hv
     split at h
     ·rename_i hd
      have := evZ_sound h
      simp only [Stk] at this ⊢
      obtain ⟨s', q1, q2⟩ := this
      obtain ⟨R', r1, r2⟩ := rdOk_spec hd.2
      exact ⟨s', .rd ho hw hd.1 (.vop hv) r1 r2 q1, q2⟩
     ·exact h.elim
    ·split at h
     ·rename_i v H' n' hm
      obtain ⟨hm0, h⟩ := h
      obtain ⟨S, b, r1, r2⟩ := memOk_spec hm0
      split at h
      ·rename_i hd
       have := evZ_sound h
       simp only [Stk] at this ⊢
       obtain ⟨s', q1, q2⟩ := this
       exact ⟨s', .mem ho hw hd (.mop hm) r1 r2 q1, q2⟩
      ·exact h.elim
     ·exact h
   ·rename_i hw
    split at h
    ·rename_i hd
     have := evZ_sound h
     simp only [Stk] at this ⊢
     obtain ⟨s', q1, q2⟩ := this
     exact ⟨s', .skip ho hw hd q1, q2⟩
    ·exact h.elim
   ·exact h
 | f + 1, .code c :: st, t, H, n, C, h => by
  simp only [evZ] at h
  split at h
  ·simp only [Stk]; exact EvQ.skip (evZ_sound h)
  ·simp only [Stk]; exact EvQ.label (evZ_sound h)
  ·simp only [Stk]; exact EvQ.ret h
  ·simp only [Stk]; exact EvQ.goto h
  ·rename_i id
   simp only [Stk]
   refine EvQ.exit (resX_unwind id ?_)
   cases hu : unwind id st with
   | some st' => rw [hu] at h; exact evZ_sound h
   | none => rw [hu] at h; exact h
  ·have := evZ_sound h
   simp only [Stk] at this ⊢
   exact EvQ.region this
  ·have := evZ_sound h
   simp only [Stk] at this ⊢
   refine EvQ.seq (EvQ.mono this fun e s hq => ?_)
   cases e <;> exact hq
  ·have := evZ_sound h
   simp only [Stk] at this ⊢
   refine EvQ.block (EvQ.mono this fun e s hq => ?_)
   cases e with
   | exit j =>
    simp only [Stk.resX] at hq
    simp only [blockQ]
    split
    ·rename_i e; subst e; simpa using hq
    ·rename_i e; rw [if_neg (fun e' => e e'.symm)] at hq; exact hq
   | _ => exact hq
  ·exact h
variable {st st' : List It} {t : Nat → AV} {H : Mem} {n : Nat} {C : Cont}
theorem Stk.cond {c : Operand} {x y : Code} (b : Bool) (hc : ev t c = .sc (.bool b)) (h1 : b = true → Stk P T k (.code x :: st) t H n C) (h2 : b = false → Stk P T k (.code y :: st) t H n C) : Stk P T k (.code (.cond c x y) :: st) t H n C := by
 simp only [Stk] at h1 h2 ⊢
 exact EvQ.cond hc h1 h2
theorem Stk.sq {x y : Code} (h : Stk P T k (.code x :: .code y :: st) t H n C) : Stk P T k (.code (.seq x y) :: st) t H n C := evZ_sound (f := 1) h
theorem Stk.bk {id : Nat} {c : Code} (h : Stk P T k (.code c :: .block id :: st) t H n C) : Stk P T k (.code (.block id c) :: st) t H n C := evZ_sound (f := 1) h
theorem Stk.rg {id : Nat} {ops : Array Oper} (h : Stk P T k (.ops ops ops.toList :: st) t H n C) : Stk P T k (.code (.region id ops false) :: st) t H n C := evZ_sound (f := 1) h
theorem Stk.sk (h : Stk P T k st t H n C) : Stk P T k (.code .skip :: st) t H n C := evZ_sound (f := 1) h
theorem Stk.lb {l : Nat} (h : Stk P T k st t H n C) : Stk P T k (.code (.label l) :: st) t H n C := evZ_sound (f := 1) h
theorem Stk.rt (h : C .ret t H n) : Stk P T k (.code .ret :: st) t H n C := evZ_sound (f := 1) h
theorem Stk.ex {id : Nat} (hu : unwind id st = some st') (h : Stk P T k st' t H n C) : Stk P T k (.code (.exit id) :: st) t H n C := by
 refine evZ_sound (f := 1) ?_
 simp only [evZ, hu]
 exact h
theorem Stk.on {G : Array Oper} (h : Stk P T k st t H n C) : Stk P T k (.ops G [] :: st) t H n C := evZ_sound (f := 1) h
theorem Stk.onD {G : Array Oper} {cl : List Cls} (h : Stk P T k st t H n C) : Stk P T k (.opsD G cl [] :: st) t H n C := evZ_sound (f := 1) h
theorem Stk.bn {id : Nat} (h : Stk P T k st t H n C) : Stk P T k (.block id :: st) t H n C := evZ_sound (f := 1) h
theorem Stk.ln {I : Nat → (Nat → AV) → Mem → Nat → Prop} {m : Nat} (m' : Nat) (hm : m' < m) (h : I m' t H n) : Stk P T k (.loop I m :: st) t H n C := evZ_sound (f := 1) ⟨m', hm, h⟩
theorem Stk.jn {x : It} (K : (Nat → AV) → Mem → Nat → Prop) (hx : match x with | .loop .. => False | .block _ => False | _ => True) (h1 : ∀ J : Nat → (Nat → AV) → Mem → Nat → Prop, (∀ t H n, K t H n → J 0 t H n) → Stk P T k (x :: .loop J 1 :: st) t H n C) (h2 : ∀ t H n, K t H n → Stk P T k st t H n C) : Stk P T k (x :: st) t H n C := by
 have h := h1 (fun _ => K) fun _ _ _ h => h
 have key : ∀ t H n, (∃ m', m' < 1 ∧ K t H n) → Stk P T k st t H n C := fun t H n ⟨_, _, h⟩ => h2 t H n h
 cases x with
 | loop => exact hx.elim
 | block => exact hx.elim
 | code c =>
  simp only [Stk] at h ⊢
  refine EvQ.mono h fun e s hq => ?_
  cases e with
  | normal => exact key _ _ _ hq
  | exit id => exact hq
  | _ => exact hq
 | ops G l =>
  simp only [Stk] at h ⊢
  obtain ⟨s', q1, q2⟩ := h
  exact ⟨s', q1, key _ _ _ q2⟩
 | opsD G cl l =>
  simp only [Stk] at h ⊢
  obtain ⟨s', q1, q2⟩ := h
  exact ⟨s', q1, key _ _ _ q2⟩
def runZ (T : Tab) (k : Nat) (G : Array Oper) : List Oper → (Nat → AV) → Mem → Nat → ((Nat → AV) → Mem → Nat → Prop) → Prop
 | [], t, H, n, J => J t H n
 | o :: l, t, H, n, J =>
  match wantedA G o t with
  | some true =>
   match vop T t H o.op with
   | some v => if dstOk k o = true then runZ T k G l (putA t o.dst v) H n J else False
   | none =>
    match mop T t H n o.op with
    | some (v, H', n') => if dstOk k o = true then runZ T k G l (putA t o.dst v) H' n' J else False
    | none => False
  | some false => if dstOk k o = true then runZ T k G l (putA t o.dst (.tup [])) H n J else False
  | none => False
theorem runZ_sound {G : Array Oper} {l2 : List Oper} {J : (Nat → AV) → Mem → Nat → Prop} (h2 : ∀ t H n, J t H n → Stk P T k (.ops G l2 :: st) t H n C) : ∀ {l : List Oper} {t : Nat → AV} {H : Mem} {n : Nat}, runZ T k G l t H n J → Stk P T k (.ops G (l ++ l2) :: st) t H n C
 | [], _, _, _, h => h2 _ _ _ h
 | o :: l, t, H, n, h => by
  simp only [runZ] at h
  split at h
  ·rename_i hw
   split at h
   ·rename_i v hv
    split at h
    ·rename_i hd
     have := runZ_sound h2 h
     simp only [Stk, List.cons_append] at this ⊢
     exact EvLQ.op hw hd (.vop hv) this
    ·exact h.elim
   ·split at h
    ·rename_i v H' n' hm
     split at h
     ·rename_i hd
      have := runZ_sound h2 h
      simp only [Stk, List.cons_append] at this ⊢
      exact EvLQ.op hw hd (.mop hm) this
     ·exact h.elim
    ·exact h.elim
  ·rename_i hw
   split at h
   ·rename_i hd
    have := runZ_sound h2 h
    simp only [Stk, List.cons_append] at this ⊢
    exact EvLQ.skip hw hd this
   ·exact h.elim
  ·exact h.elim
theorem Stk.run {G : Array Oper} {l : List Oper} (m : Nat) (K : (Nat → AV) → Mem → Nat → Prop) (h1 : ∀ J : (Nat → AV) → Mem → Nat → Prop, (∀ t H n, K t H n → J t H n) → runZ T k G (l.take m) t H n J) (h2 : ∀ t H n, K t H n → Stk P T k (.ops G (l.drop m) :: st) t H n C) : Stk P T k (.ops G l :: st) t H n C := by
 have := runZ_sound (P := P) (st := st) (C := C) h2 (h1 K fun _ _ _ h => h)
 rwa [List.take_append_drop] at this
def runD (T : Tab) (k : Nat) (G : Array Oper) (cl : List Cls) : List Nat → (Nat → AV) → Mem → Nat → ((Nat → AV) → Mem → Nat → Prop) → Prop
 | [], t, H, n, J => J t H n
 | i :: l, t, H, n, J =>
  match G[i]? with
  | none => False
  | some o =>
   match wantedA G o t with
   | some true =>
    match vop T t H o.op with
    | some v => if dstOk k o = true ∧ rdOk cl[i]? (readsOf t o.op) = true then runD T k G cl l (putA t o.dst v) H n J else False
    | none =>
     match mop T t H n o.op with
     | some (v, H', n') => memOk cl[i]? H H' ∧ if dstOk k o = true then runD T k G cl l (putA t o.dst v) H' n' J else False
     | none => False
   | some false => if dstOk k o = true then runD T k G cl l (putA t o.dst (.tup [])) H n J else False
   | none => False
theorem runD_sound {G : Array Oper} {cl : List Cls} {l2 : List Nat} {J : (Nat → AV) → Mem → Nat → Prop} (h2 : ∀ t H n, J t H n → Stk P T k (.opsD G cl l2 :: st) t H n C) : ∀ {l : List Nat} {t : Nat → AV} {H : Mem} {n : Nat}, runD T k G cl l t H n J → Stk P T k (.opsD G cl (l ++ l2) :: st) t H n C
 | [], _, _, _, h => h2 _ _ _ h
 | i :: l, t, H, n, h => by
  simp only [runD] at h
  split at h
  ·exact h.elim
  ·rename_i o ho
   split at h
   ·rename_i hw
    split at h
    ·rename_i v hv
     split at h
     ·rename_i hd
      have := runD_sound h2 h
      simp only [Stk, List.cons_append] at this ⊢
      obtain ⟨s', q1, q2⟩ := this
      obtain ⟨R', r1, r2⟩ := rdOk_spec hd.2
      exact ⟨s', .rd ho hw hd.1 (.vop hv) r1 r2 q1, q2⟩
     ·exact h.elim
    ·split at h
     ·rename_i v H' n' hm
      obtain ⟨hm0, h⟩ := h
      obtain ⟨S, b, r1, r2⟩ := memOk_spec hm0
      split at h
      ·rename_i hd
       have := runD_sound h2 h
       simp only [Stk, List.cons_append] at this ⊢
       obtain ⟨s', q1, q2⟩ := this
       exact ⟨s', .mem ho hw hd (.mop hm) r1 r2 q1, q2⟩
      ·exact h.elim
     ·exact h.elim
   ·rename_i hw
    split at h
    ·rename_i hd
     have := runD_sound h2 h
     simp only [Stk, List.cons_append] at this ⊢
     obtain ⟨s', q1, q2⟩ := this
     exact ⟨s', .skip ho hw hd q1, q2⟩
    ·exact h.elim
   ·exact h.elim
theorem Stk.runD {G : Array Oper} {cl : List Cls} {l : List Nat} (m : Nat) (K : (Nat → AV) → Mem → Nat → Prop) (h1 : ∀ J : (Nat → AV) → Mem → Nat → Prop, (∀ t H n, K t H n → J t H n) → Ah.runD T k G cl (l.take m) t H n J) (h2 : ∀ t H n, K t H n → Stk P T k (.opsD G cl (l.drop m) :: st) t H n C) : Stk P T k (.opsD G cl l :: st) t H n C := by
 have := runD_sound (P := P) (st := st) (C := C) h2 (h1 K fun _ _ _ h => h)
 rwa [List.take_append_drop] at this
theorem Stk.rgD {id : Nat} {ops : Array Oper} (cl : List Cls) (q : Option Nat) (hm : P.follows .mixedOrders = true) (hok : drawOk2 ops cl q = true) (hlt : lateOk T ops q = true) (hl : below cl) {R : List Nat} (hR : List.range ops.size = R)
  (h : Stk P T k (.opsD ops cl R :: st) t H n C) : Stk P T k (.code (.region id ops true) :: st) t H n C := Stk.regionD 0 cl q hm hok hlt hl hR h
theorem Stk.lo {c : Code} (I : Nat → (Nat → AV) → Mem → Nat → Prop) (m : Nat) (h0 : I m t H n)
  (h : ∀ J : Nat → (Nat → AV) → Mem → Nat → Prop, (∀ m t H n, I m t H n → J m t H n) → ∀ m t H n, I m t H n → Stk P T k (.code c :: .loop J m :: st) t H n C) : Stk P T k (.code (.loop c) :: st) t H n C := Stk.loop 0 I m h0 h
section
variable {G : Array Oper} {l : List Oper} {g : FuncId} {first caps args args' : List AV} {v : AV} {xs : Array Operand} {ats : Array TypeId} {f : Operand} {ty : TypeId} {pos : String} {after : Array Edge} {guard : Option (Nat × Bool)} {dst : Option Nat}
theorem Stk.cv (ids : List Nat) (hr : RunF P T g args' v) (h1 : wantedA G ⟨dst, .call ⟨.value f, xs, ats⟩, ty, pos, after, guard⟩ t = some true) (h2 : dstOk k ⟨dst, .call ⟨.value f, xs, ats⟩, ty, pos, after, guard⟩ = true)
  (hf : ev t f = .fn (.func g) first caps) (ha : first ++ xs.toList.map (ev t) ++ caps = args) (hvw : ViewL T H ids args args') (hv : (ids = [] ∧ free v = true) ∨ flat v = true)
  (h4 : ∀ t', t' = putA t dst v → Stk P T k (.ops G l :: st) t' H n C) : Stk P T k (.ops G (⟨dst, .call ⟨.value f, xs, ats⟩, ty, pos, after, guard⟩ :: l) :: st) t H n C := by
 have := h4 _ rfl
 simp only [Stk] at this ⊢
 obtain ⟨H', n', h⟩ := hr
 subst ha
 exact EvLQ.op (s := ⟨t, H, n⟩) h1 h2 (.callB ids rfl rfl hf hvw h hv) this
theorem Stk.cs {Z : AV → Mem → Nat → Prop} (hr : RunQ P T g args H n Z) (h1 : wantedA G ⟨dst, .call ⟨.value f, xs, ats⟩, ty, pos, after, guard⟩ t = some true) (h2 : dstOk k ⟨dst, .call ⟨.value f, xs, ats⟩, ty, pos, after, guard⟩ = true)
  (hf : ev t f = .fn (.func g) first caps) (ha : first ++ xs.toList.map (ev t) ++ caps = args)
  (h4 : ∀ v H' n', Z v H' n' → ∀ t', t' = putA t dst v → Stk P T k (.ops G l :: st) t' H' n' C) : Stk P T k (.ops G (⟨dst, .call ⟨.value f, xs, ats⟩, ty, pos, after, guard⟩ :: l) :: st) t H n C :=
 Stk.callS 0 hr h1 h2 hf ha fun v H' n' hz => h4 v H' n' hz _ rfl
variable {cl : List Cls} {i : Nat} {L : List Nat}
theorem Stk.cvD (ids : List Nat) (hr : RunF P T g args' v) {R : List Nat} (hcl : cl[i]? = some (.rd R)) (hR : ∀ j ∈ ids, j ∈ R) (h0 : G[i]? = some ⟨dst, .call ⟨.value f, xs, ats⟩, ty, pos, after, guard⟩) (h1 : wantedA G ⟨dst, .call ⟨.value f, xs, ats⟩, ty, pos, after, guard⟩ t = some true) (h2 : dstOk k ⟨dst, .call ⟨.value f, xs, ats⟩, ty, pos, after, guard⟩ = true)
  (hf : ev t f = .fn (.func g) first caps) (ha : first ++ xs.toList.map (ev t) ++ caps = args) (hvw : ViewL T H ids args args') (hv : (ids = [] ∧ free v = true) ∨ flat v = true)
  (h4 : ∀ t', t' = putA t dst v → Stk P T k (.opsD G cl L :: st) t' H n C) : Stk P T k (.opsD G cl (i :: L) :: st) t H n C := by
 have := h4 _ rfl
 simp only [Stk] at this ⊢
 obtain ⟨s', q1, q2⟩ := this
 obtain ⟨H', n', hr⟩ := hr
 subst ha
 exact ⟨s', .rd h0 h1 h2 (.callB ids rfl rfl hf hvw hr hv) hcl hR q1, q2⟩
end
theorem RunF.z {f : FuncId} {fn : Func} {c : Code} {args : List AV} {r : AV} (h1 : P.funcs[f]? = some fn) (h2 : fn.body = some c) (h3 : (fn.name == "runtime.NumGoroutine") = false) {k : Nat} (hk : fn.ntmps = k) (h4 : Nat.ble args.length k = true) {rs : List ResultVar} (hrs : fn.results.toList = rs)
  (h : ∀ C : Cont, (∀ t H n r1 ids, resOf T rs ⟨t, H, n⟩ = some r1 → Vw T H ids r1 r → C .ret t H n ∧ C .normal t H n) → Stk P T k [.code c] (initT args) (fun _ => none) 0 C) : RunF P T f args r := by
 subst hk; subst hrs
 have hC := h (fun e t H n => (e = .ret ∨ e = .normal) ∧ ∃ r1 ids, resOf T fn.results.toList ⟨t, H, n⟩ = some r1 ∧ Vw T H ids r1 r) (fun t H n r1 ids a b => ⟨⟨.inl rfl, r1, ids, a, b⟩, .inr rfl, r1, ids, a, b⟩)
 rw [Stk] at hC
 obtain ⟨e, s', q1, q2⟩ := hC
 have q3 : (e = .ret ∨ e = .normal) ∧ ∃ r1 ids, resOf T fn.results.toList s' = some r1 ∧ Vw T s'.H ids r1 r := by cases e <;> exact q2
 obtain ⟨he, r1, ids, hr1, hv⟩ := q3
 refine ⟨fun _ => none, s'.n, Run.weak ids (.mk h1 h2 h3 (Nat.le_of_ble_eq_true h4) q1 he hr1) ⟨fun i => .inl rfl, fun i => .inl rfl, Nat.le_refl _⟩ hv⟩
theorem RunQ.z {f : FuncId} {fn : Func} {c : Code} {args : List AV} {H0 : Mem} {n0 : Nat} {Z : AV → Mem → Nat → Prop} (h1 : P.funcs[f]? = some fn) (h2 : fn.body = some c) (h3 : (fn.name == "runtime.NumGoroutine") = false) {k : Nat} (hk : fn.ntmps = k) (h4 : Nat.ble args.length k = true) {rs : List ResultVar} (hrs : fn.results.toList = rs)
  (h : ∀ C : Cont, (∀ t H n r1 r ids, resOf T rs ⟨t, H, n⟩ = some r1 → Vw T H ids r1 r → Z r (without H ids) n → C .ret t H n ∧ C .normal t H n) → Stk P T k [.code c] (initT args) H0 n0 C) : RunQ P T f args H0 n0 Z := by
 subst hk; subst hrs
 have hC := h (fun e t H n => (e = .ret ∨ e = .normal) ∧ ∃ r1 r ids, resOf T fn.results.toList ⟨t, H, n⟩ = some r1 ∧ Vw T H ids r1 r ∧ Z r (without H ids) n) (fun t H n r1 r ids a b z => ⟨⟨.inl rfl, r1, r, ids, a, b, z⟩, .inr rfl, r1, r, ids, a, b, z⟩)
 rw [Stk] at hC
 obtain ⟨e, s', q1, q2⟩ := hC
 have q3 : (e = .ret ∨ e = .normal) ∧ ∃ r1 r ids, resOf T fn.results.toList s' = some r1 ∧ Vw T s'.H ids r1 r ∧ Z r (without s'.H ids) s'.n := by cases e <;> exact q2
 obtain ⟨he, r1, r, ids, hr1, hv, hz⟩ := q3
 refine ⟨r, without s'.H ids, s'.n, Run.weak ids (.mk h1 h2 h3 (Nat.le_of_ble_eq_true h4) q1 he hr1) ⟨fun i => .inl rfl, fun i => ?_, Nat.le_refl _⟩ hv, hz⟩
 by_cases e : i ∈ ids
 ·exact .inl (by simp [without, e])
 ·exact .inr ⟨e, .inl (by simp [without, e])⟩
end
attribute [simp] evZ runZ runD
end Go.Proofs.YtappiofmkoelnaaGreatDoorW.Ah
end
section
namespace Go.Proofs.YtappiofmkoelnaaGreatDoorW.Ah
set_option linter.unusedVariables false
set_option linter.unusedSimpArgs false
set_option linter.unusedSectionVars false
def idx {α : Type} (xs : List α) (i : Int) : Option α := if 0 ≤ i then xs[i.toNat]? else none
def joinM {κ β : Type} (k : κ) (f : κ → Option β) : Option β := f k
def appM {α : Type} (b : Nat) (xs ys : List α) : Option (List α) := if (xs.length + ys.length) * b ≤ roomMax ∧ xs.length + ys.length ≤ roomMax then some (xs ++ ys) else none
@[simp] def bandI (k : IntKind) (x y : Int) : Int := k.wrap (BitVec.ofInt k.bits x &&& BitVec.ofInt k.bits y).toNat
@[simp] def borI (k : IntKind) (x y : Int) : Int := k.wrap (BitVec.ofInt k.bits x ||| BitVec.ofInt k.bits y).toNat
@[simp] def bxorI (k : IntKind) (x y : Int) : Int := k.wrap (BitVec.ofInt k.bits x ^^^ BitVec.ofInt k.bits y).toNat
@[simp] def bandNotI (k : IntKind) (x y : Int) : Int := k.wrap (BitVec.ofInt k.bits x &&& ~~~(BitVec.ofInt k.bits y)).toNat
@[simp] def shlI (k : IntKind) (x y : Int) : Int := k.wrap (x * 2 ^ (min y.toNat k.bits))
@[simp] def shrI (k : IntKind) (x y : Int) : Int := x.fdiv (2 ^ (min y.toNat k.bits))
theorem bnd {α β : Type} {o : Option α} {f : α → Option β} {r : β} (h : o.bind f = some r) : ∃ x, o = some x ∧ f x = some r := by
 cases o with
 | none => cases h
 | some x => exact ⟨x, rfl, h⟩
theorem jnd {κ β : Type} {k : κ} {f : κ → Option β} {r : β} (h : joinM k f = some r) : ∃ K, K = k ∧ f K = some r := ⟨k, rfl, h⟩
theorem cT {β : Type} {b : Bool} {x y : Option β} {r : β} (hb : b = true) (h : (bif b then x else y) = some r) : x = some r := by subst hb; exact h
theorem cF {β : Type} {b : Bool} {x y : Option β} {r : β} (hb : b = false) (h : (bif b then x else y) = some r) : y = some r := by subst hb; exact h
theorem idx_ok {α : Type} {xs : List α} {i : Int} {x : α} (h : idx xs i = some x) : 0 ≤ i ∧ i < (xs.length : Int) ∧ i.toNat < xs.length ∧ xs[i.toNat]? = some x := by
 unfold idx at h
 split at h
 ·rename_i hi
  have := (List.getElem?_eq_some_iff.1 h).1
  exact ⟨hi, by omega, this, h⟩
 ·cases h
theorem appM_ok {α : Type} {b : Nat} {xs ys zs : List α} (h : appM b xs ys = some zs) : (xs.length + ys.length) * b ≤ roomMax ∧ xs.length + ys.length ≤ roomMax ∧ xs ++ ys = zs := by
 unfold appM at h
 split at h
 ·rename_i hc; cases h; exact ⟨hc.1, hc.2, rfl⟩
 ·cases h
theorem partOf_drop {T : Tab} {ty : Nat} {i : TI} (ht : T ty = some i) (hz : 0 < i.size) (l : List AV) (o : Nat) : partOf T ty (l.drop o) 0 = partOf T ty l o := by
 unfold partOf
 rw [ht]
 simp only [Nat.zero_add, List.drop_zero, List.length_drop, List.getElem?_drop, Nat.add_zero]
 by_cases h : aggK i.k = true
 ·rw [if_pos h, if_pos h]
  by_cases h2 : o + i.size ≤ l.length
  ·rw [if_pos h2, if_pos (by omega)]
  ·rw [if_neg h2, if_neg (by omega)]
 ·rw [if_neg h, if_neg h]
section
variable {α : Type} {e : α → List AV} {z : Nat} [hE : Enc e z]
theorem part_elem {T : Tab} {ty : Nat} {i : TI} (ht : T ty = some i) (hz : 0 < i.size) (hk : aggK i.k = true ∨ i.size = 1) {xs : List α} {k : Int} {x : α} (hx : idx xs k = some x) (ys : List AV) (o : Nat) (ho : o + i.size ≤ z) :
  partOf T ty (encs e xs ++ ys) (k.toNat * z + o) = partOf T ty (e x) o := by
 obtain ⟨h0, h1, h2, h3⟩ := idx_ok hx
 have hx' : xs[k.toNat] = x := by rw [List.getElem?_eq_getElem h2] at h3; cases h3; rfl
 have hle := Nat.mul_le_mul_right z (show k.toNat + 1 ≤ xs.length from h2)
 rw [Nat.succ_mul] at hle
 have hel := elem_encs (e := e) xs k.toNat h2
 rw [hx'] at hel
 unfold partOf
 rw [ht]
 simp only
 by_cases h : aggK i.k = true
 ·rw [if_pos h, if_pos h, if_pos (by simp [length_encs]; omega), if_pos (by rw [hE.len]; omega)]
  rw [← hel, List.drop_take, List.take_take, Nat.min_eq_left (by omega), List.drop_drop, List.drop_append_of_le_length (by rw [length_encs (e := e)]; omega), List.take_append_of_le_length (by rw [List.length_drop, length_encs (e := e)]; omega)]
 ·rw [if_neg h, if_neg h]
  have hs : i.size = 1 := hk.resolve_left h
  rw [← hel, List.getElem?_take, if_pos (by omega), List.getElem?_drop, List.getElem?_append_left (by rw [length_encs (e := e)]; omega)]
theorem part_elem0 {T : Tab} {ty : Nat} {i : TI} (ht : T ty = some i) (hz : 0 < i.size) (hk : aggK i.k = true ∨ i.size = 1) {xs : List α} {k : Int} {x : α} (hx : idx xs k = some x) (o : Nat) (ho : o + i.size ≤ z) :
  partOf T ty (encs e xs) (k.toNat * z + o) = partOf T ty (e x) o := by
 have := part_elem (e := e) (z := z) ht hz hk hx [] o ho
 rwa [List.append_nil] at this
end
theorem part_all {T : Tab} {ty : Nat} {i : TI} (ht : T ty = some i) (hk : aggK i.k = true) {l : List AV} (hl : l.length = i.size) : partOf T ty l 0 = some (.agg l) := by
 unfold partOf
 rw [ht]
 simp only [hk, if_true, Nat.zero_add, hl, Nat.le_refl, List.drop_zero]
 rw [← hl, List.take_length]
theorem part_head {T : Tab} {ty : Nat} {i : TI} (ht : T ty = some i) (hz : 0 < i.size) {A B : List AV} {o : Nat} (ho : o + i.size ≤ A.length) : partOf T ty (A ++ B) o = partOf T ty A o := by
 unfold partOf
 rw [ht]
 simp only
 by_cases h : aggK i.k = true
 ·rw [if_pos h, if_pos h, if_pos (by rw [List.length_append]; omega), if_pos ho, List.drop_append_of_le_length (by omega), List.take_append_of_le_length (by rw [List.length_drop]; omega)]
 ·rw [if_neg h, if_neg h, List.getElem?_append_left (by omega)]
theorem part_skip {T : Tab} {ty : Nat} {i : TI} (ht : T ty = some i) {A B : List AV} {a o : Nat} (ha : A.length = a) : partOf T ty (A ++ B) (a + o) = partOf T ty B o := by
 subst ha
 unfold partOf
 rw [ht]
 simp only
 by_cases h : aggK i.k = true
 ·rw [if_pos h, if_pos h]
  have e1 : List.drop (A.length + o) (A ++ B) = List.drop o B := by rw [← List.drop_drop, List.drop_left]
  by_cases h2 : o + i.size ≤ B.length
  ·rw [if_pos h2, if_pos (by rw [List.length_append]; omega), e1]
  ·rw [if_neg h2, if_neg (by rw [List.length_append]; omega)]
 ·rw [if_neg h, if_neg h, List.getElem?_append_right (by omega)]
  congr 1; omega
theorem splice_all {l new : List AV} (h : l.length = new.length) : splice l 0 new = new := by
 unfold splice
 simp [← h]
theorem splice_head {A B new : List AV} {o : Nat} (h : o + new.length ≤ A.length) : splice (A ++ B) o new = splice A o new ++ B := by
 unfold splice
 rw [List.take_append_of_le_length (by omega), List.drop_append_of_le_length (by omega)]
 simp
theorem splice_skip {A B new : List AV} {a o : Nat} (h : A.length = a) : splice (A ++ B) (a + o) new = A ++ splice B o new := by
 subst h
 unfold splice
 rw [Nat.add_assoc, ← List.drop_drop, List.drop_left, List.take_append, List.take_of_length_le (by omega)]
 simp
theorem len_one (v : AV) : [v].length = 1 := rfl
theorem all_encs {α : Type} {e : α → List AV} (he : ∀ x, (e x).all cellOk = true) (xs : List α) : (encs e xs).all cellOk = true := by
 induction xs with
 | nil => rfl
 | cons x xs ih => rw [encs_cons, List.all_append, he, ih]; rfl
section
variable {α : Type} {c : α → List AV} {z : Nat} [hE : Enc c z]
theorem elems_row {H : Mem} {b ty : Nat} {xs : List α} (hb : H b = some (.cells (encs c xs) ty)) (cc : Option Nat) : elemsOf H z (.osl b 0 xs.length cc) = some (xs.length, encs c xs) := by
 simp only [elemsOf, hb]
 rw [if_pos (by rw [length_encs (e := c)]; omega), List.drop_zero, ← length_encs (e := c), List.take_length]
theorem elems_ssl {H : Mem} {xs : List α} {f : Bool} : elemsOf H z (.ssl (encs c xs) xs.length f) = some (xs.length, encs c xs) := by
 simp only [elemsOf]
 rw [if_pos (by rw [length_encs (e := c)]; exact Nat.le_refl _), ← length_encs (e := c), List.take_length]
end
def Arr (n : Nat) (α : Type) : Type := { l : List α // l.length = n }
namespace Arr
variable {n : Nat} {α : Type}
def set (a : Arr n α) (i : Int) (x : α) : Arr n α := ⟨a.1.set i.toNat x, by rw [List.length_set]; exact a.2⟩
def rep (n : Nat) (x : α) : Arr n α := ⟨List.replicate n x, List.length_replicate ..⟩
theorem ext {a b : Arr n α} (h : a.1 = b.1) : a = b := Subtype.ext h
end Arr
def slc : Option Nat → Nat → Option Nat → AV
 | none, _, _ => .sc (.slice none 0 0)
 | some i, n, c => .osl i 0 n c
@[simp] theorem slc_none (n : Nat) (c : Option Nat) : slc none n c = .sc (.slice none 0 0) := rfl
@[simp] theorem slc_some (i n : Nat) (c : Option Nat) : slc (some i) n c = .osl i 0 n c := rfl
def OwnC {α : Type} (H : Mem) (ty z : Nat) (e : α → List AV) (o c : Option Nat) (xs : List α) : Prop :=
 match o with
 | none => xs = []
 | some i => ∃ ys, H i = some (.cells (encs e xs ++ ys) ty) ∧ ∀ k, c = some k → xs.length ≤ k ∧ k * z ≤ (encs e xs ++ ys).length
theorem OwnC.mono {α : Type} {H H' : Mem} {ty z : Nat} {e : α → List AV} {o c : Option Nat} {xs : List α} (h : OwnC H ty z e o c xs) (hk : ∀ i, o = some i → H' i = H i) : OwnC H' ty z e o c xs := by
 cases o with
 | none => exact h
 | some i =>
  obtain ⟨ys, h, h2⟩ := h
  exact ⟨ys, by rw [hk i rfl, h], h2⟩
section
variable {α : Type} {e : α → List AV} {z : Nat} [hE : Enc e z]
theorem ownC_row {H : Mem} {ty b : Nat} {xs : List α} (h : H b = some (.cells (encs e xs) ty)) : OwnC H ty z e (some b) (some xs.length) xs :=
 ⟨[], by rw [List.append_nil]; exact h, fun k hk => by cases hk; rw [List.append_nil, length_encs (e := e)]; exact ⟨Nat.le_refl _, Nat.le_refl _⟩⟩
theorem elems_ownC {H : Mem} {ty : Nat} {o c : Option Nat} {xs : List α} (ho : OwnC H ty z e o c xs) : elemsOf H z (slc o xs.length c) = some (xs.length, encs e xs) := by
 cases o with
 | none => have : xs = [] := ho; subst this; rfl
 | some i =>
  obtain ⟨ys, h, _⟩ := ho
  simp only [slc_some, elemsOf, h]
  rw [if_pos (by rw [List.length_append, length_encs (e := e)]; omega), List.drop_zero, ← length_encs (e := e), List.take_left' rfl]
theorem append_ownC {T : Tab} {st ty : Nat} {i ie : TI} (hst : T st = some i) (hk : i.k = .slice ty) (hty : T ty = some ie) (hz : ie.size = z) (hz0 : 0 < z) (hzero : ie.zero.length = ie.size) (hb : ie.bytes ≤ 2 ^ 20)
  {H : Mem} {n : Nat} {o c : Option Nat} {xs : List α} (ho : OwnC H ty z e o c xs) (hn : ∀ i, o = some i → i < n) {y : AV} (ys : List α) (hy : elemsOf H z y = some (ys.length, encs e ys)) (hok : (encs e ys).all cellOk = true)
  (hr : (xs.length + ys.length) * ie.bytes ≤ roomMax) (hr' : xs.length + ys.length ≤ roomMax) :
  ∃ o' c' H' n', appendAV T H n st (slc o xs.length c) y = some (slc o' (xs ++ ys).length c', H', n') ∧ OwnC H' ty z e o' c' (xs ++ ys) ∧ n ≤ n' ∧ (∀ i, o' = some i → (o = some i ∨ n ≤ i) ∧ i < n') ∧ (∀ j, j < n → o ≠ some j → H' j = H j) := by
 have hel := elems_ownC ho
 unfold appendAV
 rw [hst]; simp only [hk, hty, hz, hel, hy]
 rw [if_pos ⟨hr, hr', hb, hz0, by omega, hok⟩]
 cases o with
 | none =>
  have h0 : xs = [] := ho
  subst h0
  simp only [slc_none, List.nil_append]
  by_cases h0 : ys.length = 0
  ·rw [if_pos h0]
   have : ys = [] := List.length_eq_zero_iff.1 h0
   subst this
   exact ⟨none, none, H, n, rfl, rfl, Nat.le_refl _, (fun i h => by cases h), fun j _ _ => rfl⟩
  ·rw [if_neg h0]
   exact ⟨some n, none, _, n + 1, rfl, ⟨[], by rw [upd_same, List.append_nil], fun k hk => by cases hk⟩, by omega, (fun i h => by cases h; exact ⟨.inr (Nat.le_refl _), by omega⟩), fun j hj _ => by rw [upd_ne _ _ (by omega)]⟩
 | some b =>
  obtain ⟨zs, ho, hc⟩ := ho
  have hlt := hn b rfl
  simp only [slc_some, ho, if_true, Nat.zero_add]
  have hlen : (encs e xs ++ zs).length = xs.length * z + zs.length := by rw [List.length_append, length_encs (e := e)]
  have hfresh : ∃ o' c' H' n', some (AV.osl n 0 (xs.length + ys.length) none, upd (upd H b none) n (some (Blk.cells (encs e xs ++ encs e ys) ty)), n + 1) = some (slc o' (xs ++ ys).length c', H', n') ∧ OwnC H' ty z e o' c' (xs ++ ys) ∧ n ≤ n' ∧ (∀ i, o' = some i → (some b = some i ∨ n ≤ i) ∧ i < n') ∧ (∀ j, j < n → some b ≠ some j → H' j = H j) :=
   ⟨some n, none, upd (upd H b none) n (some (Blk.cells (encs e xs ++ encs e ys) ty)), n + 1, by simp, ⟨[], by rw [upd_same, encs_append, List.append_nil], fun k hk => by cases hk⟩, by omega, (fun i h => by cases h; exact ⟨.inr (Nat.le_refl _), by omega⟩), fun j hj hne => by rw [upd_ne _ _ (by omega), upd_ne _ _ (fun e => hne (by rw [e]))]⟩
  have hfresh2 : ∃ o' c' H' n', some (AV.osl n 0 (xs.length + ys.length) none, upd H n (some (Blk.cells (encs e xs ++ encs e ys) ty)), n + 1) = some (slc o' (xs ++ ys).length c', H', n') ∧ OwnC H' ty z e o' c' (xs ++ ys) ∧ n ≤ n' ∧ (∀ i, o' = some i → (some b = some i ∨ n ≤ i) ∧ i < n') ∧ (∀ j, j < n → some b ≠ some j → H' j = H j) :=
   ⟨some n, none, upd H n (some (Blk.cells (encs e xs ++ encs e ys) ty)), n + 1, by simp, ⟨[], by rw [upd_same, encs_append, List.append_nil], fun k hk => by cases hk⟩, by omega, (fun i h => by cases h; exact ⟨.inr (Nat.le_refl _), by omega⟩), fun j hj hne => by rw [upd_ne _ _ (by omega)]⟩
  split
  ·rename_i hle
   refine ⟨some b, c, upd H b (some (.cells (splice (encs e xs ++ zs) (xs.length * z) (encs e ys)) ty)), n, by simp, ?_, Nat.le_refl _, (fun i h => by cases h; exact ⟨.inl rfl, hlt⟩), fun j hj hne => by rw [upd_ne]; intro e; exact hne (by rw [e])⟩
   have h1 : splice (encs e xs ++ zs) (xs.length * z) (encs e ys) = encs e xs ++ encs e ys ++ zs.drop (ys.length * z) := by
    unfold splice
    rw [← length_encs (e := e) xs, List.take_left' rfl, length_encs ys, List.drop_append, List.drop_of_length_le (by omega), List.nil_append]
    congr 2
    omega
   refine ⟨zs.drop (ys.length * z), by rw [upd_same, h1, encs_append], fun k hk => ?_⟩
   have hk1 := hc k hk
   have hle2 := hle.2
   rw [hlen, Nat.add_mul] at hle2
   refine ⟨?_, ?_⟩
   ·have := hle.1; rw [hk] at this; simp only [fitsC, decide_eq_true_eq] at this; rw [List.length_append]; exact this
   ·rw [List.length_append, length_encs (e := e), List.length_append, Nat.add_mul, List.length_drop]; rw [hlen] at hk1; omega
  ·rename_i hnle
   cases c with
   | none => exact hfresh
   | some c =>
    have hcc := hc c rfl
    simp only
    rw [if_neg (fun hle => hnle ⟨by simp [fitsC, hle], by have := Nat.mul_le_mul_right z hle; omega⟩)]
    exact hfresh2
end
section
variable {T : Tab} {H : Mem} {ids : List Nat}
theorem view_ownC {α : Type} {e : α → List AV} {z : Nat} [hE : Enc e z] (he : ∀ x, freeL (e x) = true) {o c : Option Nat} {xs : List α} {ty : Nat} (ho : OwnC H ty z e o c xs) (hi : ∀ i, o = some i → i ∈ ids) : View T H ids (slc o xs.length c) (.ssl (encs e xs) xs.length false) := by
 cases o with
 | none =>
  have : xs = [] := ho
  subst this
  exact .nilS
 | some i =>
  obtain ⟨ys, h, _⟩ := ho
  refine .oslF (encs e xs).length (hi i rfl) h ?_
  rw [List.drop_zero, List.take_left' rfl]
  exact .free (freeL_encs he xs)
theorem viewL_mid {a x y b : List AV} (ha : freeL a = true) (hb : freeL b = true) (h : ViewL T H ids x y) : ViewL T H ids (a ++ x ++ b) (a ++ y ++ b) := by
 have key : ∀ {x y : List AV}, ViewL T H ids x y → ViewL T H ids (x ++ b) (y ++ b) := by
  intro x y h
  have k2 : ∀ (x y : List AV), ViewL T H ids x y → ViewL T H ids (x ++ b) (y ++ b) := by
   intro x
   induction x with
   | nil => intro y h; have := h.length; simp at this; subst this; exact .free hb
   | cons p x ih =>
    intro y h
    cases h with
    | free h => exact .free (by rw [freeL_append, h, hb]; rfl)
    | cons h1 h2 => exact .cons h1 (ih _ h2)
  exact k2 x y h
 rw [List.append_assoc, List.append_assoc]
 induction a with
 | nil => exact key h
 | cons p a ih =>
  simp only [freeL, Bool.and_eq_true] at ha
  exact .cons (.free ha.1) (ih ha.2)
theorem view_blk {cs : List AV} {i ty : Nat} (h : H i = some (.cells cs ty)) (hi : i ∈ ids) (hf : freeL cs = true) : View T H ids (.own i 0) (.sh cs) := .own hi h (by rw [List.drop_zero]; exact .free hf)
end
section
variable {P : Program} {T : Tab} {k : Nat} {st : List It} {t : Nat → AV} {H : Mem} {n : Nat} {C : Cont} {G : Array Oper} {l : List Oper}
theorem EvL.more {P : Program} {T : Tab} {k : Nat} {G : Array Oper} {l2 : List Oper} {s2 : St} : ∀ {l1 : List Oper} {s s1 : St}, EvL P T k G l1 s s1 → EvL P T k G l2 s1 s2 → EvL P T k G (l1 ++ l2) s s2
 | _, _, _, .nil, h => h
 | _, _, _, .skip a b c, h => .skip a b (EvL.more c h)
 | _, _, _, .op a b c d, h => .op a b c (EvL.more d h)
 | _, _, _, .weak ids hw c, h => .weak ids hw (EvL.more c h)
theorem Stk.jo (m : Nat) (K : (Nat → AV) → Mem → Nat → Prop) (h1 : ∀ J : Nat → (Nat → AV) → Mem → Nat → Prop, (∀ t H n, K t H n → J 0 t H n) → Stk P T k (.ops G (l.take m) :: .loop J 1 :: st) t H n C) (h2 : ∀ t H n, K t H n → Stk P T k (.ops G (l.drop m) :: st) t H n C) : Stk P T k (.ops G l :: st) t H n C := by
 have h := h1 (fun _ => K) fun _ _ _ h => h
 have key : ∀ (l1 l2 : List Oper) (s : St) (Q : St → Prop), EvLQ P T k G l1 s (fun s => EvLQ P T k G l2 s Q) → EvLQ P T k G (l1 ++ l2) s Q := fun l1 l2 s Q ⟨s1, q1, s2, q2, q3⟩ => ⟨s2, EvL.more q1 q2, q3⟩
 have e : l = l.take m ++ l.drop m := (List.take_append_drop m l).symm
 rw [e]
 simp only [Stk] at h ⊢
 refine key _ _ _ _ ?_
 obtain ⟨s', q1, m', _, q2⟩ := h
 exact ⟨s', q1, by have := h2 _ _ _ q2; simp only [Stk] at this; exact this⟩
variable {cl : List Cls} {R : List Nat}
theorem Stk.jd (m : Nat) (K : (Nat → AV) → Mem → Nat → Prop) (h1 : ∀ J : Nat → (Nat → AV) → Mem → Nat → Prop, (∀ t H n, K t H n → J 0 t H n) → Stk P T k (.opsD G cl (R.take m) :: .loop J 1 :: st) t H n C) (h2 : ∀ t H n, K t H n → Stk P T k (.opsD G cl (R.drop m) :: st) t H n C) : Stk P T k (.opsD G cl R :: st) t H n C := by
 have h := h1 (fun _ => K) fun _ _ _ h => h
 have key : ∀ (l1 l2 : List Nat) (s s1 s2 : St), EvD P T k G cl l1 s s1 → EvD P T k G cl l2 s1 s2 → EvD P T k G cl (l1 ++ l2) s s2 := by
  intro l1 l2 s s1 s2 q1 q2
  induction l1 generalizing s with
  | nil => cases q1; exact q2
  | cons o l1 ih =>
   cases q1 with
   | skip a b c d => exact .skip a b c (ih _ d)
   | rd a b c d e f g => exact .rd a b c d e f (ih _ g)
   | mem a b c d e f g => exact .mem a b c d e f (ih _ g)
 have e : R = R.take m ++ R.drop m := (List.take_append_drop m R).symm
 rw [e]
 simp only [Stk] at h ⊢
 obtain ⟨s', q1, m', _, q2⟩ := h
 have := h2 _ _ _ q2
 simp only [Stk] at this
 obtain ⟨s2, q3, q4⟩ := this
 exact ⟨s2, key _ _ _ _ _ q1 q3, q4⟩
end
section
variable {P : Program} {T : Tab} {k : Nat} {st : List It} {t : Nat → AV} {H H' : Mem} {n n' : Nat} {C : Cont} {G : Array Oper} {l : List Oper} {o : Oper} {v : AV} {cl : List Cls} {i : Nat} {R : List Nat}
theorem Stk.om (hv : mop T t H n o.op = some (v, H', n')) (h1 : wantedA G o t = some true) (h2 : dstOk k o = true) (h : ∀ t', t' = putA t o.dst v → Stk P T k (.ops G l :: st) t' H' n' C) : Stk P T k (.ops G (o :: l) :: st) t H n C := by
 have := h _ rfl
 simp only [Stk] at this ⊢
 exact EvLQ.op (s := ⟨t, H, n⟩) h1 h2 (.mop hv) this
theorem Stk.omD {S : List Nat} {b : Nat} (hcl : cl[i]? = some (.mem S b)) (hk : ∀ j, j < b → j ∉ S → H' j = H j) (h0 : G[i]? = some o) (hv : mop T t H n o.op = some (v, H', n')) (h1 : wantedA G o t = some true) (h2 : dstOk k o = true) (h : ∀ t', t' = putA t o.dst v → Stk P T k (.opsD G cl R :: st) t' H' n' C) : Stk P T k (.opsD G cl (i :: R) :: st) t H n C := by
 have := h _ rfl
 simp only [Stk] at this ⊢
 obtain ⟨s', q1, q2⟩ := this
 exact ⟨s', .mem h0 h1 h2 (.mop hv) hcl hk q1, q2⟩
theorem Stk.ov (hv : vop T t H o.op = some v) (h1 : wantedA G o t = some true) (h2 : dstOk k o = true) (h : ∀ t', t' = putA t o.dst v → Stk P T k (.ops G l :: st) t' H n C) : Stk P T k (.ops G (o :: l) :: st) t H n C := by
 have := h _ rfl
 simp only [Stk] at this ⊢
 exact EvLQ.op (s := ⟨t, H, n⟩) h1 h2 (.vop hv) this
theorem Stk.ovD {R' : List Nat} (hcl : cl[i]? = some (.rd R')) (hk : ∀ j ∈ readsOf t o.op, j ∈ R') (h0 : G[i]? = some o) (hv : vop T t H o.op = some v) (h1 : wantedA G o t = some true) (h2 : dstOk k o = true) (h : ∀ t', t' = putA t o.dst v → Stk P T k (.opsD G cl R :: st) t' H n C) : Stk P T k (.opsD G cl (i :: R) :: st) t H n C := by
 have := h _ rfl
 simp only [Stk] at this ⊢
 obtain ⟨s', q1, q2⟩ := this
 exact ⟨s', .rd h0 h1 h2 (.vop hv) hcl hk q1, q2⟩
theorem mop_alloc {ty : Nat} {i : TI} (ht : T ty = some i) {cs : List AV} (hc : i.zero.map .sc = cs) : mop T t H n (.alloc ty) = some (.own n 0, upd H n (some (.cells cs ty)), n + 1) := by
 subst hc; simp only [mop, ht]
theorem vw_zs {ids : List Nat} (v : Value) : Vw T H ids (.sc v) (zs v) := by
 unfold zs
 split
 ·exact .inr (.inr .nilS)
 ·exact .inl rfl
theorem Stk.oz {ty : Nat} {i : TI} (ht : T ty = some i) {cs : List AV} (hc : i.zero.map zs = cs) (ho : o.op = .alloc ty) (h1 : wantedA G o t = some true) (h2 : dstOk k o = true)
  (h : ∀ t', t' = putA t o.dst (.own n 0) → Stk P T k (.ops G l :: st) t' (upd H n (some (.cells cs ty))) (n + 1) C) : Stk P T k (.ops G (o :: l) :: st) t H n C := by
 refine Stk.om (H' := upd H n (some (.cells (i.zero.map .sc) ty))) (n' := n + 1) (v := .own n 0) (by rw [ho]; exact mop_alloc ht rfl) h1 h2 (fun t' ht' => ?_)
 have hw : Weak T ⟨t', upd H n (some (.cells (i.zero.map .sc) ty)), n + 1⟩ ⟨t', upd H n (some (.cells cs ty)), n + 1⟩ [] := by
  refine ⟨fun i => .inl rfl, fun j => ?_, Nat.le_refl _⟩
  by_cases e : j = n
  ·subst e
   refine .inr ⟨by simp, .inr ⟨_, _, ty, upd_same _ _ _, upd_same _ _ _, by rw [← hc]; simp, fun q a' ha => ?_⟩⟩
   rw [← hc, List.getElem?_map] at ha
   cases hz : i.zero[q]? with
   | none => rw [hz] at ha; cases ha
   | some v =>
    rw [hz] at ha; cases ha
    exact ⟨.sc v, by rw [List.getElem?_map, hz]; rfl, vw_zs v⟩
  ·exact .inr ⟨by simp, .inl (by show upd _ _ _ _ = upd _ _ _ _; rw [upd_ne _ _ e, upd_ne _ _ e])⟩
 have := h t' ht'
 simp only [Stk] at this ⊢
 exact EvLQ.weak [] hw this
theorem mop_box {ty : Nat} {i : TI} (ht : T ty = some i) {x : Operand} {cs : List AV} (hp : partOk (ev t x) = true) (hc : cellsOf (ev t x) = cs) : mop T t H n (.box ty x) = some (.own n 0, upd H n (some (.cells cs ty)), n + 1) := by
 subst hc; simp only [mop, hp, ht]; rfl
theorem mop_range {ty : Nat} {i : TI} (ht : T ty = some i) (hk : i.k = .str) {x : Operand} {s : ByteArray} (hx : ev t x = .sc (.string s)) : mop T t H n (.range ty x) = some (.own n 0, upd H n (some (.iter s 0)), n + 1) := by
 simp only [mop, ht, hx, hk]
theorem mop_nextT {x : Operand} {b p : Nat} {s : ByteArray} (hx : ev t x = .own b 0) (hb : H b = some (.iter s p)) (hp : p < s.size) : mop T t H n (.next x true) = some (.tup [B true, I p, .sc (.int .i32 (Utf8.decode s p).1)], upd H b (some (.iter s (p + (Utf8.decode s p).2))), n) := by
 simp only [mop, hx, hb, hp, if_true]
theorem mop_nextF {x : Operand} {b p : Nat} {s : ByteArray} (hx : ev t x = .own b 0) (hb : H b = some (.iter s p)) (hp : ¬ p < s.size) : mop T t H n (.next x true) = some (.tup [B false], H, n) := by
 simp only [mop, hx, hb, hp, if_false]
theorem mop_store {ty z ety b o : Nat} {a x : Operand} {cs cs' : List AV} {v : AV} (hz : sizeT T ty = some z) (ha : ev t a = .own b o) (hb : H b = some (.cells cs ety)) (hv : ev t x = v) (hl : (cellsOf v).length = z) (hle : o + z ≤ cs.length) (hok : (cellsOf v).all cellOk = true) (hs : splice cs o (cellsOf v) = cs') :
  mop T t H n (.store ty a x) = some (.tup [], upd H b (some (.cells cs' ety)), n) := by
 subst hs hv
 simp only [mop, hz, ha, hb]
 rw [if_pos ⟨hl, hle, hok⟩]
theorem mop_append {x y : Operand} {s yt : Nat} {iy : TI} {e : Nat} (hy : T yt = some iy) (hk : iy.k = .slice e) : mop T t H n (.call ⟨.builtin .append, #[x, y], #[s, yt]⟩) = appendAV T H n s (ev t x) (ev t y) := by
 simp only [mop, List.map, hy, hk]
section
variable {α : Type} {c : α → List AV} {z : Nat} [hE : Enc c z]
end
end
inductive FillTo (T : Tab) (fs : List (Nat × Nat)) : List AV → List (Nat × AV) → List AV → Prop
 | nil {cs : List AV} : FillTo T fs cs [] cs
 | cons {cs cs1 cs' new : List AV} {j off ft z : Nat} {v w : AV} {rest : List (Nat × AV)} : v = w → fs[j]? = some (off, ft) → sizeT T ft = some z → partOk w = true → cellsOf w = new → new.length = z → off + z ≤ cs.length → splice cs off new = cs1 → FillTo T fs cs1 rest cs' → FillTo T fs cs ((j, v) :: rest) cs'
theorem FillTo.eq {T : Tab} {fs : List (Nat × Nat)} {cs cs' : List AV} {ps : List (Nat × AV)} (h : FillTo T fs cs ps cs') :
  fillAV (fun j => match fs[j]? with | some (off, ft) => (match sizeT T ft with | some z => some (off, z) | none => none) | none => none) cs ps = some cs' := by
 induction h with
 | nil => rfl
 | cons h0 h1 h2 h3 h4 h5 h6 h7 _ ih =>
  subst h0 h4 h7
  simp only [fillAV, h1, h2]
  rw [if_pos ⟨h3, h5, h6⟩]
  rw [← h5]
  exact ih
theorem vop_build {T : Tab} {t : Nat → AV} {H : Mem} {ty : Nat} {i : TI} {fs : List (Nat × Nat)} (ht : T ty = some i) (hk : i.k = .struct fs) (hall : fs.all (fun f => (sizeT T f.2).isSome) = true) {ps : Array (Nat × Operand)} {cs cs' : List AV} (hz : i.zero.map zs = cs)
  (h : FillTo T fs cs (ps.toList.map fun p => (p.1, ev t p.2)) cs') (hm : (i.ex || i.zero.any isMapZ) = false := by rfl) : vop T t H (.build ty ps) = some (.agg cs') := by
 subst hz
 have hzb : zb i = i.zero.map zs := by unfold zb; rw [if_neg (by rw [hm]; decide)]
 simp only [vop, ht, hk, hzb]
 rw [if_pos hall]
 exact congrArg (Option.map AV.agg) h.eq
inductive FillP (place : Nat → Option (Nat × Nat)) : List AV → List (Nat × AV) → List AV → Prop
 | nil {cs : List AV} : FillP place cs [] cs
 | cons {cs cs1 cs' new : List AV} {j off z : Nat} {v w : AV} {rest : List (Nat × AV)} : v = w → place j = some (off, z) → partOk w = true → cellsOf w = new → new.length = z → off + z ≤ cs.length → splice cs off new = cs1 → FillP place cs1 rest cs' → FillP place cs ((j, v) :: rest) cs'
theorem FillP.eq {place : Nat → Option (Nat × Nat)} {cs cs' : List AV} {ps : List (Nat × AV)} (h : FillP place cs ps cs') : fillAV place cs ps = some cs' := by
 induction h with
 | nil => rfl
 | cons h0 h1 h3 h4 h5 h6 h7 _ ih =>
  subst h0 h4 h7
  simp only [fillAV, h1]
  rw [if_pos ⟨h3, h5, h6⟩]
  rw [← h5]
  exact ih
theorem splice_next {α : Type} {c : α → List AV} {z : Nat} [hE : Enc c z] (ps : List α) (R : List AV) (y : α) {o : Nat} (ho : o = ps.length * z) (hR : z ≤ R.length) : splice (encs c ps ++ R) o (c y) = encs c (ps ++ [y]) ++ R.drop z := by
 subst ho
 unfold splice
 rw [← length_encs (e := c), List.take_left' rfl, hE.len, List.drop_append, List.drop_of_length_le (by omega), List.nil_append, encs_append, encs_one]
 congr 2
 omega
theorem mop_buildN {T : Tab} {t : Nat → AV} {H : Mem} {n : Nat} {α : Type} {c : α → List AV} {z : Nat} [hE : Enc c z] {ty e m : Nat} {i ie : TI} (ht : T ty = some i) (hk : i.k = .slice e) (he : T e = some ie) (hz : ie.size = z) (h0 : 0 < z) (hl : ie.zero.length = ie.size) (hs : m * ie.size ≤ 2 ^ 24) {ps : Array (Nat × Operand)} (ys : List α)
  (hy : ys.length = m) (h : FillP (fun j => some (j * z, z)) (encs c [] ++ (List.replicate m ie.zero).flatten.map .sc) (ps.toList.map fun p => (p.1, ev t p.2)) (encs c ys ++ [])) :
  mop T t H n (.buildSlice ty m ps) = some (.osl n 0 m (some m), upd H n (some (.cells (encs c ys) e)), n + 1) := by
 simp only [mop, ht, hk, he, hz]
 rw [hz] at hs hl
 rw [if_pos ⟨hs, h0, hl⟩]
 have := h.eq
 simp only [encs_nil, List.nil_append, List.append_nil] at this
 rw [this]
theorem RunF.nilArg {P : Program} {T : Tab} {f : FuncId} (pre post : List AV) {full : Bool} {r : AV} (h1 : ∀ a, (a = .sc (.slice none 0 0) ∨ a = .esl full) → RunF P T f (pre ++ a :: post) r) : RunF P T f (pre ++ .ssl [] 0 full :: post) r := by
 obtain ⟨H1, n1, a1⟩ := h1 _ (.inl rfl)
 obtain ⟨H2, n2, a2⟩ := h1 _ (.inr rfl)
 have key : ∀ {args : List AV} {H' : Mem} {n' m : Nat}, n' ≤ m → Run P T f args (fun _ => none) 0 r H' n' → Run P T f args (fun _ => none) 0 r (fun _ => none) m := by
  intro args H' n' m hm h
  exact Run.weak [] h ⟨fun i => .inl rfl, fun i => .inl rfl, hm⟩ (.inl rfl)
 exact ⟨fun _ => none, max n1 n2, Run.nilArg pre post (key (Nat.le_max_left _ _) a1) (key (Nat.le_max_right _ _) a2)⟩
end Go.Proofs.YtappiofmkoelnaaGreatDoorW.Ah
end
section
namespace Go.Proofs.YtappiofmkoelnaaGreatDoorW.Ah
set_option linter.unusedVariables false
set_option linter.unusedSimpArgs false
section
variable (P : Program) (T : Tab) (k : Nat)
def evY : Nat → List It → (Nat → AV) → Mem → Nat → Cont → Prop
  | 0, st, t, H, n, C => Stk P T k st t H n C
  | _ + 1, [], t, H, n, C => C .normal t H n
  | f + 1, .block _ :: st, t, H, n, C => evY f st t H n C
  | _ + 1, .loop I m :: _, t, H, n, _ => ∃ m', m' < m ∧ I m' t H n
  | f + 1, .ops _ [] :: st, t, H, n, C => evY f st t H n C
  | f + 1, .ops G (o :: l) :: st, t, H, n, C =>
    match wantedA G o t with
    | some true =>
      match vop T t H o.op with
      | some v => if dstOk k o = true then evY f (.ops G l :: st) (putA t o.dst v) H n C else False
      | none => Stk P T k (.ops G (o :: l) :: st) t H n C
    | some false => if dstOk k o = true then evY f (.ops G l :: st) (putA t o.dst (.tup [])) H n C else False
    | none => Stk P T k (.ops G (o :: l) :: st) t H n C
  | f + 1, .opsD _ _ [] :: st, t, H, n, C => evY f st t H n C
  | f + 1, .opsD G cl (i :: l) :: st, t, H, n, C =>
    match G[i]? with
    | none => False
    | some o =>
      match wantedA G o t with
      | some true =>
        match vop T t H o.op with
        | some v => if dstOk k o = true ∧ rdOk cl[i]? (readsOf t o.op) = true then evY f (.opsD G cl l :: st) (putA t o.dst v) H n C else False
        | none => Stk P T k (.opsD G cl (i :: l) :: st) t H n C
      | some false => if dstOk k o = true then evY f (.opsD G cl l :: st) (putA t o.dst (.tup [])) H n C else False
      | none => Stk P T k (.opsD G cl (i :: l) :: st) t H n C
  | f + 1, .code c :: st, t, H, n, C =>
    match c with
    | .skip => evY f st t H n C
    | .label _ => evY f st t H n C
    | .ret => C .ret t H n
    | .region _ ops false => evY f (.ops ops ops.toList :: st) t H n C
    | .seq x y => evY f (.code x :: .code y :: st) t H n C
    | .block id c => evY f (.code c :: .block id :: st) t H n C
    | c => Stk P T k (.code c :: st) t H n C
end
section
variable {P : Program} {T : Tab} {k : Nat}
theorem evY_sound : ∀ {f : Nat} {st : List It} {t : Nat → AV} {H : Mem} {n : Nat} {C : Cont}, evY P T k f st t H n C → Stk P T k st t H n C
  | 0, _, _, _, _, _, h => h
  | _ + 1, [], _, _, _, _, h => h
  | f + 1, .block _ :: st, t, H, n, C, h => by simp only [evY] at h; simp only [Stk]; exact evY_sound h
  | _ + 1, .loop I m :: _, t, H, n, _, h => by simpa only [evY, Stk] using h
  | f + 1, .ops _ [] :: st, t, H, n, C, h => by simp only [evY] at h; exact Stk.on (evY_sound h)
  | f + 1, .ops G (o :: l) :: st, t, H, n, C, h => by
    simp only [evY] at h
    split at h
    · rename_i hw
      split at h
      · rename_i v hv
        split at h
        · rename_i hd
          have := evY_sound h
          simp only [Stk] at this ⊢
          exact EvLQ.op hw hd (.vop hv) this
        · exact h.elim
      · exact h
    · rename_i hw
      split at h
      · rename_i hd
        have := evY_sound h
        simp only [Stk] at this ⊢
        exact EvLQ.skip hw hd this
      · exact h.elim
    · exact h
  | f + 1, .opsD _ _ [] :: st, t, H, n, C, h => by simp only [evY] at h; exact Stk.onD (evY_sound h)
  | f + 1, .opsD G cl (i :: l) :: st, t, H, n, C, h => by
    simp only [evY] at h
    split at h
    · exact h.elim
    · rename_i o ho
      split at h
      · rename_i hw
        split at h
        · rename_i v hv
          split at h
          · rename_i hd
            have := evY_sound h
            simp only [Stk] at this ⊢
            obtain ⟨s', q1, q2⟩ := this
            obtain ⟨R', r1, r2⟩ := rdOk_spec hd.2
            exact ⟨s', .rd ho hw hd.1 (.vop hv) r1 r2 q1, q2⟩
          · exact h.elim
        · exact h
      · rename_i hw
        split at h
        · rename_i hd
          have := evY_sound h
          simp only [Stk] at this ⊢
          obtain ⟨s', q1, q2⟩ := this
          exact ⟨s', .skip ho hw hd q1, q2⟩
        · exact h.elim
      · exact h
  | f + 1, .code c :: st, t, H, n, C, h => by
    simp only [evY] at h
    split at h
    · exact Stk.sk (evY_sound h)
    · exact Stk.lb (evY_sound h)
    · exact Stk.rt h
    · exact Stk.rg (evY_sound h)
    · exact Stk.sq (evY_sound h)
    · exact Stk.bk (evY_sound h)
    · exact h
end
def pureY (T : Tab) (k : Nat) (G : Array Oper) : List Oper → (Nat → AV) → Mem → Option (Nat → AV)
  | [], t, _ => some t
  | o :: l, t, H =>
    match wantedA G o t with
    | some true =>
      match vop T t H o.op with
      | some v => if dstOk k o = true then pureY T k G l (putA t o.dst v) H else none
      | none => none
    | some false => if dstOk k o = true then pureY T k G l (putA t o.dst (.tup [])) H else none
    | none => none
def dstsL (l : List Oper) : List Nat := l.filterMap (·.dst)
def anyOn (D : List Nat) (t : Nat → AV) : Nat → AV := fun i => if i ∈ D then .any else t i
def gdOk (T : Tab) (k : Nat) (G : Array Oper) (l : List Oper) (t : Nat → AV) (H : Mem) (d : Nat) (v : AV) : Prop :=
  match pureY T k G l t H with
  | some t1 => t1 d = v
  | none => False
section
variable {P : Program} {T : Tab} {k : Nat} {st : List It} {t : Nat → AV} {H : Mem} {n : Nat} {C : Cont} {G : Array Oper}
theorem pureY_sound {l2 : List Oper} : ∀ {l : List Oper} {t t1 : Nat → AV}, pureY T k G l t H = some t1 → Stk P T k (.ops G l2 :: st) t1 H n C → Stk P T k (.ops G (l ++ l2) :: st) t H n C
  | [], _, _, h, h2 => by simp only [pureY] at h; cases h; exact h2
  | o :: l, t, t1, h, h2 => by
    simp only [pureY] at h
    split at h
    · rename_i hw
      split at h
      · rename_i v hv
        split at h
        · rename_i hd
          have := pureY_sound h h2
          simp only [Stk, List.cons_append] at this ⊢
          exact EvLQ.op hw hd (.vop hv) this
        · cases h
      · cases h
    · rename_i hw
      split at h
      · rename_i hd
        have := pureY_sound h h2
        simp only [Stk, List.cons_append] at this ⊢
        exact EvLQ.skip hw hd this
      · cases h
    · cases h
theorem putA_frame {o : Oper} {v : AV} {i : Nat} (h : i ∉ dstsL [o]) : putA t o.dst v i = t i := by
  unfold putA
  cases hd : o.dst with
  | none => rfl
  | some d => simp only; rw [upd_ne]; intro e; exact h (by simp [dstsL, hd, e])
theorem pureY_frame : ∀ {l : List Oper} {t t1 : Nat → AV}, pureY T k G l t H = some t1 → ∀ i, i ∉ dstsL l → t1 i = t i
  | [], _, _, h, i, _ => by simp only [pureY] at h; cases h; rfl
  | o :: l, t, t1, h, i, hi => by
    have h1 : i ∉ dstsL [o] := fun e => hi (by simp only [dstsL, List.filterMap_cons, List.filterMap_nil] at e ⊢; cases hd : o.dst <;> simp_all)
    have h2 : i ∉ dstsL l := fun e => hi (by simp only [dstsL, List.filterMap_cons] at e ⊢; cases hd : o.dst <;> simp_all)
    simp only [pureY] at h
    split at h
    · split at h
      · split at h
        · exact (pureY_frame h i h2).trans (putA_frame h1)
        · cases h
      · cases h
    · split at h
      · exact (pureY_frame h i h2).trans (putA_frame h1)
      · cases h
    · cases h
theorem Stk.gd {l : List Oper} (m gd d : Nat) (V : Bool → AV) {w : Bool} (hw : t gd = .sc (.bool w)) (hT : gdOk T k G (l.take m) (upd t gd (.sc (.bool true))) H d (V true)) (hF : gdOk T k G (l.take m) (upd t gd (.sc (.bool false))) H d (V false))
    (h : Stk P T k (.ops G (l.drop m) :: st) (upd (anyOn (dstsL (l.take m)) t) d (V w)) H n C) : Stk P T k (.ops G l :: st) t H n C := by
  have hu : ∀ b, t gd = .sc (.bool b) → upd t gd (.sc (.bool b)) = t := fun b hb => by
    funext i
    by_cases e : i = gd
    · subst e; rw [upd_same, hb]
    · rw [upd_ne _ _ e]
  have key : gdOk T k G (l.take m) t H d (V w) → Stk P T k (.ops G l :: st) t H n C := by
    intro hg
    unfold gdOk at hg
    split at hg
    · rename_i t1 h1
      rw [← List.take_append_drop m l]
      refine pureY_sound h1 ?_
      simp only [Stk] at h ⊢
      refine EvLQ.weak (s1 := ⟨upd (anyOn (dstsL (l.take m)) t) d (V w), H, n⟩) [] ⟨fun i => ?_, fun i => .inr ⟨by simp, .inl rfl⟩, Nat.le_refl _⟩ h
      by_cases e : i = d
      · subst e; left; show upd (anyOn (dstsL (l.take m)) t) i (V w) i = t1 i; rw [upd_same]; exact hg.symm
      · show Vw T H [] (t1 i) (upd (anyOn (dstsL (l.take m)) t) d (V w) i)
        simp only [upd_ne _ _ e, anyOn]
        by_cases hi : i ∈ dstsL (l.take m)
        · rw [if_pos hi]; exact .inr (.inl rfl)
        · rw [if_neg hi]; exact .inl (pureY_frame h1 i hi).symm
    · exact hg.elim
  cases w with
  | true => exact key (by rw [hu true hw] at hT; exact hT)
  | false => exact key (by rw [hu false hw] at hF; exact hF)
end
attribute [simp] evY pureY gdOk dstsL anyOn
end Go.Proofs.YtappiofmkoelnaaGreatDoorW.Ah
end
section
namespace Go.Proofs.YtappiofmkoelnaaGreatDoorW.Ah
set_option linter.unusedVariables false
theorem eY {P : Program} {T : Tab} {k : Nat} (f : Nat) {st : List It} {t : Nat → AV} {H : Mem} {n : Nat} {C : Cont} (h : evY P T k f st t H n C) : Stk P T k st t H n C := evY_sound h
theorem j2 {p0 p1 r : Prop} (h : p0 ∧ p1) (g : r) : p0 ∧ p1 ∧ r := let ⟨h0, h1⟩ := h; ⟨h0, h1, g⟩
theorem j3 {p0 p1 p2 r : Prop} (h : p0 ∧ p1 ∧ p2) (g : r) : p0 ∧ p1 ∧ p2 ∧ r := let ⟨h0, h1, h2⟩ := h; ⟨h0, h1, h2, g⟩
theorem j4 {p0 p1 p2 p3 r : Prop} (h : p0 ∧ p1 ∧ p2 ∧ p3) (g : r) : p0 ∧ p1 ∧ p2 ∧ p3 ∧ r := let ⟨h0, h1, h2, h3⟩ := h; ⟨h0, h1, h2, h3, g⟩
theorem j5 {p0 p1 p2 p3 p4 r : Prop} (h : p0 ∧ p1 ∧ p2 ∧ p3 ∧ p4) (g : r) : p0 ∧ p1 ∧ p2 ∧ p3 ∧ p4 ∧ r := let ⟨h0, h1, h2, h3, h4⟩ := h; ⟨h0, h1, h2, h3, h4, g⟩
theorem sj {α : Type} {a b : α} (h : some a = some b) : a = b := Option.some.inj h
theorem lm {P : Program} {T : Tab} {k : Nat} {I : Nat → (Nat → AV) → Mem → Nat → Prop} {m' : Nat} {st : List It} {t : Nat → AV} {H : Mem} {n : Nat} {C : Cont} (h : I m' t H n) : Stk P T k (.loop I (m' + 1) :: st) t H n C := Stk.ln m' (Nat.lt_succ_self _) h
theorem l0 {P : Program} {T : Tab} {k : Nat} {I : Nat → (Nat → AV) → Mem → Nat → Prop} {st : List It} {t : Nat → AV} {H : Mem} {n : Nat} {C : Cont} (h : I 0 t H n) : Stk P T k (.loop I 1 :: st) t H n C := Stk.ln 0 (by decide) h
theorem gn {P : Program} {T : Tab} {k : Nat} {st : List It} {t : Nat → AV} {H : Mem} {n : Nat} {C : Cont} (F : (Nat → AV) → Mem → Nat → Prop) (hF : F t H n) (h : ∀ t H n, F t H n → Stk P T k st t H n C) : Stk P T k st t H n C := h t H n hF
theorem cd {P : Program} {T : Tab} {k : Nat} {st : List It} {t : Nat → AV} {H : Mem} {n : Nat} {C : Cont} {c : Operand} {x y : Code} (b : Bool) (hc : ev t c = .sc (.bool b)) (h1 : b = true → Stk P T k (.code x :: st) t H n C) (h2 : b = false → Stk P T k (.code y :: st) t H n C) : Stk P T k (.code (.cond c x y) :: st) t H n C := Stk.cond b hc h1 h2
theorem hF {T : Tab} {R : List ResultVar} {rv : AV} {A B : (Nat → AV) → Mem → Nat → Prop} {t : Nat → AV} {H : Mem} {n : Nat} (hr : ∀ t H n r1 ids, resOf T R ⟨t, H, n⟩ = some r1 → Vw T H ids r1 rv → A t H n ∧ B t H n) (h : resOf T R ⟨t, H, n⟩ = some rv) (hf : free rv = true) : A t H n ∧ B t H n :=
  hr _ _ _ rv [] h (.inr (.inr (.free hf)))
section
variable {P : Program} {T : Tab} {k : Nat} {st : List It} {t : Nat → AV} {H : Mem} {n : Nat} {C : Cont} {G : Array Oper} {l : List Oper} {cl : List Cls} {i : Nat} {L : List Nat}
variable {dst : Option Nat} {f : Operand} {xs : Array Operand} {ats : Array TypeId} {ty : TypeId} {pos : String} {after : Array Edge} {guard : Option (Nat × Bool)} {g : FuncId} {args : List AV} {v : AV}
theorem cw (hr : RunF P T g args v) (h1 : wantedA G ⟨dst, .call ⟨.value f, xs, ats⟩, ty, pos, after, guard⟩ t = some true) (h2 : dstOk k ⟨dst, .call ⟨.value f, xs, ats⟩, ty, pos, after, guard⟩ = true)
    (hf : ev t f = .fn (.func g) [] []) (ha : ([] : List AV) ++ xs.toList.map (ev t) ++ [] = args) (hvw : ViewL T H [] args args) (hv : free v = true)
    (h4 : ∀ t', t' = putA t dst v → Stk P T k (.ops G l :: st) t' H n C) : Stk P T k (.ops G (⟨dst, .call ⟨.value f, xs, ats⟩, ty, pos, after, guard⟩ :: l) :: st) t H n C :=
  Stk.cv [] hr h1 h2 hf ha hvw (.inl ⟨rfl, hv⟩) h4
theorem cx {R : List Nat} (hr : RunF P T g args v) (hcl : cl[i]? = some (.rd R)) (h0 : G[i]? = some ⟨dst, .call ⟨.value f, xs, ats⟩, ty, pos, after, guard⟩) (h1 : wantedA G ⟨dst, .call ⟨.value f, xs, ats⟩, ty, pos, after, guard⟩ t = some true) (h2 : dstOk k ⟨dst, .call ⟨.value f, xs, ats⟩, ty, pos, after, guard⟩ = true)
    (hf : ev t f = .fn (.func g) [] []) (ha : ([] : List AV) ++ xs.toList.map (ev t) ++ [] = args) (hvw : ViewL T H [] args args) (hv : free v = true)
    (h4 : ∀ t', t' = putA t dst v → Stk P T k (.opsD G cl L :: st) t' H n C) : Stk P T k (.opsD G cl (i :: L) :: st) t H n C :=
  Stk.cvD [] hr hcl (fun j hj => by cases hj) h0 h1 h2 hf ha hvw (.inl ⟨rfl, hv⟩) h4
end
end Go.Proofs.YtappiofmkoelnaaGreatDoorW.Ah
end
