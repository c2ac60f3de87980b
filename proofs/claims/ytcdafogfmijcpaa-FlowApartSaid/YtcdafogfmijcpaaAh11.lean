/-
  Codes on abstract memory, step by step; what they come to, the model's codes come to.
-/
import Derived.Test.YtcdafogfmijcpaaAh10
import Derived.Scope
import Derived.OrdersIn
import Derived.RangeFuncNested
namespace Go.Proofs.YtcdafogfmijcpaaW.Ah
set_option linter.unusedVariables false
set_option linter.unusedSimpArgs false

inductive Ex where
  | normal | exit (id : Nat) | goto (l : Nat) | ret
  deriving DecidableEq

def Ex.to : Ex → Exit
  | .normal => .normal
  | .exit i => .exit i
  | .goto l => .goto l
  | .ret => .ret

/-- Is an operation carried out? -/
def wantedA (G : Array Oper) (o : Oper) (t : Nat → AV) : Option Bool :=
  match o.guard with
  | none => some true
  | some (j, want) =>
    match (G[j]?).bind (·.dst) with
    | none => some false
    | some d =>
      match t d with
      | .sc (.bool b) => some (b == want)
      | .tup _ => some false
      | _ => none

def putA (t : Nat → AV) (d : Option Nat) (v : AV) : Nat → AV :=
  match d with
  | some d => upd t d v
  | none => t

def dstOk (k : Nat) (o : Oper) : Bool :=
  match o.dst with
  | some d => decide (d < k)
  | none => true

/-- The frame at a function's begin. -/
def initT (args : List AV) : Nat → AV := fun i => args.getD i (.tup [])

def resOne (T : Tab) (t : Nat → AV) (H : Nat → Option Blk) : ResultVar → Option AV
  | .tmp i => some (t i)
  | .cell x ty =>
    match t x with
    | .own .. | .sh _ => vop T t H (.load ty (.tmp x))
    | _ => none

def resOf (T : Tab) (rs : List ResultVar) (s : St) : Option AV :=
  match rs with
  | [r] => resOne T s.t s.H r
  | rs => (rs.mapM (resOne T s.t s.H)).map .tup

/-- i waits for a. -/
def waits (G : Array Oper) : Nat → Nat → Nat → Bool
  | 0, _, _ => false
  | f + 1, a, i =>
    match G[i]? with
    | some o => o.after.toList.any fun e => Region.binds .any e && (e.on == a || waits G f a e.on)
    | none => false

/-- What an operation has to do with the memory: it looks at these blocks alone, and changes nothing; or it changes these, and none else below a name. -/
inductive Cls where
  | rd (R : List Nat)
  | mem (S : List Nat) (b : Nat)

def Cls.indep : Option Cls → Option Cls → Bool
  | some (.rd _), some (.rd _) => true
  | some (.rd R), some (.mem S b) => R.all fun j => decide (j < b) && !S.contains j
  | some (.mem S b), some (.rd R) => R.all fun j => decide (j < b) && !S.contains j
  | _, _ => false

/-- Which of two comes first makes no difference. -/
def indep (G : Array Oper) (cl : List Cls) (i j : Nat) : Bool :=
  match G[i]?, G[j]? with
  | some x, some y => x.apart G y && Cls.indep cl[i]? cl[j]?
  | _, _ => false

/-- The blocks that a value's operation looks at. -/
def readsOf (t : Nat → AV) : Op → List Nat
  | .load _ a => (match ev t a with | .own i _ => [i] | _ => [])
  | .slice _ x _ _ _ => (match ev t x with | .osl i _ _ _ => [i] | _ => [])
  | .lookup _ x _ _ => (match ev t x with | .omap i => [i] | _ => [])
  | _ => []

/-- i waits for q, and for all that stands ahead of q and is not apart from it. -/
def barrier (G : Array Oper) (cl : List Cls) (q i : Nat) : Bool := waits G G.size q i && (List.range q).all fun x => indep G cl x q || waits G G.size x i

def apartB (G : Array Oper) (i j : Nat) : Bool :=
  match G[i]?, G[j]? with
  | some x, some y => x.apart G y
  | _, _ => false

/-- The order of two; q: an allocation that may come early. -/
def pairOk (G : Array Oper) (cl : List Cls) (q : Option Nat) (a i : Nat) : Bool :=
  if q = some a then indep G cl a i || barrier G cl a i
  else if q = some i then waits G G.size a i || apartB G a i
  else indep G cl a i || waits G G.size a i

/-- It makes a block anew, and nothing else. -/
def lateOp : Op → Bool
  | .alloc _ => true
  | .buildSlice .. => true
  | .makeSlice .. => true
  | _ => false

/-- q is an allocation of a known type. -/
def lateOk (T : Tab) (G : Array Oper) : Option Nat → Bool
  | none => true
  | some q =>
    match G[q]? with
    | some o =>
      match o.dst, o.guard with
      | some _, none => lateOp o.op
      | _, _ => false
    | none => false

/-- A region whose order is open, and in which any order does the same. -/
def drawOk (G : Array Oper) (cl : List Cls) (q : Option Nat) : Bool :=
  (List.range G.size).all fun i =>
    (match G[i]? with | some o => o.after.toList.all fun e => !Region.binds .any e || decide (e.on < i) | none => false) &&
    (List.range i).all fun a => pairOk G cl q a i

/-- The round's arguments go into the loop's variables. -/
def fillT (t : Nat → AV) : List (Nat × AV) → Nat → AV
  | [] => t
  | (p, v) :: l => fillT (upd t p v) l

/-- The jump by which a round was left. -/
def Ex.stt : Ex → LSt
  | .normal => .ready
  | .exit i => .done (.exit i)
  | .goto l => .done (.goto l)
  | .ret => .done .ret

section
variable (P : Program) (T : Tab)

mutual
inductive Does : Oper → (Nat → AV) → (Nat → Option Blk) → Nat → AV → (Nat → Option Blk) → Nat → Prop
  | vop {o : Oper} {t : Nat → AV} {H : Nat → Option Blk} {n : Nat} {v : AV} : vop T t H o.op = some v → Does o t H n v H n
  | mop {o : Oper} {t : Nat → AV} {H H' : Nat → Option Blk} {n n' : Nat} {v : AV} : mop T t H n o.op = some (v, H', n') → Does o t H n v H' n'
  | callS {o : Oper} {t : Nat → AV} {H H' : Nat → Option Blk} {n n' : Nat} {v : AV} {c : Call} {f : Operand} {g : FuncId} {first caps : List AV} :
      o.op = .call c → c.callee = .value f → ev t f = .fn (.func g) first caps → Run g (first ++ c.args.toList.map (ev t) ++ caps) H n v H' n' → Does o t H n v H' n'
  | callF {o : Oper} {t : Nat → AV} {H H' : Nat → Option Blk} {n n' : Nat} {v : AV} {c : Call} {f : Operand} {g : FuncId} {first caps : List AV} :
      o.op = .call c → c.callee = .value f → ev t f = .fn (.func g) first caps → freeL (first ++ c.args.toList.map (ev t) ++ caps) = true →
      Run g (first ++ c.args.toList.map (ev t) ++ caps) (fun _ => none) 0 v H' n' → free v = true → Does o t H n v H n
  | callB {o : Oper} {t : Nat → AV} {H H' : Nat → Option Blk} {n n' : Nat} {v : AV} {c : Call} {f : Operand} {g : FuncId} {first caps args' : List AV} (ids : List Nat) :
      o.op = .call c → c.callee = .value f → ev t f = .fn (.func g) first caps → ViewL T H ids (first ++ c.args.toList.map (ev t) ++ caps) args' →
      Run g args' (fun _ => none) 0 v H' n' → ((ids = [] ∧ free v = true) ∨ flat v = true) → Does o t H n v H n
  | round {o : Oper} {t : Nat → AV} {H : Nat → Option Blk} {n i k k1 k2 : Nat} {c : Call} {f : Operand} {t0 t1 t2 : Nat → AV} {ps ps1 ps2 : Array Nat} {asg asg1 asg2 bod bod1 bod2 : Code} {s1 s2 : St} {e : Ex} :
      o.op = .call c → c.callee = .value f → ev t f = .yld i → H i = some (.loop t0 k ps asg bod .ready) → ps.size = c.args.size → ps.toList.all (fun p => decide (p < k)) = true →
      Ev k asg ⟨fillT t0 (ps.toList.zip (c.args.toList.map (ev t))), H, n⟩ .normal s1 → s1.H i = some (.loop t1 k1 ps1 asg1 bod1 .ready) →
      Ev k bod ⟨s1.t, upd s1.H i (some (.loop t1 k1 ps1 asg1 bod1 .busy)), s1.n⟩ e s2 → s2.H i = some (.loop t2 k2 ps2 asg2 bod2 .busy) →
      Does o t H n (B (e == .normal)) (upd s2.H i (some (.loop t2 k2 ps2 asg2 bod2 e.stt))) s2.n
inductive EvL : Nat → Array Oper → List Oper → St → St → Prop
  | nil {k : Nat} {G : Array Oper} {s : St} : EvL k G [] s s
  | skip {k : Nat} {G : Array Oper} {o : Oper} {l : List Oper} {s s' : St} : wantedA G o s.t = some false → dstOk k o = true → EvL k G l ⟨putA s.t o.dst (.tup []), s.H, s.n⟩ s' → EvL k G (o :: l) s s'
  | op {k : Nat} {G : Array Oper} {o : Oper} {l : List Oper} {s s' : St} {v : AV} {H' : Nat → Option Blk} {n' : Nat} : wantedA G o s.t = some true → dstOk k o = true → Does o s.t s.H s.n v H' n' →
      EvL k G l ⟨putA s.t o.dst v, H', n'⟩ s' → EvL k G (o :: l) s s'
  | weak {k : Nat} {G : Array Oper} {l : List Oper} {s s1 s' : St} (ids : List Nat) : Weak T s s1 ids → EvL k G l s1 s' → EvL k G l s s'
inductive DoesR : Oper → (Nat → AV) → (Nat → Option Blk) → AV → List Nat → Prop
  | vop {o : Oper} {t : Nat → AV} {H : Nat → Option Blk} {v : AV} : vop T t H o.op = some v → DoesR o t H v (readsOf t o.op)
  | callF {o : Oper} {t : Nat → AV} {H H' : Nat → Option Blk} {n' : Nat} {v : AV} {c : Call} {f : Operand} {g : FuncId} {first caps : List AV} :
      o.op = .call c → c.callee = .value f → ev t f = .fn (.func g) first caps → freeL (first ++ c.args.toList.map (ev t) ++ caps) = true →
      Run g (first ++ c.args.toList.map (ev t) ++ caps) (fun _ => none) 0 v H' n' → free v = true → DoesR o t H v []
  | callB {o : Oper} {t : Nat → AV} {H H' : Nat → Option Blk} {n' : Nat} {v : AV} {c : Call} {f : Operand} {g : FuncId} {first caps args' : List AV} (ids : List Nat) :
      o.op = .call c → c.callee = .value f → ev t f = .fn (.func g) first caps → ViewL T H ids (first ++ c.args.toList.map (ev t) ++ caps) args' →
      Run g args' (fun _ => none) 0 v H' n' → ((ids = [] ∧ free v = true) ∨ flat v = true) → DoesR o t H v ids
inductive EvD : Nat → Array Oper → List Cls → List Nat → St → St → Prop
  | nil {k : Nat} {G : Array Oper} {cl : List Cls} {s : St} : EvD k G cl [] s s
  | skip {k : Nat} {G : Array Oper} {cl : List Cls} {i : Nat} {o : Oper} {l : List Nat} {s s' : St} : G[i]? = some o → wantedA G o s.t = some false → dstOk k o = true → EvD k G cl l ⟨putA s.t o.dst (.tup []), s.H, s.n⟩ s' → EvD k G cl (i :: l) s s'
  | rd {k : Nat} {G : Array Oper} {cl : List Cls} {i : Nat} {o : Oper} {l : List Nat} {s s' : St} {v : AV} {R R' : List Nat} : G[i]? = some o → wantedA G o s.t = some true → dstOk k o = true → DoesR o s.t s.H v R → cl[i]? = some (.rd R') → (∀ j ∈ R, j ∈ R') →
      EvD k G cl l ⟨putA s.t o.dst v, s.H, s.n⟩ s' → EvD k G cl (i :: l) s s'
  | mem {k : Nat} {G : Array Oper} {cl : List Cls} {i : Nat} {o : Oper} {l : List Nat} {s s' : St} {v : AV} {H' : Nat → Option Blk} {n' b : Nat} {S : List Nat} : G[i]? = some o → wantedA G o s.t = some true → dstOk k o = true → Does o s.t s.H s.n v H' n' →
      cl[i]? = some (.mem S b) → (∀ j, j < b → j ∉ S → H' j = s.H j) → EvD k G cl l ⟨putA s.t o.dst v, H', n'⟩ s' → EvD k G cl (i :: l) s s'
inductive Ev : Nat → Code → St → Ex → St → Prop
  | skip {k : Nat} {s : St} : Ev k .skip s .normal s
  | label {k l : Nat} {s : St} : Ev k (.label l) s .normal s
  | exit {k id : Nat} {s : St} : Ev k (.exit id) s (.exit id) s
  | goto {k l : Nat} {s : St} : Ev k (.goto l) s (.goto l) s
  | ret {k : Nat} {s : St} : Ev k .ret s .ret s
  | region {k id : Nat} {ops : Array Oper} {s s' : St} : EvL k ops ops.toList s s' → Ev k (.region id ops false) s .normal s'
  | regionD {k id : Nat} {ops : Array Oper} {s s' : St} (cl : List Cls) (q : Option Nat) : P.follows .mixedOrders = true → drawOk ops cl q = true → lateOk T ops q = true → EvD k ops cl (List.range ops.size) s s' → Ev k (.region id ops true) s .normal s'
  | seqN {k : Nat} {x y : Code} {s s1 s2 : St} {e : Ex} : Ev k x s .normal s1 → Ev k y s1 e s2 → Ev k (.seq x y) s e s2
  | seqX {k : Nat} {x y : Code} {s s1 : St} {e : Ex} : Ev k x s e s1 → e ≠ .normal → Ev k (.seq x y) s e s1
  | condT {k : Nat} {c : Operand} {x y : Code} {s s1 : St} {e : Ex} : ev s.t c = .sc (.bool true) → Ev k x s e s1 → Ev k (.cond c x y) s e s1
  | condF {k : Nat} {c : Operand} {x y : Code} {s s1 : St} {e : Ex} : ev s.t c = .sc (.bool false) → Ev k y s e s1 → Ev k (.cond c x y) s e s1
  | blockN {k id : Nat} {c : Code} {s s1 : St} {e : Ex} : Ev k c s e s1 → e ≠ .exit id → Ev k (.block id c) s e s1
  | blockX {k id : Nat} {c : Code} {s s1 : St} : Ev k c s (.exit id) s1 → Ev k (.block id c) s .normal s1
  | loop {k : Nat} {c : Code} {s s1 : St} {e : Ex} : EvLoop k c s e s1 → Ev k (.loop c) s e s1
  | scope {k : Nat} {c : Code} {s s1 : St} {e : Ex} : EvScope k c c s e s1 → Ev k (.scope c) s e s1
  | weak {k : Nat} {c : Code} {s s1 s2 : St} {e : Ex} (ids : List Nat) : Weak T s s1 ids → Ev k c s1 e s2 → Ev k c s e s2
  | rangeN {k : Nat} {f : Operand} {ps : Array Nat} {asg bod : Code} {s : St} {g : FuncId} {first caps : List AV} {r : AV} {H' : Nat → Option Blk} {n' : Nat} {t0 : Nat → AV} {k0 : Nat} {ps0 : Array Nat} {asg0 bod0 : Code} :
      ev s.t f = .fn (.func g) first caps → Run g (first ++ [.yld s.n] ++ caps) (upd s.H s.n (some (.loop s.t k ps asg bod .ready))) (s.n + 1) r H' n' →
      H' s.n = some (.loop t0 k0 ps0 asg0 bod0 .ready) → Ev k (.rangeFunc f ps asg bod) s .normal ⟨s.t, upd H' s.n none, n'⟩
  | rangeJ {k : Nat} {f : Operand} {ps : Array Nat} {asg bod c : Code} {s s' : St} {g : FuncId} {first caps : List AV} {r : AV} {H' : Nat → Option Blk} {n' : Nat} {t0 : Nat → AV} {k0 : Nat} {ps0 : Array Nat} {asg0 bod0 : Code} {e : Ex} :
      ev s.t f = .fn (.func g) first caps → Run g (first ++ [.yld s.n] ++ caps) (upd s.H s.n (some (.loop s.t k ps asg bod .ready))) (s.n + 1) r H' n' →
      H' s.n = some (.loop t0 k0 ps0 asg0 bod0 (.done c)) → Ev k c ⟨s.t, upd H' s.n none, n'⟩ e s' → Ev k (.rangeFunc f ps asg bod) s e s'
inductive EvLoop : Nat → Code → St → Ex → St → Prop
  | more {k : Nat} {c : Code} {s s1 s2 : St} {e : Ex} : Ev k c s .normal s1 → EvLoop k c s1 e s2 → EvLoop k c s e s2
  | done {k : Nat} {c : Code} {s s1 : St} {e : Ex} : Ev k c s e s1 → e ≠ .normal → EvLoop k c s e s1
  | weak {k : Nat} {c : Code} {s s1 s2 : St} {e : Ex} (ids : List Nat) : Weak T s s1 ids → EvLoop k c s1 e s2 → EvLoop k c s e s2
inductive EvScope : Nat → Code → Code → St → Ex → St → Prop
  | straight {k : Nat} {b c : Code} {s s1 : St} {e : Ex} : Ev k c s e s1 → (∀ l, e ≠ .goto l) → EvScope k b c s e s1
  | jump {k l : Nat} {b c rest : Code} {s s1 s2 : St} {e : Ex} : Ev k c s (.goto l) s1 → findLabel b l = some rest → EvScope k b rest s1 e s2 → EvScope k b c s e s2
inductive Run : FuncId → List AV → (Nat → Option Blk) → Nat → AV → (Nat → Option Blk) → Nat → Prop
  | mk {f : FuncId} {fn : Func} {c : Code} {args : List AV} {H : Nat → Option Blk} {n : Nat} {e : Ex} {s' : St} {r : AV} : P.funcs[f]? = some fn → fn.body = some c → (fn.name == "runtime.NumGoroutine") = false → args.length ≤ fn.ntmps →
      Ev fn.ntmps c ⟨initT args, H, n⟩ e s' → (e = .ret ∨ e = .normal) → resOf T fn.results.toList s' = some r → Run f args H n r s'.H s'.n
  | nilArg {f : FuncId} (pre post : List AV) {full : Bool} {H H' : Nat → Option Blk} {n n' : Nat} {r : AV} : Run f (pre ++ .sc (.slice none 0 0) :: post) H n r H' n' → Run f (pre ++ .esl full :: post) H n r H' n' → Run f (pre ++ .ssl [] 0 full :: post) H n r H' n'
  | weak {f : FuncId} {args : List AV} {H H' H1 : Nat → Option Blk} {n n' n1 : Nat} {r r1 : AV} (ids : List Nat) : Run f args H n r H' n' → Weak T ⟨fun _ => .any, H', n'⟩ ⟨fun _ => .any, H1, n1⟩ ids → Vw T H' ids r r1 → Run f args H n r1 H1 n1
end

end

end Go.Proofs.YtcdafogfmijcpaaW.Ah
