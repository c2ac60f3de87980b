/-
  For AstSame: texts of the road to it, 6 of 16.
-/
import Derived.Test.YtappiofmkoelnaaGreatDoorKAstSame4
import Derived.Scope
import Derived.OrdersIn
import Derived.RangeFuncNested
section
namespace Go.Proofs.YtappiofmkoelnaaGreatDoorW.Ah
set_option linter.unusedVariables false
set_option linter.unusedSimpArgs false
inductive Ex where
 | normal | exit (id : Nat) | goto (l : Nat) | ret
 deriving DecidableEq
def Ex.to : Ex → Exit
 | .normal => .normal
 | .exit i => .exit i
 | .goto l => .goto l
 | .ret => .ret
def wantedA (G : Array Oper) (o : Oper) (t : Nat → AV) : Option Bool :=
 match o.guard with
 | none => some true
 | some (j, want) =>
  match (G[j]?).bind (·.dst) with
  | none => some false
  | some d =>
   match t d with
   | .sc (.bool b) => some (b == want)
   | .tup _ => some false
   | _ => none
def putA (t : Nat → AV) (d : Option Nat) (v : AV) : Nat → AV :=
 match d with
 | some d => upd t d v
 | none => t
def dstOk (k : Nat) (o : Oper) : Bool :=
 match o.dst with
 | some d => decide (d < k)
 | none => true
def initT (args : List AV) : Nat → AV := fun i => args.getD i (.tup [])
def resOne (T : Tab) (t : Nat → AV) (H : Nat → Option Blk) : ResultVar → Option AV
 | .tmp i => some (t i)
 | .cell x ty =>
  match t x with
  | .own .. | .sh _ => vop T t H (.load ty (.tmp x))
  | _ => none
def resOf (T : Tab) (rs : List ResultVar) (s : St) : Option AV :=
 match rs with
 | [r] => resOne T s.t s.H r
 | rs => (rs.mapM (resOne T s.t s.H)).map .tup
def waits (G : Array Oper) : Nat → Nat → Nat → Bool
 | 0, _, _ => false
 | f + 1, a, i =>
  match G[i]? with
  | some o => o.after.toList.any fun e => Region.binds .any e && (e.on == a || waits G f a e.on)
  | none => false
inductive Cls where
 | rd (R : List Nat)
 | mem (S : List Nat) (b : Nat)
def Cls.indep : Option Cls → Option Cls → Bool
 | some (.rd _), some (.rd _) => true
 | some (.rd R), some (.mem S b) => R.all fun j => decide (j < b) && !S.contains j
 | some (.mem S b), some (.rd R) => R.all fun j => decide (j < b) && !S.contains j
 | _, _ => false
def indep (G : Array Oper) (cl : List Cls) (i j : Nat) : Bool :=
 match G[i]?, G[j]? with
 | some x, some y => x.apart G y && Cls.indep cl[i]? cl[j]?
 | _, _ => false
def readsOf (t : Nat → AV) : Op → List Nat
 | .load _ a => (match ev t a with | .own i _ => [i] | _ => [])
 | .slice _ x _ _ _ => (match ev t x with | .osl i _ _ _ => [i] | _ => [])
 | .lookup _ x _ _ => (match ev t x with | .omap i => [i] | _ => [])
 | _ => []
def barrier (G : Array Oper) (cl : List Cls) (q i : Nat) : Bool := waits G G.size q i && (List.range q).all fun x => indep G cl x q || waits G G.size x i
def apartB (G : Array Oper) (i j : Nat) : Bool :=
 match G[i]?, G[j]? with
 | some x, some y => x.apart G y
 | _, _ => false
def pairOk (G : Array Oper) (cl : List Cls) (q : Option Nat) (a i : Nat) : Bool :=
 if q = some a then indep G cl a i || barrier G cl a i
 else if q = some i then waits G G.size a i || apartB G a i
 else indep G cl a i || waits G G.size a i
def lateOp : Op → Bool
 | .alloc _ => true
 | .buildSlice .. => true
 | .makeSlice .. => true
 | _ => false
def lateOk (T : Tab) (G : Array Oper) : Option Nat → Bool
 | none => true
 | some q =>
  match G[q]? with
  | some o =>
   match o.dst, o.guard with
   | some _, none => lateOp o.op
   | _, _ => false
  | none => false
def drawOk (G : Array Oper) (cl : List Cls) (q : Option Nat) : Bool :=
 (List.range G.size).all fun i =>
  (match G[i]? with | some o => o.after.toList.all fun e => !Region.binds .any e || decide (e.on < i) | none => false) &&
  (List.range i).all fun a => pairOk G cl q a i
def fillT (t : Nat → AV) : List (Nat × AV) → Nat → AV
 | [] => t
 | (p, v) :: l => fillT (upd t p v) l
def Ex.stt : Ex → LSt
 | .normal => .ready
 | .exit i => .done (.exit i)
 | .goto l => .done (.goto l)
 | .ret => .done .ret
section
variable (P : Program) (T : Tab)
mutual
inductive Does : Oper → (Nat → AV) → (Nat → Option Blk) → Nat → AV → (Nat → Option Blk) → Nat → Prop
 | vop {o : Oper} {t : Nat → AV} {H : Nat → Option Blk} {n : Nat} {v : AV} : vop T t H o.op = some v → Does o t H n v H n
 | mop {o : Oper} {t : Nat → AV} {H H' : Nat → Option Blk} {n n' : Nat} {v : AV} : mop T t H n o.op = some (v, H', n') → Does o t H n v H' n'
 | callS {o : Oper} {t : Nat → AV} {H H' : Nat → Option Blk} {n n' : Nat} {v : AV} {c : Call} {f : Operand} {g : FuncId} {first caps : List AV} :
   o.op = .call c → c.callee = .value f → ev t f = .fn (.func g) first caps → Run g (first ++ c.args.toList.map (ev t) ++ caps) H n v H' n' → Does o t H n v H' n'
 | callF {o : Oper} {t : Nat → AV} {H H' : Nat → Option Blk} {n n' : Nat} {v : AV} {c : Call} {f : Operand} {g : FuncId} {first caps : List AV} :
   o.op = .call c → c.callee = .value f → ev t f = .fn (.func g) first caps → freeL (first ++ c.args.toList.map (ev t) ++ caps) = true →
   Run g (first ++ c.args.toList.map (ev t) ++ caps) (fun _ => none) 0 v H' n' → free v = true → Does o t H n v H n
 | callB {o : Oper} {t : Nat → AV} {H H' : Nat → Option Blk} {n n' : Nat} {v : AV} {c : Call} {f : Operand} {g : FuncId} {first caps args' : List AV} (ids : List Nat) :
   o.op = .call c → c.callee = .value f → ev t f = .fn (.func g) first caps → ViewL T H ids (first ++ c.args.toList.map (ev t) ++ caps) args' →
   Run g args' (fun _ => none) 0 v H' n' → ((ids = [] ∧ free v = true) ∨ flat v = true) → Does o t H n v H n
 | round {o : Oper} {t : Nat → AV} {H : Nat → Option Blk} {n i k k1 k2 : Nat} {c : Call} {f : Operand} {t0 t1 t2 : Nat → AV} {ps ps1 ps2 : Array Nat} {asg asg1 asg2 bod bod1 bod2 : Code} {s1 s2 : St} {e : Ex} :
   o.op = .call c → c.callee = .value f → ev t f = .yld i → H i = some (.loop t0 k ps asg bod .ready) → ps.size = c.args.size → ps.toList.all (fun p => decide (p < k)) = true →
   Ev k asg ⟨fillT t0 (ps.toList.zip (c.args.toList.map (ev t))), H, n⟩ .normal s1 → s1.H i = some (.loop t1 k1 ps1 asg1 bod1 .ready) →
   Ev k bod ⟨s1.t, upd s1.H i (some (.loop t1 k1 ps1 asg1 bod1 .busy)), s1.n⟩ e s2 → s2.H i = some (.loop t2 k2 ps2 asg2 bod2 .busy) →
   Does o t H n (B (e == .normal)) (upd s2.H i (some (.loop t2 k2 ps2 asg2 bod2 e.stt))) s2.n
inductive EvL : Nat → Array Oper → List Oper → St → St → Prop
 | nil {k : Nat} {G : Array Oper} {s : St} : EvL k G [] s s
 | skip {k : Nat} {G : Array Oper} {o : Oper} {l : List Oper} {s s' : St} : wantedA G o s.t = some false → dstOk k o = true → EvL k G l ⟨putA s.t o.dst (.tup []), s.H, s.n⟩ s' → EvL k G (o :: l) s s'
 | op {k : Nat} {G : Array Oper} {o : Oper} {l : List Oper} {s s' : St} {v : AV} {H' : Nat → Option Blk} {n' : Nat} : wantedA G o s.t = some true → dstOk k o = true → Does o s.t s.H s.n v H' n' →
   EvL k G l ⟨putA s.t o.dst v, H', n'⟩ s' → EvL k G (o :: l) s s'
 | weak {k : Nat} {G : Array Oper} {l : List Oper} {s s1 s' : St} (ids : List Nat) : Weak T s s1 ids → EvL k G l s1 s' → EvL k G l s s'
inductive DoesR : Oper → (Nat → AV) → (Nat → Option Blk) → AV → List Nat → Prop
 | vop {o : Oper} {t : Nat → AV} {H : Nat → Option Blk} {v : AV} : vop T t H o.op = some v → DoesR o t H v (readsOf t o.op)
 | callF {o : Oper} {t : Nat → AV} {H H' : Nat → Option Blk} {n' : Nat} {v : AV} {c : Call} {f : Operand} {g : FuncId} {first caps : List AV} :
   o.op = .call c → c.callee = .value f → ev t f = .fn (.func g) first caps → freeL (first ++ c.args.toList.map (ev t) ++ caps) = true →
   Run g (first ++ c.args.toList.map (ev t) ++ caps) (fun _ => none) 0 v H' n' → free v = true → DoesR o t H v []
 | callB {o : Oper} {t : Nat → AV} {H H' : Nat → Option Blk} {n' : Nat} {v : AV} {c : Call} {f : Operand} {g : FuncId} {first caps args' : List AV} (ids : List Nat) :
   o.op = .call c → c.callee = .value f → ev t f = .fn (.func g) first caps → ViewL T H ids (first ++ c.args.toList.map (ev t) ++ caps) args' →
   Run g args' (fun _ => none) 0 v H' n' → ((ids = [] ∧ free v = true) ∨ flat v = true) → DoesR o t H v ids
inductive EvD : Nat → Array Oper → List Cls → List Nat → St → St → Prop
 | nil {k : Nat} {G : Array Oper} {cl : List Cls} {s : St} : EvD k G cl [] s s
 | skip {k : Nat} {G : Array Oper} {cl : List Cls} {i : Nat} {o : Oper} {l : List Nat} {s s' : St} : G[i]? = some o → wantedA G o s.t = some false → dstOk k o = true → EvD k G cl l ⟨putA s.t o.dst (.tup []), s.H, s.n⟩ s' → EvD k G cl (i :: l) s s'
 | rd {k : Nat} {G : Array Oper} {cl : List Cls} {i : Nat} {o : Oper} {l : List Nat} {s s' : St} {v : AV} {R R' : List Nat} : G[i]? = some o → wantedA G o s.t = some true → dstOk k o = true → DoesR o s.t s.H v R → cl[i]? = some (.rd R') → (∀ j ∈ R, j ∈ R') →
   EvD k G cl l ⟨putA s.t o.dst v, s.H, s.n⟩ s' → EvD k G cl (i :: l) s s'
 | mem {k : Nat} {G : Array Oper} {cl : List Cls} {i : Nat} {o : Oper} {l : List Nat} {s s' : St} {v : AV} {H' : Nat → Option Blk} {n' b : Nat} {S : List Nat} : G[i]? = some o → wantedA G o s.t = some true → dstOk k o = true → Does o s.t s.H s.n v H' n' →
   cl[i]? = some (.mem S b) → (∀ j, j < b → j ∉ S → H' j = s.H j) → EvD k G cl l ⟨putA s.t o.dst v, H', n'⟩ s' → EvD k G cl (i :: l) s s'
inductive Ev : Nat → Code → St → Ex → St → Prop
 | skip {k : Nat} {s : St} : Ev k .skip s .normal s
 | label {k l : Nat} {s : St} : Ev k (.label l) s .normal s
 | exit {k id : Nat} {s : St} : Ev k (.exit id) s (.exit id) s
 | goto {k l : Nat} {s : St} : Ev k (.goto l) s (.goto l) s
 | ret {k : Nat} {s : St} : Ev k .ret s .ret s
 | region {k id : Nat} {ops : Array Oper} {s s' : St} : EvL k ops ops.toList s s' → Ev k (.region id ops false) s .normal s'
 | regionD {k id : Nat} {ops : Array Oper} {s s' : St} (cl : List Cls) (q : Option Nat) : P.follows .mixedOrders = true → drawOk ops cl q = true → lateOk T ops q = true → EvD k ops cl (List.range ops.size) s s' → Ev k (.region id ops true) s .normal s'
 | seqN {k : Nat} {x y : Code} {s s1 s2 : St} {e : Ex} : Ev k x s .normal s1 → Ev k y s1 e s2 → Ev k (.seq x y) s e s2
 | seqX {k : Nat} {x y : Code} {s s1 : St} {e : Ex} : Ev k x s e s1 → e ≠ .normal → Ev k (.seq x y) s e s1
 | condT {k : Nat} {c : Operand} {x y : Code} {s s1 : St} {e : Ex} : ev s.t c = .sc (.bool true) → Ev k x s e s1 → Ev k (.cond c x y) s e s1
 | condF {k : Nat} {c : Operand} {x y : Code} {s s1 : St} {e : Ex} : ev s.t c = .sc (.bool false) → Ev k y s e s1 → Ev k (.cond c x y) s e s1
 | blockN {k id : Nat} {c : Code} {s s1 : St} {e : Ex} : Ev k c s e s1 → e ≠ .exit id → Ev k (.block id c) s e s1
 | blockX {k id : Nat} {c : Code} {s s1 : St} : Ev k c s (.exit id) s1 → Ev k (.block id c) s .normal s1
 | loop {k : Nat} {c : Code} {s s1 : St} {e : Ex} : EvLoop k c s e s1 → Ev k (.loop c) s e s1
 | scope {k : Nat} {c : Code} {s s1 : St} {e : Ex} : EvScope k c c s e s1 → Ev k (.scope c) s e s1
 | weak {k : Nat} {c : Code} {s s1 s2 : St} {e : Ex} (ids : List Nat) : Weak T s s1 ids → Ev k c s1 e s2 → Ev k c s e s2
 | rangeN {k : Nat} {f : Operand} {ps : Array Nat} {asg bod : Code} {s : St} {g : FuncId} {first caps : List AV} {r : AV} {H' : Nat → Option Blk} {n' : Nat} {t0 : Nat → AV} {k0 : Nat} {ps0 : Array Nat} {asg0 bod0 : Code} :
   ev s.t f = .fn (.func g) first caps → Run g (first ++ [.yld s.n] ++ caps) (upd s.H s.n (some (.loop s.t k ps asg bod .ready))) (s.n + 1) r H' n' →
   H' s.n = some (.loop t0 k0 ps0 asg0 bod0 .ready) → Ev k (.rangeFunc f ps asg bod) s .normal ⟨s.t, upd H' s.n none, n'⟩
 | rangeJ {k : Nat} {f : Operand} {ps : Array Nat} {asg bod c : Code} {s s' : St} {g : FuncId} {first caps : List AV} {r : AV} {H' : Nat → Option Blk} {n' : Nat} {t0 : Nat → AV} {k0 : Nat} {ps0 : Array Nat} {asg0 bod0 : Code} {e : Ex} :
   ev s.t f = .fn (.func g) first caps → Run g (first ++ [.yld s.n] ++ caps) (upd s.H s.n (some (.loop s.t k ps asg bod .ready))) (s.n + 1) r H' n' →
   H' s.n = some (.loop t0 k0 ps0 asg0 bod0 (.done c)) → Ev k c ⟨s.t, upd H' s.n none, n'⟩ e s' → Ev k (.rangeFunc f ps asg bod) s e s'
inductive EvLoop : Nat → Code → St → Ex → St → Prop
 | more {k : Nat} {c : Code} {s s1 s2 : St} {e : Ex} : Ev k c s .normal s1 → EvLoop k c s1 e s2 → EvLoop k c s e s2
 | done {k : Nat} {c : Code} {s s1 : St} {e : Ex} : Ev k c s e s1 → e ≠ .normal → EvLoop k c s e s1
 | weak {k : Nat} {c : Code} {s s1 s2 : St} {e : Ex} (ids : List Nat) : Weak T s s1 ids → EvLoop k c s1 e s2 → EvLoop k c s e s2
inductive EvScope : Nat → Code → Code → St → Ex → St → Prop
 | straight {k : Nat} {b c : Code} {s s1 : St} {e : Ex} : Ev k c s e s1 → (∀ l, e ≠ .goto l) → EvScope k b c s e s1
 | jump {k l : Nat} {b c rest : Code} {s s1 s2 : St} {e : Ex} : Ev k c s (.goto l) s1 → findLabel b l = some rest → EvScope k b rest s1 e s2 → EvScope k b c s e s2
inductive Run : FuncId → List AV → (Nat → Option Blk) → Nat → AV → (Nat → Option Blk) → Nat → Prop
 | mk {f : FuncId} {fn : Func} {c : Code} {args : List AV} {H : Nat → Option Blk} {n : Nat} {e : Ex} {s' : St} {r : AV} : P.funcs[f]? = some fn → fn.body = some c → (fn.name == "runtime.NumGoroutine") = false → args.length ≤ fn.ntmps →
   Ev fn.ntmps c ⟨initT args, H, n⟩ e s' → (e = .ret ∨ e = .normal) → resOf T fn.results.toList s' = some r → Run f args H n r s'.H s'.n
 | nilArg {f : FuncId} (pre post : List AV) {full : Bool} {H H' : Nat → Option Blk} {n n' : Nat} {r : AV} : Run f (pre ++ .sc (.slice none 0 0) :: post) H n r H' n' → Run f (pre ++ .esl full :: post) H n r H' n' → Run f (pre ++ .ssl [] 0 full :: post) H n r H' n'
 | sem {f : FuncId} {fn : Func} {c : Code} {args : List AV} {H H' : Nat → Option Blk} {n n' : Nat} {r : AV} : P.funcs[f]? = some fn → fn.body = some c → (fn.name == "runtime.NumGoroutine") = false → RunOk P f args H n r H' n' → Run f args H n r H' n'
 | weak {f : FuncId} {args : List AV} {H H' H1 : Nat → Option Blk} {n n' n1 : Nat} {r r1 : AV} (ids : List Nat) : Run f args H n r H' n' → Weak T ⟨fun _ => .any, H', n'⟩ ⟨fun _ => .any, H1, n1⟩ ids → Vw T H' ids r r1 → Run f args H n r1 H1 n1
end
end
abbrev FR (ro : Option Nat) : Fence := { Fence.wide with round := ro }
structure Ctx where
 B : Nat
 ro : Option Nat
def LoopAt (ro : Option Nat) (E : Env) : Prop := ∀ l, ro = some l → ∃ r : Loop, E.w.heap[l]? = some (Obj.loop r)
theorem LoopAt.ext {ro : Option Nat} {E F : Env} (h : Ext E F) (hl : LoopAt ro E) : LoopAt ro F := fun l e => let ⟨r, hr⟩ := hl l e; h.lp l r hr
structure Mk (C : Ctx) (E : Env) (ds : List Deferred) : Prop where
 loop : LoopAt C.ro E
 B : C.B ≤ E.w.heap.size
 nd : ds.Nodup
 marks : ∀ d ∈ ds, ∃ b, d = ({ target := .collected b, args := #[] } : Deferred) ∧ C.B ≤ b ∧ (∀ i l, E.m i = some l → l.b ≠ b) ∧ E.w.heap[b]? = some (.deferred (some []))
theorem Mk.ext {C : Ctx} {E F : Env} {ds : List Deferred} (h : Ext E F) (hm : Mk C E ds) : Mk C F ds := by
 refine ⟨hm.loop.ext h, Nat.le_trans hm.B h.size, hm.nd, fun d hd => ?_⟩
 obtain ⟨b, e, h1, h2, h3⟩ := hm.marks d hd
 refine ⟨b, e, h1, fun i l hl e' => ?_, (h.keep b (lt_of_block h3) h2).trans h3⟩
 have := lt_of_block h3
 rcases h.new i l hl with h' | ⟨j, l', hj, e''⟩
 ·omega
 ·exact h2 j l' hj (e''.trans e')
@[simp] theorem put_defers (a : Act) (d : Option Nat) (v : Value) : (a.put d v).defers = a.defers := by cases d <;> rfl
structure Good (P : Program) (C : Ctx) (E : Env) (k : Nat) (s : St) (a : Act) : Prop where
 H : RepH P E s.H
 X : Xb E
 N : E.N = s.n
 t : RepT E k s.t a
 m : Mk C E a.defers
def Fin (P : Program) (C : Ctx) (E : Env) (k : Nat) (e : Ex) (s' : St) (x : Exit) (a' : Act) (w' : World) : Prop := x = e.to ∧ ∃ E', E'.w = w' ∧ Ext E E' ∧ Good P C E' k s' a'
theorem Fin.of {P : Program} {C : Ctx} {E F : Env} {k : Nat} {e : Ex} {s' : St} {x : Exit} {a' : Act} {w' : World} (h : Ext E F) (hf : Fin P C F k e s' x a' w') : Fin P C E k e s' x a' w' :=
 let ⟨h1, E', h2, h3, h4⟩ := hf
 ⟨h1, E', h2, h.trans h3, h4⟩
def resVal (tmps : Array Value) : ResultVar → Sem Value
 | .tmp t => pure (tmps.getD t undef)
 | .cell x ty => do loadVar ty (← asAddr (tmps.getD x undef))
theorem results_eq (fn : Func) (tmps : Array Value) : results fn tmps = (do
  let vs ← fn.results.mapM (resVal tmps)
  pure (if h : vs.size = 1 then vs[0] else .tuple vs)) := rfl
section
variable {P : Program} {T : Tab}
theorem Good.weak {C : Ctx} {E : Env} {k : Nat} {s s1 : St} {a : Act} {ids : List Nat} (hw : Weak T s s1 ids) (h : Good P C E k s a) : ∃ F, Ext E F ∧ F.w = E.w ∧ Good P C F k s1 a := by
 obtain ⟨F, h1, h2, h3, h4, h5, h6, _⟩ := weak_rep hw h.H h.X h.N
 exact ⟨F, h1, h2, ⟨h4, by intro b hb; rw [h3] at hb; rw [h2]; exact h.X b hb, h5, h6 k a h.t, h.m.ext h1⟩⟩
theorem wanted_sound {E : Env} {k : Nat} {t : Nat → AV} {a : Act} (hr : RepT E k t a) {G : Array Oper} {o : Oper} {b : Bool} (h : wantedA G o t = some b) : Region.wanted o (yielded G a.tmps) = b := by
 unfold wantedA at h
 unfold Region.wanted
 split at h
 ·rename_i hg; cases h; rw [hg]
 ·rename_i j want hg
  rw [hg]
  simp only [yielded]
  split at h
  ·rename_i hd; cases h; rw [hd]; rfl
  ·rename_i d hd
   rw [hd]
   have hd' := hr.at_ d
   simp only [Option.bind_some]
   split at h
   ·rename_i b' ht
    cases h
    rw [ht] at hd'
    have e := RepV.sc_inv hd'
    cases hg' : a.tmps[d]? with
    | none => simp [hg', undef] at e
    | some u => simp [hg'] at e; subst e; simp
   ·rename_i vs ht
    cases h
    rw [ht] at hd'
    simp only [RepV] at hd'
    obtain ⟨x, e, _⟩ := hd'
    cases hg' : a.tmps[d]? with
    | none => rfl
    | some u => simp [hg'] at e; subst e; rfl
   ·cases h
theorem putA_rep {E : Env} {k : Nat} {t : Nat → AV} {a : Act} (hr : RepT E k t a) {o : Oper} (hd : dstOk k o = true) {v : AV} {z : Value} (hz : RepV E v z) : RepT E k (putA t o.dst v) (a.put o.dst z) := by
 unfold dstOk at hd
 cases ho : o.dst with
 | none => simp only [putA, Act.put]; exact hr
 | some d => rw [ho] at hd; simp only [putA]; exact hr.put (by simpa using hd) hz
theorem rep_undef {E : Env} : RepV E (.tup []) undef := by simp [RepV, RepL, undef]
theorem args_rep {E : Env} {k : Nat} {t : Nat → AV} {a : Act} (hr : RepT E k t a) (l : List Operand) : RepL E (l.map (ev t)) (l.map a.eval) := by
 induction l with
 | nil => simp [RepL]
 | cons x l ih => simp only [List.map_cons, RepL]; exact ⟨hr.ev x, ih⟩
theorem call_enters {E : Env} {k : Nat} {t : Nat → AV} {a : Act} (hr : RepT E k t a) {o : Oper} {c : Call} {f : Operand} {g : FuncId} {first caps : List AV} {fn : Func} {body : Code}
  (ho : o.op = .call c) (hc : c.callee = .value f) (hf : ev t f = .fn (.func g) first caps) (h1 : P.funcs[g]? = some fn) (h2 : fn.body = some body) (h3 : (fn.name == "runtime.NumGoroutine") = false) :
  ∃ vs : Array Value, (execOp a.eval o).run P E.w = .ok (.enter g vs) E.w ∧ RepL E (first ++ c.args.toList.map (ev t) ++ caps) vs.toList ∧ (first ++ c.args.toList.map (ev t) ++ caps).length = vs.size := by
 have hx := hr.ev f
 rw [hf] at hx
 simp only [RepV] at hx
 obtain ⟨x, y, ex, l1, r1, l2, r2⟩ := hx
 refine ⟨(x ++ c.args.map a.eval) ++ y, ?_, ?_, ?_⟩
 ·unfold execOp; rw [ho]
  simp only [resolve, hc, ex, Deferred.ofValue, Sem.run_bind, Sem.run_pure, Result.andThen_ok, invoke, callFunc, run_program, h1, h3, h2]
  simp
 ·simp only [Array.toList_append, Array.toList_map]
  exact RepL.append (RepL.append r1 l1 (args_rep hr _)) (by simp at l1 ⊢; omega) r2
 ·simp at l1 l2 ⊢; omega
theorem Run.fn {f : FuncId} {args : List AV} {H H' : Nat → Option Blk} {n n' : Nat} {r : AV} : Run P T f args H n r H' n' → ∃ fn c, P.funcs[f]? = some fn ∧ fn.body = some c ∧ (fn.name == "runtime.NumGoroutine") = false
 | .mk h1 h2 h3 _ _ _ _ => ⟨_, _, h1, h2, h3⟩
 | .sem h1 h2 h3 _ => ⟨_, _, h1, h2, h3⟩
 | .weak _ h _ _ => Run.fn h
 | .nilArg _ _ h _ => Run.fn h
theorem run_resOne (hT : TOk P T) {E : Env} {k : Nat} {s : St} {a : Act} {C : Ctx} (hg : Good P C E k s a) {rv : ResultVar} {r : AV} (h : resOne T s.t s.H rv = some r) :
  ∃ v, (resVal a.tmps rv).run P E.w = .ok v E.w ∧ RepV E r v := by
 cases rv with
 | tmp t => simp only [resOne] at h; cases h; exact ⟨_, rfl, hg.t.at_ t⟩
 | cell x ty =>
  simp only [resOne] at h
  have hx := hg.t.at_ x
  have key : vop T s.t s.H (.load ty (.tmp x)) = some r → (∃ p, a.tmps.getD x undef = .pointer (some p)) → ∃ v, (resVal a.tmps (.cell x ty)).run P E.w = .ok v E.w ∧ RepV E r v := by
   intro h ⟨p, hp⟩
   obtain ⟨z, h1, h2⟩ := yv_load (o := { (default : Oper) with op := .load ty (.tmp x) }) hT hg.H hg.t rfl h
   refine ⟨z, ?_, h2⟩
   unfold execOp at h1
   simp only [Act.eval, hp, Instr.loadAt, Instr.sureAddr, Sem.run_bind, Sem.run_pure, Result.andThen_ok] at h1
   simp only [resVal, hp, asAddr, Sem.run_bind, Sem.run_pure, Result.andThen_ok]
   cases hq : (loadVar ty p).run P E.w with
   | ok v w => rw [hq] at h1; simp at h1; rw [h1.1, h1.2]
   | halt x w => rw [hq] at h1; simp at h1
  split at h
  ·rename_i i o e
   rw [e] at hx; simp only [RepV] at hx
   obtain ⟨_, b, hb, _⟩ := hx
   exact key h ⟨_, hb⟩
  ·rename_i cs e
   rw [e] at hx; simp only [RepV] at hx
   obtain ⟨b, o, c, ty', fz, hb, _⟩ := hx
   exact key h ⟨_, hb⟩
  ·cases h
theorem run_resOf (hT : TOk P T) {E : Env} {k : Nat} {s : St} {a : Act} {C : Ctx} (hg : Good P C E k s a) {fn : Func} {r : AV} (h : resOf T fn.results.toList s = some r) : ∃ v, (results fn a.tmps).run P E.w = .ok v E.w ∧ RepV E r v := by
 have key : ∀ (l : List ResultVar) (rs : List AV), l.mapM (resOne T s.t s.H) = some rs → ∃ vs : List Value, (l.mapM (resVal a.tmps)).run P E.w = .ok vs E.w ∧ rs.length = vs.length ∧ RepL E rs vs := by
  intro l
  induction l with
  | nil => intro rs h; simp at h; subst h; exact ⟨[], rfl, rfl, by simp [RepL]⟩
  | cons rv l ih =>
   intro rs h
   simp only [List.mapM_cons, Option.bind_eq_bind, Option.pure_def] at h
   cases h1 : resOne T s.t s.H rv with
   | none => rw [h1] at h; cases h
   | some r1 =>
    rw [h1] at h
    simp only [Option.bind_some] at h
    cases h2 : l.mapM (resOne T s.t s.H) with
    | none => rw [h2] at h; cases h
    | some rs' =>
     rw [h2] at h
     simp only [Option.bind_some, Option.some.injEq] at h
     subst h
     obtain ⟨v, hv, hr⟩ := run_resOne hT hg h1
     obtain ⟨vs, hvs, hl, hrs⟩ := ih rs' h2
     refine ⟨v :: vs, ?_, by simp [hl], by simp only [RepL]; exact ⟨hr, hrs⟩⟩
     rw [List.mapM_cons]
     simp only [Sem.run_bind]
     rw [hv, Result.andThen_ok, hvs]
     rfl
 have hres : ∀ (rs : List AV), fn.results.toList.mapM (resOne T s.t s.H) = some rs → ∃ vs : Array Value, (fn.results.mapM (resVal a.tmps)).run P E.w = .ok vs E.w ∧ rs.length = vs.size ∧ RepL E rs vs.toList := by
  intro rs h
  obtain ⟨vs, h1, h2, h3⟩ := key _ rs h
  refine ⟨vs.toArray, ?_, by simpa using h2, by simpa using h3⟩
  rw [Array.mapM_eq_mapM_toList, Sem.run_map, h1]
  rfl
 unfold resOf at h
 split at h
 ·rename_i rv e
  obtain ⟨vs, h1, h2, h3⟩ := hres [r] (by rw [e]; simp [h])
  simp only [List.length_cons, List.length_nil] at h2
  refine ⟨vs[0]'(by omega), ?_, ?_⟩
  ·rw [results_eq]
   simp only [Sem.run_bind]
   rw [h1, Result.andThen_ok, dif_pos (by omega)]
   rfl
  ·obtain ⟨v, hv, hr⟩ := h3.get (i := 0) (a := r) rfl
   simp only [Array.getElem?_toList] at hv
   rw [Array.getElem?_eq_getElem (by omega)] at hv
   cases hv
   exact hr
 ·rename_i hne
  simp only [Option.map_eq_some_iff] at h
  obtain ⟨rs, h0, rfl⟩ := h
  obtain ⟨vs, h1, h2, h3⟩ := hres rs h0
  have hsz : vs.size ≠ 1 := by
   intro e
   have hl : fn.results.toList.length = rs.length := by
    have aux : ∀ (l : List ResultVar) (rs : List AV), l.mapM (resOne T s.t s.H) = some rs → l.length = rs.length := by
     intro l
     induction l with
     | nil => intro rs h; simp at h; subst h; rfl
     | cons rv l ih =>
      intro rs h
      simp only [List.mapM_cons, Option.bind_eq_bind, Option.pure_def] at h
      cases h1 : resOne T s.t s.H rv with
      | none => rw [h1] at h; cases h
      | some r1 =>
       rw [h1] at h
       simp only [Option.bind_some] at h
       cases h2 : l.mapM (resOne T s.t s.H) with
       | none => rw [h2] at h; cases h
       | some rs' => rw [h2] at h; simp at h; subst h; simp [ih rs' h2]
    exact aux _ _ h0
   have h1' : fn.results.toList.length = 1 := by omega
   obtain ⟨x, hx⟩ := List.length_eq_one_iff.1 h1'
   exact hne x hx
  refine ⟨.tuple vs, ?_, by simp only [RepV]; exact ⟨vs, rfl, by simpa using h2, h3⟩⟩
  rw [results_eq]
  simp only [Sem.run_bind]
  rw [h1, Result.andThen_ok, dif_neg hsz]
  rfl
theorem init_rep {E : Env} {args : List AV} {vs : Array Value} (h : RepL E args vs.toList) (hl : args.length = vs.size) {k : Nat} (hk : args.length ≤ k) : RepT E k (initT args) { tmps := vs ++ Array.replicate (k - vs.size) undef, defers := [] } := by
 refine ⟨by simp; omega, fun i => ?_⟩
 unfold initT
 simp only [List.getD_eq_getElem?_getD, Array.getD_eq_getD_getElem?]
 rcases Nat.lt_or_ge i args.length with hi | hi
 ·obtain ⟨v, hv, hr⟩ := h.get (List.getElem?_eq_getElem hi)
  simp only [Array.getElem?_toList] at hv
  rw [List.getElem?_eq_getElem hi, Array.getElem?_append_left (by omega), hv]
  exact hr
 ·rw [List.getElem?_eq_none hi, Array.getElem?_append_right (by omega)]
  rw [Array.getElem?_replicate]
  split <;> exact rep_undef
end
section
variable {P : Program} {T : Tab}
def DoesOk (P : Program) (o : Oper) (t : Nat → AV) (H : Nat → Option Blk) (n : Nat) (v : AV) (H' : Nat → Option Blk) (n' : Nat) : Prop :=
 ∀ (ro : Option Nat) (E : Env) (k : Nat) (a : Act) (K : Act → World → Prop) (Q : Exit → Act → World → Prop), LoopAt ro E → RepH P E H → Xb E → E.N = n → RepT E k t a →
  (∀ E' z, Ext E E' → RepH P E' H' → Xb E' → E'.N = n' → RepV E' v z → K (a.put o.dst z) E'.w) → o.wpIn (FR ro) 0 P a E.w K Q
def DoesL (P : Program) (o : Oper) (t : Nat → AV) (H : Nat → Option Blk) (n : Nat) (v : AV) (H' : Nat → Option Blk) (n' : Nat) : Cls → Prop
 | .rd R => H' = H ∧ n' = n ∧ ∀ t' H2 n2, (∀ x ∈ o.op.operands, ev t' x = ev t x) → (∀ j ∈ R, H2 j = H j) → DoesOk P o t' H2 n2 v H2 n2
 | .mem S b => (∀ t', (∀ x ∈ o.op.operands, ev t' x = ev t x) → DoesOk P o t' H n v H' n') ∧ ∀ j, j < b → j ∉ S → H' j = H j
theorem DoesL.ok {o : Oper} {t : Nat → AV} {H : Nat → Option Blk} {n : Nat} {v : AV} {H' : Nat → Option Blk} {n' : Nat} : ∀ {c : Cls}, DoesL P o t H n v H' n' c → DoesOk P o t H n v H' n'
 | .rd R, h => by obtain ⟨rfl, rfl, h⟩ := h; exact h t _ _ (fun _ _ => rfl) (fun _ _ => rfl)
 | .mem S b, h => h.1 t fun _ _ => rfl
theorem DoesL.move {o : Oper} {t t' : Nat → AV} {H : Nat → Option Blk} {n : Nat} {v : AV} {H' : Nat → Option Blk} {n' : Nat} (ht : ∀ x ∈ o.op.operands, ev t' x = ev t x) : ∀ {c : Cls}, DoesL P o t H n v H' n' c → DoesL P o t' H n v H' n' c
 | .rd R, h => ⟨h.1, h.2.1, fun t2 H2 n2 h2 hR => h.2.2 t2 H2 n2 (fun x hx => (h2 x hx).trans (ht x hx)) hR⟩
 | .mem S b, h => ⟨fun t2 h2 => h.1 t2 fun x hx => (h2 x hx).trans (ht x hx), h.2⟩
def newOf (T : Tab) (t : Nat → AV) : Op → Option ((Nat → AV) × List AV × Nat)
 | .alloc ty =>
  match T ty with
  | some i => some (fun n => .own n 0, i.zero.map .sc, ty)
  | none => none
 | .buildSlice ty len parts =>
  match T ty with
  | some i =>
   match i.k with
   | .slice e =>
    match T e with
    | some ie =>
     if len * ie.size ≤ 2 ^ 24 ∧ 0 < ie.size ∧ ie.zero.length = ie.size then
      match fillAV (fun j => some (j * ie.size, ie.size)) ((List.replicate len ie.zero).flatten.map .sc) (parts.toList.map fun p => (p.1, ev t p.2)) with
      | some cs => some (fun n => .osl n 0 len (some len), cs, e)
      | none => none
     else none
    | none => none
   | _ => none
  | none => none
 | .makeSlice ty l c =>
  match T ty with
  | some i =>
   match i.k, ev t l, ev t c with
   | .slice e, .sc (.int .i64 l), .sc (.int .i64 c) =>
    match T e with
    | some ie =>
     if 0 ≤ l ∧ l ≤ c ∧ c * ie.bytes ≤ roomMax ∧ c ≤ roomMax ∧ 0 < ie.size ∧ ie.zero.length = ie.size then
      some (fun n => .osl n 0 l.toNat (some c.toNat), (List.replicate c.toNat ie.zero).flatten.map .sc, e)
     else none
    | none => none
   | _, _, _ => none
  | none => none
 | _ => none
theorem newOf_mop {t : Nat → AV} {H H' : Nat → Option Blk} {n n' : Nat} {v : AV} : ∀ {op : Op}, lateOp op = true → mop T t H n op = some (v, H', n') → ∃ f cs ty, newOf T t op = some (f, cs, ty) ∧ v = f n ∧ H' = upd H n (some (.cells cs ty)) ∧ n' = n + 1
 | .alloc ty, _, h => by
  simp only [mop] at h
  split at h
  ·rename_i i hi; cases h; exact ⟨fun n => .own n 0, _, _, by simp only [newOf, hi], rfl, rfl, rfl⟩
  ·cases h
 | .buildSlice ty len parts, _, h => by
  simp only [mop] at h
  split at h
  case h_2 => cases h
  case h_1 i hi =>
   split at h
   case h_2 => cases h
   case h_1 e hk =>
    split at h
    case h_2 => cases h
    case h_1 ie he =>
     split at h
     case isFalse => cases h
     case isTrue hc =>
      split at h
      case h_2 => cases h
      case h_1 cs hf =>
       cases h
       refine ⟨fun n => .osl n 0 len (some len), cs, e, ?_, rfl, rfl, rfl⟩
       simp only [newOf, hi, hk, he, hf]
       rw [if_pos hc]
 | .makeSlice ty l c, _, h => by
  simp only [mop] at h
  split at h
  case h_2 => cases h
  case h_1 i hi =>
   split at h
   case h_2 => cases h
   case h_1 e l' c' hk e1 e2 =>
    split at h
    case h_2 => cases h
    case h_1 ie he =>
     split at h
     case isFalse => cases h
     case isTrue hc =>
      cases h
      refine ⟨fun n => .osl n 0 l'.toNat (some c'.toNat), _, e, ?_, rfl, rfl, rfl⟩
      simp only [newOf, hi, hk, e1, e2, he]
      rw [if_pos hc]
theorem newOf_congr {t t' : Nat → AV} : ∀ {op : Op}, (∀ x ∈ op.operands, ev t' x = ev t x) → newOf T t' op = newOf T t op := by
 intro op h
 cases op with
 | buildSlice ty len ps =>
  simp only [newOf]
  have : (ps.toList.map fun p => (p.1, ev t' p.2)) = (ps.toList.map fun p => (p.1, ev t p.2)) := List.map_congr_left fun p hp => by
   rw [h p.2 (by simp only [Op.operands, List.mem_toArray, List.mem_map]; exact ⟨p, hp, rfl⟩)]
  rw [this]
 | makeSlice ty l c =>
  have h1 := h l (by simp [Op.operands])
  have h2 := h c (by simp [Op.operands])
  simp only [newOf, h1, h2]
 | _ => rfl
theorem new_run (hT : TOk P T) {E : Env} {k : Nat} {t : Nat → AV} {a : Act} (hr : RepT E k t a) {o : Oper} {f : Nat → AV} {cs : List AV} {ty : Nat} (h : newOf T t o.op = some (f, cs, ty)) :
  ∃ cells info z, (execOp a.eval o).run P E.w = .ok (.value z) (pushW E.w (.cells cells ty)) ∧ RepL E cs cells.toList ∧ P.info? ty = some info ∧
   ∀ (F : Env) (N : Nat), N < F.N → F.m N = some ⟨E.w.heap.size, cells.size, info.size⟩ → RepV F (f N) z := by
 cases ho : o.op with
 | alloc ty' =>
  rw [ho] at h
  simp only [newOf] at h
  split at h
  case h_2 => cases h
  case h_1 i hi =>
   cases h
   obtain ⟨info, z, h1, h2, h3, h4, h5⟩ := (hT.row hi).info
   refine ⟨z.cells, info, .pointer (some ⟨E.w.heap.size, 0, none⟩), ?_, by rw [h5]; exact rep_scs _, h1, fun F N hN hF => ?_⟩
   ·unfold execOp; rw [ho]
    simp [Instr.alloc, run_zero h1 h4, newVar, newRow, pushW]
   ·simp only [RepV]
    exact ⟨hN, _, rfl, fun l hl => by rw [hF] at hl; cases hl; rfl⟩
 | buildSlice ty' len parts =>
  rw [ho] at h
  simp only [newOf] at h
  obtain ⟨hpl, hpr⟩ := parts_rep hr parts
  split at h
  case h_2 => cases h
  case h_1 i hi =>
   split at h
   case h_2 => cases h
   case h_1 e hk =>
    split at h
    case h_2 => cases h
    case h_1 ie he =>
     split at h
     case isFalse => cases h
     case isTrue hc =>
      obtain ⟨hsz, hz0, hzl⟩ := hc
      obtain ⟨info, z, g1, g2, g3, g4, g5⟩ := (hT.row he).info
      have hzs : z.cells.size = ie.size := by rw [← hzl, ← g5]; simp
      have hz0' : 0 < z.cells.size := by omega
      split at h
      case h_2 => cases h
      case h_1 cs' hf =>
       cases h
       have hze := zeros_eq z.cells len hz0'
       obtain ⟨out, ho1, ho2, ho3⟩ := run_fill (cells := (Array.range (len * z.cells.size)).map (fun i => z.cells[i % z.cells.size]!)) (vs := (parts.map fun (i, x) => (i, a.eval x)).toList) hpl hpr
        (by rw [hze, g5]; exact rep_scs _) (by rw [← Array.length_toList, hze, g5]; simp) hf
       refine ⟨out, info, .slice (some ⟨E.w.heap.size, 0, none⟩) len len, ?_, ho2, g1, fun F N hN hF => ?_⟩
       ·unfold execOp; rw [ho]
        simp only [Instr.buildSlice, Sem.run_bind, run_under ((hT.row hi).slice hk), Result.andThen_ok, run_size g1, g2]
        rw [if_neg (by omega)]
        by_cases hn : len * ie.size = 0
        ·rw [if_pos hn]
         simp only [Sem.run_bind, Sem.run_pure, Result.andThen_ok]
         rw [hzs, hn] at ho1
         rw [hn]
         simp [show Array.range 0 = #[] from rfl] at ho1 ⊢
         rw [ho1]
         simp [newRow, pushW]
        ·rw [if_neg hn]
         simp only [Sem.run_bind, Sem.run_pure, Result.andThen_ok, run_zero g1 g4]
         rw [hzs] at ho1
         simp at ho1 ⊢
         rw [hzs, ho1]
         simp [newRow, pushW]
       ·simp only [RepV]
        exact ⟨hN, _, len, rfl, Nat.le_refl _, fun q hq => by simpa using hq, fun l' hl' => by
         rw [hF] at hl'; cases hl'; exact ⟨rfl, fun hn => by cases hn⟩⟩
 | makeSlice ty' x y =>
  rw [ho] at h
  simp only [newOf] at h
  have h1 := hr.ev x
  have h2 := hr.ev y
  split at h
  case h_2 => cases h
  case h_1 i hi =>
   split at h
   case h_2 => cases h
   case h_1 e l c hk e1 e2 =>
    rw [e1] at h1; rw [e2] at h2
    have e1' := RepV.sc_inv h1
    have e2' := RepV.sc_inv h2
    split at h
    case h_2 => cases h
    case h_1 ie he =>
     split at h
     case isFalse => cases h
     case isTrue hc =>
      cases h
      obtain ⟨hl0, hlc, hcb, hcm, hz0, hzl⟩ := hc
      obtain ⟨info, z, g1, g2, g3, g4, g5⟩ := (hT.row he).info
      have hzs : z.cells.size = ie.size := by rw [← hzl, ← g5]; simp
      have hz0' : 0 < z.cells.size := by omega
      refine ⟨(Array.range (c.toNat * z.cells.size)).map (fun i => z.cells[i % z.cells.size]!), info, .slice (some ⟨E.w.heap.size, 0, none⟩) l.toNat c.toNat, ?_, by rw [zeros_eq _ _ hz0', g5]; exact rep_scs _, g1, fun F N hN hF => ?_⟩
      ·unfold execOp; rw [ho]
       have hb : roomMax = 2 ^ 46 := rfl
       have w1 : IntKind.i64.wrap l = l := by simp [IntKind.wrap, IntKind.bits, IntKind.signed]; omega
       have w2 : IntKind.i64.wrap c = c := by simp [IntKind.wrap, IntKind.bits, IntKind.signed]; omega
       have hbb : ¬ ((info.bytes : Int) * c > 2 ^ 48) := by
        rw [g3, Int.mul_comm]
        omega
       have hneg : (decide (c < 0) || decide ((info.bytes : Int) * c > 2 ^ 48) || decide (l < 0) || decide (l > c)) = false := by
        simp only [Bool.or_eq_false_iff, decide_eq_false_iff_not]
        exact ⟨⟨⟨by omega, hbb⟩, by omega⟩, by omega⟩
       simp only [e1', e2', Instr.makeSlice, Sem.run_bind, run_under ((hT.row hi).slice hk), Result.andThen_ok, asInt, asIntOf, Sem.run_pure, run_info g1, w1, w2]
       rw [hneg]
       simp only [Bool.false_eq_true, if_false, Sem.run_bind, run_askRoom, Result.andThen_ok, run_size g1, g2]
       by_cases hn : c.toNat * ie.size = 0
       ·rw [if_pos hn]
        simp only [Sem.run_bind, Sem.run_pure, Result.andThen_ok, newRow, run_newObj, hzs, hn]
        simp [pushW, show Array.range 0 = #[] from rfl]
       ·rw [if_neg hn]
        simp only [Sem.run_bind, Sem.run_pure, Result.andThen_ok, run_zero g1 g4, newRow, run_newObj, hzs]
        simp [pushW]
      ·simp only [RepV]
       exact ⟨hN, _, c.toNat, rfl, by omega, fun q hq => by simpa using hq, fun l' hl' => by
        rw [hF] at hl'; cases hl'; exact ⟨rfl, fun hn => by cases hn⟩⟩
 | _ => rw [ho] at h; cases h
def AllocEq (T : Tab) (op : Op) (t : Nat → AV) (H : Nat → Option Blk) (n : Nat) (v : AV) (H' : Nat → Option Blk) (n' : Nat) : Prop :=
 lateOp op = true → ∃ f cs ty, newOf T t op = some (f, cs, ty) ∧ v = f n ∧ H' = upd H n (some (.cells cs ty)) ∧ n' = n + 1
theorem AllocEq.none {op : Op} {t : Nat → AV} {H : Nat → Option Blk} {n : Nat} {v : AV} (h : AllocEq T op t H n v H n) {t' : Nat → AV} {H2 H3 : Nat → Option Blk} {n2 n3 : Nat} : AllocEq T op t' H2 n2 v H3 n3 := fun e => by
 obtain ⟨_, _, _, _, _, _, h⟩ := h e; omega
theorem AllocEq.move {op : Op} {t t' : Nat → AV} {H H' : Nat → Option Blk} {n n' : Nat} {v : AV} (h : AllocEq T op t H n v H' n') (ht : ∀ x ∈ op.operands, ev t' x = ev t x) : AllocEq T op t' H n v H' n' := fun e => by
 obtain ⟨f, cs, ty, h1, h2⟩ := h e
 exact ⟨f, cs, ty, (newOf_congr ht).trans h1, h2⟩
def SemD (P : Program) (T : Tab) (k : Nat) (G : Array Oper) (cl : List Cls) : List Nat → St → St → Prop
 | [], s, s' => s = s'
 | i :: l, s, s' => ∃ o, G[i]? = some o ∧ dstOk k o = true ∧
  ((wantedA G o s.t = some false ∧ SemD P T k G cl l ⟨putA s.t o.dst (.tup []), s.H, s.n⟩ s') ∨
   (wantedA G o s.t = some true ∧ ∃ v H' n' c, cl[i]? = some c ∧ DoesL P o s.t s.H s.n v H' n' c ∧ AllocEq T o.op s.t s.H s.n v H' n' ∧ SemD P T k G cl l ⟨putA s.t o.dst v, H', n'⟩ s'))
theorem ev_putA {t : Nat → AV} {d : Option Nat} {v : AV} {x : Operand} (h : ∀ e, d = some e → x ≠ .tmp e) : ev (putA t d v) x = ev t x := by
 cases d with
 | none => rfl
 | some e =>
  cases x with
  | tmp i =>
   have : i ≠ e := fun e' => h e rfl (by rw [e'])
   simp only [ev, putA]
   exact upd_ne _ _ this
  | _ => rfl
theorem evs_putA {G : Array Oper} {t : Nat → AV} {d : Option Nat} {v : AV} {o : Oper} (h : ∀ e, d = some e → e ∉ o.looksAt G) : ∀ x ∈ o.op.operands, ev (putA t d v) x = ev t x := by
 intro x hx
 refine ev_putA fun e he hxe => h e he ?_
 subst hxe
 exact List.mem_append_left _ (List.mem_filterMap.2 ⟨.tmp e, by simpa using hx, rfl⟩)
theorem wantedA_putA {G : Array Oper} {t : Nat → AV} {d : Option Nat} {v : AV} {o : Oper} (h : ∀ e, d = some e → e ∉ o.looksAt G) : wantedA G o (putA t d v) = wantedA G o t := by
 cases d with
 | none => rfl
 | some e =>
  unfold wantedA
  cases hg : o.guard with
  | none => rfl
  | some gw =>
   obtain ⟨g, want⟩ := gw
   cases hd : (G[g]?).bind (·.dst) with
   | none => simp only [hd]
   | some i =>
    have : i ≠ e := fun e' => h e rfl (by subst e'; simp [Oper.looksAt, hg, hd])
    simp only [putA, hd]
    rw [upd_ne _ _ this]
theorem putA_comm {t : Nat → AV} {d e : Option Nat} {u v : AV} (h : ∀ x, d = some x → e ≠ some x) : putA (putA t d u) e v = putA (putA t e v) d u := by
 cases d with
 | none => rfl
 | some a =>
  cases e with
  | none => rfl
  | some b =>
   have : b ≠ a := fun e' => h a rfl (by rw [e'])
   funext i
   simp only [putA, upd]
   by_cases h1 : i = a <;> by_cases h2 : i = b <;> simp [h1, h2]
   ·omega
   ·intro e'; omega
   ·intro e'; omega
theorem semD_swap {k : Nat} {G : Array Oper} {cl : List Cls} {i j : Nat} {l : List Nat} {s s' : St} (hi : indep G cl i j = true) (h : SemD P T k G cl (i :: j :: l) s s') : SemD P T k G cl (j :: i :: l) s s' := by
 obtain ⟨x, hx, hxd, h⟩ := h
 unfold indep at hi
 rw [hx] at hi
 cases hy' : G[j]? with
 | none => rw [hy'] at hi; cases hi
 | some y =>
 rw [hy'] at hi
 simp only [Bool.and_eq_true] at hi
 obtain ⟨hap, hcl⟩ := hi
 obtain ⟨q1, q2, q3⟩ := Oper.apart_spec hap
 have hwy : ∀ (t : Nat → AV) (u : AV), wantedA G y (putA t x.dst u) = wantedA G y t := fun t u => wantedA_putA q1
 have hwx : ∀ (t : Nat → AV) (u : AV), wantedA G x (putA t y.dst u) = wantedA G x t := fun t u => wantedA_putA q3
 have hey : ∀ (t : Nat → AV) (u : AV), ∀ z ∈ y.op.operands, ev t z = ev (putA t x.dst u) z := fun t u z hz => (evs_putA q1 z hz).symm
 have hex : ∀ (t : Nat → AV) (u : AV), ∀ z ∈ x.op.operands, ev (putA t y.dst u) z = ev t z := fun t u => evs_putA q3
 rcases h with ⟨hw1, y2, hy2, hyd, h⟩ | ⟨hw1, v, H1, n1, c1, hc1, hd1, ha1, y2, hy2, hyd, h⟩
 ·rw [hy'] at hy2; cases hy2
  simp only [hwy] at h
  rcases h with ⟨hw2, h⟩ | ⟨hw2, v2, H2, n2, c2, hc2, hd2, ha2, h⟩
  ·refine ⟨y, hy', hyd, .inl ⟨hw2, x, hx, hxd, .inl ⟨by rw [hwx]; exact hw1, ?_⟩⟩⟩
   rw [← putA_comm q2]; exact h
  ·refine ⟨y, hy', hyd, .inr ⟨hw2, v2, H2, n2, c2, hc2, hd2.move (hey _ _), ha2.move (hey _ _), x, hx, hxd, .inl ⟨by rw [hwx]; exact hw1, ?_⟩⟩⟩
   rw [← putA_comm q2]; exact h
 ·rw [hy'] at hy2; cases hy2
  simp only [hwy] at h
  rcases h with ⟨hw2, h⟩ | ⟨hw2, v2, H2, n2, c2, hc2, hd2, ha2, h⟩
  ·refine ⟨y, hy', hyd, .inl ⟨hw2, x, hx, hxd, .inr ⟨by rw [hwx]; exact hw1, v, H1, n1, c1, hc1, hd1.move (hex _ _), ha1.move (hex _ _), ?_⟩⟩⟩
   rw [← putA_comm q2]; exact h
  ·rw [hc1, hc2] at hcl
   cases c1 with
   | rd R1 =>
    obtain ⟨rfl, rfl, hd1'⟩ := hd1
    cases c2 with
    | rd R2 =>
     obtain ⟨rfl, rfl, hd2'⟩ := hd2
     refine ⟨y, hy', hyd, .inr ⟨hw2, v2, s.H, s.n, _, hc2, ⟨rfl, rfl, fun t' H3 n3 h3 hR => hd2' t' H3 n3 (fun z hz => (h3 z hz).trans (hey _ _ z hz)) hR⟩, ha2.move (hey _ _), x, hx, hxd, .inr ⟨by rw [hwx]; exact hw1, v, s.H, s.n, _, hc1, ⟨rfl, rfl, fun t' H3 n3 h3 hR => hd1' t' H3 n3 (fun z hz => (h3 z hz).trans (hex _ _ z hz)) hR⟩, ha1.move (hex _ _), ?_⟩⟩⟩
     rw [← putA_comm q2]; exact h
    | mem S b =>
     obtain ⟨hd2', hS⟩ := hd2
     simp only [Cls.indep, List.all_eq_true, Bool.and_eq_true, decide_eq_true_eq, Bool.not_eq_true', List.contains_eq_mem, decide_eq_false_iff_not] at hcl
     refine ⟨y, hy', hyd, .inr ⟨hw2, v2, H2, n2, _, hc2, ⟨fun t' h3 => hd2' t' fun z hz => (h3 z hz).trans (hey _ _ z hz), hS⟩, ha2.move (hey _ _), x, hx, hxd, .inr ⟨by rw [hwx]; exact hw1, v, H2, n2, _, hc1, ⟨rfl, rfl, fun t' H3 n3 h3 hR => hd1' t' H3 n3 (fun z hz => (h3 z hz).trans (hex _ _ z hz)) fun q hq => (hR q hq).trans (hS q (hcl q hq).1 (hcl q hq).2)⟩, ha1.none, ?_⟩⟩⟩
     rw [← putA_comm q2]; exact h
   | mem S b =>
    obtain ⟨hd1', hS⟩ := hd1
    cases c2 with
    | rd R2 =>
     obtain ⟨rfl, rfl, hd2'⟩ := hd2
     simp only [Cls.indep, List.all_eq_true, Bool.and_eq_true, decide_eq_true_eq, Bool.not_eq_true', List.contains_eq_mem, decide_eq_false_iff_not] at hcl
     refine ⟨y, hy', hyd, .inr ⟨hw2, v2, s.H, s.n, _, hc2, ⟨rfl, rfl, fun t' H3 n3 h3 hR => hd2' t' H3 n3 (fun z hz => (h3 z hz).trans (hey _ _ z hz)) fun q hq => (hR q hq).trans (hS q (hcl q hq).1 (hcl q hq).2).symm⟩, ha2.none, x, hx, hxd, .inr ⟨by rw [hwx]; exact hw1, v, H2, n2, _, hc1, ⟨fun t' h3 => hd1' t' fun z hz => (h3 z hz).trans (hex _ _ z hz), hS⟩, ha1.move (hex _ _), ?_⟩⟩⟩
     rw [← putA_comm q2]; exact h
    | mem S2 b2 => simp [Cls.indep] at hcl
theorem semD_cons {k : Nat} {G : Array Oper} {cl : List Cls} {i : Nat} {l l' : List Nat} (h : ∀ s s', SemD P T k G cl l s s' → SemD P T k G cl l' s s') (s s' : St) (hs : SemD P T k G cl (i :: l) s s') : SemD P T k G cl (i :: l') s s' := by
 obtain ⟨o, h1, h2, h3⟩ := hs
 refine ⟨o, h1, h2, ?_⟩
 rcases h3 with ⟨h3, h4⟩ | ⟨h3, v, H', n', c, hc, h5, h5a, h6⟩
 ·exact .inl ⟨h3, h _ _ h4⟩
 ·exact .inr ⟨h3, v, H', n', c, hc, h5, h5a, h _ _ h6⟩
theorem semD_front {k : Nat} {G : Array Oper} {cl : List Cls} {i : Nat} : ∀ {A B : List Nat}, (∀ a ∈ A, indep G cl a i = true) → ∀ s s', SemD P T k G cl (A ++ i :: B) s s' → SemD P T k G cl (i :: (A ++ B)) s s'
 | [], _, _, _, _, h => h
 | a :: A, B, hA, s, s', h => semD_swap (hA a (by simp)) (semD_cons (semD_front (A := A) (B := B) fun b hb => hA b (by simp [hb])) s s' h)
theorem waits_listed {G : Array Oper} {listed : Array Bool} (hdown : ∀ b o, listed.getD b false = true → G[b]? = some o → ∀ e ∈ o.after, Region.binds .any e = true → listed.getD e.on false = true) :
  ∀ (f a i : Nat) (o : Oper), G[i]? = some o → (∀ e ∈ o.after, Region.binds .any e = true → listed.getD e.on false = true) → waits G f a i = true → listed.getD a false = true
 | 0, _, _, _, _, _, h => by simp [waits] at h
 | f + 1, a, i, o, ho, hl, h => by
  simp only [waits, ho] at h
  simp only [List.any_eq_true, Bool.and_eq_true, Bool.or_eq_true, beq_iff_eq] at h
  obtain ⟨e, he, hb, h⟩ := h
  have hle := hl e (by simpa using he) hb
  rcases h with h | h
  ·rw [← h]; exact hle
  ·cases hg : G[e.on]? with
   | none => unfold waits at h; cases f <;> simp [hg] at h
   | some o' => exact waits_listed hdown f a e.on o' hg (hdown e.on o' hle hg) h
theorem mem_split {R : List Nat} {i : Nat} (h : i ∈ R) (hs : R.Pairwise (· < ·)) : ∃ A B, R = A ++ i :: B ∧ (∀ a ∈ A, a < i) := by
 obtain ⟨A, B, rfl⟩ := List.append_of_mem h
 refine ⟨A, B, rfl, fun a ha => ?_⟩
 rw [List.pairwise_append] at hs
 exact hs.2.2 a ha i (by simp)
structure Rx (E F : Env) : Prop where
 N : E.N ≤ F.N
 old : ∀ i l, i < E.N → F.m i = some l → E.m i = some l
 sh : ∀ b, b < E.w.heap.size → E.shared b → F.shared b ∧ F.w.heap[b]? = E.w.heap[b]?
mutual
theorem RepV.rx {E F : Env} (h : Rx E F) : ∀ (a : AV) (v : Value), RepV E a v → RepV F a v
 | .sc _, _, hr => by simpa [RepV] using hr
 | .own i o, u, hr => by
  simp only [RepV] at hr ⊢
  obtain ⟨h1, a, h2, h3⟩ := hr
  exact ⟨Nat.lt_of_lt_of_le h1 h.N, a, h2, fun l hl => h3 l (h.old i l h1 hl)⟩
 | .osl i o n c, u, hr => by
  simp only [RepV] at hr ⊢
  obtain ⟨h1, a, cap, h2, h3, h4, h5⟩ := hr
  exact ⟨Nat.lt_of_lt_of_le h1 h.N, a, cap, h2, h3, h4, fun l hl => h5 l (h.old i l h1 hl)⟩
 | .sh cs, u, hr => by
  simp only [RepV] at hr ⊢
  obtain ⟨b, o, cells, ty, fz, e, hs, hb, hl⟩ := hr
  obtain ⟨hs', hb'⟩ := h.sh b (lt_of_block hb) hs
  exact ⟨b, o, cells, ty, fz, e, hs', by rw [hb', hb], RepL.rx h _ _ hl⟩
 | .ssl cs n full, u, hr => by
  simp only [RepV] at hr ⊢
  rcases hr with ⟨b, o, cells, ty, fz, cap, e, h1, h2, hs, hb, hl⟩ | hr
  ·obtain ⟨hs', hb'⟩ := h.sh b (lt_of_block hb) hs
   exact .inl ⟨b, o, cells, ty, fz, cap, e, h1, h2, hs', by rw [hb', hb], RepL.rx h _ _ hl⟩
  ·exact .inr hr
 | .esl full, u, hr => by simpa [RepV] using hr
 | .agg cs, u, hr => by
  simp only [RepV] at hr ⊢
  obtain ⟨a, e, h1, h2⟩ := hr
  exact ⟨a, e, h1, RepL.rx h _ _ h2⟩
 | .tup cs, u, hr => by
  simp only [RepV] at hr ⊢
  obtain ⟨a, e, h1, h2⟩ := hr
  exact ⟨a, e, h1, RepL.rx h _ _ h2⟩
 | .fn f x y, u, hr => by
  simp only [RepV] at hr ⊢
  obtain ⟨a, b, e, h1, h2, h3, h4⟩ := hr
  exact ⟨a, b, e, h1, RepL.rx h _ _ h2, h3, RepL.rx h _ _ h4⟩
 | .omap i, u, hr => by
  simp only [RepV] at hr ⊢
  obtain ⟨h1, a, h2, h3⟩ := hr
  exact ⟨Nat.lt_of_lt_of_le h1 h.N, a, h2, fun l hl => h3 l (h.old i l h1 hl)⟩
 | .yld i, u, hr => by
  simp only [RepV] at hr ⊢
  obtain ⟨h1, a, h2, h3⟩ := hr
  exact ⟨Nat.lt_of_lt_of_le h1 h.N, a, h2, fun l hl => h3 l (h.old i l h1 hl)⟩
 | .any, u, hr => by simp [RepV]
theorem RepL.rx {E F : Env} (h : Rx E F) : ∀ (as' : List AV) (vs : List Value), RepL E as' vs → RepL F as' vs
 | [], _, _ => by simp [RepL]
 | _ :: _, [], hr => by simp [RepL] at hr
 | a :: as', v :: vs, hr => by
  simp only [RepL] at hr ⊢
  exact ⟨RepV.rx h a v hr.1, RepL.rx h as' vs hr.2⟩
end
theorem RepB.rx {E F : Env} (h : Rx E F) {l : Loc} {blk : Blk} (hb : F.w.heap[l.b]? = E.w.heap[l.b]?) (hr : RepB P E l blk) : RepB P F l blk := by
 cases blk with
 | cells cs ty =>
  obtain ⟨cells, fz, info, h1, h2, h3, h4, h5, h6⟩ := hr
  exact ⟨cells, fz, info, by rw [hb, h1], RepL.rx h _ _ h2, h3, h4, h5, h6⟩
 | map es c =>
  obtain ⟨ents, h1, h2, h3, h4⟩ := hr
  exact ⟨ents, by rw [hb, h1], h2, h3, RepL.rx h _ _ h4⟩
 | loop t k ps asg bod st =>
  obtain ⟨r, h1, h2, h3, h4, h5, h6, h7⟩ := hr
  exact ⟨r, by rw [hb, h1], h2, h3, h4, h5, h6, fun i => RepV.rx h _ _ (h7 i)⟩
 | iter s p => exact hb.trans hr
theorem GlobOk.rx {E F : Env} (h : Rx E F) (hg : GlobOk E) : GlobOk F := fun g cs hm => by
 obtain ⟨h1, cells, ty, fz, h2, h3⟩ := hg g cs hm
 obtain ⟨h4, h5⟩ := h.sh g (lt_of_block h2) h1
 exact ⟨h4, cells, ty, fz, h5.trans h2, h3⟩
theorem hokr_of {G : Array Oper} {cl : List Cls} {q : Option Nat} (hok : drawOk G cl q = true) {i : Nat} {o : Oper} (ho : G[i]? = some o) :
  (∀ e ∈ o.after, Region.binds .any e = true → e.on < i) ∧ ∀ b, b < i → pairOk G cl q b i = true := by
 have hlt := (Array.getElem?_eq_some_iff.1 ho).1
 have := List.all_eq_true.1 hok i (by simpa using hlt)
 rw [ho] at this
 simp only [Bool.and_eq_true, List.all_eq_true, Bool.or_eq_true, Bool.not_eq_true', decide_eq_true_eq, List.mem_range] at this
 refine ⟨fun e he hb => ?_, fun b hb => this.2 b hb⟩
 rcases this.1 e (by simpa using he) with h | h
 ·rw [hb] at h; cases h
 ·exact h
structure Lat (P : Program) (T : Tab) (C : Ctx) (oq : Oper) (d b : Nat) (f : Nat → AV) (cs : List AV) (ty : Nat) (E0 E : Env) (s : St) (k : Nat) (a : Act) : Prop where
 H : RepH P E s.H
 X : E.X = fun x => E0.X x ∨ x = b
 xb : Xb E
 nX : ¬ E0.X b
 N : E.N = s.n
 t : RepT E k (upd s.t d .any) a
 new : newOf T s.t oq.op = some (f, cs, ty)
 blk : ∃ cells info, E.w.heap[b]? = some (.cells cells ty) ∧ RepL E cs cells.toList ∧ P.info? ty = some info ∧
  ∀ (F : Env) (N : Nat), N < F.N → F.m N = some ⟨b, cells.size, info.size⟩ → RepV F (f N) (a.tmps.getD d undef)
 ge : E0.w.heap.size ≤ b
 ext : Ext E0 { E with X := E0.X }
 m : Mk C E a.defers
theorem Lat.claim {C : Ctx} {oq : Oper} {d b ty : Nat} {f : Nat → AV} {cs : List AV} {E0 E : Env} {s : St} {k : Nat} {a : Act} (h : Lat P T C oq d b f cs ty E0 E s k a) :
  ∃ E2, Ext E0 E2 ∧ E2.w = E.w ∧ Good P C E2 k ⟨upd s.t d (f s.n), upd s.H s.n (some (.cells cs ty)), s.n + 1⟩ a := by
 obtain ⟨cells, info, h1, h2, h3, hval⟩ := h.blk
 have hb := lt_of_block h1
 let E2 : Env := ⟨E0.X, E.N + 1, upd E.m E.N (some ⟨b, cells.size, info.size⟩), E.w⟩
 have hun : ∀ i l, E.m i = some l → l.b ≠ b := fun i l hl e => (h.H.lt i l hl).2.2.1 (by rw [h.X]; exact .inr e)
 have hx0 : ∀ i l, E.m i = some l → ¬ E0.X l.b := fun i l hl e => (h.H.lt i l hl).2.2.1 (by rw [h.X]; exact .inl e)
 have rx : Rx E E2 := by
  refine ⟨Nat.le_succ _, fun i l hi hl => ?_, fun b' hb' hs => ⟨⟨fun e => hs.1 (by rw [h.X]; exact .inl e), fun i l hl => ?_⟩, rfl⟩⟩
  ·simp only [E2] at hl; rwa [upd_ne _ _ (by omega)] at hl
  ·simp only [E2] at hl
   by_cases e : i = E.N
   ·subst e; rw [upd_same] at hl; cases hl
    intro e; exact hs.1 (by rw [h.X]; exact .inr e.symm)
   ·rw [upd_ne _ _ e] at hl; exact hs.2 i l hl
 have hx := h.ext
 refine ⟨E2, ⟨rfl, Nat.le_succ_of_le hx.N, hx.os, hx.tape, hx.output, hx.size, hx.keep, fun i l hi hl => ?_, fun i l hl => ?_, hx.lp⟩, rfl, ⟨⟨fun i' blk hblk => ?_, fun i l hl => ?_, fun i j l l' hl hl' e => ?_, h.H.glob.rx rx⟩, fun b' hb' => h.xb b' (by rw [h.X]; exact .inl hb'), by simp only [E2]; rw [h.N], ⟨h.t.size, fun x => ?_⟩, h.m.loop, h.m.B, h.m.nd, fun dd hdd => ?_⟩⟩
 ·simp only [E2] at hl
  have := hx.N
  simp only at this
  rw [upd_ne _ _ (by omega)] at hl
  exact hx.old i l hi hl
 ·simp only [E2] at hl
  by_cases e : i = E.N
  ·subst e; rw [upd_same] at hl; cases hl; exact .inl h.ge
  ·rw [upd_ne _ _ e] at hl; exact hx.new i l hl
 ·simp only at hblk
  by_cases e : i' = s.n
  ·subst e
   rw [upd_same] at hblk; cases hblk
   exact ⟨⟨b, cells.size, info.size⟩, by simp only [E2]; rw [h.N, upd_same], cells, (0, 0), info, h1, RepL.rx rx _ _ h2, rfl, .inl rfl, h3, rfl⟩
  ·rw [upd_ne _ _ e] at hblk
   obtain ⟨l, hl, hr⟩ := h.H.own i' blk hblk
   exact ⟨l, by simp only [E2]; rw [h.N, upd_ne _ _ e]; exact hl, RepB.rx rx rfl hr⟩
 ·simp only [E2] at hl ⊢
  by_cases e : i = E.N
  ·subst e; rw [upd_same] at hl; cases hl
   exact ⟨Nat.lt_succ_self _, hb, h.nX, _, by rw [h.N, upd_same]⟩
  ·rw [upd_ne _ _ e] at hl
   obtain ⟨q1, q2, q3, blk, q4⟩ := h.H.lt i l hl
   exact ⟨by omega, q2, hx0 i l hl, blk, by rw [h.N] at e; rw [upd_ne _ _ e]; exact q4⟩
 ·simp only [E2] at hl hl'
  by_cases e1 : i = E.N <;> by_cases e2 : j = E.N
  ·rw [e1, e2]
  ·subst e1; rw [upd_same] at hl; rw [upd_ne _ _ e2] at hl'; cases hl
   exact absurd e.symm (hun j l' hl')
  ·subst e2; rw [upd_same] at hl'; rw [upd_ne _ _ e1] at hl; cases hl'
   exact absurd e (hun i l hl)
  ·rw [upd_ne _ _ e1] at hl; rw [upd_ne _ _ e2] at hl'; exact h.H.inj i j l l' hl hl' e
 ·simp only
  by_cases e : x = d
  ·subst e
   rw [upd_same]
   exact hval E2 s.n (by simp only [E2]; rw [h.N]; exact Nat.lt_succ_self _) (by simp only [E2]; rw [h.N, upd_same])
  ·rw [upd_ne _ _ e]
   have := h.t.at_ x
   rw [upd_ne _ _ e] at this
   exact RepV.rx rx _ _ this
 ·obtain ⟨b', e1, e2, e3, e4⟩ := h.m.marks dd hdd
  refine ⟨b', e1, e2, fun i l hl => ?_, e4⟩
  simp only [E2] at hl
  by_cases e : i = E.N
  ·subst e; rw [upd_same] at hl; cases hl
   rintro rfl
   rw [h1] at e4; cases e4
  ·rw [upd_ne _ _ e] at hl; exact e3 i l hl
theorem Lat.step {C : Ctx} {oq : Oper} {d b ty : Nat} {f : Nat → AV} {cs : List AV} {E0 E E' : Env} {s : St} {k : Nat} {a : Act} (h : Lat P T C oq d b f cs ty E0 E s k a) (hx : Ext E E') {H' : Nat → Option Blk} {n' : Nat} (hH : RepH P E' H') (hX : Xb E') (hN : E'.N = n') {dst : Option Nat} {v : AV} {z : Value} (hv : RepV E' v z) (hd : dst ≠ some d) (hk : ∀ e, dst = some e → e < k) (hq : ∀ x ∈ oq.op.operands, ev (putA s.t dst v) x = ev s.t x) :
  Lat P T C oq d b f cs ty E0 E' ⟨putA s.t dst v, H', n'⟩ k (a.put dst z) := by
 have hun : ∀ i l, E.m i = some l → l.b ≠ b := fun i l hl e => (h.H.lt i l hl).2.2.1 (by rw [h.X]; exact .inr e)
 refine ⟨hH, by rw [hx.X, h.X], hX, h.nX, hN, ?_, (newOf_congr hq).trans h.new, ?_, h.ge, ?_, by rw [put_defers]; exact h.m.ext hx⟩
 ·have := h.t.ext hx
  cases dst with
  | none => simpa [putA, Act.put] using this
  | some e =>
   have ne : d ≠ e := fun e' => hd (by rw [e'])
   have := this.put (hk e rfl) hv
   have e1 : upd (putA s.t (some e) v) d .any = upd (upd s.t d .any) e v := by
    funext x
    simp only [putA, upd]
    by_cases e1 : x = d <;> by_cases e2 : x = e <;> simp [e1, e2]
    ·omega
    ·intro e'; omega
    ·intro e'; omega
   rw [e1]; exact this
 ·obtain ⟨cells, info, h1, h2, h3, h4⟩ := h.blk
  refine ⟨cells, info, by rw [hx.keep b (lt_of_block h1) hun]; exact h1, RepL.ext hx _ _ h2, h3, ?_⟩
  have e1 : (a.put dst z).tmps.getD d undef = a.tmps.getD d undef := by
   cases dst with
   | none => rfl
   | some e =>
    have ne : d ≠ e := fun e' => hd (by rw [e'])
    simp only [Act.put, Array.getD_eq_getD_getElem?]
    rw [Array.getElem?_setIfInBounds_ne (by omega)]
  rw [e1]; exact h4
 ·exact h.ext.trans ⟨rfl, hx.N, hx.os, hx.tape, hx.output, hx.size, hx.keep, hx.old, hx.new, hx.lp⟩
theorem semD_dst {k : Nat} {G : Array Oper} {cl : List Cls} {i : Nat} {o : Oper} {d : Nat} (ho : G[i]? = some o) (hd : o.dst = some d) : ∀ {R : List Nat} {s s' : St}, i ∈ R → SemD P T k G cl R s s' → d < k
 | r :: R, s, s', hi, hs => by
  obtain ⟨o2, h1, h2, h3⟩ := hs
  rcases List.mem_cons.1 hi with e | e
  ·subst e
   rw [ho] at h1; cases h1
   unfold dstOk at h2; rw [hd] at h2; simpa using h2
  ·rcases h3 with ⟨_, h⟩ | ⟨_, _, _, _, _, _, _, _, h⟩
   ·exact semD_dst ho hd e h
   ·exact semD_dst ho hd e h
theorem ready_of {G : Array Oper} {listed : Array Bool} {r : Nat} (hsz : listed.size = G.size) (hlt : r < G.size) (hl : listed.getD r false = false) (hall : ∀ e ∈ (G[r]'hlt).after, Region.binds .any e = true → listed.getD e.on false = true) : r ∈ Region.ready .any G listed := by
 refine mem_ready.2 ⟨?_, G[r], by simp [hlt], hall⟩
 simp only [Array.getD_eq_getD_getElem?] at hl ⊢
 rw [Array.getElem?_eq_getElem (by omega)] at hl ⊢
 exact hl
theorem of_ready {G : Array Oper} {listed : Array Bool} {i : Nat} (hsz : listed.size = G.size) (hi : i ∈ Region.ready .any G listed) : ∃ o, G[i]? = some o ∧ i < G.size ∧ listed.getD i false = false ∧ ∀ e ∈ o.after, Region.binds .any e = true → listed.getD e.on false = true := by
 obtain ⟨h1, o, ho, hall⟩ := mem_ready.1 hi
 have hilt := (Array.getElem?_eq_some_iff.1 ho).1
 refine ⟨o, ho, hilt, ?_, hall⟩
 simp only [Array.getD_eq_getD_getElem?] at h1 ⊢
 rw [Array.getElem?_eq_getElem (by omega)] at h1 ⊢
 exact h1
theorem hset_of {listed : Array Bool} {i : Nat} (h : i < listed.size) (j : Nat) : (listed.setIfInBounds i true).getD j false = if j = i then true else listed.getD j false := by
 by_cases e : j = i
 ·subst e; rw [if_pos rfl]; simp [h]
 ·rw [if_neg e, getD_set_ne false (by omega)]
theorem hdown_set {G : Array Oper} {listed : Array Bool} {i : Nat} {o : Oper} (h : i < listed.size) (ho : G[i]? = some o) (hall : ∀ e ∈ o.after, Region.binds .any e = true → listed.getD e.on false = true)
  (hdown : ∀ b o, listed.getD b false = true → G[b]? = some o → ∀ e ∈ o.after, Region.binds .any e = true → listed.getD e.on false = true) :
  ∀ b o', (listed.setIfInBounds i true).getD b false = true → G[b]? = some o' → ∀ e ∈ o'.after, Region.binds .any e = true → (listed.setIfInBounds i true).getD e.on false = true := by
 intro b o' hb ho' e he hbd
 rw [hset_of h] at hb
 split at hb
 ·rename_i e'; subst e'
  rw [ho] at ho'; cases ho'
  exact getD_set_true (hall e he hbd)
 ·exact getD_set_true (hdown b o' hb ho' e he hbd)
theorem split_facts {R A B : List Nat} {i : Nat} (hp : R.Pairwise (· < ·)) (hAB : R = A ++ i :: B) (hA : ∀ a ∈ A, a < i) : (A ++ B).Pairwise (· < ·) ∧ i ∉ A ++ B ∧ ∀ j, j ∈ A ++ B ↔ (j ∈ R ∧ j ≠ i) := by
 have hpAB : (A ++ B).Pairwise (· < ·) := by
  rw [hAB] at hp
  exact hp.sublist (by simp)
 have hnd : R.Nodup := hp.imp (fun h => Nat.ne_of_lt h)
 have hiAB : i ∉ A ++ B := by
  rw [hAB] at hnd
  have := hnd
  simp only [List.nodup_append, List.nodup_cons] at this
  simp only [List.mem_append, not_or]
  exact ⟨fun h => by have := hA i h; omega, this.2.1.1⟩
 refine ⟨hpAB, hiAB, fun j => ?_⟩
 rw [hAB]
 by_cases e : j = i
 ·subst e; simp only [ne_eq, not_true, and_false, iff_false]; exact hiAB
 ·simp [e]
def AnyP (P : Program) (T : Tab) (k : Nat) (G : Array Oper) (cl : List Cls) (R : List Nat) : Prop :=
 ∀ (C : Ctx) (listed : Array Bool) (E : Env) (s s' : St) (a : Act) (Q : Exit → Act → World → Prop), R.Pairwise (· < ·) → listed.size = G.size →
  (∀ i, i ∈ R ↔ (i < G.size ∧ listed.getD i false = false)) →
  (∀ b o, listed.getD b false = true → G[b]? = some o → ∀ e ∈ o.after, Region.binds .any e = true → listed.getD e.on false = true) →
  SemD P T k G cl R s s' → Good P C E k s a → (∀ E' a', Ext E E' → Good P C E' k s' a' → Q .normal a' E'.w) → wpAnyIn (FR C.ro) 0 P .any G Q R.length listed a E.w
def OneP (P : Program) (T : Tab) (k : Nat) (G : Array Oper) (cl : List Cls) (p d : Nat) (oq : Oper) (R : List Nat) : Prop :=
 ∀ (C : Ctx) (listed : Array Bool) (E0 E : Env) (b : Nat) (f : Nat → AV) (cs : List AV) (ty : Nat) (s s' : St) (a : Act) (Q : Exit → Act → World → Prop), R.Pairwise (· < ·) → listed.size = G.size → p ∈ R → listed.getD p false = true →
  (∀ i, i ∈ R ↔ (i < G.size ∧ (listed.getD i false = false ∨ i = p))) →
  (∀ b o, listed.getD b false = true → G[b]? = some o → ∀ e ∈ o.after, Region.binds .any e = true → listed.getD e.on false = true) →
  SemD P T k G cl R s s' → Lat P T C oq d b f cs ty E0 E s k a → (∀ E' a', Ext E0 E' → Good P C E' k s' a' → Q .normal a' E'.w) → wpAnyIn (FR C.ro) 0 P .any G Q (R.length - 1) listed a E.w
theorem one_step {k : Nat} {G : Array Oper} {cl : List Cls} {q : Option Nat} {p d : Nat} {oq : Oper} (hok : drawOk G cl q = true) (hq : q = some p) (hoq : G[p]? = some oq) (hop : lateOp oq.op = true) (hod : oq.dst = some d) (hgd : oq.guard = none)
  {r : Nat} {R : List Nat} (ih1 : ∀ R', R'.length < (r :: R).length → AnyP P T k G cl R') (ih2 : ∀ R', R'.length < (r :: R).length → OneP P T k G cl p d oq R') : OneP P T k G cl p d oq (r :: R) := by
 intro C listed E0 E b f cs ty s s' a Q hp hsz hpR hlp hR hdown hs lat hQ
 by_cases hrp : r = p
 ·-- its turn in the text
  subst hrp
  obtain ⟨o, ho, hd, hstep⟩ := hs
  rw [hoq] at ho; cases ho
  have hw : wantedA G oq s.t = some true := by unfold wantedA; rw [hgd]
  rcases hstep with ⟨hw', _⟩ | ⟨_, v, H', n', c, hc, _, hae, h⟩
  ·rw [hw] at hw'; cases hw'
  ·obtain ⟨f', cs', ty', hnew, rfl, rfl, rfl⟩ := hae hop
   rw [lat.new] at hnew; cases hnew
   obtain ⟨E2, x1, x2, x3⟩ := lat.claim
   rw [hod] at h
   have hnd := List.pairwise_cons.1 hp
   have := ih1 R (by simp) C listed E2 _ s' a Q hnd.2 hsz (fun j => by
     constructor
     ·intro hj
      have := (hR j).1 (by simp [hj])
      refine ⟨this.1, ?_⟩
      rcases this.2 with h | h
      ·exact h
      ·have := hnd.1 j hj; omega
     ·rintro ⟨hj, hl⟩
      have := (hR j).2 ⟨hj, .inl hl⟩
      rcases List.mem_cons.1 this with e | e
      ·subst e; rw [hlp] at hl; cases hl
      ·exact e) hdown h x3 (fun E' a' r1 r2 => hQ E' a' (x1.trans r1) r2)
   rw [x2] at this
   simpa using this
 ·by_cases hcl : ∀ x ∈ r :: R, x < p → indep G cl x p = true
  ·-- nothing that is left ahead of it has to do with it: it gets its name now
   obtain ⟨A, B, hAB, hA⟩ := mem_split hpR hp
   have hs2 := semD_front (fun x hx => hcl x (by rw [hAB]; simp [hx]) (hA x hx)) s s' (hAB ▸ hs)
   obtain ⟨o, ho, hd, hstep⟩ := hs2
   rw [hoq] at ho; cases ho
   have hw : wantedA G oq s.t = some true := by unfold wantedA; rw [hgd]
   rcases hstep with ⟨hw', _⟩ | ⟨_, v, H', n', c, hc, _, hae, h⟩
   ·rw [hw] at hw'; cases hw'
   ·obtain ⟨f', cs', ty', hnew, rfl, rfl, rfl⟩ := hae hop
    rw [lat.new] at hnew; cases hnew
    obtain ⟨E2, x1, x2, x3⟩ := lat.claim
    rw [hod] at h
    obtain ⟨hpAB, hiAB, hjAB⟩ := split_facts hp hAB hA
    have hlen : (r :: R).length - 1 = (A ++ B).length := by
     have := congrArg List.length hAB
     simp at this ⊢
     omega
    have := ih1 (A ++ B) (by rw [← hlen]; simp) C listed E2 _ s' a Q hpAB hsz (fun j => by
      rw [hjAB j, hR j]
      constructor
      ·rintro ⟨⟨h1, h2⟩, h3⟩
       exact ⟨h1, h2.resolve_right h3⟩
      ·rintro ⟨h1, h2⟩
       refine ⟨⟨h1, .inl h2⟩, fun e => ?_⟩
       rw [e, hlp] at h2; cases h2) hdown h x3 (fun E' a' r1 r2 => hQ E' a' (x1.trans r1) r2)
    rw [x2, ← hlen] at this
    exact this
  obtain ⟨x0, hx0, hx0p, hx0i⟩ : ∃ x, x ∈ r :: R ∧ x < p ∧ indep G cl x p ≠ true := Classical.byContradiction fun hne =>
   hcl fun x hx hxp => Classical.byContradiction fun h => hne ⟨x, hx, hxp, h⟩
  have hr := (hR r).1 (by simp)
  have hrl : listed.getD r false = false := by rcases hr.2 with h | h; exact h; exact absurd h hrp
  have hpR' : p ∈ R := by rcases List.mem_cons.1 hpR with e | e; exact absurd e.symm hrp; exact e
  obtain ⟨m, hm⟩ : ∃ m, R.length = m + 1 := ⟨R.length - 1, by have := List.length_pos_of_mem hpR'; omega⟩
  rw [show (r :: R).length - 1 = m + 1 by simp [hm]]
  refine ⟨fun h0 => ?_, fun i hi => ?_⟩
  ·exfalso
   have : r ∈ Region.ready .any G listed := by
    refine ready_of hsz hr.1 hrl fun e he hb => ?_
    have hlt := (hokr_of hok (i := r) (o := G[r]'hr.1) (by simp [hr.1])).1 e he hb
    cases hl : listed.getD e.on false with
    | true => rfl
    | false =>
     have hm := (hR e.on).2 ⟨by omega, .inl hl⟩
     rcases List.mem_cons.1 hm with h' | h'
     ·omega
     ·have := (List.pairwise_cons.1 hp).1 _ h'; omega
   rw [h0] at this
   simp at this
  ·obtain ⟨o, ho, hilt, hlf, hall⟩ := of_ready hsz hi
   have him : i ∈ r :: R := (hR i).2 ⟨hilt, .inl hlf⟩
   have hip : i ≠ p := fun e => by rw [e, hlp] at hlf; cases hlf
   have hqi : ¬ q = some i := fun e => hip (by rw [hq] at e; cases e; rfl)
   show wpOpIn (FR C.ro) 0 P G Q i (wpAnyIn (FR C.ro) 0 P .any G Q m (listed.setIfInBounds i true)) a E.w
   obtain ⟨A, B, hAB, hA⟩ := mem_split him hp
   have key : ∀ x ∈ A, x ≠ p → waits G G.size x i = true → False := by
    intro x hx hxp h
    have hbm : x ∈ r :: R := by rw [hAB]; simp [hx]
    have hbf := ((hR x).1 hbm).2
    have := waits_listed hdown _ x i o ho hall h
    rcases hbf with h' | h'
    ·rw [h'] at this; cases this
    ·exact hxp h'
   have hrA : i = r ∨ r ∈ A := by
    cases A with
    | nil => left; simp at hAB; exact hAB.1.symm
    | cons x A => right; simp at hAB; simp [hAB.1]
   have hind : ∀ x ∈ A, indep G cl x i = true := by
    intro x hx
    have hpk := (hokr_of hok ho).2 x (hA x hx)
    unfold pairOk at hpk
    by_cases hxp : x = p
    ·subst hxp
     rw [if_pos hq, Bool.or_eq_true] at hpk
     rcases hpk with h | h
     ·exact h
     ·exfalso
      unfold barrier at h
      rw [Bool.and_eq_true, List.all_eq_true] at h
      have h2 := h.2 x0 (by simpa using hx0p)
      rw [Bool.or_eq_true] at h2
      rcases h2 with h2 | h2
      ·exact hx0i h2
      ·have hbf := ((hR x0).1 hx0).2
       have := waits_listed hdown _ x0 i o ho hall h2
       rcases hbf with h' | h'
       ·rw [h'] at this; cases this
       ·omega
    ·rw [if_neg (fun e => hxp (by rw [hq] at e; cases e; rfl)), if_neg hqi, Bool.or_eq_true] at hpk
     rcases hpk with h | h
     ·exact h
     ·exact (key x hx hxp h).elim
   have hap : oq.apart G o = true ∨ o.apart G oq = true := by
    rcases Nat.lt_or_ge p i with hlt | hge
    ·left
     have hpA : p ∈ A := by
      have : p ∈ A ++ i :: B := hAB ▸ hpR
      rcases List.mem_append.1 this with h | h
      ·exact h
      ·rcases List.mem_cons.1 h with h | h
       ·exact absurd h.symm hip
       ·rw [hAB] at hp
        have := (List.pairwise_cons.1 (List.pairwise_append.1 hp).2.1).1 p h
        omega
     have := hind p hpA
     unfold indep at this
     rw [hoq, ho] at this
     simp only [Bool.and_eq_true] at this
     exact this.1
    ·right
     have hpk := (hokr_of hok hoq).2 i (by omega)
     unfold pairOk at hpk
     rw [if_neg hqi, if_pos hq, Bool.or_eq_true] at hpk
     rcases hpk with h | h
     ·exfalso
      have := waits_listed hdown _ i p oq hoq (hdown p oq hlp hoq) h
      rw [hlf] at this; cases this
     ·unfold apartB at h
      rw [hoq, ho] at h
      exact h
   have hdo : o.dst ≠ some d ∧ d ∉ o.looksAt G := by
    rcases hap with h | h
    ·obtain ⟨g1, g2, g3⟩ := Oper.apart_spec h
     exact ⟨g2 d hod, g1 d hod⟩
    ·obtain ⟨g1, g2, g3⟩ := Oper.apart_spec h
     exact ⟨fun e => g2 d e hod, g3 d hod⟩
   have hqo : ∀ v, ∀ x ∈ oq.op.operands, ev (putA s.t o.dst v) x = ev s.t x := by
    intro v
    rcases hap with h | h
    ·obtain ⟨g1, g2, g3⟩ := Oper.apart_spec h
     exact evs_putA g3
    ·obtain ⟨g1, g2, g3⟩ := Oper.apart_spec h
     exact evs_putA g1
   have hs2 := semD_front hind s s' (hAB ▸ hs)
   obtain ⟨o2, ho2, hd2, hstep⟩ := hs2
   rw [ho] at ho2; cases ho2
   have hlen : m = (A ++ B).length - 1 := by
    have := congrArg List.length hAB
    simp at this ⊢
    omega
   obtain ⟨hpAB, hiAB, hjAB⟩ := split_facts hp hAB hA
   have hR' : ∀ j, j ∈ A ++ B ↔ (j < G.size ∧ ((listed.setIfInBounds i true).getD j false = false ∨ j = p)) := by
    intro j
    rw [hset_of (by omega), hjAB j, hR j]
    by_cases e : j = i
    ·subst e; simp [hip]
    ·simp [e]
   have hdown' := hdown_set (by omega) ho hall hdown
   have hsz' : (listed.setIfInBounds i true).size = G.size := by simp [hsz]
   have hpAB' : p ∈ A ++ B := (hjAB p).2 ⟨hpR, fun e => hip e.symm⟩
   have hlp' : (listed.setIfInBounds i true).getD p false = true := by rw [hset_of (by omega), if_neg (fun e => hip e.symm)]; exact hlp
   have hmask : upd s.t d .any = putA s.t (some d) .any := rfl
   have hwm : wantedA G o (upd s.t d .any) = wantedA G o s.t := wantedA_putA (d := some d) fun e he => by cases he; exact hdo.2
   have hem : ∀ x ∈ o.op.operands, ev (upd s.t d .any) x = ev s.t x := evs_putA (d := some d) (G := G) fun e he => by cases he; exact hdo.2
   have hdk : ∀ e, o.dst = some e → e < k := fun e he => by unfold dstOk at hd2; rw [he] at hd2; simpa using hd2
   rw [hlen]
   unfold wpOpIn
   simp only [ho]
   rcases hstep with ⟨hw, h⟩ | ⟨hw, v, H', n', c, hc, hd, _, h⟩
   ·rw [if_neg (by rw [wanted_sound lat.t (hwm.trans hw)]; simp)]
    have lat' := lat.step (Ext.refl E) lat.H lat.xb lat.N (dst := o.dst) (v := .tup []) (z := undef) rep_undef hdo.1 hdk (hqo _)
    refine ⟨fun _ _ => trivial, ?_⟩
    exact ih2 (A ++ B) (by have := congrArg List.length hAB; simp at this ⊢; omega) C _ E0 E b f cs ty _ s' _ Q hpAB hsz' hpAB' hlp' hR' hdown' h lat' hQ
   ·rw [if_pos (wanted_sound lat.t (hwm.trans hw))]
    refine ((hd.move hem).ok C.ro E k a _ Q lat.m.loop lat.H lat.xb lat.N lat.t fun E' z q1 q2 q3 q4 q5 => ?_)
    have lat' := lat.step q1 q2 q3 q4 (dst := o.dst) q5 hdo.1 hdk (hqo _)
    exact ih2 (A ++ B) (by have := congrArg List.length hAB; simp at this ⊢; omega) C _ E0 E' b f cs ty _ s' _ Q hpAB hsz' hpAB' hlp' hR' hdown' h lat' hQ
theorem semD_new {k : Nat} {G : Array Oper} {cl : List Cls} {p : Nat} {oq : Oper} (hoq : G[p]? = some oq) (hop : lateOp oq.op = true) (hgd : oq.guard = none) : ∀ {A B : List Nat} {s s' : St}, (∀ x ∈ A, ∀ o, G[x]? = some o → ∀ e, o.dst = some e → e ∉ oq.looksAt G) → SemD P T k G cl (A ++ p :: B) s s' →
  ∃ f cs ty, newOf T s.t oq.op = some (f, cs, ty)
 | [], B, s, s', _, h => by
  obtain ⟨o, ho, _, hstep⟩ := h
  rw [hoq] at ho; cases ho
  have hw : wantedA G oq s.t = some true := by unfold wantedA; rw [hgd]
  rcases hstep with ⟨hw', _⟩ | ⟨_, v, H', n', c, hc, _, hae, h⟩
  ·rw [hw] at hw'; cases hw'
  ·obtain ⟨f, cs, ty, h1, _⟩ := hae hop
   exact ⟨f, cs, ty, h1⟩
 | x :: A, B, s, s', hA, h => by
  obtain ⟨o, ho, _, hstep⟩ := h
  have hq : ∀ v, ∀ y ∈ oq.op.operands, ev (putA s.t o.dst v) y = ev s.t y := fun v => evs_putA (hA x (by simp) o ho)
  rcases hstep with ⟨_, h⟩ | ⟨_, v, H', n', c, hc, _, hae, h⟩
  ·obtain ⟨f, cs, ty, h1⟩ := semD_new hoq hop hgd (A := A) (B := B) (fun y hy => hA y (by simp [hy])) h
   exact ⟨f, cs, ty, (newOf_congr (hq _)).symm.trans h1⟩
  ·obtain ⟨f, cs, ty, h1⟩ := semD_new hoq hop hgd (A := A) (B := B) (fun y hy => hA y (by simp [hy])) h
   exact ⟨f, cs, ty, (newOf_congr (hq _)).symm.trans h1⟩
theorem any_step (hT : TOk P T) {k : Nat} {G : Array Oper} {cl : List Cls} {q : Option Nat} (hok : drawOk G cl q = true) (hlate : lateOk T G q = true) {R : List Nat} (ih1 : ∀ R', R'.length < R.length → AnyP P T k G cl R')
  (ih2 : ∀ p d oq, q = some p → G[p]? = some oq → lateOp oq.op = true → oq.dst = some d → oq.guard = none → OneP P T k G cl p d oq R) : AnyP P T k G cl R := by
 intro C listed E s s' a Q hp hsz hR hdown hs hg hQ
 match R, ih1, ih2, hp, hR, hs with
 | [], _, _, hp, hR, hs =>
  simp only [SemD] at hs
  subst hs
  refine ⟨?_, hQ E a (Ext.refl _) hg⟩
  apply List.eq_nil_iff_forall_not_mem.2
  intro i hi
  obtain ⟨o, h1, h2, h3, _⟩ := of_ready hsz hi
  have := (hR i).2 ⟨h2, h3⟩
  simp at this
 | r :: R, ih1, ih2, hp, hR, hs =>
  have hr := (hR r).1 (by simp)
  refine ⟨fun h0 => ?_, fun i hi => ?_⟩
  ·exfalso
   have : r ∈ Region.ready .any G listed := by
    refine ready_of hsz hr.1 hr.2 fun e he hb => ?_
    have hlt := (hokr_of hok (i := r) (o := G[r]'hr.1) (by simp [hr.1])).1 e he hb
    cases hl : listed.getD e.on false with
    | true => rfl
    | false =>
     have hm := (hR e.on).2 ⟨by omega, hl⟩
     rcases List.mem_cons.1 hm with h' | h'
     ·omega
     ·have := (List.pairwise_cons.1 hp).1 _ h'; omega
   rw [h0] at this
   simp at this
  ·obtain ⟨o, ho, hilt, hlf, hall⟩ := of_ready hsz hi
   have him : i ∈ r :: R := (hR i).2 ⟨hilt, hlf⟩
   show wpOpIn (FR C.ro) 0 P G Q i (wpAnyIn (FR C.ro) 0 P .any G Q R.length (listed.setIfInBounds i true)) a E.w
   by_cases hiq : q = some i
   ·-- the late one, early
    subst hiq
    have hlate' := hlate
    simp only [lateOk, ho] at hlate
    obtain ⟨d, hod, hop, hgd⟩ : ∃ d, o.dst = some d ∧ lateOp o.op = true ∧ o.guard = none := by
     split at hlate
     ·rename_i d h2 h3; exact ⟨d, h2, hlate, h3⟩
     ·cases hlate
    obtain ⟨A, B, hAB, hA⟩ := mem_split him hp
    obtain ⟨f, cs, ty, hnew⟩ := semD_new (A := A) (B := B) (s := s) (s' := s') ho hop hgd (fun x hx ox hox => by
     have hbm : x ∈ r :: R := by rw [hAB]; simp [hx]
     have hbf := ((hR x).1 hbm).2
     have hpk := (hokr_of hok ho).2 x (hA x hx)
     unfold pairOk at hpk
     rw [if_neg (fun e => by cases e; have := hA i hx; omega), if_pos rfl, Bool.or_eq_true] at hpk
     rcases hpk with h | h
     ·exfalso
      have := waits_listed hdown _ x i o ho hall h
      rw [hbf] at this; cases this
     ·unfold apartB at h
      rw [hox, ho] at h
      exact (Oper.apart_spec h).1) (hAB ▸ hs)
    obtain ⟨cells, info, z, hrun, hrep, h1, hval⟩ := new_run hT hg.t hnew
    unfold wpOpIn
    simp only [ho]
    rw [if_pos (by unfold Region.wanted; rw [hgd])]
    refine ⟨fun _ _ => trivial, ?_⟩
    rw [Oper.semAt_eq _ _ _ (fun c e => by rw [e] at hop; cases hop), hrun, Oper.uponIn_value, hod]
    have hdk : d < k := semD_dst ho hod him hs
    let E1 : Env := ⟨fun x => E.X x ∨ x = E.w.heap.size, E.N, E.m, pushW E.w (.cells cells ty)⟩
    have hsz1 : E1.w.heap.size = E.w.heap.size + 1 := by simp [E1, pushW]
    have rx : Rx E E1 := by
     refine ⟨Nat.le_refl _, fun i l _ hl => hl, fun b hb hsh => ⟨⟨fun e => ?_, hsh.2⟩, push_old hb⟩⟩
     rcases e with e | e
     ·exact hsh.1 e
     ·omega
    have lat : Lat P T C o d E.w.heap.size f cs ty E E1 s k (a.put (some d) z) := by
     refine ⟨⟨fun j blk hb => ?_, fun j l hl => ?_, hg.H.inj, hg.H.glob.rx rx⟩, rfl, fun b hb => ?_, fun hx => ?_, hg.N, ?_, hnew, ⟨cells, info, push_new, RepL.rx rx _ _ hrep, h1, ?_⟩, Nat.le_refl _, ?_, ?_⟩
     ·obtain ⟨l, hl, hb⟩ := hg.H.own j blk hb
      exact ⟨l, hl, RepB.rx rx (push_old (hg.H.lt j l hl).2.1) hb⟩
     ·obtain ⟨g1, g2, g3, g4⟩ := hg.H.lt j l hl
      refine ⟨g1, by rw [hsz1]; omega, fun e => ?_, g4⟩
      rcases e with e | e
      ·exact g3 e
      ·omega
     ·rw [hsz1]
      rcases hb with hb | hb
      ·have := hg.X b hb; omega
      ·omega
     ·have := hg.X _ hx; omega
     ·have : RepT E1 k s.t a := ⟨hg.t.size, fun x => RepV.rx rx _ _ (hg.t.at_ x)⟩
      exact this.put hdk (by simp [RepV])
     ·have e1 : (a.put (some d) z).tmps.getD d undef = z := by
       simp only [Act.put, Array.getD_eq_getD_getElem?]
       rw [Array.getElem?_setIfInBounds_self_of_lt (by rw [hg.t.size]; exact hdk)]
       rfl
      rw [e1]; exact hval
     ·exact ⟨rfl, Nat.le_refl _, rfl, rfl, rfl, by show E.w.heap.size ≤ E1.w.heap.size; omega, fun b hb _ => push_old hb, fun i l _ hl => hl, fun i l hl => .inr ⟨i, l, hl, rfl⟩, fun b r hb => ⟨r, (push_old (lt_of_block hb)).trans hb⟩⟩
     ·rw [put_defers]
      refine ⟨fun l e => ?_, by have := hg.m.B; omega, hg.m.nd, fun dd hdd => ?_⟩
      ·obtain ⟨r, hr⟩ := hg.m.loop l e
       exact ⟨r, (push_old (lt_of_block hr)).trans hr⟩
      ·obtain ⟨b', e1, e2, e3, e4⟩ := hg.m.marks dd hdd
       exact ⟨b', e1, e2, e3, (push_old (lt_of_block e4)).trans e4⟩
    have := ih2 i d o rfl ho hop hod hgd C (listed.setIfInBounds i true) E E1 E.w.heap.size f cs ty s s' _ Q hp (by simp [hsz]) him (by rw [hset_of (by omega)]; simp)
     (fun j => by
      rw [hset_of (by omega), hR j]
      by_cases e : j = i
      ·subst e; simp [hilt, hlf]
      ·simp [e])
     (hdown_set (by omega) ho hall hdown) hs lat hQ
    exact this
   ·obtain ⟨A, B, hAB, hA⟩ := mem_split him hp
    have hind : ∀ b ∈ A, indep G cl b i = true := by
     intro b hb
     have hbm : b ∈ r :: R := by rw [hAB]; simp [hb]
     have hbf := ((hR b).1 hbm).2
     have key : waits G G.size b i = true → False := by
      intro h
      have := waits_listed hdown _ b i o ho hall h
      rw [hbf] at this; cases this
     have hpk := (hokr_of hok ho).2 b (hA b hb)
     unfold pairOk at hpk
     split at hpk
     ·rw [Bool.or_eq_true] at hpk
      rcases hpk with h | h
      ·exact h
      ·unfold barrier at h
       rw [Bool.and_eq_true] at h
       rename_i hqb
       cases hqb
       exact (key h.1).elim
     ·first | rw [if_neg hiq, Bool.or_eq_true] at hpk | rw [Bool.or_eq_true] at hpk
      rcases hpk with h | h
      ·exact h
      ·exact (key h).elim
    have hs2 := semD_front hind s s' (hAB ▸ hs)
    obtain ⟨o2, ho2, hd2, hstep⟩ := hs2
    rw [ho] at ho2; cases ho2
    have hlen : R.length = (A ++ B).length := by
     have := congrArg List.length hAB
     simp at this ⊢
     omega
    obtain ⟨hpAB, hiAB, hjAB⟩ := split_facts hp hAB hA
    have hR' : ∀ j, j ∈ A ++ B ↔ (j < G.size ∧ (listed.setIfInBounds i true).getD j false = false) := by
     intro j
     rw [hset_of (by omega), hjAB j, hR j]
     by_cases e : j = i <;> simp [e]
    have hdown' := hdown_set (by omega) ho hall hdown
    have hsz' : (listed.setIfInBounds i true).size = G.size := by simp [hsz]
    rw [hlen]
    unfold wpOpIn
    simp only [ho]
    rcases hstep with ⟨hw, h⟩ | ⟨hw, v, H', n', c, hc, hd, _, h⟩
    ·rw [if_neg (by rw [wanted_sound hg.t hw]; simp)]
     refine ⟨fun _ _ => trivial, ?_⟩
     exact ih1 (A ++ B) (by rw [← hlen]; simp) C _ E _ s' _ Q hpAB hsz' hR' hdown' h ⟨hg.H, hg.X, hg.N, putA_rep hg.t hd2 rep_undef, by rw [put_defers]; exact hg.m⟩ hQ
    ·rw [if_pos (wanted_sound hg.t hw)]
     refine (hd.ok C.ro E k a _ Q hg.m.loop hg.H hg.X hg.N hg.t fun E' z q1 q2 q3 q4 q5 => ?_)
     exact ih1 (A ++ B) (by rw [← hlen]; simp) C _ E' _ s' _ Q hpAB hsz' hR' hdown' h ⟨q2, q3, q4, putA_rep (hg.t.ext q1) hd2 q5, by rw [put_defers]; exact hg.m.ext q1⟩ fun E'' a'' r1 r2 => hQ E'' a'' (q1.trans r1) r2
theorem semD_both (hT : TOk P T) {k : Nat} {G : Array Oper} {cl : List Cls} {q : Option Nat} (hok : drawOk G cl q = true) (hlate : lateOk T G q = true) : ∀ (n : Nat) (R : List Nat), R.length < n →
  AnyP P T k G cl R ∧ ∀ p d oq, q = some p → G[p]? = some oq → lateOp oq.op = true → oq.dst = some d → oq.guard = none → OneP P T k G cl p d oq R
 | 0, _, h => absurd h (Nat.not_lt_zero _)
 | n + 1, R, h => by
  have one : ∀ p d oq, q = some p → G[p]? = some oq → lateOp oq.op = true → oq.dst = some d → oq.guard = none → OneP P T k G cl p d oq R := by
   intro p d oq e1 e2 e3 e4 e5
   cases R with
   | nil => intro C listed E0 E b f cs ty s s' a Q hp hsz hpR; simp at hpR
   | cons r R => exact one_step hok e1 e2 e3 e4 e5 (fun R' hl => (semD_both hT hok hlate n R' (by omega)).1) (fun R' hl => (semD_both hT hok hlate n R' (by omega)).2 p d oq e1 e2 e3 e4 e5)
  exact ⟨any_step hT hok hlate (fun R' hl => (semD_both hT hok hlate n R' (by omega)).1) one, one⟩
theorem semD_any (hT : TOk P T) {k : Nat} {G : Array Oper} {cl : List Cls} {q : Option Nat} (hok : drawOk G cl q = true) (hlate : lateOk T G q = true) (R : List Nat) : AnyP P T k G cl R :=
 (semD_both hT hok hlate (R.length + 1) R (Nat.lt_succ_self _)).1
end
section
variable {P : Program} {T : Tab}
theorem Ret.of {E F : Env} {r : AV} {H' : Nat → Option Blk} {n' : Nat} {e : Ending} {w' : World} (h : Ext E F) (hr : Ret P F r H' n' e w') : Ret P E r H' n' e w' :=
 let ⟨E', v, h1, h2, h3, h4⟩ := hr
 ⟨E', v, h1, h2, h.trans h3, h4⟩
theorem RepL.nilArg {E : Env} {full : Bool} : ∀ (pre post : List AV) {vs : List Value}, RepL E (pre ++ .ssl [] 0 full :: post) vs → RepL E (pre ++ .sc (.slice none 0 0) :: post) vs ∨ RepL E (pre ++ .esl full :: post) vs
 | [], post, [], h => by simp [RepL] at h
 | [], post, v :: vs, h => by
  simp only [List.nil_append, RepL] at h ⊢
  obtain ⟨h1, h2⟩ := h
  simp only [RepV] at h1
  have key : ∀ a cap, v = .slice a 0 cap → (full = true → cap = 0) → (a = none → cap = 0) → (RepV E (.sc (.slice none 0 0)) v ∨ RepV E (.esl full) v) := by
   intro a cap e h3 h4
   cases a with
   | none => have := h4 rfl; subst this; left; simp only [RepV]; exact e
   | some a => right; simp only [RepV]; exact ⟨a, cap, e, h3⟩
  have : RepV E (.sc (.slice none 0 0)) v ∨ RepV E (.esl full) v := by
   rcases h1 with ⟨b, o, cells, ty, fz, cap, e, h3, h4, _⟩ | ⟨_, _, a, cap, e, h3, h4⟩
   ·exact key _ _ e h4 (fun h => by cases h)
   ·exact key _ _ e h3 h4
  exact this.imp (fun g => ⟨g, h2⟩) (fun g => ⟨g, h2⟩)
 | p :: pre, post, [], h => by simp [RepL] at h
 | p :: pre, post, v :: vs, h => by
  simp only [List.cons_append, RepL] at h ⊢
  exact (RepL.nilArg pre post h.2).imp (fun g => ⟨h.1, g⟩) (fun g => ⟨h.1, g⟩)
theorem callsIn_any {ro : Option Nat} {n : Nat} {f : FuncId} {vs : Array Value} {w : World} {R : Ending → World → Prop} (h : Calls P f vs w R) : CallsIn (FR ro) n P f vs w R :=
 (callsIn_wide (n := n)).2 h
theorem does_call {o : Oper} {t : Nat → AV} {H H' : Nat → Option Blk} {n n' : Nat} {v : AV} {c : Call} {f : Operand} {g : FuncId} {first caps : List AV} {fn : Func} {body : Code}
  (ho : o.op = .call c) (hc : c.callee = .value f) (hf : ev t f = .fn (.func g) first caps) (h1 : P.funcs[g]? = some fn) (h2 : fn.body = some body) (h3 : (fn.name == "runtime.NumGoroutine") = false)
  (h : ∀ (E : Env) (vs : Array Value), RepH P E H → Xb E → E.N = n → RepL E (first ++ c.args.toList.map (ev t) ++ caps) vs.toList → (first ++ c.args.toList.map (ev t) ++ caps).length = vs.size → Calls P g vs E.w (Ret P E v H' n')) :
  DoesOk P o t H n v H' n' := by
 intro ro E k a K Q hlp hH hX hN hr hK
 obtain ⟨vs, e1, e2, e3⟩ := call_enters (P := P) hr ho hc hf h1 h2 h3
 unfold Oper.wpIn
 refine ⟨fun _ _ => trivial, ?_⟩
 rw [Oper.semAt_eq _ _ _ (fun c' e => by rw [ho] at e; cases e), e1, Oper.uponIn_enter]
 refine ⟨fun h => (by cases h), callsIn_any ((h E vs hH hX hN e2 e3).mono fun e w' he => ?_)⟩
 obtain ⟨E', z, rfl, rfl, q1, q2, q3, q4, q5⟩ := he
 exact hK E' z q1 q2 q3 q4 q5
theorem vop_does (hT : TOk P T) {o : Oper} {t : Nat → AV} {H : Nat → Option Blk} {n : Nat} {v : AV} (h : vop T t H o.op = some v) : DoesOk P o t H n v H n := by
 intro ro E k a K Q hlp hH hX hN hr hK
 obtain ⟨z, h1, h2⟩ := vop_sound hT hH hr h
 unfold Oper.wpIn
 refine ⟨fun _ _ => trivial, ?_⟩
 rw [Oper.semAt_eq _ _ _ (fun c' e => by rw [e] at h; simp [vop] at h), h1, Oper.uponIn_value]
 exact hK E z (Ext.refl _) hH hX hN h2
theorem mop_does (hT : TOk P T) {o : Oper} {t : Nat → AV} {H H' : Nat → Option Blk} {n n' : Nat} {v : AV} (h : mop T t H n o.op = some (v, H', n')) : DoesOk P o t H n v H' n' := by
 intro ro E k a K Q hlp hH hX hN hr hK
 subst hN
 obtain ⟨E', z, h1, h2, h3, h4, h5, h6⟩ := mop_sound hT hH hX hr h
 unfold Oper.wpIn
 refine ⟨fun _ _ => trivial, ?_⟩
 rw [Oper.semAt_eq _ _ _ (fun c' e => by rw [e] at h; simp [mop] at h)]
 rcases h1 with h1 | ⟨h1, rfl⟩
 ·rw [h1, Oper.uponIn_value]; exact hK E' z h2 h3 h4 h5 h6
 ·rw [h1, Oper.uponIn_skip]; exact hK E' _ h2 h3 h4 h5 h6
theorem callF_ok {g : FuncId} {args args' : List AV} {H H' : Nat → Option Blk} {n n' : Nat} {v : AV} (ids : List Nat) (hv : ViewL T H ids args args') (h : RunOk P g args' (fun _ => none) 0 v H' n')
  (hfree : (ids = [] ∧ free v = true) ∨ flat v = true) : RunOk P g args H n v H n := by
 intro E vs hH hX hN hargs hlen
 let Ec : Env := ⟨fun b => E.X b ∨ ∃ i l, i ∉ ids ∧ E.m i = some l ∧ l.b = b, 0, fun _ => none, E.w⟩
 have hXc : Xb Ec := by
  intro b hb
  rcases hb with hb | ⟨i, l, _, hl, rfl⟩
  ·exact hX b hb
  ·exact (hH.lt i l hl).2.1
 have hsh : ∀ b, E.shared b → Ec.shared b := by
  intro b hb
  refine ⟨fun hx => ?_, fun i l hl => by cases hl⟩
  rcases hx with hx | ⟨i, l, _, hl, e⟩
  ·exact hb.1 hx
  ·exact hb.2 i l hl e
 have hHc : RepH P Ec (fun _ => none) := ⟨fun i blk hb => (by cases hb), fun i l hl => (by cases hl), fun i j l l' hl => (by cases hl), GlobOk.lift (E := E) (F := Ec) rfl hsh hH.glob⟩
 have hids : ∀ i l, i ∈ ids → E.m i = some l → Ec.shared l.b := by
  intro i l hi hl
  refine ⟨fun hx => ?_, fun j l' hj => by cases hj⟩
  rcases hx with hx | ⟨j, l', hj, hl', e⟩
  ·exact (hH.lt i l hl).2.2.1 hx
  ·have := hH.inj j i l' l hl' hl e
   subst this
   exact hj hi
 have hra : RepL Ec args' vs.toList := ViewL.rep (F := Ec) hH rfl hsh hids hv _ hargs
 refine (h Ec vs hHc hXc rfl hra (by rw [hv.length, hlen])).mono fun e w' he => ?_
 obtain ⟨E', z, rfl, rfl, q1, q2, q3, q4, q5⟩ := he
 let F : Env := ⟨E.X, E.N, E.m, E'.w⟩
 have hk : ∀ b, b < E.w.heap.size → E'.w.heap[b]? = E.w.heap[b]? := fun b hb => q1.keep b hb (fun i l hl => by cases hl)
 have hx : Ext E F := ⟨rfl, Nat.le_refl _, q1.os, q1.tape, q1.output, q1.size, fun b hb _ => hk b hb, fun _ _ _ h => h, fun i l h => .inr ⟨i, l, h, rfl⟩, q1.lp⟩
 refine ⟨F, z, rfl, rfl, hx, ⟨fun i blk hb => ?_, fun i l hl => ?_, hH.inj, hH.glob.ext hx⟩, fun b hb => Nat.lt_of_lt_of_le (hX b hb) q1.size, hN, ?_⟩
 ·obtain ⟨l, hl, hr⟩ := hH.own i blk hb
  exact ⟨l, hl, RepB.ext hx (hk _ (hH.lt i l hl).2.1) hr⟩
 ·obtain ⟨h1, h2, h3, h4⟩ := hH.lt i l hl
  exact ⟨h1, Nat.lt_of_lt_of_le h2 q1.size, h3, h4⟩
 ·rcases hfree with ⟨rfl, hfr⟩ | hfl
  ·refine RepV.lift (E := E') (F := F) rfl (fun b hb => ?_) _ _ hfr q5
   have hb1 := hb.1
   rw [q1.X] at hb1
   exact ⟨fun hx => hb1 (.inl hx), fun i l hl e => hb1 (.inr ⟨i, l, by simp, hl, e⟩)⟩
  ·exact RepV.flat _ _ hfl q5
def EvOk (P : Program) (k : Nat) (c : Code) (s : St) (e : Ex) (s' : St) : Prop := ∀ (C : Ctx) (E : Env) (a : Act), Good P C E k s a → c.wpIn (FR C.ro) 0 P (Fin P C E k e s') a E.w
def EvLOk (P : Program) (k : Nat) (G : Array Oper) (L : List Oper) (s s' : St) : Prop :=
 ∀ (C : Ctx) (E : Env) (a : Act) (idxs : List Nat) (Q : Exit → Act → World → Prop), Good P C E k s a → idxs.map (G[·]?) = L.map some → (∀ E' a', Ext E E' → Good P C E' k s' a' → Q .normal a' E'.w) → wpOpsIn (FR C.ro) 0 P G Q idxs a E.w
def EvLoopOk (P : Program) (k : Nat) (c : Code) (s : St) (e : Ex) (s' : St) : Prop :=
 ∀ (C : Ctx) (E : Env) (a : Act), Good P C E k s a → ∀ (b : Frame) (kk : List Item) (cs : List Frame), b.roundOf = C.ro → ∃ x a' w', Fin P C E k e s' x a' w' ∧ ArrivesIn (Machine.fenced P (FR C.ro)) P (lone (b.atR a (.code c :: .inLoop c :: kk)) cs E.w) b kk cs x a' w'
def EvScopeOk (P : Program) (k : Nat) (body c : Code) (s : St) (e : Ex) (s' : St) : Prop :=
 ∀ (C : Ctx) (E : Env) (a : Act), Good P C E k s a → ∀ (b : Frame) (kk : List Item) (cs : List Frame), b.roundOf = C.ro → ∃ x a' w', Fin P C E k e s' x a' w' ∧ ArrivesIn (Machine.fenced P (FR C.ro)) P (lone (b.atR a (.code c :: .inScope body :: kk)) cs E.w) b kk cs x a' w'
theorem room_FR {ro : Option Nat} (n : Nat) : (FR ro).room n := fun d h => by cases h
theorem evL_op {k : Nat} {G : Array Oper} {o : Oper} {l : List Oper} {s s' : St} {v : AV} {H' : Nat → Option Blk} {n' : Nat} (h1 : wantedA G o s.t = some true) (h2 : dstOk k o = true) (h3 : DoesOk P o s.t s.H s.n v H' n')
  (h4 : EvLOk P k G l ⟨putA s.t o.dst v, H', n'⟩ s') : EvLOk P k G (o :: l) s s' := by
 intro C E a idxs Q hg hi hQ
 match idxs, hi with
 | i :: rest, hi =>
  simp only [List.map_cons, List.cons.injEq] at hi
  simp only [wpOpsIn, hi.1]
  rw [if_pos (wanted_sound hg.t h1)]
  refine h3 C.ro E k a _ Q hg.m.loop hg.H hg.X hg.N hg.t fun E' z q1 q2 q3 q4 q5 => ?_
  exact h4 C E' _ rest Q ⟨q2, q3, q4, putA_rep (hg.t.ext q1) h2 q5, by rw [put_defers]; exact hg.m.ext q1⟩ hi.2 fun E'' a'' r1 r2 => hQ E'' a'' (q1.trans r1) r2
theorem evL_skip {k : Nat} {G : Array Oper} {o : Oper} {l : List Oper} {s s' : St} (h1 : wantedA G o s.t = some false) (h2 : dstOk k o = true)
  (h4 : EvLOk P k G l ⟨putA s.t o.dst (.tup []), s.H, s.n⟩ s') : EvLOk P k G (o :: l) s s' := by
 intro C E a idxs Q hg hi hQ
 match idxs, hi with
 | i :: rest, hi =>
  simp only [List.map_cons, List.cons.injEq] at hi
  simp only [wpOpsIn, hi.1]
  rw [if_neg (by rw [wanted_sound hg.t h1]; simp)]
  exact ⟨fun _ _ => trivial, h4 C E _ rest Q ⟨hg.H, hg.X, hg.N, putA_rep hg.t h2 rep_undef, by rw [put_defers]; exact hg.m⟩ hi.2 hQ⟩
theorem loop_ok {k : Nat} {c : Code} {s s1 : St} {e : Ex} (h : EvLoopOk P k c s e s1) : EvOk P k (.loop c) s e s1 := fun C E a hg b kk cs hro hb hr =>
 let ⟨x, a', w', h1, h2⟩ := h C E a hg b kk cs hro
 ⟨x, a', w', h1, .of_steps (.one (fenced_calm hb hr rfl) stepR_loop) h2⟩
theorem loop_more {k : Nat} {c : Code} {s s1 s2 : St} {e : Ex} (h1 : EvOk P k c s .normal s1) (h2 : EvLoopOk P k c s1 e s2) : EvLoopOk P k c s e s2 := by
 intro C E a hg b kk cs hro
 obtain ⟨x, a1, w1, ⟨rfl, E1, rfl, q1, q2⟩, harr⟩ := h1 C E a hg b (.inLoop c :: kk) cs hro trivial (room_FR _)
 obtain ⟨x, a2, w2, hf, harr2⟩ := h2 C E1 a1 q2 b kk cs hro
 exact ⟨x, a2, w2, hf.of q1, .of_steps (StepsIn.trans harr (.one (fenced_calm (n := 0) trivial (room_FR _) rfl) stepR_inLoop)) harr2⟩
theorem loop_done {k : Nat} {c : Code} {s s1 : St} {e : Ex} (h1 : EvOk P k c s e s1) (hne : e ≠ .normal) : EvLoopOk P k c s e s1 := by
 intro C E a hg b kk cs hro
 obtain ⟨x, a1, w1, hf, harr⟩ := h1 C E a hg b (.inLoop c :: kk) cs hro trivial (room_FR _)
 refine ⟨x, a1, w1, hf, ?_⟩
 obtain ⟨rfl, _⟩ := hf
 cases e with
 | normal => exact absurd rfl hne
 | _ => exact ArrivesIn.pass (x := .inLoop c) rfl (fun _ _ => .inl (by simp [Ex.to])) harr
theorem stepR_scope {b : Frame} {a : Act} {k : List Item} {cs : List Frame} {w : World} {c : Code} : step P (lone (b.atR a (.code (.scope c) :: k)) cs w) = .next (lone (b.atR a (.code c :: .inScope c :: k)) cs w) :=
 step_lone_go (by simp [stepG, stepG.exec, Frame.atR])
theorem stepR_inScope {b : Frame} {a : Act} {k : List Item} {cs : List Frame} {w : World} {c : Code} : step P (lone (b.atR a (.inScope c :: k)) cs w) = .next (lone (b.atR a k) cs w) :=
 step_lone_go (by simp [stepG, stepG.exec, Frame.atR])
theorem scope_ok {k : Nat} {c : Code} {s s1 : St} {e : Ex} (h : EvScopeOk P k c c s e s1) : EvOk P k (.scope c) s e s1 := fun C E a hg b kk cs hro hb hr =>
 let ⟨x, a', w', h1, h2⟩ := h C E a hg b kk cs hro
 ⟨x, a', w', h1, .of_steps (.one (fenced_calm hb hr rfl) stepR_scope) h2⟩
theorem scope_straight {k : Nat} {body c : Code} {s s1 : St} {e : Ex} (h1 : EvOk P k c s e s1) (hne : ∀ l, e ≠ .goto l) : EvScopeOk P k body c s e s1 := by
 intro C E a hg b kk cs hro
 obtain ⟨x, a1, w1, hf, harr⟩ := h1 C E a hg b (.inScope body :: kk) cs hro trivial (room_FR _)
 refine ⟨x, a1, w1, hf, ?_⟩
 obtain ⟨rfl, _⟩ := hf
 cases e with
 | normal => exact StepsIn.trans harr (.one (fenced_calm (n := 0) trivial (room_FR _) rfl) stepR_inScope)
 | exit id => exact ⟨fun k' hk => harr.1 k' (by simp [exitTo, hk]), fun hr hk => harr.2 hr (by simp [exitTo, hk])⟩
 | goto l => exact absurd rfl (hne l)
 | ret => exact harr
theorem scope_jump {k l : Nat} {body c rest : Code} {s s1 s2 : St} {e : Ex} (h1 : EvOk P k c s (.goto l) s1) (hl : findLabel body l = some rest) (h2 : EvScopeOk P k body rest s1 e s2) : EvScopeOk P k body c s e s2 := by
 intro C E a hg b kk cs hro
 obtain ⟨x, a1, w1, ⟨rfl, E1, rfl, q1, q2⟩, harr⟩ := h1 C E a hg b (.inScope body :: kk) cs hro trivial (room_FR _)
 obtain ⟨x, a2, w2, hf, harr2⟩ := h2 C E1 a1 q2 b kk cs hro
 exact ⟨x, a2, w2, hf.of q1, .of_steps (harr.1 _ (by simp [gotoIn, hl])) harr2⟩
theorem leaves_ok (hT : TOk P T) {fn : Func} {E0 : Env} {k : Nat} {s : St} {r : AV} {C : Ctx} {tmps : Array Value} (hB : C.B = E0.w.heap.size) (hr : resOf T fn.results.toList s = some r) : ∀ (ds : List Deferred) (E : Env), Ext E0 E →
  Good P C E k s { tmps := tmps, defers := ds } → LeavesInM Fence.wide 0 P fn tmps (Ret P E0 r s.H s.n) ds .returning E.w
 | [], E, hx, hg => by
  obtain ⟨v, hv, hrv⟩ := run_resOf hT hg hr
  exact ⟨v, hv, E, v, rfl, rfl, hx, hg.H, hg.X, hg.N, hrv⟩
 | d :: ds, E, hx, hg => by
  obtain ⟨b, e1, e2, e3, e4⟩ := hg.m.marks d (by simp)
  have hc : ∀ c t f, Obj.deferred (some []) ≠ .cells c t f := fun c t f h => by cases h
  have hnd := List.nodup_cons.1 hg.m.nd
  have hx' : Ext E0 (E.pobj b (.deferred none)) := hx.pobj (.inr (by omega)) (fun r h => by rw [e4] at h; cases h)
  refine ⟨by simp, .inl ⟨b, _, by rw [e1], run_takeDeferred e4, leaves_ok hT hB hr ds (E.pobj b (.deferred none)) hx' ⟨hg.H.pobj e4 hc e3, fun b' hb' => ?_, hg.N, RepT.pobj (a := { tmps := tmps, defers := ds }) e4 hc ⟨hg.t.size, hg.t.at_⟩, fun l e => ?_, ?_, hnd.2, fun d' hd' => ?_⟩⟩⟩
  ·simpa [Env.pobj] using hg.X b' hb'
  ·obtain ⟨r', hr'⟩ := hg.m.loop l e
   exact ⟨r', (pobj_other (by rintro rfl; rw [e4] at hr'; cases hr')).trans hr'⟩
  ·simpa [Env.pobj] using hg.m.B
  ·obtain ⟨b', f1, f2, f3, f4⟩ := hg.m.marks d' (by simp at hd' ⊢; exact .inr hd')
   refine ⟨b', f1, f2, f3, (pobj_other ?_).trans f4⟩
   rintro rfl
   exact hnd.1 (by rw [e1, ← f1]; exact hd')
theorem fillT_rep {E : Env} {k : Nat} (args : List AV) : ∀ (ps : List Nat) (vs : List Value) (t : Nat → AV) (tmps : Array Value), ps.all (fun p => decide (p < k)) = true → RepL E args vs → args.length = vs.length → RepT E k t { tmps := tmps, defers := [] } →
  RepT E k (fillT t (ps.zip args)) { tmps := (ps.zip vs).foldl (fun tmps (t, a) => tmps.setIfInBounds t a) tmps, defers := [] } := by
 induction args with
 | nil => intro ps vs t tmps _ _ hl hr; cases vs with | nil => simpa [fillT] using hr | cons => simp at hl
 | cons x args ih =>
  intro ps vs t tmps hp hv hl hr
  cases ps with
  | nil => simpa [fillT] using hr
  | cons p ps =>
   cases vs with
   | nil => simp at hl
   | cons v vs =>
    simp only [List.all_cons, Bool.and_eq_true, decide_eq_true_eq] at hp
    simp only [RepL] at hv
    have := hr.put hp.1 hv.1
    exact ih ps vs _ _ hp.2 hv.2 (by simpa using hl) this
theorem does_round {o : Oper} {t : Nat → AV} {H : Nat → Option Blk} {n i k k1 k2 : Nat} {c : Call} {f : Operand} {t0 t1 t2 : Nat → AV} {ps ps1 ps2 : Array Nat} {asg asg1 asg2 bod bod1 bod2 : Code} {s1 s2 : St} {e : Ex}
  (ho : o.op = .call c) (hc : c.callee = .value f) (hf : ev t f = .yld i) (hi : H i = some (.loop t0 k ps asg bod .ready)) (hps : ps.size = c.args.size) (hk : ps.toList.all (fun p => decide (p < k)) = true)
  (h1 : EvOk P k asg ⟨fillT t0 (ps.toList.zip (c.args.toList.map (ev t))), H, n⟩ .normal s1) (hi1 : s1.H i = some (.loop t1 k1 ps1 asg1 bod1 .ready))
  (h2 : EvOk P k bod ⟨s1.t, upd s1.H i (some (.loop t1 k1 ps1 asg1 bod1 .busy)), s1.n⟩ e s2) (hi2 : s2.H i = some (.loop t2 k2 ps2 asg2 bod2 .busy)) :
  DoesOk P o t H n (B (e == .normal)) (upd s2.H i (some (.loop t2 k2 ps2 asg2 bod2 e.stt))) s2.n := by
 intro ro E k' a K Q hlp hH hX hN hr hK
 subst hN
 obtain ⟨l, hl, r, hb, rfl, rfl, rfl, ⟨hst, hpen⟩, hsz, hrt⟩ := hH.own i _ hi
 have hx := hr.ev f
 rw [hf] at hx
 simp only [RepV] at hx
 obtain ⟨hin, b, hfv, hbl⟩ := hx
 obtain rfl : b = l.b := hbl l hl
 have hcl : ∀ (r : Loop) c t f, Obj.loop r ≠ .cells c t f := fun r c t f h => by cases h
 unfold Oper.wpIn
 refine ⟨fun _ _ => trivial, ?_⟩
 rw [Oper.semAt_eq _ _ _ (fun c' e => by rw [ho] at e; cases e)]
 have hrun : (execOp a.eval o).run P E.w = .ok (.round l.b r.fn ((r.params.zip (c.args.map a.eval)).foldl (fun tmps (t, a) => tmps.setIfInBounds t a) r.tmps) r.assign r.body) E.w := by
  unfold execOp; rw [ho]
  simp only [resolve, hc, hfv, Deferred.ofValue, Sem.run_bind, Sem.run_pure, Result.andThen_ok, invoke]
  simpa using run_yield (P := P) (args := c.args.map a.eval) hb (by simp [hps])
 rw [hrun, Oper.uponIn_round]
 refine ⟨fun h => (by cases h), roundIn_of_wpIn trivial ?_⟩
 have hargs := args_rep hr c.args.toList
 let C : Ctx := ⟨E.w.heap.size, some l.b⟩
 have hg : Good P C E k ⟨fillT t0 (r.params.toList.zip (c.args.toList.map (ev t))), H, E.N⟩ { tmps := (r.params.zip (c.args.map a.eval)).foldl (fun tmps (t, a) => tmps.setIfInBounds t a) r.tmps, defers := [] } := by
  refine ⟨hH, hX, rfl, ?_, fun l' e => (by cases e; exact ⟨r, hb⟩), Nat.le_refl _, List.nodup_nil, fun d hd => (by cases hd)⟩
  have := fillT_rep (E := E) (k := k) (c.args.toList.map (ev t)) r.params.toList (c.args.toList.map a.eval) t0 r.tmps hk hargs (by simp) ⟨hsz, hrt⟩
  rw [← Array.foldl_toList]
  simpa using this
 refine wpIn_mono (h1 C E _ hg) ?_
 rintro x a1 w1 ⟨rfl, E1, rfl, x1, g1⟩
 obtain ⟨l1, hl1, r1, hb1, p1, p2, p3, ⟨hst1, hpen1⟩, hsz1, hrt1⟩ := g1.H.own i _ hi1
 have e1 : l1 = l := by have := x1.old i l1 hin hl1; rw [hl] at this; cases this; rfl
 subst e1
 refine ⟨_, run_beginRound hb1 hst1, ?_⟩
 have x2 : Ext E (E1.pobj l1.b (.loop { r1 with state := .busy })) := x1.pobj (.inl ⟨i, l1, hl, rfl⟩) (fun r _ => ⟨_, rfl⟩)
 have g2 : Good P C (E1.pobj l1.b (.loop { r1 with state := .busy })) k ⟨s1.t, upd s1.H i (some (.loop t1 k1 ps1 asg1 bod1 .busy)), s1.n⟩ a1 := by
  refine ⟨g1.H.pobjAt hb1 (hcl _) hl1 ⟨{ r1 with state := .busy }, ?_, p1, p2, p3, rfl, hsz1, fun j => RepV.pobj hb1 (hcl _) _ _ (hrt1 j)⟩, fun b' hb' => by simpa [Env.pobj] using g1.X b' hb', g1.N, g1.t.pobj hb1 (hcl _), fun l' e => ?_, ?_, g1.m.nd, fun d hd => ?_⟩
  ·simp [Env.pobj, lt_of_block hb1]
  ·cases e; exact ⟨{ r1 with state := .busy }, by simp [Env.pobj, lt_of_block hb1]⟩
  ·simpa [Env.pobj] using g1.m.B
  ·obtain ⟨b', f1, f2, f3, f4⟩ := g1.m.marks d hd
   exact ⟨b', f1, f2, f3, (pobj_other (by rintro rfl; rw [hb1] at f4; cases f4)).trans f4⟩
 refine wpIn_mono (h2 C _ a1 g2) ?_
 rintro x a2 w2 ⟨rfl, E3, rfl, x3, g3⟩
 obtain ⟨l3, hl3, r3, hb3, p31, p32, p33, hst3, hsz3, hrt3⟩ := g3.H.own i _ hi2
 have e3 : l3 = l1 := by have := (x2.trans x3).old i l3 hin hl3; rw [hl] at this; cases this; rfl
 subst e3
 have key : ∀ (r' : Loop) (e' : LSt), r'.params = r3.params → r'.assign = r3.assign → r'.body = r3.body → r'.tmps = r3.tmps → e'.fits r' → ∀ z, K (a.put o.dst (.bool z)) (E3.w.putObj l3.b (.loop r')) ∨ e' ≠ e.stt ∨ z ≠ (e == .normal) := by
  intro r' e' q1 q2 q3 q4 q5 z
  by_cases he : e' = e.stt
  ·by_cases hz : z = (e == .normal)
   ·left
    subst he; subst hz
    refine hK (E3.pobj l3.b (.loop r')) _ ((x2.trans x3).pobj (.inl ⟨i, l3, hl, rfl⟩) (fun r _ => ⟨_, rfl⟩)) ?_ (fun b' hb' => by simpa [Env.pobj] using g3.X b' hb') g3.N (rep_sc _)
    refine g3.H.pobjAt hb3 (hcl _) hl3 ⟨r', ?_, by rw [q1, p31], by rw [q2, p32], by rw [q3, p33], q5, by rw [q4, hsz3], fun j => by rw [q4]; exact RepV.pobj hb3 (hcl _) _ _ (hrt3 j)⟩
    simp [Env.pobj, lt_of_block hb3]
   ·exact .inr (.inr hz)
  ·exact .inr (.inl he)
 cases e with
 | normal => exact ⟨_, _, run_endRound none hb3, ((key { r3 with state := .ready, pending := none } .ready rfl rfl rfl rfl ⟨rfl, rfl⟩ true).resolve_right (by simp [Ex.stt]))⟩
 | exit j => exact ⟨_, _, run_endRound (some (.exit j)) hb3, ((key { r3 with state := .done, pending := some (.exit j) } (.done (.exit j)) rfl rfl rfl rfl ⟨rfl, rfl⟩ false).resolve_right (by simp [Ex.stt]))⟩
 | goto j => exact ⟨_, _, run_endRound (some (.goto j)) hb3, ((key { r3 with state := .done, pending := some (.goto j) } (.done (.goto j)) rfl rfl rfl rfl ⟨rfl, rfl⟩ false).resolve_right (by simp [Ex.stt]))⟩
 | ret => exact ⟨_, _, run_endRound (some .ret) hb3, ((key { r3 with state := .done, pending := some .ret } (.done .ret) rfl rfl rfl rfl ⟨rfl, rfl⟩ false).resolve_right (by simp [Ex.stt]))⟩
def LSt.goes : LSt → Prop → (Code → Prop) → Prop
 | .done c, _, J => J c
 | _, N, _ => N
theorem alloc_old {w : World} {o : Obj} {b : Nat} (h : b < w.heap.size) : (w.alloc o).heap[b]? = w.heap[b]? := by
 show (w.heap.push o)[b]? = _
 rw [Array.getElem?_push, if_neg (by omega)]
theorem range_ok {k : Nat} {f : Operand} {ps : Array Nat} {asg bod : Code} {s : St} {g : FuncId} {first caps : List AV} {fn : Func} {body : Code} {r : AV} {H' : Nat → Option Blk} {n' : Nat} {t0 : Nat → AV} {k0 : Nat} {ps0 : Array Nat} {asg0 bod0 : Code} {st : LSt}
  (hf : ev s.t f = .fn (.func g) first caps) (q1 : P.funcs[g]? = some fn) (q2 : fn.body = some body) (q3 : (fn.name == "runtime.NumGoroutine") = false)
  (hrun : RunOk P g (first ++ [.yld s.n] ++ caps) (upd s.H s.n (some (.loop s.t k ps asg bod .ready))) (s.n + 1) r H' n') (hH' : H' s.n = some (.loop t0 k0 ps0 asg0 bod0 st)) (hbusy : st ≠ .busy)
  {C : Ctx} {E : Env} {a : Act} (hg : Good P C E k s a) {Q : Exit → Act → World → Prop}
  (hQ : ∀ E' a', Ext E E' → Good P C E' k ⟨s.t, upd H' s.n none, n'⟩ a' → st.goes (Q .normal a' E'.w) (fun c => c.wpIn (FR C.ro) 0 P Q a' E'.w)) :
  (Code.rangeFunc f ps asg bod).wpIn (FR C.ro) 0 P Q a E.w := by
 refine wpIn_rangeFunc fun fnid _ => ?_
 have hcl : ∀ (r : Loop) c t f, Obj.loop r ≠ .cells c t f := fun r c t f h => by cases h
 obtain ⟨lb, mark, W1, rec, he, hlb, hlt, hold, hrec, hrec1, hrec2, hrec3, hrec4, hrec5, hos, htape, hout, hmark⟩ : ∃ (lb : Nat) (mark : List Deferred) (W1 : World) (rec : Loop),
   (Instr.enterLoop fnid a.tmps ps asg bod (FR C.ro).round).run P E.w = .ok (lb, mark) W1 ∧ E.w.heap.size ≤ lb ∧ lb < W1.heap.size ∧ (∀ b, b < E.w.heap.size → W1.heap[b]? = E.w.heap[b]?) ∧
   W1.heap[lb]? = some (.loop rec) ∧ rec.tmps = a.tmps ∧ rec.params = ps ∧ rec.assign = asg ∧ rec.body = bod ∧ (rec.state = .ready ∧ rec.pending = none) ∧ W1.os = E.w.os ∧ W1.tape = E.w.tape ∧ W1.output = E.w.output ∧
   mark.Nodup ∧ ∀ d ∈ mark, ∃ b, d = ({ target := .collected b, args := #[] } : Deferred) ∧ E.w.heap.size ≤ b ∧ b ≠ lb ∧ W1.heap[b]? = some (.deferred (some [])) := by
  cases hro : C.ro with
  | none =>
   refine ⟨_, _, _, { state := .ready, pending := none, fn := fnid, tmps := a.tmps, params := ps, assign := asg, body := bod, defers := E.w.heap.size }, run_enterLoop_outer _ _ _ _ _, by omega, by simp, fun b hb => ?_, ?_, rfl, rfl, rfl, rfl, ⟨rfl, rfl⟩, rfl, rfl, rfl, by simp, fun d hd => ?_⟩
   ·exact (alloc_old (by simp; omega)).trans (alloc_old hb)
   ·have := World.alloc_heap_new (E.w.alloc (.deferred (some []))) (.loop { state := .ready, pending := none, fn := fnid, tmps := a.tmps, params := ps, assign := asg, body := bod, defers := E.w.heap.size })
    rwa [World.size_alloc] at this
   ·simp only [List.mem_singleton] at hd
    exact ⟨_, hd, Nat.le_refl _, by omega, (alloc_old (by simp)).trans (World.alloc_heap_new _ _)⟩
  | some l0 =>
   obtain ⟨r0, hr0⟩ := hg.m.loop l0 hro
   refine ⟨_, _, _, { state := .ready, pending := none, fn := fnid, tmps := a.tmps, params := ps, assign := asg, body := bod, defers := r0.defers }, run_enterLoop_inner hr0 _ _ _ _ _, Nat.le_refl _, by simp, fun b hb => alloc_old hb, World.alloc_heap_new _ _, rfl, rfl, rfl, rfl, ⟨rfl, rfl⟩, rfl, rfl, rfl, List.nodup_nil, fun d hd => by cases hd⟩
 have hN := hg.N
 let E1 : Env := ⟨E.X, E.N + 1, upd E.m E.N (some ⟨lb, 0, 0⟩), W1⟩
 have hun : ∀ j l', E.m j = some l' → j ≠ E.N ∧ l'.b ≠ lb := fun j l' h => by
  have := hg.H.lt j l' h
  exact ⟨by omega, by omega⟩
 have hsz1 : E.w.heap.size ≤ W1.heap.size := by omega
 have x1 : Ext E E1 := by
  refine ⟨rfl, Nat.le_succ _, hos, htape, hout, hsz1, fun b hb _ => hold b hb, fun j l' hj hl => ?_, fun j l' hl => ?_, fun b r hb => ⟨r, (hold b (lt_of_block hb)).trans hb⟩⟩
  ·simp only [E1] at hl; rwa [upd_ne _ _ (by omega)] at hl
  ·simp only [E1] at hl
   by_cases e : j = E.N
   ·subst e; rw [upd_same] at hl; cases hl; exact .inl hlb
   ·rw [upd_ne _ _ e] at hl; exact .inr ⟨j, l', hl, rfl⟩
 have hH1 : RepH P E1 (upd s.H s.n (some (.loop s.t k ps asg bod .ready))) := by
  rw [← hN]
  refine ⟨fun j blk hb => ?_, fun j l' hl => ?_, fun j j' l' l'' hl hl' e => ?_, hg.H.glob.ext x1⟩
  ·by_cases e : j = E.N
   ·subst e
    rw [upd_same] at hb; cases hb
    exact ⟨⟨lb, 0, 0⟩, by simp only [E1]; rw [upd_same], rec, hrec, hrec2, hrec3, hrec4, hrec5, by rw [hrec1]; exact hg.t.size, fun j => by rw [hrec1]; exact RepV.ext x1 _ _ (hg.t.at_ j)⟩
   ·rw [upd_ne _ _ e] at hb
    obtain ⟨l', hl, hr⟩ := hg.H.own j blk hb
    exact ⟨l', by simp only [E1]; rw [upd_ne _ _ e]; exact hl, RepB.ext x1 (hold _ (hg.H.lt j l' hl).2.1) hr⟩
  ·simp only [E1] at hl ⊢
   by_cases e : j = E.N
   ·subst e; rw [upd_same] at hl; cases hl
    exact ⟨Nat.lt_succ_self _, hlt, fun hx => by have := hg.X _ hx; simp only at this; omega, _, upd_same _ _ _⟩
   ·rw [upd_ne _ _ e] at hl
    obtain ⟨g1, g2, g3, g4⟩ := hg.H.lt j l' hl
    exact ⟨by omega, by omega, g3, by rw [upd_ne _ _ e]; exact g4⟩
  ·simp only [E1] at hl hl'
   by_cases e1 : j = E.N <;> by_cases e2 : j' = E.N
   ·omega
   ·subst e1; rw [upd_same] at hl; cases hl
    rw [upd_ne _ _ e2] at hl'
    exact absurd e.symm (hun j' l'' hl').2
   ·subst e2; rw [upd_same] at hl'; cases hl'
    rw [upd_ne _ _ e1] at hl
    exact absurd e (hun j l' hl).2
   ·rw [upd_ne _ _ e1] at hl; rw [upd_ne _ _ e2] at hl'; exact hg.H.inj j j' l' l'' hl hl' e
 have hx := hg.t.ev f
 rw [hf] at hx
 simp only [RepV] at hx
 obtain ⟨x, y, ex, l1, r1, l2, r2⟩ := hx
 have hyld : RepV E1 (.yld s.n) (.func (.yield lb) #[] #[]) := by
  simp only [RepV]
  refine ⟨by simp only [E1]; omega, lb, rfl, fun l' hl => ?_⟩
  simp only [E1] at hl
  rw [← hN, upd_same] at hl; cases hl; rfl
 have hargs : RepL E1 (first ++ [.yld s.n] ++ caps) (x ++ #[Value.func (.yield lb) #[] #[]] ++ y).toList := by
  simp only [Array.toList_append]
  exact RepL.append (RepL.append (RepL.ext x1 _ _ r1) l1 (by simp [RepL, hyld])) (by simp at l1 ⊢; omega) (RepL.ext x1 _ _ r2)
 have hcalls := hrun E1 (x ++ #[Value.func (.yield lb) #[] #[]] ++ y) hH1 (fun b hb => Nat.lt_of_lt_of_le (hg.X b hb) hsz1) (by simp only [E1]; omega) hargs (by simp at l1 l2 ⊢; omega)
 refine ⟨lb, mark, W1, { target := .fn (.func g) y, args := x ++ #[Value.func (.yield lb) #[] #[]] }, W1, g, x ++ #[Value.func (.yield lb) #[] #[]] ++ y, W1, he, ?_, fun _ _ => trivial, ?_, fun h => (by cases h), callsIn_any (hcalls.mono fun e w' hret => ?_)⟩
 ·simp only [resolve, ex, Deferred.ofValue, Sem.run_bind, Sem.run_pure, Result.andThen_ok]
  simp [go_sem]
 ·simp [invoke, callFunc, q1, q2, q3, Sem.run_bind, Result.andThen_ok]
  simpa using q3
 obtain ⟨E2, v, rfl, rfl, x2, hH2, hX2, hN2, _⟩ := hret
 obtain ⟨l2, hl2, r2, hb2, _, _, _, hst, _, _⟩ := hH2.own s.n _ hH'
 have hlb2 : l2.b = lb := by
  have := x2.old s.n l2 (by simp only [E1]; omega) hl2
  simp only [E1] at this
  rw [← hN, upd_same] at this; cases this; rfl
 rw [hlb2] at hb2
 have hnb : r2.state ≠ .busy := by
  cases st with
  | ready => rw [hst.1]; simp
  | busy => exact absurd rfl hbusy
  | done c => rw [hst.1]; simp
 have hx2 := x1.trans x2
 let E2r : Env := { E2 with m := upd E2.m s.n none }
 have hfr := forget_rep hH2 hX2 s.n
 have hm2 : ∀ j l', E2r.m j = some l' → l'.b ≠ lb := by
  intro j l' hl e
  simp only [E2r] at hl
  by_cases ej : j = s.n
  ·subst ej; rw [upd_same] at hl; cases hl
  ·rw [upd_ne _ _ ej] at hl
   exact ej (hH2.inj j s.n l' l2 hl hl2 (e.trans hlb2.symm))
 have x3 : Ext E E2r := hx2.trans hfr.1
 have x4 : Ext E (E2r.pobj lb (.loop { r2 with state := .exhausted })) := x3.pobj (.inr hlb) (fun r _ => ⟨_, rfl⟩)
 have hlb4 : lb < E2.w.heap.size := lt_of_block hb2
 have hg4 : Good P C (E2r.pobj lb (.loop { r2 with state := .exhausted })) k ⟨s.t, upd H' s.n none, n'⟩ { a with defers := mark ++ a.defers } := by
  have hm4 := hg.m.ext x4
  refine ⟨RepH.pobj (E := E2r) hb2 (hcl _) hm2 hfr.2, fun b' hb' => by simpa [Env.pobj, E2r] using hX2 b' hb', hN2, ⟨hg.t.size, fun j => RepV.ext x4 _ _ (hg.t.at_ j)⟩, hm4.loop, hm4.B, ?_, fun d hd => ?_⟩
  ·refine List.nodup_append.2 ⟨hmark.1, hg.m.nd, fun d hd d' hd' e => ?_⟩
   subst e
   obtain ⟨b, f1, f2, _⟩ := hmark.2 d hd
   obtain ⟨b', g1, _, _, g2⟩ := hg.m.marks d hd'
   rw [f1] at g1; cases g1
   have := lt_of_block g2
   omega
  ·rcases List.mem_append.1 hd with hd | hd
   ·obtain ⟨b, f1, f2, f3, f4⟩ := hmark.2 d hd
    have hb1 : b < W1.heap.size := lt_of_block f4
    have hnm : ∀ j l', E1.m j = some l' → l'.b ≠ b := by
     intro j l' hl e
     simp only [E1] at hl
     by_cases ej : j = E.N
     ·subst ej; rw [upd_same] at hl; cases hl; exact f3 e.symm
     ·rw [upd_ne _ _ ej] at hl
      have := (hg.H.lt j l' hl).2.1
      omega
    have x2r : Ext E1 E2r := x2.trans hfr.1
    refine ⟨b, f1, Nat.le_trans hg.m.B f2, fun j l' hl e => ?_, ?_⟩
    ·rcases x2r.new j l' hl with h' | ⟨j', l'', hj', e''⟩
     ·simp only [E1] at h'; omega
     ·exact hnm j' l'' hj' (e''.trans e)
    ·exact (pobj_other f3).trans ((x2r.keep b hb1 hnm).trans f4)
   ·exact hm4.marks d hd
 have := hQ _ _ x4 hg4
 obtain ⟨pj, hpj⟩ : ∃ pj, r2.pending = pj := ⟨_, rfl⟩
 refine ⟨pj, _, (run_endLoop hb2 hnb).trans (congrArg (fun q => Result.ok q _) hpj), ?_⟩
 cases st with
 | ready => obtain rfl : pj = none := hpj.symm.trans hst.2; exact this
 | busy => exact absurd rfl hbusy
 | done c => obtain rfl : pj = some c := hpj.symm.trans hst.2; exact this
theorem run_ok (hT : TOk P T) {f : FuncId} {fn : Func} {c : Code} {args : List AV} {H : Nat → Option Blk} {n : Nat} {e : Ex} {s' : St} {r : AV} (h1 : P.funcs[f]? = some fn) (h2 : fn.body = some c) (h4 : args.length ≤ fn.ntmps)
  (h5 : EvOk P fn.ntmps c ⟨initT args, H, n⟩ e s') (h6 : e = .ret ∨ e = .normal) (h7 : resOf T fn.results.toList s' = some r) : RunOk P f args H n r s'.H s'.n := by
 intro E vs hH hX hN hargs hlen
 refine (callsIn_wide (n := 0)).1 (callsIn_of_wp_marks h1 h2 trivial (wpIn_mono (h5 ⟨E.w.heap.size, none⟩ E _ ⟨hH, hX, hN, init_rep hargs hlen h4, fun l e => (by cases e), Nat.le_refl _, List.nodup_nil, fun d hd => (by cases hd)⟩) fun x a w hf => ?_))
 obtain ⟨rfl, E', rfl, q1, q2⟩ := hf
 have := leaves_ok hT (fn := fn) (tmps := a.tmps) rfl h7 a.defers E' q1 q2
 rcases h6 with rfl | rfl <;> exact this
theorem vop_congr {t t' : Nat → AV} {H : Nat → Option Blk} {op : Op} (h : ∀ x ∈ op.operands, ev t' x = ev t x) : vop T t' H op = vop T t H op := by
 have lists : ∀ l : List Operand, (∀ x ∈ l, ev t' x = ev t x) → l.map (ev t') = l.map (ev t) := fun l hl => List.map_congr_left hl
 have opts : ∀ x : Option Operand, (∀ y ∈ x.toList, ev t' y = ev t y) → x.map (ev t') = x.map (ev t) := by
  intro x hx
  cases x with
  | none => rfl
  | some y => simp [hx y (by simp)]
 cases op with
 | build ty ps =>
  simp only [vop]
  have : (ps.toList.map fun p => (p.1, ev t' p.2)) = (ps.toList.map fun p => (p.1, ev t p.2)) := List.map_congr_left fun p hp => by
   rw [h p.2 (by simp only [Op.operands, List.mem_toArray, List.mem_map]; exact ⟨p, hp, rfl⟩)]
  rw [this]
 | makeFunc f a b =>
  simp only [vop]
  rw [lists a.toList fun x hx => h x (by simp [Op.operands]; exact .inl (by simpa using hx)), lists b.toList fun x hx => h x (by simp [Op.operands]; exact .inr (by simpa using hx))]
 | slice s x lo hi mx =>
  simp only [vop]
  rw [h x (by simp [Op.operands]), opts lo fun y hy => h y (by simp [Op.operands]; simp at hy; simp [hy]), opts hi fun y hy => h y (by simp [Op.operands]; simp at hy; simp [hy]), opts mx fun y hy => h y (by simp [Op.operands]; simp at hy; simp [hy])]
 | call c =>
  obtain ⟨callee, args, ats⟩ := c
  have ha : args.toList.map (ev t') = args.toList.map (ev t) := lists _ fun x hx => h x (by simp [Op.operands, Call.operands]; exact .inr (by simpa using hx))
  cases callee with
  | builtin b => cases b <;> simp only [vop, ha]
  | _ => rfl
 | _ => first | rfl | (simp only [vop]; simp only [Op.operands] at h; simp_all)
theorem mop_congr {t t' : Nat → AV} {H : Nat → Option Blk} {n : Nat} {op : Op} (h : ∀ x ∈ op.operands, ev t' x = ev t x) : mop T t' H n op = mop T t H n op := by
 have lists : ∀ l : List Operand, (∀ x ∈ l, ev t' x = ev t x) → l.map (ev t') = l.map (ev t) := fun l hl => List.map_congr_left hl
 cases op with
 | buildSlice ty len ps =>
  simp only [mop]
  have : (ps.toList.map fun p => (p.1, ev t' p.2)) = (ps.toList.map fun p => (p.1, ev t p.2)) := List.map_congr_left fun p hp => by
   rw [h p.2 (by simp only [Op.operands, List.mem_toArray, List.mem_map]; exact ⟨p, hp, rfl⟩)]
  rw [this]
 | call c =>
  obtain ⟨callee, args, ats⟩ := c
  have ha : args.toList.map (ev t') = args.toList.map (ev t) := lists _ fun x hx => h x (by simp [Op.operands, Call.operands]; exact .inr (by simpa using hx))
  cases callee with
  | builtin b => cases b <;> simp only [mop, ha]
  | _ => rfl
 | makeMap mt x => cases x <;> rfl
 | next x q =>
  cases q with
  | false => rfl
  | true => simp only [mop]; simp only [Op.operands] at h; rw [h x (by simp)]
 | _ => first | rfl | (simp only [mop]; simp only [Op.operands] at h; simp_all)
theorem vop_reads {t : Nat → AV} {H H2 : Nat → Option Blk} {op : Op} (h : ∀ j ∈ readsOf t op, H2 j = H j) : vop T t H2 op = vop T t H op := by
 cases op with
 | load ty a =>
  simp only [vop]
  simp only [readsOf] at h
  cases hx : ev t a with
  | own i o => rw [hx] at h; simp only [h i (by simp)]
  | _ => rfl
 | slice s x lo hi mx =>
  simp only [readsOf] at h
  simp only [vop]
  cases hx : ev t x with
  | osl i o n c =>
   rw [hx] at h
   have hi := h i (by simp)
   have e1 : ∀ e z, limOf H2 e z i o n c = limOf H e z i o n c := by intro e z; unfold limOf; cases c <;> simp only [hi]
   have e2 : ∀ e, natOk H2 e i c = natOk H e i c := by intro e; unfold natOk; cases c <;> simp only [hi]
   cases T s with
   | none => rfl
   | some ti =>
    obtain ⟨tk, _, _, _, _⟩ := ti
    cases tk with
    | slice e => simp only [e1, e2]
    | _ => rfl
  | sc v =>
   cases T s with
   | none => rfl
   | some ti =>
    obtain ⟨tk, _, _, _, _⟩ := ti
    cases tk with
    | slice e =>
     cases v with
     | slice a n c => cases a <;> cases n <;> cases c <;> rfl
     | _ => rfl
    | str => cases v <;> rfl
    | _ => rfl
  | _ =>
   cases T s with
   | none => rfl
   | some ti => obtain ⟨tk, _, _, _, _⟩ := ti; cases tk <;> rfl
 | lookup xt x ix ok =>
  simp only [readsOf] at h
  simp only [vop]
  have : mapOf H2 (ev t x) = mapOf H (ev t x) := by
   unfold mapOf
   split
   ·rename_i i e; rw [e] at h; rw [h i (by simp)]
   ·rfl
   ·rfl
  rw [this]
 | call c =>
  obtain ⟨callee, args, ats⟩ := c
  cases callee with
  | builtin b => cases b <;> rfl
  | _ => rfl
 | _ => rfl
theorem readsOf_congr {t t' : Nat → AV} {op : Op} (h : ∀ x ∈ op.operands, ev t' x = ev t x) : readsOf t' op = readsOf t op := by
 cases op with
 | load ty a => simp only [readsOf]; rw [h a (by simp [Op.operands])]
 | slice s x lo hi mx => simp only [readsOf]; rw [h x (by simp [Op.operands])]
 | lookup xt x ix ok => simp only [readsOf]; rw [h x (by simp [Op.operands])]
 | _ => rfl
mutual
theorem View.agree {H H2 : Nat → Option Blk} {ids : List Nat} (h : ∀ j ∈ ids, H2 j = H j) : ∀ {a a' : AV}, View T H ids a a' → View T H2 ids a a'
 | _, _, .free q => .free q
 | _, _, .own q1 q2 q3 => .own q1 (by rw [h _ q1]; exact q2) (ViewL.agree h q3)
 | _, _, .osl q q1 q2 q3 => .osl q q1 (by rw [h _ q1]; exact q2) (ViewL.agree h q3)
 | _, _, .oslF q q1 q2 q3 => .oslF q q1 (by rw [h _ q1]; exact q2) (ViewL.agree h q3)
 | _, _, .nilS => .nilS
 | _, _, .eslS => .eslS
 | _, _, .sslF q => .sslF q
 | _, _, .agg q => .agg (ViewL.agree h q)
 | _, _, .tup q => .tup (ViewL.agree h q)
 | _, _, .fn q r => .fn (ViewL.agree h q) (ViewL.agree h r)
theorem ViewL.agree {H H2 : Nat → Option Blk} {ids : List Nat} (h : ∀ j ∈ ids, H2 j = H j) : ∀ {a a' : List AV}, ViewL T H ids a a' → ViewL T H2 ids a a'
 | _, _, .free q => .free q
 | _, _, .nil => .nil
 | _, _, .cons q r => .cons (View.agree h q) (ViewL.agree h r)
end
theorem call_operands {o : Oper} {c : Call} {f : Operand} (ho : o.op = .call c) (hc : c.callee = .value f) {t t' : Nat → AV} (h : ∀ x ∈ o.op.operands, ev t' x = ev t x) : ev t' f = ev t f ∧ c.args.toList.map (ev t') = c.args.toList.map (ev t) := by
 rw [ho] at h
 refine ⟨h f (by simp [Op.operands, Call.operands, hc]), List.map_congr_left fun x hx => h x (by simp [Op.operands, Call.operands]; exact .inr (by simpa using hx))⟩
def DoesROk (P : Program) (o : Oper) (t : Nat → AV) (H : Nat → Option Blk) (v : AV) (R : List Nat) : Prop :=
 ∀ t' H2 n2, (∀ x ∈ o.op.operands, ev t' x = ev t x) → (∀ j ∈ R, H2 j = H j) → DoesOk P o t' H2 n2 v H2 n2
theorem vop_doesR (hT : TOk P T) {o : Oper} {t : Nat → AV} {H : Nat → Option Blk} {v : AV} (h : vop T t H o.op = some v) : DoesROk P o t H v (readsOf t o.op) :=
 fun t' H2 n2 ht' hR => vop_does hT (by rw [vop_reads (H := H) (by rw [readsOf_congr ht']; exact hR), vop_congr ht']; exact h)
def DoesM (P : Program) (o : Oper) (t : Nat → AV) (H : Nat → Option Blk) (n : Nat) (v : AV) (H' : Nat → Option Blk) (n' : Nat) : Prop :=
 ∀ t', (∀ x ∈ o.op.operands, ev t' x = ev t x) → DoesOk P o t' H n v H' n'
theorem call_doesM {o : Oper} {t : Nat → AV} {H H' : Nat → Option Blk} {n n' : Nat} {v : AV} {c : Call} {f : Operand} {g : FuncId} {first caps : List AV} {fn : Func} {body : Code}
  (ho : o.op = .call c) (hc : c.callee = .value f) (hf : ev t f = .fn (.func g) first caps) (h1 : P.funcs[g]? = some fn) (h2 : fn.body = some body) (h3 : (fn.name == "runtime.NumGoroutine") = false)
  (h : RunOk P g (first ++ c.args.toList.map (ev t) ++ caps) H n v H' n') : DoesM P o t H n v H' n' := by
 intro t' ht'
 obtain ⟨e1, e2⟩ := call_operands ho hc ht'
 exact does_call ho hc (e1.trans hf) h1 h2 h3 (by rw [e2]; exact h)
theorem allocEq_rd {o : Oper} {t : Nat → AV} {H : Nat → Option Blk} {n : Nat} {v : AV} {R : List Nat} (h : DoesR P T o t H v R) : AllocEq T o.op t H n v H n := by
 intro e
 cases h with
 | vop h => cases ho : o.op <;> rw [ho] at h e <;> first | (simp [vop] at h; done) | cases e
 | callF h1 => rw [h1] at e; cases e
 | callB ids h1 => rw [h1] at e; cases e
theorem allocEq_mem {o : Oper} {t : Nat → AV} {H H' : Nat → Option Blk} {n n' : Nat} {v : AV} (h : Does P T o t H n v H' n') : AllocEq T o.op t H n v H' n' := by
 intro e
 cases h with
 | vop h => cases ho : o.op <;> rw [ho] at h e <;> first | (simp [vop] at h; done) | cases e
 | mop h => exact newOf_mop e h
 | callS h1 => rw [h1] at e; cases e
 | callF h1 => rw [h1] at e; cases e
 | callB ids h1 => rw [h1] at e; cases e
 | round h1 => rw [h1] at e; cases e
mutual
theorem Does.sound (hT : TOk P T) : ∀ {o : Oper} {t : Nat → AV} {H H' : Nat → Option Blk} {n n' : Nat} {v : AV}, Does P T o t H n v H' n' → DoesM P o t H n v H' n'
 | _, _, _, _, _, _, _, .vop h => fun t' ht' => vop_does hT (by rw [vop_congr ht']; exact h)
 | _, _, _, _, _, _, _, .mop h => fun t' ht' => mop_does hT (by rw [mop_congr ht']; exact h)
 | _, _, _, _, _, _, _, .callS h1 h2 h3 h4 => by
  obtain ⟨fn, c, e1, e2, e3⟩ := h4.fn
  exact call_doesM h1 h2 h3 e1 e2 e3 (Run.sound hT h4)
 | _, _, _, _, _, _, _, .callF h1 h2 h3 h4 h5 h6 => by
  obtain ⟨fn, c, e1, e2, e3⟩ := h5.fn
  exact call_doesM h1 h2 h3 e1 e2 e3 (callF_ok (T := T) [] (.free h4) (Run.sound hT h5) (.inl ⟨rfl, h6⟩))
 | _, _, _, _, _, _, _, .callB ids h1 h2 h3 h4 h5 h6 => by
  obtain ⟨fn, c, e1, e2, e3⟩ := h5.fn
  exact call_doesM h1 h2 h3 e1 e2 e3 (callF_ok (T := T) ids h4 (Run.sound hT h5) h6)
 | _, _, _, _, _, _, _, .round h1 h2 h3 h4 h5 h6 h7 h8 h9 h10 => fun t' ht' => by
  obtain ⟨e1, e2⟩ := call_operands h1 h2 ht'
  exact does_round h1 h2 (e1.trans h3) h4 h5 h6 (by rw [e2]; exact Ev.sound hT h7) h8 (Ev.sound hT h9) h10
theorem DoesR.sound (hT : TOk P T) : ∀ {o : Oper} {t : Nat → AV} {H : Nat → Option Blk} {v : AV} {R : List Nat}, DoesR P T o t H v R → DoesROk P o t H v R
 | _, _, _, _, _, .vop h => vop_doesR hT h
 | _, _, _, _, _, .callF h1 h2 h3 h4 h5 h6 => fun t' H2 n2 ht' _ => by
  obtain ⟨fn, c, e1, e2, e3⟩ := h5.fn
  exact call_doesM h1 h2 h3 e1 e2 e3 (callF_ok (T := T) [] (.free h4) (Run.sound hT h5) (.inl ⟨rfl, h6⟩)) t' ht'
 | _, _, _, _, _, .callB ids h1 h2 h3 h4 h5 h6 => fun t' H2 n2 ht' hR => by
  obtain ⟨fn, c, e1, e2, e3⟩ := h5.fn
  exact call_doesM h1 h2 h3 e1 e2 e3 (callF_ok (T := T) ids (h4.agree hR) (Run.sound hT h5) h6) t' ht'
theorem EvL.sound (hT : TOk P T) : ∀ {k : Nat} {G : Array Oper} {L : List Oper} {s s' : St}, EvL P T k G L s s' → EvLOk P k G L s s'
 | _, _, _, _, _, .nil => fun C E a idxs Q hg hi hQ => by
  match idxs, hi with
  | [], _ => exact hQ E a (Ext.refl _) hg
 | _, _, _, _, _, .skip h1 h2 h3 => evL_skip h1 h2 (EvL.sound hT h3)
 | _, _, _, _, _, .op h1 h2 h3 h4 => evL_op h1 h2 (Does.sound hT h3 _ fun _ _ => rfl) (EvL.sound hT h4)
 | _, _, _, _, _, .weak ids h1 h2 => fun C E a idxs Q hg hi hQ => by
  obtain ⟨F, q1, q2, q3⟩ := hg.weak h1
  rw [← q2]
  exact EvL.sound hT h2 C F a idxs Q q3 hi fun E' a' r1 r2 => hQ E' a' (q1.trans r1) r2
theorem EvD.sound (hT : TOk P T) : ∀ {k : Nat} {G : Array Oper} {cl : List Cls} {L : List Nat} {s s' : St}, EvD P T k G cl L s s' → SemD P T k G cl L s s'
 | _, _, _, _, _, _, .nil => rfl
 | _, _, _, _, _, _, .skip h0 h1 h2 h3 => ⟨_, h0, h2, .inl ⟨h1, EvD.sound hT h3⟩⟩
 | _, _, _, _, _, _, .rd h0 h1 h2 h3 h4 h5 h6 => ⟨_, h0, h2, .inr ⟨h1, _, _, _, _, h4, ⟨rfl, rfl, fun t' H2 n2 q1 q2 => DoesR.sound hT h3 t' H2 n2 q1 fun j hj => q2 j (h5 j hj)⟩, allocEq_rd h3, EvD.sound hT h6⟩⟩
 | _, _, _, _, _, _, .mem h0 h1 h2 h3 h4 h5 h6 => ⟨_, h0, h2, .inr ⟨h1, _, _, _, _, h4, ⟨Does.sound hT h3, h5⟩, allocEq_mem h3, EvD.sound hT h6⟩⟩
theorem Ev.sound (hT : TOk P T) : ∀ {k : Nat} {c : Code} {s s' : St} {e : Ex}, Ev P T k c s e s' → EvOk P k c s e s'
 | _, _, _, _, _, .skip => fun C E a hg => wpIn_skip ⟨rfl, E, rfl, Ext.refl _, hg⟩
 | _, _, _, _, _, .label => fun C E a hg => wpIn_label ⟨rfl, E, rfl, Ext.refl _, hg⟩
 | _, _, _, _, _, .exit => fun C E a hg => wpIn_exit ⟨rfl, E, rfl, Ext.refl _, hg⟩
 | _, _, _, _, _, .goto => fun C E a hg => wpIn_goto ⟨rfl, E, rfl, Ext.refl _, hg⟩
 | _, _, _, _, _, .ret => fun C E a hg => wpIn_ret ⟨rfl, E, rfl, Ext.refl _, hg⟩
 | _, _, _, _, _, .region (ops := ops) h => fun C E a hg => wpIn_region (EvL.sound hT h C E a _ _ hg (by
   apply List.ext_getElem?
   intro i
   simp only [List.getElem?_map, Array.getElem?_toList]
   rcases Nat.lt_or_ge i ops.size with hi | hi
   ·rw [List.getElem?_range hi]; simp [Array.getElem?_eq_getElem hi]
   ·rw [List.getElem?_eq_none (by simpa using hi), Array.getElem?_eq_none hi]; rfl) fun E' a' q1 q2 => ⟨rfl, E', rfl, q1, q2⟩)
 | _, _, _, _, _, .regionD (ops := ops) cl q hm hok hl h => fun C E a hg => by
  obtain ⟨q1, q2⟩ := drawn_rep hg.H (E.w.drawn + 1)
  have hg' : Good P C { E with w := { E.w with drawn := E.w.drawn + 1 } } _ _ a := ⟨q2, hg.X, hg.N, hg.t.ext q1, hg.m.ext q1⟩
  refine wpIn_region_any hm ?_
  have hdf : ∀ b, (Array.replicate ops.size false).getD b false = false := by
   intro b
   simp only [Array.getD_eq_getD_getElem?, Array.getElem?_replicate]
   split <;> rfl
  have := semD_any hT hok hl (List.range ops.size) C (Array.replicate ops.size false) { E with w := { E.w with drawn := E.w.drawn + 1 } } _ _ a (Fin P C E _ .normal _) List.pairwise_lt_range (by simp)
   (fun i => by simp only [List.mem_range, hdf, and_true]) (fun b o hb => by rw [hdf] at hb; cases hb) (EvD.sound hT h) hg' (fun E' a' r1 r2 => ⟨rfl, E', rfl, q1.trans r1, r2⟩)
  rw [List.length_range] at this
  exact this
 | _, _, _, _, _, .seqN h1 h2 => fun C E a hg => wpIn_seq (wpIn_mono (Ev.sound hT h1 C E a hg) fun x a1 w1 hf => by
   obtain ⟨rfl, E1, rfl, q1, q2⟩ := hf
   exact wpIn_mono (Ev.sound hT h2 C E1 a1 q2) fun x a2 w2 hf => hf.of q1)
 | _, _, _, _, e, .seqX h1 hne => fun C E a hg => wpIn_seq (wpIn_mono (Ev.sound hT h1 C E a hg) fun x a1 w1 hf => by
   obtain ⟨rfl, hq⟩ := hf
   cases e with
   | normal => exact absurd rfl hne
   | _ => exact ⟨rfl, hq⟩)
 | _, _, _, _, _, .condT (c := q) hc h => fun C E a hg => wpIn_cond_true (by have := hg.t.ev q; rw [hc] at this; exact RepV.sc_inv this) (Ev.sound hT h C E a hg)
 | _, _, _, _, _, .condF (c := q) hc h => fun C E a hg => wpIn_cond_false (by have := hg.t.ev q; rw [hc] at this; exact RepV.sc_inv this) (Ev.sound hT h C E a hg)
 | _, _, _, _, e, .blockN (id := id) h hne => fun C E a hg => wpIn_block (wpIn_mono (Ev.sound hT h C E a hg) fun x a1 w1 hf => by
   obtain ⟨rfl, hq⟩ := hf
   cases e with
   | exit j =>
    have hj : j ≠ id := fun e => hne (by rw [e])
    simp only [Ex.to, Exit.inBlock, if_neg hj]
    exact ⟨rfl, hq⟩
   | _ => exact ⟨rfl, hq⟩)
 | _, _, _, _, _, .blockX (id := id) h => fun C E a hg => wpIn_block (wpIn_mono (Ev.sound hT h C E a hg) fun x a1 w1 hf => by
   obtain ⟨rfl, hq⟩ := hf
   simp only [Ex.to, Exit.inBlock, if_true]
   exact ⟨rfl, hq⟩)
 | _, _, _, _, _, .loop h => loop_ok (EvLoop.sound hT h)
 | _, _, _, _, _, .scope h => scope_ok (EvScope.sound hT h)
 | _, _, _, _, _, .weak ids h1 h2 => fun C E a hg => by
  obtain ⟨F, q1, q2, q3⟩ := hg.weak h1
  rw [← q2]
  exact wpIn_mono (Ev.sound hT h2 C F a q3) fun x a' w' hf => hf.of q1
 | _, _, _, _, _, .rangeN h1 h2 h3 => fun C E a hg => by
  obtain ⟨fn, c, e1, e2, e3⟩ := h2.fn
  exact range_ok h1 e1 e2 e3 (Run.sound hT h2) h3 (by simp) hg fun E' a' x g => ⟨rfl, E', rfl, x, g⟩
 | _, _, _, _, _, .rangeJ h1 h2 h3 h4 => fun C E a hg => by
  obtain ⟨fn, c, e1, e2, e3⟩ := h2.fn
  exact range_ok h1 e1 e2 e3 (Run.sound hT h2) h3 (by simp) hg fun E' a' xx g => wpIn_mono (Ev.sound hT h4 C E' a' g) fun x a2 w2 hf => hf.of xx
theorem EvLoop.sound (hT : TOk P T) : ∀ {k : Nat} {c : Code} {s s' : St} {e : Ex}, EvLoop P T k c s e s' → EvLoopOk P k c s e s'
 | _, _, _, _, _, .more h1 h2 => loop_more (Ev.sound hT h1) (EvLoop.sound hT h2)
 | _, _, _, _, _, .done h1 h2 => loop_done (Ev.sound hT h1) h2
 | _, _, _, _, _, .weak ids h1 h2 => fun C E a hg b kk cs hro => by
  obtain ⟨F, q1, q2, q3⟩ := hg.weak h1
  rw [← q2]
  obtain ⟨x, a', w', r1, r2⟩ := EvLoop.sound hT h2 C F a q3 b kk cs hro
  exact ⟨x, a', w', r1.of q1, r2⟩
theorem EvScope.sound (hT : TOk P T) : ∀ {k : Nat} {b c : Code} {s s' : St} {e : Ex}, EvScope P T k b c s e s' → EvScopeOk P k b c s e s'
 | _, _, _, _, _, _, .straight h1 h2 => scope_straight (Ev.sound hT h1) h2
 | _, _, _, _, _, _, .jump h1 h2 h3 => scope_jump (Ev.sound hT h1) h2 (EvScope.sound hT h3)
theorem Run.sound (hT : TOk P T) : ∀ {f : FuncId} {args : List AV} {H H' : Nat → Option Blk} {n n' : Nat} {r : AV}, Run P T f args H n r H' n' → RunOk P f args H n r H' n'
 | _, _, _, _, _, _, _, .mk h1 h2 h3 h4 h5 h6 h7 => run_ok hT h1 h2 h4 (Ev.sound hT h5) h6 h7
 | _, _, _, _, _, _, _, .sem _ _ _ h => h
 | _, _, _, _, _, _, _, .nilArg pre post h1 h2 => fun E vs hH hX hN hargs hlen => by
  rcases RepL.nilArg pre post hargs with h | h
  ·exact Run.sound hT h1 E vs hH hX hN h (by simpa using hlen)
  ·exact Run.sound hT h2 E vs hH hX hN h (by simpa using hlen)
 | _, _, _, _, _, _, _, .weak ids h1 h2 h3 => fun E vs hH hX hN hargs hlen =>
  (Run.sound hT h1 E vs hH hX hN hargs hlen).mono fun e w' he => by
   obtain ⟨E', v, rfl, rfl, q1, q2, q3, q4, q5⟩ := he
   obtain ⟨F, r1, r2, r3, r4, r5, _, r7⟩ := weak_rep h2 q2 q3 q4
   exact ⟨F, v, rfl, r2, q1.trans r1, r4, by intro b hb; rw [r3] at hb; rw [r2]; exact q3 b hb, r5, r7 _ _ _ h3 q5⟩
end
end
end Go.Proofs.YtappiofmkoelnaaGreatDoorW.Ah
end
