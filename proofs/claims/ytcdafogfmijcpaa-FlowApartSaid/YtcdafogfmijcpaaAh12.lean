/-
  What codes come to on abstract memory, they come to in the model.
-/
import Derived.Test.YtcdafogfmijcpaaAh11
namespace Go.Proofs.YtcdafogfmijcpaaW.Ah
set_option linter.unusedVariables false
set_option linter.unusedSimpArgs false

def Xb (E : Env) : Prop := ∀ b, E.X b → b < E.w.heap.size

/-- Frames of functions, or of a round. -/
abbrev FR (ro : Option Nat) : Fence := { Fence.wide with round := ro }

structure Ctx where
  B : Nat
  ro : Option Nat

def LoopAt (ro : Option Nat) (E : Env) : Prop := ∀ l, ro = some l → ∃ r : Loop, E.w.heap[l]? = some (Obj.loop r)

theorem LoopAt.ext {ro : Option Nat} {E F : Env} (h : Ext E F) (hl : LoopAt ro E) : LoopAt ro F := fun l e => let ⟨r, hr⟩ := hl l e; h.lp l r hr

/-- What is deferred: blocks of rounds' deferred calls, in which nothing lies. -/
structure Mk (C : Ctx) (E : Env) (ds : List Deferred) : Prop where
  loop : LoopAt C.ro E
  B : C.B ≤ E.w.heap.size
  nd : ds.Nodup
  marks : ∀ d ∈ ds, ∃ b, d = ({ target := .collected b, args := #[] } : Deferred) ∧ C.B ≤ b ∧ (∀ i l, E.m i = some l → l.b ≠ b) ∧ E.w.heap[b]? = some (.deferred (some []))

theorem Mk.ext {C : Ctx} {E F : Env} {ds : List Deferred} (h : Ext E F) (hm : Mk C E ds) : Mk C F ds := by
  refine ⟨hm.loop.ext h, Nat.le_trans hm.B h.size, hm.nd, fun d hd => ?_⟩
  obtain ⟨b, e, h1, h2, h3⟩ := hm.marks d hd
  refine ⟨b, e, h1, fun i l hl e' => ?_, (h.keep b (lt_of_block h3) h2).trans h3⟩
  have := lt_of_block h3
  rcases h.new i l hl with h' | ⟨j, l', hj, e''⟩
  · omega
  · exact h2 j l' hj (e''.trans e')

@[simp] theorem put_defers (a : Act) (d : Option Nat) (v : Value) : (a.put d v).defers = a.defers := by cases d <;> rfl

structure Good (P : Program) (C : Ctx) (E : Env) (k : Nat) (s : St) (a : Act) : Prop where
  H : RepH P E s.H
  X : Xb E
  N : E.N = s.n
  t : RepT E k s.t a
  m : Mk C E a.defers

def Fin (P : Program) (C : Ctx) (E : Env) (k : Nat) (e : Ex) (s' : St) (x : Exit) (a' : Act) (w' : World) : Prop := x = e.to ∧ ∃ E', E'.w = w' ∧ Ext E E' ∧ Good P C E' k s' a'

theorem Fin.of {P : Program} {C : Ctx} {E F : Env} {k : Nat} {e : Ex} {s' : St} {x : Exit} {a' : Act} {w' : World} (h : Ext E F) (hf : Fin P C F k e s' x a' w') : Fin P C E k e s' x a' w' :=
  let ⟨h1, E', h2, h3, h4⟩ := hf
  ⟨h1, E', h2, h.trans h3, h4⟩

def resVal (tmps : Array Value) : ResultVar → Sem Value
  | .tmp t => pure (tmps.getD t undef)
  | .cell x ty => do loadVar ty (← asAddr (tmps.getD x undef))

theorem results_eq (fn : Func) (tmps : Array Value) : results fn tmps = (do
    let vs ← fn.results.mapM (resVal tmps)
    pure (if h : vs.size = 1 then vs[0] else .tuple vs)) := rfl

/-- What a call comes to. -/
def Ret (P : Program) (E : Env) (r : AV) (H' : Nat → Option Blk) (n' : Nat) (e : Ending) (w' : World) : Prop :=
  ∃ E' v, e = .returned v ∧ E'.w = w' ∧ Ext E E' ∧ RepH P E' H' ∧ Xb E' ∧ E'.N = n' ∧ RepV E' r v

section
variable {P : Program} {T : Tab}

theorem Good.weak {C : Ctx} {E : Env} {k : Nat} {s s1 : St} {a : Act} {ids : List Nat} (hw : Weak T s s1 ids) (h : Good P C E k s a) : ∃ F, Ext E F ∧ F.w = E.w ∧ Good P C F k s1 a := by
  obtain ⟨F, h1, h2, h3, h4, h5, h6, _⟩ := weak_rep hw h.H h.X h.N
  exact ⟨F, h1, h2, ⟨h4, by intro b hb; rw [h3] at hb; rw [h2]; exact h.X b hb, h5, h6 k a h.t, h.m.ext h1⟩⟩

theorem wanted_sound {E : Env} {k : Nat} {t : Nat → AV} {a : Act} (hr : RepT E k t a) {G : Array Oper} {o : Oper} {b : Bool} (h : wantedA G o t = some b) : Region.wanted o (yielded G a.tmps) = b := by
  unfold wantedA at h
  unfold Region.wanted
  split at h
  · rename_i hg; cases h; rw [hg]
  · rename_i j want hg
    rw [hg]
    simp only [yielded]
    split at h
    · rename_i hd; cases h; rw [hd]; rfl
    · rename_i d hd
      rw [hd]
      have hd' := hr.at_ d
      simp only [Option.bind_some]
      split at h
      · rename_i b' ht
        cases h
        rw [ht] at hd'
        have e := RepV.sc_inv hd'
        cases hg' : a.tmps[d]? with
        | none => simp [hg', undef] at e
        | some u => simp [hg'] at e; subst e; simp
      · rename_i vs ht
        cases h
        rw [ht] at hd'
        simp only [RepV] at hd'
        obtain ⟨x, e, _⟩ := hd'
        cases hg' : a.tmps[d]? with
        | none => rfl
        | some u => simp [hg'] at e; subst e; rfl
      · cases h

theorem putA_rep {E : Env} {k : Nat} {t : Nat → AV} {a : Act} (hr : RepT E k t a) {o : Oper} (hd : dstOk k o = true) {v : AV} {z : Value} (hz : RepV E v z) : RepT E k (putA t o.dst v) (a.put o.dst z) := by
  unfold dstOk at hd
  cases ho : o.dst with
  | none => simp only [putA, Act.put]; exact hr
  | some d => rw [ho] at hd; simp only [putA]; exact hr.put (by simpa using hd) hz

theorem rep_undef {E : Env} : RepV E (.tup []) undef := by simp [RepV, RepL, undef]

theorem args_rep {E : Env} {k : Nat} {t : Nat → AV} {a : Act} (hr : RepT E k t a) (l : List Operand) : RepL E (l.map (ev t)) (l.map a.eval) := by
  induction l with
  | nil => simp [RepL]
  | cons x l ih => simp only [List.map_cons, RepL]; exact ⟨hr.ev x, ih⟩

/-- A call's operation enters the function. -/
theorem call_enters {E : Env} {k : Nat} {t : Nat → AV} {a : Act} (hr : RepT E k t a) {o : Oper} {c : Call} {f : Operand} {g : FuncId} {first caps : List AV} {fn : Func} {body : Code}
    (ho : o.op = .call c) (hc : c.callee = .value f) (hf : ev t f = .fn (.func g) first caps) (h1 : P.funcs[g]? = some fn) (h2 : fn.body = some body) (h3 : (fn.name == "runtime.NumGoroutine") = false) :
    ∃ vs : Array Value, (execOp a.eval o).run P E.w = .ok (.enter g vs) E.w ∧ RepL E (first ++ c.args.toList.map (ev t) ++ caps) vs.toList ∧ (first ++ c.args.toList.map (ev t) ++ caps).length = vs.size := by
  have hx := hr.ev f
  rw [hf] at hx
  simp only [RepV] at hx
  obtain ⟨x, y, ex, l1, r1, l2, r2⟩ := hx
  refine ⟨(x ++ c.args.map a.eval) ++ y, ?_, ?_, ?_⟩
  · unfold execOp; rw [ho]
    simp only [resolve, hc, ex, Deferred.ofValue, Sem.run_bind, Sem.run_pure, Result.andThen_ok, invoke, callFunc, run_program, h1, h3, h2]
    simp
  · simp only [Array.toList_append, Array.toList_map]
    exact RepL.append (RepL.append r1 l1 (args_rep hr _)) (by simp at l1 ⊢; omega) r2
  · simp at l1 l2 ⊢; omega

theorem Run.fn {f : FuncId} {args : List AV} {H H' : Nat → Option Blk} {n n' : Nat} {r : AV} : Run P T f args H n r H' n' → ∃ fn c, P.funcs[f]? = some fn ∧ fn.body = some c ∧ (fn.name == "runtime.NumGoroutine") = false
  | .mk h1 h2 h3 _ _ _ _ => ⟨_, _, h1, h2, h3⟩
  | .weak _ h _ _ => Run.fn h
  | .nilArg _ _ h _ => Run.fn h

theorem run_resOne (hT : TOk P T) {E : Env} {k : Nat} {s : St} {a : Act} {C : Ctx} (hg : Good P C E k s a) {rv : ResultVar} {r : AV} (h : resOne T s.t s.H rv = some r) :
    ∃ v, (resVal a.tmps rv).run P E.w = .ok v E.w ∧ RepV E r v := by
  cases rv with
  | tmp t => simp only [resOne] at h; cases h; exact ⟨_, rfl, hg.t.at_ t⟩
  | cell x ty =>
    simp only [resOne] at h
    have hx := hg.t.at_ x
    have key : vop T s.t s.H (.load ty (.tmp x)) = some r → (∃ p, a.tmps.getD x undef = .pointer (some p)) → ∃ v, (resVal a.tmps (.cell x ty)).run P E.w = .ok v E.w ∧ RepV E r v := by
      intro h ⟨p, hp⟩
      obtain ⟨z, h1, h2⟩ := yv_load (o := { (default : Oper) with op := .load ty (.tmp x) }) hT hg.H hg.t rfl h
      refine ⟨z, ?_, h2⟩
      unfold execOp at h1
      simp only [Act.eval, hp, Instr.loadAt, Instr.sureAddr, Sem.run_bind, Sem.run_pure, Result.andThen_ok] at h1
      simp only [resVal, hp, asAddr, Sem.run_bind, Sem.run_pure, Result.andThen_ok]
      cases hq : (loadVar ty p).run P E.w with
      | ok v w => rw [hq] at h1; simp at h1; rw [h1.1, h1.2]
      | halt x w => rw [hq] at h1; simp at h1
    split at h
    · rename_i i o e
      rw [e] at hx; simp only [RepV] at hx
      obtain ⟨_, b, hb, _⟩ := hx
      exact key h ⟨_, hb⟩
    · rename_i cs e
      rw [e] at hx; simp only [RepV] at hx
      obtain ⟨b, o, c, ty', fz, hb, _⟩ := hx
      exact key h ⟨_, hb⟩
    · cases h

theorem run_resOf (hT : TOk P T) {E : Env} {k : Nat} {s : St} {a : Act} {C : Ctx} (hg : Good P C E k s a) {fn : Func} {r : AV} (h : resOf T fn.results.toList s = some r) : ∃ v, (results fn a.tmps).run P E.w = .ok v E.w ∧ RepV E r v := by
  have key : ∀ (l : List ResultVar) (rs : List AV), l.mapM (resOne T s.t s.H) = some rs → ∃ vs : List Value, (l.mapM (resVal a.tmps)).run P E.w = .ok vs E.w ∧ rs.length = vs.length ∧ RepL E rs vs := by
    intro l
    induction l with
    | nil => intro rs h; simp at h; subst h; exact ⟨[], rfl, rfl, by simp [RepL]⟩
    | cons rv l ih =>
      intro rs h
      simp only [List.mapM_cons, Option.bind_eq_bind, Option.pure_def] at h
      cases h1 : resOne T s.t s.H rv with
      | none => rw [h1] at h; cases h
      | some r1 =>
        rw [h1] at h
        simp only [Option.bind_some] at h
        cases h2 : l.mapM (resOne T s.t s.H) with
        | none => rw [h2] at h; cases h
        | some rs' =>
          rw [h2] at h
          simp only [Option.bind_some, Option.some.injEq] at h
          subst h
          obtain ⟨v, hv, hr⟩ := run_resOne hT hg h1
          obtain ⟨vs, hvs, hl, hrs⟩ := ih rs' h2
          refine ⟨v :: vs, ?_, by simp [hl], by simp only [RepL]; exact ⟨hr, hrs⟩⟩
          rw [List.mapM_cons]
          simp only [Sem.run_bind]
          rw [hv, Result.andThen_ok, hvs]
          rfl
  have hres : ∀ (rs : List AV), fn.results.toList.mapM (resOne T s.t s.H) = some rs → ∃ vs : Array Value, (fn.results.mapM (resVal a.tmps)).run P E.w = .ok vs E.w ∧ rs.length = vs.size ∧ RepL E rs vs.toList := by
    intro rs h
    obtain ⟨vs, h1, h2, h3⟩ := key _ rs h
    refine ⟨vs.toArray, ?_, by simpa using h2, by simpa using h3⟩
    rw [Array.mapM_eq_mapM_toList, Sem.run_map, h1]
    rfl
  unfold resOf at h
  split at h
  · rename_i rv e
    obtain ⟨vs, h1, h2, h3⟩ := hres [r] (by rw [e]; simp [h])
    simp only [List.length_cons, List.length_nil] at h2
    refine ⟨vs[0]'(by omega), ?_, ?_⟩
    · rw [results_eq]
      simp only [Sem.run_bind]
      rw [h1, Result.andThen_ok, dif_pos (by omega)]
      rfl
    · obtain ⟨v, hv, hr⟩ := h3.get (i := 0) (a := r) rfl
      simp only [Array.getElem?_toList] at hv
      rw [Array.getElem?_eq_getElem (by omega)] at hv
      cases hv
      exact hr
  · rename_i hne
    simp only [Option.map_eq_some_iff] at h
    obtain ⟨rs, h0, rfl⟩ := h
    obtain ⟨vs, h1, h2, h3⟩ := hres rs h0
    have hsz : vs.size ≠ 1 := by
      intro e
      have hl : fn.results.toList.length = rs.length := by
        have aux : ∀ (l : List ResultVar) (rs : List AV), l.mapM (resOne T s.t s.H) = some rs → l.length = rs.length := by
          intro l
          induction l with
          | nil => intro rs h; simp at h; subst h; rfl
          | cons rv l ih =>
            intro rs h
            simp only [List.mapM_cons, Option.bind_eq_bind, Option.pure_def] at h
            cases h1 : resOne T s.t s.H rv with
            | none => rw [h1] at h; cases h
            | some r1 =>
              rw [h1] at h
              simp only [Option.bind_some] at h
              cases h2 : l.mapM (resOne T s.t s.H) with
              | none => rw [h2] at h; cases h
              | some rs' => rw [h2] at h; simp at h; subst h; simp [ih rs' h2]
        exact aux _ _ h0
      have h1' : fn.results.toList.length = 1 := by omega
      obtain ⟨x, hx⟩ := List.length_eq_one_iff.1 h1'
      exact hne x hx
    refine ⟨.tuple vs, ?_, by simp only [RepV]; exact ⟨vs, rfl, by simpa using h2, h3⟩⟩
    rw [results_eq]
    simp only [Sem.run_bind]
    rw [h1, Result.andThen_ok, dif_neg hsz]
    rfl

theorem init_rep {E : Env} {args : List AV} {vs : Array Value} (h : RepL E args vs.toList) (hl : args.length = vs.size) {k : Nat} (hk : args.length ≤ k) : RepT E k (initT args) { tmps := vs ++ Array.replicate (k - vs.size) undef, defers := [] } := by
  refine ⟨by simp; omega, fun i => ?_⟩
  unfold initT
  simp only [List.getD_eq_getElem?_getD, Array.getD_eq_getD_getElem?]
  rcases Nat.lt_or_ge i args.length with hi | hi
  · obtain ⟨v, hv, hr⟩ := h.get (List.getElem?_eq_getElem hi)
    simp only [Array.getElem?_toList] at hv
    rw [List.getElem?_eq_getElem hi, Array.getElem?_append_left (by omega), hv]
    exact hr
  · rw [List.getElem?_eq_none hi, Array.getElem?_append_right (by omega)]
    rw [Array.getElem?_replicate]
    split <;> exact rep_undef

end
end Go.Proofs.YtcdafogfmijcpaaW.Ah
