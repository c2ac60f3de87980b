/-
  The evaluator is sound.
-/
import Derived.Test.YtfbkgjmpadknfaaAhD
namespace Go.Proofs.YtfbkgjmpadknfaaW.Ah
set_option linter.unusedVariables false
set_option linter.unusedSimpArgs false
section
variable {P : Program} {T : Tab}

theorem Ret.of {E F : Env} {r : AV} {H' : Nat → Option Blk} {n' : Nat} {e : Ending} {w' : World} (h : Ext E F) (hr : Ret P F r H' n' e w') : Ret P E r H' n' e w' :=
  let ⟨E', v, h1, h2, h3, h4⟩ := hr
  ⟨E', v, h1, h2, h.trans h3, h4⟩

theorem RepL.nilArg {E : Env} {full : Bool} : ∀ (pre post : List AV) {vs : List Value}, RepL E (pre ++ .ssl [] 0 full :: post) vs → RepL E (pre ++ .sc (.slice none 0 0) :: post) vs ∨ RepL E (pre ++ .esl full :: post) vs
  | [], post, [], h => by simp [RepL] at h
  | [], post, v :: vs, h => by
    simp only [List.nil_append, RepL] at h ⊢
    obtain ⟨h1, h2⟩ := h
    simp only [RepV] at h1
    have key : ∀ a cap, v = .slice a 0 cap → (full = true → cap = 0) → (a = none → cap = 0) → (RepV E (.sc (.slice none 0 0)) v ∨ RepV E (.esl full) v) := by
      intro a cap e h3 h4
      cases a with
      | none => have := h4 rfl; subst this; left; simp only [RepV]; exact e
      | some a => right; simp only [RepV]; exact ⟨a, cap, e, h3⟩
    have : RepV E (.sc (.slice none 0 0)) v ∨ RepV E (.esl full) v := by
      rcases h1 with ⟨b, o, cells, ty, fz, cap, e, h3, h4, _⟩ | ⟨_, _, a, cap, e, h3, h4⟩
      · exact key _ _ e h4 (fun h => by cases h)
      · exact key _ _ e h3 h4
    exact this.imp (fun g => ⟨g, h2⟩) (fun g => ⟨g, h2⟩)
  | p :: pre, post, [], h => by simp [RepL] at h
  | p :: pre, post, v :: vs, h => by
    simp only [List.cons_append, RepL] at h ⊢
    exact (RepL.nilArg pre post h.2).imp (fun g => ⟨h.1, g⟩) (fun g => ⟨h.1, g⟩)

/-- What is shown of a call. -/
def RunOk (P : Program) (f : FuncId) (args : List AV) (H : Nat → Option Blk) (n : Nat) (r : AV) (H' : Nat → Option Blk) (n' : Nat) : Prop :=
  ∀ (E : Env) (vs : Array Value), RepH P E H → Xb E → E.N = n → RepL E args vs.toList → args.length = vs.size → Calls P f vs E.w (Ret P E r H' n')

theorem does_call {o : Oper} {t : Nat → AV} {H H' : Nat → Option Blk} {n n' : Nat} {v : AV} {c : Call} {f : Operand} {g : FuncId} {first caps : List AV} {fn : Func} {body : Code}
    (ho : o.op = .call c) (hc : c.callee = .value f) (hf : ev t f = .fn (.func g) first caps) (h1 : P.funcs[g]? = some fn) (h2 : fn.body = some body) (h3 : (fn.name == "runtime.NumGoroutine") = false)
    (h : ∀ (E : Env) (vs : Array Value), RepH P E H → Xb E → E.N = n → RepL E (first ++ c.args.toList.map (ev t) ++ caps) vs.toList → (first ++ c.args.toList.map (ev t) ++ caps).length = vs.size → Calls P g vs E.w (Ret P E v H' n')) :
    DoesOk P o t H n v H' n' := by
  intro E k a K Q hH hX hN hr hK
  obtain ⟨vs, e1, e2, e3⟩ := call_enters (P := P) hr ho hc hf h1 h2 h3
  unfold Oper.wp
  rw [e1, Oper.upon_enter]
  refine (h E vs hH hX hN e2 e3).mono fun e w' he => ?_
  obtain ⟨E', z, rfl, rfl, q1, q2, q3, q4, q5⟩ := he
  exact hK E' z q1 q2 q3 q4 q5

theorem vop_does (hT : TOk P T) {o : Oper} {t : Nat → AV} {H : Nat → Option Blk} {n : Nat} {v : AV} (h : vop T t H o.op = some v) : DoesOk P o t H n v H n := by
  intro E k a K Q hH hX hN hr hK
  obtain ⟨z, h1, h2⟩ := vop_sound hT hH hr h
  unfold Oper.wp
  rw [h1, Oper.upon_value]
  exact hK E z (Ext.refl _) hH hX hN h2

theorem mop_does (hT : TOk P T) {o : Oper} {t : Nat → AV} {H H' : Nat → Option Blk} {n n' : Nat} {v : AV} (h : mop T t H n o.op = some (v, H', n')) : DoesOk P o t H n v H' n' := by
  intro E k a K Q hH hX hN hr hK
  subst hN
  obtain ⟨E', z, h1, h2, h3, h4, h5, h6⟩ := mop_sound hT hH hX hr h
  unfold Oper.wp
  rcases h1 with h1 | ⟨h1, rfl⟩
  · rw [h1, Oper.upon_value]; exact hK E' z h2 h3 h4 h5 h6
  · rw [h1, Oper.upon_skip]; exact hK E' _ h2 h3 h4 h5 h6

/-- A call that knows nothing of the table. -/
theorem callF_ok {g : FuncId} {args args' : List AV} {H H' : Nat → Option Blk} {n n' : Nat} {v : AV} (ids : List Nat) (hv : ViewL T H ids args args') (h : RunOk P g args' (fun _ => none) 0 v H' n')
    (hfree : (ids = [] ∧ free v = true) ∨ flat v = true) : RunOk P g args H n v H n := by
  intro E vs hH hX hN hargs hlen
  let Ec : Env := ⟨fun b => E.X b ∨ ∃ i l, i ∉ ids ∧ E.m i = some l ∧ l.b = b, 0, fun _ => none, E.w⟩
  have hXc : Xb Ec := by
    intro b hb
    rcases hb with hb | ⟨i, l, _, hl, rfl⟩
    · exact hX b hb
    · exact (hH.lt i l hl).2.1
  have hHc : RepH P Ec (fun _ => none) := ⟨fun i blk hb => (by cases hb), fun i l hl => (by cases hl), fun i j l l' hl => (by cases hl)⟩
  have hsh : ∀ b, E.shared b → Ec.shared b := by
    intro b hb
    refine ⟨fun hx => ?_, fun i l hl => by cases hl⟩
    rcases hx with hx | ⟨i, l, _, hl, e⟩
    · exact hb.1 hx
    · exact hb.2 i l hl e
  have hids : ∀ i l, i ∈ ids → E.m i = some l → Ec.shared l.b := by
    intro i l hi hl
    refine ⟨fun hx => ?_, fun j l' hj => by cases hj⟩
    rcases hx with hx | ⟨j, l', hj, hl', e⟩
    · exact (hH.lt i l hl).2.2.1 hx
    · have := hH.inj j i l' l hl' hl e
      subst this
      exact hj hi
  have hra : RepL Ec args' vs.toList := ViewL.rep (F := Ec) hH rfl hsh hids hv _ hargs
  refine (h Ec vs hHc hXc rfl hra (by rw [hv.length, hlen])).mono fun e w' he => ?_
  obtain ⟨E', z, rfl, rfl, q1, q2, q3, q4, q5⟩ := he
  let F : Env := ⟨E.X, E.N, E.m, E'.w⟩
  have hk : ∀ b, b < E.w.heap.size → E'.w.heap[b]? = E.w.heap[b]? := fun b hb => q1.keep b hb (fun i l hl => by cases hl)
  have hx : Ext E F := ⟨rfl, Nat.le_refl _, q1.os, q1.tape, q1.output, q1.size, fun b hb _ => hk b hb, fun _ _ _ h => h, fun i l h => .inr ⟨i, l, h, rfl⟩⟩
  refine ⟨F, z, rfl, rfl, hx, ⟨fun i blk hb => ?_, fun i l hl => ?_, hH.inj⟩, fun b hb => Nat.lt_of_lt_of_le (hX b hb) q1.size, hN, ?_⟩
  · obtain ⟨l, hl, hr⟩ := hH.own i blk hb
    exact ⟨l, hl, RepB.ext hx (hk _ (hH.lt i l hl).2.1) hr⟩
  · obtain ⟨h1, h2, h3, h4⟩ := hH.lt i l hl
    exact ⟨h1, Nat.lt_of_lt_of_le h2 q1.size, h3, h4⟩
  · rcases hfree with ⟨rfl, hfr⟩ | hfl
    · refine RepV.lift (E := E') (F := F) rfl (fun b hb => ?_) _ _ hfr q5
      have hb1 := hb.1
      rw [q1.X] at hb1
      exact ⟨fun hx => hb1 (.inl hx), fun i l hl e => hb1 (.inr ⟨i, l, by simp, hl, e⟩)⟩
    · exact RepV.flat _ _ hfl q5

def EvOk (P : Program) (k : Nat) (c : Code) (s : St) (e : Ex) (s' : St) : Prop := ∀ (E : Env) (a : Act), Good P E k s a → c.wp P (Fin P E k e s') a E.w

def EvLOk (P : Program) (k : Nat) (G : Array Oper) (L : List Oper) (s s' : St) : Prop :=
  ∀ (E : Env) (a : Act) (idxs : List Nat) (Q : Exit → Act → World → Prop), Good P E k s a → idxs.map (G[·]?) = L.map some → (∀ E' a', Ext E E' → Good P E' k s' a' → Q .normal a' E'.w) → wpOps P G Q idxs a E.w

def EvLoopOk (P : Program) (k : Nat) (c : Code) (s : St) (e : Ex) (s' : St) : Prop :=
  ∀ (E : Env) (a : Act), Good P E k s a → ∀ (b : Frame) (kk : List Item) (cs : List Frame), ∃ x a' w', Fin P E k e s' x a' w' ∧ Arrives P (lone (b.at a (.code c :: .inLoop c :: kk)) cs E.w) b kk cs x a' w'

def EvScopeOk (P : Program) (k : Nat) (body c : Code) (s : St) (e : Ex) (s' : St) : Prop :=
  ∀ (E : Env) (a : Act), Good P E k s a → ∀ (b : Frame) (kk : List Item) (cs : List Frame), ∃ x a' w', Fin P E k e s' x a' w' ∧ Arrives P (lone (b.at a (.code c :: .inScope body :: kk)) cs E.w) b kk cs x a' w'

theorem evL_op {k : Nat} {G : Array Oper} {o : Oper} {l : List Oper} {s s' : St} {v : AV} {H' : Nat → Option Blk} {n' : Nat} (h1 : wantedA G o s.t = some true) (h2 : dstOk k o = true) (h3 : DoesOk P o s.t s.H s.n v H' n')
    (h4 : EvLOk P k G l ⟨putA s.t o.dst v, H', n'⟩ s') : EvLOk P k G (o :: l) s s' := by
  intro E a idxs Q hg hi hQ
  match idxs, hi with
  | i :: rest, hi =>
    simp only [List.map_cons, List.cons.injEq] at hi
    simp only [wpOps, hi.1]
    rw [if_pos (wanted_sound hg.t h1)]
    refine .inl (h3 E k a _ Q hg.H hg.X hg.N hg.t fun E' z q1 q2 q3 q4 q5 => ?_)
    exact h4 E' _ rest Q ⟨q2, q3, q4, putA_rep (hg.t.ext q1) h2 q5⟩ hi.2 fun E'' a'' r1 r2 => hQ E'' a'' (q1.trans r1) r2

theorem evL_skip {k : Nat} {G : Array Oper} {o : Oper} {l : List Oper} {s s' : St} (h1 : wantedA G o s.t = some false) (h2 : dstOk k o = true)
    (h4 : EvLOk P k G l ⟨putA s.t o.dst (.tup []), s.H, s.n⟩ s') : EvLOk P k G (o :: l) s s' := by
  intro E a idxs Q hg hi hQ
  match idxs, hi with
  | i :: rest, hi =>
    simp only [List.map_cons, List.cons.injEq] at hi
    simp only [wpOps, hi.1]
    rw [if_neg (by rw [wanted_sound hg.t h1]; simp)]
    exact h4 E _ rest Q ⟨hg.H, hg.X, hg.N, putA_rep hg.t h2 rep_undef⟩ hi.2 hQ

theorem loop_ok {k : Nat} {c : Code} {s s1 : St} {e : Ex} (h : EvLoopOk P k c s e s1) : EvOk P k (.loop c) s e s1 := fun E a hg b kk cs =>
  let ⟨x, a', w', h1, h2⟩ := h E a hg b kk cs
  ⟨x, a', w', h1, .of_steps (.one step_loop) h2⟩

theorem loop_more {k : Nat} {c : Code} {s s1 s2 : St} {e : Ex} (h1 : EvOk P k c s .normal s1) (h2 : EvLoopOk P k c s1 e s2) : EvLoopOk P k c s e s2 := by
  intro E a hg b kk cs
  obtain ⟨x, a1, w1, ⟨rfl, E1, rfl, q1, q2⟩, harr⟩ := h1 E a hg b (.inLoop c :: kk) cs
  obtain ⟨x, a2, w2, hf, harr2⟩ := h2 E1 a1 q2 b kk cs
  exact ⟨x, a2, w2, hf.of q1, .of_steps (Steps.trans harr (.one step_inLoop)) harr2⟩

theorem loop_done {k : Nat} {c : Code} {s s1 : St} {e : Ex} (h1 : EvOk P k c s e s1) (hne : e ≠ .normal) : EvLoopOk P k c s e s1 := by
  intro E a hg b kk cs
  obtain ⟨x, a1, w1, hf, harr⟩ := h1 E a hg b (.inLoop c :: kk) cs
  refine ⟨x, a1, w1, hf, ?_⟩
  obtain ⟨rfl, _⟩ := hf
  cases e with
  | normal => exact absurd rfl hne
  | _ => exact Arrives.pass (x := .inLoop c) rfl (fun _ _ => .inl (by simp [Ex.to])) harr

theorem scope_ok {k : Nat} {c : Code} {s s1 : St} {e : Ex} (h : EvScopeOk P k c c s e s1) : EvOk P k (.scope c) s e s1 := fun E a hg b kk cs =>
  let ⟨x, a', w', h1, h2⟩ := h E a hg b kk cs
  ⟨x, a', w', h1, .of_steps (.one step_scope) h2⟩

theorem scope_straight {k : Nat} {body c : Code} {s s1 : St} {e : Ex} (h1 : EvOk P k c s e s1) (hne : ∀ l, e ≠ .goto l) : EvScopeOk P k body c s e s1 := by
  intro E a hg b kk cs
  obtain ⟨x, a1, w1, hf, harr⟩ := h1 E a hg b (.inScope body :: kk) cs
  refine ⟨x, a1, w1, hf, ?_⟩
  obtain ⟨rfl, _⟩ := hf
  cases e with
  | normal => exact Steps.trans harr (.one step_inScope)
  | exit id => exact fun k' hk => harr k' (by simp [exitTo, hk])
  | goto l => exact absurd rfl (hne l)
  | ret => exact harr

theorem scope_jump {k l : Nat} {body c rest : Code} {s s1 s2 : St} {e : Ex} (h1 : EvOk P k c s (.goto l) s1) (hl : findLabel body l = some rest) (h2 : EvScopeOk P k body rest s1 e s2) : EvScopeOk P k body c s e s2 := by
  intro E a hg b kk cs
  obtain ⟨x, a1, w1, ⟨rfl, E1, rfl, q1, q2⟩, harr⟩ := h1 E a hg b (.inScope body :: kk) cs
  obtain ⟨x, a2, w2, hf, harr2⟩ := h2 E1 a1 q2 b kk cs
  exact ⟨x, a2, w2, hf.of q1, .of_steps (harr _ (by simp [gotoIn, hl])) harr2⟩

theorem run_ok (hT : TOk P T) {f : FuncId} {fn : Func} {c : Code} {args : List AV} {H : Nat → Option Blk} {n : Nat} {e : Ex} {s' : St} {r : AV} (h1 : P.funcs[f]? = some fn) (h2 : fn.body = some c) (h4 : args.length ≤ fn.ntmps)
    (h5 : EvOk P fn.ntmps c ⟨initT args, H, n⟩ e s') (h6 : e = .ret ∨ e = .normal) (h7 : resOf T fn.results.toList s' = some r) : RunOk P f args H n r s'.H s'.n := by
  intro E vs hH hX hN hargs hlen
  refine calls_of_wp h1 h2 (wp_mono (h5 E _ ⟨hH, hX, hN, init_rep hargs hlen h4⟩) fun x a w hf => ?_)
  obtain ⟨rfl, E', rfl, q1, q2⟩ := hf
  obtain ⟨v, hv, hr⟩ := run_resOf hT q2 h7
  rcases h6 with rfl | rfl
  · exact ⟨q2.t.defers, v, hv, E', v, rfl, rfl, q1, q2.H, q2.X, q2.N, hr⟩
  · exact ⟨q2.t.defers, v, hv, E', v, rfl, rfl, q1, q2.H, q2.X, q2.N, hr⟩

theorem vop_congr {t t' : Nat → AV} {H : Nat → Option Blk} {op : Op} (h : ∀ x ∈ op.operands, ev t' x = ev t x) : vop T t' H op = vop T t H op := by
  have lists : ∀ l : List Operand, (∀ x ∈ l, ev t' x = ev t x) → l.map (ev t') = l.map (ev t) := fun l hl => List.map_congr_left hl
  have opts : ∀ x : Option Operand, (∀ y ∈ x.toList, ev t' y = ev t y) → x.map (ev t') = x.map (ev t) := by
    intro x hx
    cases x with
    | none => rfl
    | some y => simp [hx y (by simp)]
  cases op with
  | build ty ps =>
    simp only [vop]
    have : (ps.toList.map fun p => (p.1, ev t' p.2)) = (ps.toList.map fun p => (p.1, ev t p.2)) := List.map_congr_left fun p hp => by
      rw [h p.2 (by simp only [Op.operands, List.mem_toArray, List.mem_map]; exact ⟨p, hp, rfl⟩)]
    rw [this]
  | makeFunc f a b =>
    simp only [vop]
    rw [lists a.toList fun x hx => h x (by simp [Op.operands]; exact .inl (by simpa using hx)), lists b.toList fun x hx => h x (by simp [Op.operands]; exact .inr (by simpa using hx))]
  | slice s x lo hi mx =>
    simp only [vop]
    rw [h x (by simp [Op.operands]), opts lo fun y hy => h y (by simp [Op.operands]; simp at hy; simp [hy]), opts hi fun y hy => h y (by simp [Op.operands]; simp at hy; simp [hy]), opts mx fun y hy => h y (by simp [Op.operands]; simp at hy; simp [hy])]
  | call c =>
    obtain ⟨callee, args, ats⟩ := c
    have ha : args.toList.map (ev t') = args.toList.map (ev t) := lists _ fun x hx => h x (by simp [Op.operands, Call.operands]; exact .inr (by simpa using hx))
    cases callee with
    | builtin b => cases b <;> simp only [vop, ha]
    | _ => rfl
  | _ => first | rfl | (simp only [vop]; simp only [Op.operands] at h; simp_all)

theorem mop_congr {t t' : Nat → AV} {H : Nat → Option Blk} {n : Nat} {op : Op} (h : ∀ x ∈ op.operands, ev t' x = ev t x) : mop T t' H n op = mop T t H n op := by
  have lists : ∀ l : List Operand, (∀ x ∈ l, ev t' x = ev t x) → l.map (ev t') = l.map (ev t) := fun l hl => List.map_congr_left hl
  cases op with
  | buildSlice ty len ps =>
    simp only [mop]
    have : (ps.toList.map fun p => (p.1, ev t' p.2)) = (ps.toList.map fun p => (p.1, ev t p.2)) := List.map_congr_left fun p hp => by
      rw [h p.2 (by simp only [Op.operands, List.mem_toArray, List.mem_map]; exact ⟨p, hp, rfl⟩)]
    rw [this]
  | call c =>
    obtain ⟨callee, args, ats⟩ := c
    have ha : args.toList.map (ev t') = args.toList.map (ev t) := lists _ fun x hx => h x (by simp [Op.operands, Call.operands]; exact .inr (by simpa using hx))
    cases callee with
    | builtin b => cases b <;> simp only [mop, ha]
    | _ => rfl
  | _ => first | rfl | (simp only [mop]; simp only [Op.operands] at h; simp_all)

theorem vop_reads {t : Nat → AV} {H H2 : Nat → Option Blk} {op : Op} (h : ∀ j ∈ readsOf t op, H2 j = H j) : vop T t H2 op = vop T t H op := by
  cases op with
  | load ty a =>
    simp only [vop]
    simp only [readsOf] at h
    cases hx : ev t a with
    | own i o => rw [hx] at h; simp only [h i (by simp)]
    | _ => rfl
  | slice s x lo hi mx =>
    simp only [readsOf] at h
    simp only [vop]
    cases hx : ev t x with
    | osl i o n c =>
      rw [hx] at h
      have hi := h i (by simp)
      have e1 : ∀ e z, limOf H2 e z i o n c = limOf H e z i o n c := by intro e z; unfold limOf; cases c <;> simp only [hi]
      have e2 : ∀ e, natOk H2 e i c = natOk H e i c := by intro e; unfold natOk; cases c <;> simp only [hi]
      cases T s with
      | none => rfl
      | some ti =>
        obtain ⟨tk, _, _, _, _⟩ := ti
        cases tk with
        | slice e => simp only [e1, e2]
        | _ => rfl
    | sc v =>
      cases T s with
      | none => rfl
      | some ti =>
        obtain ⟨tk, _, _, _, _⟩ := ti
        cases tk with
        | slice e =>
          cases v with
          | slice a n c => cases a <;> cases n <;> cases c <;> rfl
          | _ => rfl
        | str => cases v <;> rfl
        | _ => rfl
    | _ =>
      cases T s with
      | none => rfl
      | some ti => obtain ⟨tk, _, _, _, _⟩ := ti; cases tk <;> rfl
  | call c =>
    obtain ⟨callee, args, ats⟩ := c
    cases callee with
    | builtin b => cases b <;> rfl
    | _ => rfl
  | _ => rfl

theorem readsOf_congr {t t' : Nat → AV} {op : Op} (h : ∀ x ∈ op.operands, ev t' x = ev t x) : readsOf t' op = readsOf t op := by
  cases op with
  | load ty a => simp only [readsOf]; rw [h a (by simp [Op.operands])]
  | slice s x lo hi mx => simp only [readsOf]; rw [h x (by simp [Op.operands])]
  | _ => rfl

mutual
theorem View.agree {H H2 : Nat → Option Blk} {ids : List Nat} (h : ∀ j ∈ ids, H2 j = H j) : ∀ {a a' : AV}, View T H ids a a' → View T H2 ids a a'
  | _, _, .free q => .free q
  | _, _, .own q1 q2 q3 => .own q1 (by rw [h _ q1]; exact q2) (ViewL.agree h q3)
  | _, _, .osl q q1 q2 q3 => .osl q q1 (by rw [h _ q1]; exact q2) (ViewL.agree h q3)
  | _, _, .oslF q q1 q2 q3 => .oslF q q1 (by rw [h _ q1]; exact q2) (ViewL.agree h q3)
  | _, _, .nilS => .nilS
  | _, _, .eslS => .eslS
  | _, _, .sslF q => .sslF q
  | _, _, .agg q => .agg (ViewL.agree h q)
  | _, _, .tup q => .tup (ViewL.agree h q)
  | _, _, .fn q r => .fn (ViewL.agree h q) (ViewL.agree h r)
theorem ViewL.agree {H H2 : Nat → Option Blk} {ids : List Nat} (h : ∀ j ∈ ids, H2 j = H j) : ∀ {a a' : List AV}, ViewL T H ids a a' → ViewL T H2 ids a a'
  | _, _, .free q => .free q
  | _, _, .nil => .nil
  | _, _, .cons q r => .cons (View.agree h q) (ViewL.agree h r)
end

theorem call_operands {o : Oper} {c : Call} {f : Operand} (ho : o.op = .call c) (hc : c.callee = .value f) {t t' : Nat → AV} (h : ∀ x ∈ o.op.operands, ev t' x = ev t x) : ev t' f = ev t f ∧ c.args.toList.map (ev t') = c.args.toList.map (ev t) := by
  rw [ho] at h
  refine ⟨h f (by simp [Op.operands, Call.operands, hc]), List.map_congr_left fun x hx => h x (by simp [Op.operands, Call.operands]; exact .inr (by simpa using hx))⟩

/-- What is shown of an operation that changes nothing. -/
def DoesROk (P : Program) (o : Oper) (t : Nat → AV) (H : Nat → Option Blk) (v : AV) (R : List Nat) : Prop :=
  ∀ t' H2 n2, (∀ x ∈ o.op.operands, ev t' x = ev t x) → (∀ j ∈ R, H2 j = H j) → DoesOk P o t' H2 n2 v H2 n2

theorem vop_doesR (hT : TOk P T) {o : Oper} {t : Nat → AV} {H : Nat → Option Blk} {v : AV} (h : vop T t H o.op = some v) : DoesROk P o t H v (readsOf t o.op) :=
  fun t' H2 n2 ht' hR => vop_does hT (by rw [vop_reads (H := H) (by rw [readsOf_congr ht']; exact hR), vop_congr ht']; exact h)

def DoesM (P : Program) (o : Oper) (t : Nat → AV) (H : Nat → Option Blk) (n : Nat) (v : AV) (H' : Nat → Option Blk) (n' : Nat) : Prop :=
  ∀ t', (∀ x ∈ o.op.operands, ev t' x = ev t x) → DoesOk P o t' H n v H' n'

theorem call_doesM {o : Oper} {t : Nat → AV} {H H' : Nat → Option Blk} {n n' : Nat} {v : AV} {c : Call} {f : Operand} {g : FuncId} {first caps : List AV} {fn : Func} {body : Code}
    (ho : o.op = .call c) (hc : c.callee = .value f) (hf : ev t f = .fn (.func g) first caps) (h1 : P.funcs[g]? = some fn) (h2 : fn.body = some body) (h3 : (fn.name == "runtime.NumGoroutine") = false)
    (h : RunOk P g (first ++ c.args.toList.map (ev t) ++ caps) H n v H' n') : DoesM P o t H n v H' n' := by
  intro t' ht'
  obtain ⟨e1, e2⟩ := call_operands ho hc ht'
  exact does_call ho hc (e1.trans hf) h1 h2 h3 (by rw [e2]; exact h)

theorem allocEq_rd {o : Oper} {t : Nat → AV} {H : Nat → Option Blk} {n : Nat} {v : AV} {R : List Nat} (h : DoesR P T o t H v R) : AllocEq T o.op t H n v H n := by
  intro e
  cases h with
  | vop h => cases ho : o.op <;> rw [ho] at h e <;> first | (simp [vop] at h; done) | cases e
  | callF h1 => rw [h1] at e; cases e
  | callB ids h1 => rw [h1] at e; cases e

theorem allocEq_mem {o : Oper} {t : Nat → AV} {H H' : Nat → Option Blk} {n n' : Nat} {v : AV} (h : Does P T o t H n v H' n') : AllocEq T o.op t H n v H' n' := by
  intro e
  cases h with
  | vop h => cases ho : o.op <;> rw [ho] at h e <;> first | (simp [vop] at h; done) | cases e
  | mop h => exact newOf_mop e h
  | callS h1 => rw [h1] at e; cases e
  | callF h1 => rw [h1] at e; cases e
  | callB ids h1 => rw [h1] at e; cases e

mutual
theorem Does.sound (hT : TOk P T) : ∀ {o : Oper} {t : Nat → AV} {H H' : Nat → Option Blk} {n n' : Nat} {v : AV}, Does P T o t H n v H' n' → DoesM P o t H n v H' n'
  | _, _, _, _, _, _, _, .vop h => fun t' ht' => vop_does hT (by rw [vop_congr ht']; exact h)
  | _, _, _, _, _, _, _, .mop h => fun t' ht' => mop_does hT (by rw [mop_congr ht']; exact h)
  | _, _, _, _, _, _, _, .callS h1 h2 h3 h4 => by
    obtain ⟨fn, c, e1, e2, e3⟩ := h4.fn
    exact call_doesM h1 h2 h3 e1 e2 e3 (Run.sound hT h4)
  | _, _, _, _, _, _, _, .callF h1 h2 h3 h4 h5 h6 => by
    obtain ⟨fn, c, e1, e2, e3⟩ := h5.fn
    exact call_doesM h1 h2 h3 e1 e2 e3 (callF_ok (T := T) [] (.free h4) (Run.sound hT h5) (.inl ⟨rfl, h6⟩))
  | _, _, _, _, _, _, _, .callB ids h1 h2 h3 h4 h5 h6 => by
    obtain ⟨fn, c, e1, e2, e3⟩ := h5.fn
    exact call_doesM h1 h2 h3 e1 e2 e3 (callF_ok (T := T) ids h4 (Run.sound hT h5) h6)
theorem DoesR.sound (hT : TOk P T) : ∀ {o : Oper} {t : Nat → AV} {H : Nat → Option Blk} {v : AV} {R : List Nat}, DoesR P T o t H v R → DoesROk P o t H v R
  | _, _, _, _, _, .vop h => vop_doesR hT h
  | _, _, _, _, _, .callF h1 h2 h3 h4 h5 h6 => fun t' H2 n2 ht' _ => by
    obtain ⟨fn, c, e1, e2, e3⟩ := h5.fn
    exact call_doesM h1 h2 h3 e1 e2 e3 (callF_ok (T := T) [] (.free h4) (Run.sound hT h5) (.inl ⟨rfl, h6⟩)) t' ht'
  | _, _, _, _, _, .callB ids h1 h2 h3 h4 h5 h6 => fun t' H2 n2 ht' hR => by
    obtain ⟨fn, c, e1, e2, e3⟩ := h5.fn
    exact call_doesM h1 h2 h3 e1 e2 e3 (callF_ok (T := T) ids (h4.agree hR) (Run.sound hT h5) h6) t' ht'
theorem EvL.sound (hT : TOk P T) : ∀ {k : Nat} {G : Array Oper} {L : List Oper} {s s' : St}, EvL P T k G L s s' → EvLOk P k G L s s'
  | _, _, _, _, _, .nil => fun E a idxs Q hg hi hQ => by
    match idxs, hi with
    | [], _ => exact hQ E a (Ext.refl _) hg
  | _, _, _, _, _, .skip h1 h2 h3 => evL_skip h1 h2 (EvL.sound hT h3)
  | _, _, _, _, _, .op h1 h2 h3 h4 => evL_op h1 h2 (Does.sound hT h3 _ fun _ _ => rfl) (EvL.sound hT h4)
  | _, _, _, _, _, .weak ids h1 h2 => fun E a idxs Q hg hi hQ => by
    obtain ⟨F, q1, q2, q3⟩ := hg.weak h1
    rw [← q2]
    exact EvL.sound hT h2 F a idxs Q q3 hi fun E' a' r1 r2 => hQ E' a' (q1.trans r1) r2
theorem EvD.sound (hT : TOk P T) : ∀ {k : Nat} {G : Array Oper} {cl : List Cls} {L : List Nat} {s s' : St}, EvD P T k G cl L s s' → SemD P T k G cl L s s'
  | _, _, _, _, _, _, .nil => rfl
  | _, _, _, _, _, _, .skip h0 h1 h2 h3 => ⟨_, h0, h2, .inl ⟨h1, EvD.sound hT h3⟩⟩
  | _, _, _, _, _, _, .rd h0 h1 h2 h3 h4 h5 h6 => ⟨_, h0, h2, .inr ⟨h1, _, _, _, _, h4, ⟨rfl, rfl, fun t' H2 n2 q1 q2 => DoesR.sound hT h3 t' H2 n2 q1 fun j hj => q2 j (h5 j hj)⟩, allocEq_rd h3, EvD.sound hT h6⟩⟩
  | _, _, _, _, _, _, .mem h0 h1 h2 h3 h4 h5 h6 => ⟨_, h0, h2, .inr ⟨h1, _, _, _, _, h4, ⟨Does.sound hT h3, h5⟩, allocEq_mem h3, EvD.sound hT h6⟩⟩
theorem Ev.sound (hT : TOk P T) : ∀ {k : Nat} {c : Code} {s s' : St} {e : Ex}, Ev P T k c s e s' → EvOk P k c s e s'
  | _, _, _, _, _, .skip => fun E a hg => wp_skip ⟨rfl, E, rfl, Ext.refl _, hg⟩
  | _, _, _, _, _, .label => fun E a hg => wp_label ⟨rfl, E, rfl, Ext.refl _, hg⟩
  | _, _, _, _, _, .exit => fun E a hg => wp_exit ⟨rfl, E, rfl, Ext.refl _, hg⟩
  | _, _, _, _, _, .goto => fun E a hg => wp_goto ⟨rfl, E, rfl, Ext.refl _, hg⟩
  | _, _, _, _, _, .ret => fun E a hg => wp_ret ⟨rfl, E, rfl, Ext.refl _, hg⟩
  | _, _, _, _, _, .region (ops := ops) h => fun E a hg => wp_region (EvL.sound hT h E a _ _ hg (by
      apply List.ext_getElem?
      intro i
      simp only [List.getElem?_map, Array.getElem?_toList]
      rcases Nat.lt_or_ge i ops.size with hi | hi
      · rw [List.getElem?_range hi]; simp [Array.getElem?_eq_getElem hi]
      · rw [List.getElem?_eq_none (by simpa using hi), Array.getElem?_eq_none hi]; rfl) fun E' a' q1 q2 => ⟨rfl, E', rfl, q1, q2⟩)
  | _, _, _, _, _, .regionD (ops := ops) cl q hm hok hl h => fun E a hg => by
    obtain ⟨q1, q2⟩ := drawn_rep hg.H (E.w.drawn + 1)
    have hg' : Good P { E with w := { E.w with drawn := E.w.drawn + 1 } } _ _ a := ⟨q2, hg.X, hg.N, hg.t.ext q1⟩
    refine wp_region_any hm ?_
    have hdf : ∀ b, (Array.replicate ops.size false).getD b false = false := by
      intro b
      simp only [Array.getD_eq_getD_getElem?, Array.getElem?_replicate]
      split <;> rfl
    have := semD_any hT hok hl (List.range ops.size) (Array.replicate ops.size false) { E with w := { E.w with drawn := E.w.drawn + 1 } } _ _ a (Fin P E _ .normal _) List.pairwise_lt_range (by simp)
      (fun i => by simp only [List.mem_range, hdf, and_true]) (fun b o hb => by rw [hdf] at hb; cases hb) (EvD.sound hT h) hg' (fun E' a' r1 r2 => ⟨rfl, E', rfl, q1.trans r1, r2⟩)
    rw [List.length_range] at this
    exact this
  | _, _, _, _, _, .seqN h1 h2 => fun E a hg => wp_seq (wp_mono (Ev.sound hT h1 E a hg) fun x a1 w1 hf => by
      obtain ⟨rfl, E1, rfl, q1, q2⟩ := hf
      exact wp_mono (Ev.sound hT h2 E1 a1 q2) fun x a2 w2 hf => hf.of q1)
  | _, _, _, _, e, .seqX h1 hne => fun E a hg => wp_seq (wp_mono (Ev.sound hT h1 E a hg) fun x a1 w1 hf => by
      obtain ⟨rfl, hq⟩ := hf
      cases e with
      | normal => exact absurd rfl hne
      | _ => exact ⟨rfl, hq⟩)
  | _, _, _, _, _, .condT (c := q) hc h => fun E a hg => wp_cond_true (by have := hg.t.ev q; rw [hc] at this; exact RepV.sc_inv this) (Ev.sound hT h E a hg)
  | _, _, _, _, _, .condF (c := q) hc h => fun E a hg => wp_cond_false (by have := hg.t.ev q; rw [hc] at this; exact RepV.sc_inv this) (Ev.sound hT h E a hg)
  | _, _, _, _, e, .blockN (id := id) h hne => fun E a hg => wp_block (wp_mono (Ev.sound hT h E a hg) fun x a1 w1 hf => by
      obtain ⟨rfl, hq⟩ := hf
      cases e with
      | exit j =>
        have hj : j ≠ id := fun e => hne (by rw [e])
        simp only [Ex.to, Exit.inBlock, if_neg hj]
        exact ⟨rfl, hq⟩
      | _ => exact ⟨rfl, hq⟩)
  | _, _, _, _, _, .blockX (id := id) h => fun E a hg => wp_block (wp_mono (Ev.sound hT h E a hg) fun x a1 w1 hf => by
      obtain ⟨rfl, hq⟩ := hf
      simp only [Ex.to, Exit.inBlock, if_true]
      exact ⟨rfl, hq⟩)
  | _, _, _, _, _, .loop h => loop_ok (EvLoop.sound hT h)
  | _, _, _, _, _, .scope h => scope_ok (EvScope.sound hT h)
  | _, _, _, _, _, .weak ids h1 h2 => fun E a hg => by
    obtain ⟨F, q1, q2, q3⟩ := hg.weak h1
    rw [← q2]
    exact wp_mono (Ev.sound hT h2 F a q3) fun x a' w' hf => hf.of q1
theorem EvLoop.sound (hT : TOk P T) : ∀ {k : Nat} {c : Code} {s s' : St} {e : Ex}, EvLoop P T k c s e s' → EvLoopOk P k c s e s'
  | _, _, _, _, _, .more h1 h2 => loop_more (Ev.sound hT h1) (EvLoop.sound hT h2)
  | _, _, _, _, _, .done h1 h2 => loop_done (Ev.sound hT h1) h2
  | _, _, _, _, _, .weak ids h1 h2 => fun E a hg b kk cs => by
    obtain ⟨F, q1, q2, q3⟩ := hg.weak h1
    rw [← q2]
    obtain ⟨x, a', w', r1, r2⟩ := EvLoop.sound hT h2 F a q3 b kk cs
    exact ⟨x, a', w', r1.of q1, r2⟩
theorem EvScope.sound (hT : TOk P T) : ∀ {k : Nat} {b c : Code} {s s' : St} {e : Ex}, EvScope P T k b c s e s' → EvScopeOk P k b c s e s'
  | _, _, _, _, _, _, .straight h1 h2 => scope_straight (Ev.sound hT h1) h2
  | _, _, _, _, _, _, .jump h1 h2 h3 => scope_jump (Ev.sound hT h1) h2 (EvScope.sound hT h3)
theorem Run.sound (hT : TOk P T) : ∀ {f : FuncId} {args : List AV} {H H' : Nat → Option Blk} {n n' : Nat} {r : AV}, Run P T f args H n r H' n' → RunOk P f args H n r H' n'
  | _, _, _, _, _, _, _, .mk h1 h2 h3 h4 h5 h6 h7 => run_ok hT h1 h2 h4 (Ev.sound hT h5) h6 h7
  | _, _, _, _, _, _, _, .nilArg pre post h1 h2 => fun E vs hH hX hN hargs hlen => by
    rcases RepL.nilArg pre post hargs with h | h
    · exact Run.sound hT h1 E vs hH hX hN h (by simpa using hlen)
    · exact Run.sound hT h2 E vs hH hX hN h (by simpa using hlen)
  | _, _, _, _, _, _, _, .weak ids h1 h2 h3 => fun E vs hH hX hN hargs hlen =>
    (Run.sound hT h1 E vs hH hX hN hargs hlen).mono fun e w' he => by
      obtain ⟨E', v, rfl, rfl, q1, q2, q3, q4, q5⟩ := he
      obtain ⟨F, r1, r2, r3, r4, r5, _, r7⟩ := weak_rep h2 q2 q3 q4
      exact ⟨F, v, rfl, r2, q1.trans r1, r4, by intro b hb; rw [r3] at hb; rw [r2]; exact q3 b hb, r5, r7 _ _ _ h3 q5⟩
end

end
end Go.Proofs.YtfbkgjmpadknfaaW.Ah
