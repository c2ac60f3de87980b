/-
  The evaluator is sound.
-/
import Derived.Test.YtcdafogfmijcpaaAhD
namespace Go.Proofs.YtcdafogfmijcpaaW.Ah
set_option linter.unusedVariables false
set_option linter.unusedSimpArgs false
section
variable {P : Program} {T : Tab}

theorem Ret.of {E F : Env} {r : AV} {H' : Nat → Option Blk} {n' : Nat} {e : Ending} {w' : World} (h : Ext E F) (hr : Ret P F r H' n' e w') : Ret P E r H' n' e w' :=
  let ⟨E', v, h1, h2, h3, h4⟩ := hr
  ⟨E', v, h1, h2, h.trans h3, h4⟩

theorem RepL.nilArg {E : Env} {full : Bool} : ∀ (pre post : List AV) {vs : List Value}, RepL E (pre ++ .ssl [] 0 full :: post) vs → RepL E (pre ++ .sc (.slice none 0 0) :: post) vs ∨ RepL E (pre ++ .esl full :: post) vs
  | [], post, [], h => by simp [RepL] at h
  | [], post, v :: vs, h => by
    simp only [List.nil_append, RepL] at h ⊢
    obtain ⟨h1, h2⟩ := h
    simp only [RepV] at h1
    have key : ∀ a cap, v = .slice a 0 cap → (full = true → cap = 0) → (a = none → cap = 0) → (RepV E (.sc (.slice none 0 0)) v ∨ RepV E (.esl full) v) := by
      intro a cap e h3 h4
      cases a with
      | none => have := h4 rfl; subst this; left; simp only [RepV]; exact e
      | some a => right; simp only [RepV]; exact ⟨a, cap, e, h3⟩
    have : RepV E (.sc (.slice none 0 0)) v ∨ RepV E (.esl full) v := by
      rcases h1 with ⟨b, o, cells, ty, fz, cap, e, h3, h4, _⟩ | ⟨_, _, a, cap, e, h3, h4⟩
      · exact key _ _ e h4 (fun h => by cases h)
      · exact key _ _ e h3 h4
    exact this.imp (fun g => ⟨g, h2⟩) (fun g => ⟨g, h2⟩)
  | p :: pre, post, [], h => by simp [RepL] at h
  | p :: pre, post, v :: vs, h => by
    simp only [List.cons_append, RepL] at h ⊢
    exact (RepL.nilArg pre post h.2).imp (fun g => ⟨h.1, g⟩) (fun g => ⟨h.1, g⟩)

/-- What is shown of a call. -/
def RunOk (P : Program) (f : FuncId) (args : List AV) (H : Nat → Option Blk) (n : Nat) (r : AV) (H' : Nat → Option Blk) (n' : Nat) : Prop :=
  ∀ (E : Env) (vs : Array Value), RepH P E H → Xb E → E.N = n → RepL E args vs.toList → args.length = vs.size → Calls P f vs E.w (Ret P E r H' n')

theorem callsIn_any {ro : Option Nat} {n : Nat} {f : FuncId} {vs : Array Value} {w : World} {R : Ending → World → Prop} (h : Calls P f vs w R) : CallsIn (FR ro) n P f vs w R :=
  (callsIn_wide (n := n)).2 h

theorem does_call {o : Oper} {t : Nat → AV} {H H' : Nat → Option Blk} {n n' : Nat} {v : AV} {c : Call} {f : Operand} {g : FuncId} {first caps : List AV} {fn : Func} {body : Code}
    (ho : o.op = .call c) (hc : c.callee = .value f) (hf : ev t f = .fn (.func g) first caps) (h1 : P.funcs[g]? = some fn) (h2 : fn.body = some body) (h3 : (fn.name == "runtime.NumGoroutine") = false)
    (h : ∀ (E : Env) (vs : Array Value), RepH P E H → Xb E → E.N = n → RepL E (first ++ c.args.toList.map (ev t) ++ caps) vs.toList → (first ++ c.args.toList.map (ev t) ++ caps).length = vs.size → Calls P g vs E.w (Ret P E v H' n')) :
    DoesOk P o t H n v H' n' := by
  intro ro E k a K Q hlp hH hX hN hr hK
  obtain ⟨vs, e1, e2, e3⟩ := call_enters (P := P) hr ho hc hf h1 h2 h3
  unfold Oper.wpIn
  refine ⟨fun _ _ => trivial, ?_⟩
  rw [Oper.semAt_eq _ _ _ (fun c' e => by rw [ho] at e; cases e), e1, Oper.uponIn_enter]
  refine ⟨fun h => (by cases h), callsIn_any ((h E vs hH hX hN e2 e3).mono fun e w' he => ?_)⟩
  obtain ⟨E', z, rfl, rfl, q1, q2, q3, q4, q5⟩ := he
  exact hK E' z q1 q2 q3 q4 q5

theorem vop_does (hT : TOk P T) {o : Oper} {t : Nat → AV} {H : Nat → Option Blk} {n : Nat} {v : AV} (h : vop T t H o.op = some v) : DoesOk P o t H n v H n := by
  intro ro E k a K Q hlp hH hX hN hr hK
  obtain ⟨z, h1, h2⟩ := vop_sound hT hH hr h
  unfold Oper.wpIn
  refine ⟨fun _ _ => trivial, ?_⟩
  rw [Oper.semAt_eq _ _ _ (fun c' e => by rw [e] at h; simp [vop] at h), h1, Oper.uponIn_value]
  exact hK E z (Ext.refl _) hH hX hN h2

theorem mop_does (hT : TOk P T) {o : Oper} {t : Nat → AV} {H H' : Nat → Option Blk} {n n' : Nat} {v : AV} (h : mop T t H n o.op = some (v, H', n')) : DoesOk P o t H n v H' n' := by
  intro ro E k a K Q hlp hH hX hN hr hK
  subst hN
  obtain ⟨E', z, h1, h2, h3, h4, h5, h6⟩ := mop_sound hT hH hX hr h
  unfold Oper.wpIn
  refine ⟨fun _ _ => trivial, ?_⟩
  rw [Oper.semAt_eq _ _ _ (fun c' e => by rw [e] at h; simp [mop] at h)]
  rcases h1 with h1 | ⟨h1, rfl⟩
  · rw [h1, Oper.uponIn_value]; exact hK E' z h2 h3 h4 h5 h6
  · rw [h1, Oper.uponIn_skip]; exact hK E' _ h2 h3 h4 h5 h6

/-- A call that knows nothing of the table. -/
theorem callF_ok {g : FuncId} {args args' : List AV} {H H' : Nat → Option Blk} {n n' : Nat} {v : AV} (ids : List Nat) (hv : ViewL T H ids args args') (h : RunOk P g args' (fun _ => none) 0 v H' n')
    (hfree : (ids = [] ∧ free v = true) ∨ flat v = true) : RunOk P g args H n v H n := by
  intro E vs hH hX hN hargs hlen
  let Ec : Env := ⟨fun b => E.X b ∨ ∃ i l, i ∉ ids ∧ E.m i = some l ∧ l.b = b, 0, fun _ => none, E.w⟩
  have hXc : Xb Ec := by
    intro b hb
    rcases hb with hb | ⟨i, l, _, hl, rfl⟩
    · exact hX b hb
    · exact (hH.lt i l hl).2.1
  have hHc : RepH P Ec (fun _ => none) := ⟨fun i blk hb => (by cases hb), fun i l hl => (by cases hl), fun i j l l' hl => (by cases hl)⟩
  have hsh : ∀ b, E.shared b → Ec.shared b := by
    intro b hb
    refine ⟨fun hx => ?_, fun i l hl => by cases hl⟩
    rcases hx with hx | ⟨i, l, _, hl, e⟩
    · exact hb.1 hx
    · exact hb.2 i l hl e
  have hids : ∀ i l, i ∈ ids → E.m i = some l → Ec.shared l.b := by
    intro i l hi hl
    refine ⟨fun hx => ?_, fun j l' hj => by cases hj⟩
    rcases hx with hx | ⟨j, l', hj, hl', e⟩
    · exact (hH.lt i l hl).2.2.1 hx
    · have := hH.inj j i l' l hl' hl e
      subst this
      exact hj hi
  have hra : RepL Ec args' vs.toList := ViewL.rep (F := Ec) hH rfl hsh hids hv _ hargs
  refine (h Ec vs hHc hXc rfl hra (by rw [hv.length, hlen])).mono fun e w' he => ?_
  obtain ⟨E', z, rfl, rfl, q1, q2, q3, q4, q5⟩ := he
  let F : Env := ⟨E.X, E.N, E.m, E'.w⟩
  have hk : ∀ b, b < E.w.heap.size → E'.w.heap[b]? = E.w.heap[b]? := fun b hb => q1.keep b hb (fun i l hl => by cases hl)
  have hx : Ext E F := ⟨rfl, Nat.le_refl _, q1.os, q1.tape, q1.output, q1.size, fun b hb _ => hk b hb, fun _ _ _ h => h, fun i l h => .inr ⟨i, l, h, rfl⟩, q1.lp⟩
  refine ⟨F, z, rfl, rfl, hx, ⟨fun i blk hb => ?_, fun i l hl => ?_, hH.inj⟩, fun b hb => Nat.lt_of_lt_of_le (hX b hb) q1.size, hN, ?_⟩
  · obtain ⟨l, hl, hr⟩ := hH.own i blk hb
    exact ⟨l, hl, RepB.ext hx (hk _ (hH.lt i l hl).2.1) hr⟩
  · obtain ⟨h1, h2, h3, h4⟩ := hH.lt i l hl
    exact ⟨h1, Nat.lt_of_lt_of_le h2 q1.size, h3, h4⟩
  · rcases hfree with ⟨rfl, hfr⟩ | hfl
    · refine RepV.lift (E := E') (F := F) rfl (fun b hb => ?_) _ _ hfr q5
      have hb1 := hb.1
      rw [q1.X] at hb1
      exact ⟨fun hx => hb1 (.inl hx), fun i l hl e => hb1 (.inr ⟨i, l, by simp, hl, e⟩)⟩
    · exact RepV.flat _ _ hfl q5

def EvOk (P : Program) (k : Nat) (c : Code) (s : St) (e : Ex) (s' : St) : Prop := ∀ (C : Ctx) (E : Env) (a : Act), Good P C E k s a → c.wpIn (FR C.ro) 0 P (Fin P C E k e s') a E.w

def EvLOk (P : Program) (k : Nat) (G : Array Oper) (L : List Oper) (s s' : St) : Prop :=
  ∀ (C : Ctx) (E : Env) (a : Act) (idxs : List Nat) (Q : Exit → Act → World → Prop), Good P C E k s a → idxs.map (G[·]?) = L.map some → (∀ E' a', Ext E E' → Good P C E' k s' a' → Q .normal a' E'.w) → wpOpsIn (FR C.ro) 0 P G Q idxs a E.w

def EvLoopOk (P : Program) (k : Nat) (c : Code) (s : St) (e : Ex) (s' : St) : Prop :=
  ∀ (C : Ctx) (E : Env) (a : Act), Good P C E k s a → ∀ (b : Frame) (kk : List Item) (cs : List Frame), b.roundOf = C.ro → ∃ x a' w', Fin P C E k e s' x a' w' ∧ ArrivesIn (Machine.fenced P (FR C.ro)) P (lone (b.atR a (.code c :: .inLoop c :: kk)) cs E.w) b kk cs x a' w'

def EvScopeOk (P : Program) (k : Nat) (body c : Code) (s : St) (e : Ex) (s' : St) : Prop :=
  ∀ (C : Ctx) (E : Env) (a : Act), Good P C E k s a → ∀ (b : Frame) (kk : List Item) (cs : List Frame), b.roundOf = C.ro → ∃ x a' w', Fin P C E k e s' x a' w' ∧ ArrivesIn (Machine.fenced P (FR C.ro)) P (lone (b.atR a (.code c :: .inScope body :: kk)) cs E.w) b kk cs x a' w'

theorem room_FR {ro : Option Nat} (n : Nat) : (FR ro).room n := fun d h => by cases h

theorem evL_op {k : Nat} {G : Array Oper} {o : Oper} {l : List Oper} {s s' : St} {v : AV} {H' : Nat → Option Blk} {n' : Nat} (h1 : wantedA G o s.t = some true) (h2 : dstOk k o = true) (h3 : DoesOk P o s.t s.H s.n v H' n')
    (h4 : EvLOk P k G l ⟨putA s.t o.dst v, H', n'⟩ s') : EvLOk P k G (o :: l) s s' := by
  intro C E a idxs Q hg hi hQ
  match idxs, hi with
  | i :: rest, hi =>
    simp only [List.map_cons, List.cons.injEq] at hi
    simp only [wpOpsIn, hi.1]
    rw [if_pos (wanted_sound hg.t h1)]
    refine h3 C.ro E k a _ Q hg.m.loop hg.H hg.X hg.N hg.t fun E' z q1 q2 q3 q4 q5 => ?_
    exact h4 C E' _ rest Q ⟨q2, q3, q4, putA_rep (hg.t.ext q1) h2 q5, by rw [put_defers]; exact hg.m.ext q1⟩ hi.2 fun E'' a'' r1 r2 => hQ E'' a'' (q1.trans r1) r2

theorem evL_skip {k : Nat} {G : Array Oper} {o : Oper} {l : List Oper} {s s' : St} (h1 : wantedA G o s.t = some false) (h2 : dstOk k o = true)
    (h4 : EvLOk P k G l ⟨putA s.t o.dst (.tup []), s.H, s.n⟩ s') : EvLOk P k G (o :: l) s s' := by
  intro C E a idxs Q hg hi hQ
  match idxs, hi with
  | i :: rest, hi =>
    simp only [List.map_cons, List.cons.injEq] at hi
    simp only [wpOpsIn, hi.1]
    rw [if_neg (by rw [wanted_sound hg.t h1]; simp)]
    exact ⟨fun _ _ => trivial, h4 C E _ rest Q ⟨hg.H, hg.X, hg.N, putA_rep hg.t h2 rep_undef, by rw [put_defers]; exact hg.m⟩ hi.2 hQ⟩

theorem loop_ok {k : Nat} {c : Code} {s s1 : St} {e : Ex} (h : EvLoopOk P k c s e s1) : EvOk P k (.loop c) s e s1 := fun C E a hg b kk cs hro hb hr =>
  let ⟨x, a', w', h1, h2⟩ := h C E a hg b kk cs hro
  ⟨x, a', w', h1, .of_steps (.one (fenced_calm hb hr rfl) stepR_loop) h2⟩

theorem loop_more {k : Nat} {c : Code} {s s1 s2 : St} {e : Ex} (h1 : EvOk P k c s .normal s1) (h2 : EvLoopOk P k c s1 e s2) : EvLoopOk P k c s e s2 := by
  intro C E a hg b kk cs hro
  obtain ⟨x, a1, w1, ⟨rfl, E1, rfl, q1, q2⟩, harr⟩ := h1 C E a hg b (.inLoop c :: kk) cs hro trivial (room_FR _)
  obtain ⟨x, a2, w2, hf, harr2⟩ := h2 C E1 a1 q2 b kk cs hro
  exact ⟨x, a2, w2, hf.of q1, .of_steps (StepsIn.trans harr (.one (fenced_calm (n := 0) trivial (room_FR _) rfl) stepR_inLoop)) harr2⟩

theorem loop_done {k : Nat} {c : Code} {s s1 : St} {e : Ex} (h1 : EvOk P k c s e s1) (hne : e ≠ .normal) : EvLoopOk P k c s e s1 := by
  intro C E a hg b kk cs hro
  obtain ⟨x, a1, w1, hf, harr⟩ := h1 C E a hg b (.inLoop c :: kk) cs hro trivial (room_FR _)
  refine ⟨x, a1, w1, hf, ?_⟩
  obtain ⟨rfl, _⟩ := hf
  cases e with
  | normal => exact absurd rfl hne
  | _ => exact ArrivesIn.pass (x := .inLoop c) rfl (fun _ _ => .inl (by simp [Ex.to])) harr

theorem stepR_scope {b : Frame} {a : Act} {k : List Item} {cs : List Frame} {w : World} {c : Code} : step P (lone (b.atR a (.code (.scope c) :: k)) cs w) = .next (lone (b.atR a (.code c :: .inScope c :: k)) cs w) :=
  step_lone_go (by simp [stepG, stepG.exec, Frame.atR])
theorem stepR_inScope {b : Frame} {a : Act} {k : List Item} {cs : List Frame} {w : World} {c : Code} : step P (lone (b.atR a (.inScope c :: k)) cs w) = .next (lone (b.atR a k) cs w) :=
  step_lone_go (by simp [stepG, stepG.exec, Frame.atR])

theorem scope_ok {k : Nat} {c : Code} {s s1 : St} {e : Ex} (h : EvScopeOk P k c c s e s1) : EvOk P k (.scope c) s e s1 := fun C E a hg b kk cs hro hb hr =>
  let ⟨x, a', w', h1, h2⟩ := h C E a hg b kk cs hro
  ⟨x, a', w', h1, .of_steps (.one (fenced_calm hb hr rfl) stepR_scope) h2⟩

theorem scope_straight {k : Nat} {body c : Code} {s s1 : St} {e : Ex} (h1 : EvOk P k c s e s1) (hne : ∀ l, e ≠ .goto l) : EvScopeOk P k body c s e s1 := by
  intro C E a hg b kk cs hro
  obtain ⟨x, a1, w1, hf, harr⟩ := h1 C E a hg b (.inScope body :: kk) cs hro trivial (room_FR _)
  refine ⟨x, a1, w1, hf, ?_⟩
  obtain ⟨rfl, _⟩ := hf
  cases e with
  | normal => exact StepsIn.trans harr (.one (fenced_calm (n := 0) trivial (room_FR _) rfl) stepR_inScope)
  | exit id => exact ⟨fun k' hk => harr.1 k' (by simp [exitTo, hk]), fun hr hk => harr.2 hr (by simp [exitTo, hk])⟩
  | goto l => exact absurd rfl (hne l)
  | ret => exact harr

theorem scope_jump {k l : Nat} {body c rest : Code} {s s1 s2 : St} {e : Ex} (h1 : EvOk P k c s (.goto l) s1) (hl : findLabel body l = some rest) (h2 : EvScopeOk P k body rest s1 e s2) : EvScopeOk P k body c s e s2 := by
  intro C E a hg b kk cs hro
  obtain ⟨x, a1, w1, ⟨rfl, E1, rfl, q1, q2⟩, harr⟩ := h1 C E a hg b (.inScope body :: kk) cs hro trivial (room_FR _)
  obtain ⟨x, a2, w2, hf, harr2⟩ := h2 C E1 a1 q2 b kk cs hro
  exact ⟨x, a2, w2, hf.of q1, .of_steps (harr.1 _ (by simp [gotoIn, hl])) harr2⟩

theorem leaves_ok (hT : TOk P T) {fn : Func} {E0 : Env} {k : Nat} {s : St} {r : AV} {C : Ctx} {tmps : Array Value} (hB : C.B = E0.w.heap.size) (hr : resOf T fn.results.toList s = some r) : ∀ (ds : List Deferred) (E : Env), Ext E0 E →
    Good P C E k s { tmps := tmps, defers := ds } → LeavesInM Fence.wide 0 P fn tmps (Ret P E0 r s.H s.n) ds .returning E.w
  | [], E, hx, hg => by
    obtain ⟨v, hv, hrv⟩ := run_resOf hT hg hr
    exact ⟨v, hv, E, v, rfl, rfl, hx, hg.H, hg.X, hg.N, hrv⟩
  | d :: ds, E, hx, hg => by
    obtain ⟨b, e1, e2, e3, e4⟩ := hg.m.marks d (by simp)
    have hc : ∀ c t f, Obj.deferred (some []) ≠ .cells c t f := fun c t f h => by cases h
    have hnd := List.nodup_cons.1 hg.m.nd
    have hx' : Ext E0 (E.pobj b (.deferred none)) := hx.pobj (.inr (by omega)) (fun r h => by rw [e4] at h; cases h)
    refine ⟨by simp, .inl ⟨b, _, by rw [e1], run_takeDeferred e4, leaves_ok hT hB hr ds (E.pobj b (.deferred none)) hx' ⟨hg.H.pobj e4 hc e3, fun b' hb' => ?_, hg.N, RepT.pobj (a := { tmps := tmps, defers := ds }) e4 hc ⟨hg.t.size, hg.t.at_⟩, fun l e => ?_, ?_, hnd.2, fun d' hd' => ?_⟩⟩⟩
    · simpa [Env.pobj] using hg.X b' hb'
    · obtain ⟨r', hr'⟩ := hg.m.loop l e
      exact ⟨r', (pobj_other (by rintro rfl; rw [e4] at hr'; cases hr')).trans hr'⟩
    · simpa [Env.pobj] using hg.m.B
    · obtain ⟨b', f1, f2, f3, f4⟩ := hg.m.marks d' (by simp at hd' ⊢; exact .inr hd')
      refine ⟨b', f1, f2, f3, (pobj_other ?_).trans f4⟩
      rintro rfl
      exact hnd.1 (by rw [e1, ← f1]; exact hd')

theorem fillT_rep {E : Env} {k : Nat} (args : List AV) : ∀ (ps : List Nat) (vs : List Value) (t : Nat → AV) (tmps : Array Value), ps.all (fun p => decide (p < k)) = true → RepL E args vs → args.length = vs.length → RepT E k t { tmps := tmps, defers := [] } →
    RepT E k (fillT t (ps.zip args)) { tmps := (ps.zip vs).foldl (fun tmps (t, a) => tmps.setIfInBounds t a) tmps, defers := [] } := by
  induction args with
  | nil => intro ps vs t tmps _ _ hl hr; cases vs with | nil => simpa [fillT] using hr | cons => simp at hl
  | cons x args ih =>
    intro ps vs t tmps hp hv hl hr
    cases ps with
    | nil => simpa [fillT] using hr
    | cons p ps =>
      cases vs with
      | nil => simp at hl
      | cons v vs =>
        simp only [List.all_cons, Bool.and_eq_true, decide_eq_true_eq] at hp
        simp only [RepL] at hv
        have := hr.put hp.1 hv.1
        exact ih ps vs _ _ hp.2 hv.2 (by simpa using hl) this

theorem does_round {o : Oper} {t : Nat → AV} {H : Nat → Option Blk} {n i k k1 k2 : Nat} {c : Call} {f : Operand} {t0 t1 t2 : Nat → AV} {ps ps1 ps2 : Array Nat} {asg asg1 asg2 bod bod1 bod2 : Code} {s1 s2 : St} {e : Ex}
    (ho : o.op = .call c) (hc : c.callee = .value f) (hf : ev t f = .yld i) (hi : H i = some (.loop t0 k ps asg bod .ready)) (hps : ps.size = c.args.size) (hk : ps.toList.all (fun p => decide (p < k)) = true)
    (h1 : EvOk P k asg ⟨fillT t0 (ps.toList.zip (c.args.toList.map (ev t))), H, n⟩ .normal s1) (hi1 : s1.H i = some (.loop t1 k1 ps1 asg1 bod1 .ready))
    (h2 : EvOk P k bod ⟨s1.t, upd s1.H i (some (.loop t1 k1 ps1 asg1 bod1 .busy)), s1.n⟩ e s2) (hi2 : s2.H i = some (.loop t2 k2 ps2 asg2 bod2 .busy)) :
    DoesOk P o t H n (B (e == .normal)) (upd s2.H i (some (.loop t2 k2 ps2 asg2 bod2 e.stt))) s2.n := by
  intro ro E k' a K Q hlp hH hX hN hr hK
  subst hN
  obtain ⟨l, hl, r, hb, rfl, rfl, rfl, ⟨hst, hpen⟩, hsz, hrt⟩ := hH.own i _ hi
  have hx := hr.ev f
  rw [hf] at hx
  simp only [RepV] at hx
  obtain ⟨hin, b, hfv, hbl⟩ := hx
  obtain rfl : b = l.b := hbl l hl
  have hcl : ∀ (r : Loop) c t f, Obj.loop r ≠ .cells c t f := fun r c t f h => by cases h
  unfold Oper.wpIn
  refine ⟨fun _ _ => trivial, ?_⟩
  rw [Oper.semAt_eq _ _ _ (fun c' e => by rw [ho] at e; cases e)]
  have hrun : (execOp a.eval o).run P E.w = .ok (.round l.b r.fn ((r.params.zip (c.args.map a.eval)).foldl (fun tmps (t, a) => tmps.setIfInBounds t a) r.tmps) r.assign r.body) E.w := by
    unfold execOp; rw [ho]
    simp only [resolve, hc, hfv, Deferred.ofValue, Sem.run_bind, Sem.run_pure, Result.andThen_ok, invoke]
    simpa using run_yield (P := P) (args := c.args.map a.eval) hb (by simp [hps])
  rw [hrun, Oper.uponIn_round]
  refine ⟨fun h => (by cases h), roundIn_of_wpIn trivial ?_⟩
  have hargs := args_rep hr c.args.toList
  let C : Ctx := ⟨E.w.heap.size, some l.b⟩
  have hg : Good P C E k ⟨fillT t0 (r.params.toList.zip (c.args.toList.map (ev t))), H, E.N⟩ { tmps := (r.params.zip (c.args.map a.eval)).foldl (fun tmps (t, a) => tmps.setIfInBounds t a) r.tmps, defers := [] } := by
    refine ⟨hH, hX, rfl, ?_, fun l' e => (by cases e; exact ⟨r, hb⟩), Nat.le_refl _, List.nodup_nil, fun d hd => (by cases hd)⟩
    have := fillT_rep (E := E) (k := k) (c.args.toList.map (ev t)) r.params.toList (c.args.toList.map a.eval) t0 r.tmps hk hargs (by simp) ⟨hsz, hrt⟩
    rw [← Array.foldl_toList]
    simpa using this
  refine wpIn_mono (h1 C E _ hg) ?_
  rintro x a1 w1 ⟨rfl, E1, rfl, x1, g1⟩
  obtain ⟨l1, hl1, r1, hb1, p1, p2, p3, ⟨hst1, hpen1⟩, hsz1, hrt1⟩ := g1.H.own i _ hi1
  have e1 : l1 = l := by have := x1.old i l1 hin hl1; rw [hl] at this; cases this; rfl
  subst e1
  refine ⟨_, run_beginRound hb1 hst1, ?_⟩
  have x2 : Ext E (E1.pobj l1.b (.loop { r1 with state := .busy })) := x1.pobj (.inl ⟨i, l1, hl, rfl⟩) (fun r _ => ⟨_, rfl⟩)
  have g2 : Good P C (E1.pobj l1.b (.loop { r1 with state := .busy })) k ⟨s1.t, upd s1.H i (some (.loop t1 k1 ps1 asg1 bod1 .busy)), s1.n⟩ a1 := by
    refine ⟨g1.H.pobjAt hb1 (hcl _) hl1 ⟨{ r1 with state := .busy }, ?_, p1, p2, p3, rfl, hsz1, fun j => RepV.pobj hb1 (hcl _) _ _ (hrt1 j)⟩, fun b' hb' => by simpa [Env.pobj] using g1.X b' hb', g1.N, g1.t.pobj hb1 (hcl _), fun l' e => ?_, ?_, g1.m.nd, fun d hd => ?_⟩
    · simp [Env.pobj, lt_of_block hb1]
    · cases e; exact ⟨{ r1 with state := .busy }, by simp [Env.pobj, lt_of_block hb1]⟩
    · simpa [Env.pobj] using g1.m.B
    · obtain ⟨b', f1, f2, f3, f4⟩ := g1.m.marks d hd
      exact ⟨b', f1, f2, f3, (pobj_other (by rintro rfl; rw [hb1] at f4; cases f4)).trans f4⟩
  refine wpIn_mono (h2 C _ a1 g2) ?_
  rintro x a2 w2 ⟨rfl, E3, rfl, x3, g3⟩
  obtain ⟨l3, hl3, r3, hb3, p31, p32, p33, hst3, hsz3, hrt3⟩ := g3.H.own i _ hi2
  have e3 : l3 = l1 := by have := (x2.trans x3).old i l3 hin hl3; rw [hl] at this; cases this; rfl
  subst e3
  have key : ∀ (r' : Loop) (e' : LSt), r'.params = r3.params → r'.assign = r3.assign → r'.body = r3.body → r'.tmps = r3.tmps → e'.fits r' → ∀ z, K (a.put o.dst (.bool z)) (E3.w.putObj l3.b (.loop r')) ∨ e' ≠ e.stt ∨ z ≠ (e == .normal) := by
    intro r' e' q1 q2 q3 q4 q5 z
    by_cases he : e' = e.stt
    · by_cases hz : z = (e == .normal)
      · left
        subst he; subst hz
        refine hK (E3.pobj l3.b (.loop r')) _ ((x2.trans x3).pobj (.inl ⟨i, l3, hl, rfl⟩) (fun r _ => ⟨_, rfl⟩)) ?_ (fun b' hb' => by simpa [Env.pobj] using g3.X b' hb') g3.N (rep_sc _)
        refine g3.H.pobjAt hb3 (hcl _) hl3 ⟨r', ?_, by rw [q1, p31], by rw [q2, p32], by rw [q3, p33], q5, by rw [q4, hsz3], fun j => by rw [q4]; exact RepV.pobj hb3 (hcl _) _ _ (hrt3 j)⟩
        simp [Env.pobj, lt_of_block hb3]
      · exact .inr (.inr hz)
    · exact .inr (.inl he)
  cases e with
  | normal => exact ⟨_, _, run_endRound none hb3, ((key { r3 with state := .ready, pending := none } .ready rfl rfl rfl rfl ⟨rfl, rfl⟩ true).resolve_right (by simp [Ex.stt]))⟩
  | exit j => exact ⟨_, _, run_endRound (some (.exit j)) hb3, ((key { r3 with state := .done, pending := some (.exit j) } (.done (.exit j)) rfl rfl rfl rfl ⟨rfl, rfl⟩ false).resolve_right (by simp [Ex.stt]))⟩
  | goto j => exact ⟨_, _, run_endRound (some (.goto j)) hb3, ((key { r3 with state := .done, pending := some (.goto j) } (.done (.goto j)) rfl rfl rfl rfl ⟨rfl, rfl⟩ false).resolve_right (by simp [Ex.stt]))⟩
  | ret => exact ⟨_, _, run_endRound (some .ret) hb3, ((key { r3 with state := .done, pending := some .ret } (.done .ret) rfl rfl rfl rfl ⟨rfl, rfl⟩ false).resolve_right (by simp [Ex.stt]))⟩

def LSt.goes : LSt → Prop → (Code → Prop) → Prop
  | .done c, _, J => J c
  | _, N, _ => N

theorem alloc_old {w : World} {o : Obj} {b : Nat} (h : b < w.heap.size) : (w.alloc o).heap[b]? = w.heap[b]? := by
  show (w.heap.push o)[b]? = _
  rw [Array.getElem?_push, if_neg (by omega)]

theorem range_ok {k : Nat} {f : Operand} {ps : Array Nat} {asg bod : Code} {s : St} {g : FuncId} {first caps : List AV} {fn : Func} {body : Code} {r : AV} {H' : Nat → Option Blk} {n' : Nat} {t0 : Nat → AV} {k0 : Nat} {ps0 : Array Nat} {asg0 bod0 : Code} {st : LSt}
    (hf : ev s.t f = .fn (.func g) first caps) (q1 : P.funcs[g]? = some fn) (q2 : fn.body = some body) (q3 : (fn.name == "runtime.NumGoroutine") = false)
    (hrun : RunOk P g (first ++ [.yld s.n] ++ caps) (upd s.H s.n (some (.loop s.t k ps asg bod .ready))) (s.n + 1) r H' n') (hH' : H' s.n = some (.loop t0 k0 ps0 asg0 bod0 st)) (hbusy : st ≠ .busy)
    {C : Ctx} {E : Env} {a : Act} (hg : Good P C E k s a) {Q : Exit → Act → World → Prop}
    (hQ : ∀ E' a', Ext E E' → Good P C E' k ⟨s.t, upd H' s.n none, n'⟩ a' → st.goes (Q .normal a' E'.w) (fun c => c.wpIn (FR C.ro) 0 P Q a' E'.w)) :
    (Code.rangeFunc f ps asg bod).wpIn (FR C.ro) 0 P Q a E.w := by
  refine wpIn_rangeFunc fun fnid _ => ?_
  have hcl : ∀ (r : Loop) c t f, Obj.loop r ≠ .cells c t f := fun r c t f h => by cases h
  -- the loop's record is laid
  obtain ⟨lb, mark, W1, rec, he, hlb, hlt, hold, hrec, hrec1, hrec2, hrec3, hrec4, hrec5, hos, htape, hout, hmark⟩ : ∃ (lb : Nat) (mark : List Deferred) (W1 : World) (rec : Loop),
      (Instr.enterLoop fnid a.tmps ps asg bod (FR C.ro).round).run P E.w = .ok (lb, mark) W1 ∧ E.w.heap.size ≤ lb ∧ lb < W1.heap.size ∧ (∀ b, b < E.w.heap.size → W1.heap[b]? = E.w.heap[b]?) ∧
      W1.heap[lb]? = some (.loop rec) ∧ rec.tmps = a.tmps ∧ rec.params = ps ∧ rec.assign = asg ∧ rec.body = bod ∧ (rec.state = .ready ∧ rec.pending = none) ∧ W1.os = E.w.os ∧ W1.tape = E.w.tape ∧ W1.output = E.w.output ∧
      mark.Nodup ∧ ∀ d ∈ mark, ∃ b, d = ({ target := .collected b, args := #[] } : Deferred) ∧ E.w.heap.size ≤ b ∧ b ≠ lb ∧ W1.heap[b]? = some (.deferred (some [])) := by
    cases hro : C.ro with
    | none =>
      refine ⟨_, _, _, { state := .ready, pending := none, fn := fnid, tmps := a.tmps, params := ps, assign := asg, body := bod, defers := E.w.heap.size }, run_enterLoop_outer _ _ _ _ _, by omega, by simp, fun b hb => ?_, ?_, rfl, rfl, rfl, rfl, ⟨rfl, rfl⟩, rfl, rfl, rfl, by simp, fun d hd => ?_⟩
      · exact (alloc_old (by simp; omega)).trans (alloc_old hb)
      · have := World.alloc_heap_new (E.w.alloc (.deferred (some []))) (.loop { state := .ready, pending := none, fn := fnid, tmps := a.tmps, params := ps, assign := asg, body := bod, defers := E.w.heap.size })
        rwa [World.size_alloc] at this
      · simp only [List.mem_singleton] at hd
        exact ⟨_, hd, Nat.le_refl _, by omega, (alloc_old (by simp)).trans (World.alloc_heap_new _ _)⟩
    | some l0 =>
      obtain ⟨r0, hr0⟩ := hg.m.loop l0 hro
      refine ⟨_, _, _, { state := .ready, pending := none, fn := fnid, tmps := a.tmps, params := ps, assign := asg, body := bod, defers := r0.defers }, run_enterLoop_inner hr0 _ _ _ _ _, Nat.le_refl _, by simp, fun b hb => alloc_old hb, World.alloc_heap_new _ _, rfl, rfl, rfl, rfl, ⟨rfl, rfl⟩, rfl, rfl, rfl, List.nodup_nil, fun d hd => by cases hd⟩
  have hN := hg.N
  let E1 : Env := ⟨E.X, E.N + 1, upd E.m E.N (some ⟨lb, 0, 0⟩), W1⟩
  have hun : ∀ j l', E.m j = some l' → j ≠ E.N ∧ l'.b ≠ lb := fun j l' h => by
    have := hg.H.lt j l' h
    exact ⟨by omega, by omega⟩
  have hsz1 : E.w.heap.size ≤ W1.heap.size := by omega
  have x1 : Ext E E1 := by
    refine ⟨rfl, Nat.le_succ _, hos, htape, hout, hsz1, fun b hb _ => hold b hb, fun j l' hj hl => ?_, fun j l' hl => ?_, fun b r hb => ⟨r, (hold b (lt_of_block hb)).trans hb⟩⟩
    · simp only [E1] at hl; rwa [upd_ne _ _ (by omega)] at hl
    · simp only [E1] at hl
      by_cases e : j = E.N
      · subst e; rw [upd_same] at hl; cases hl; exact .inl hlb
      · rw [upd_ne _ _ e] at hl; exact .inr ⟨j, l', hl, rfl⟩
  have hH1 : RepH P E1 (upd s.H s.n (some (.loop s.t k ps asg bod .ready))) := by
    rw [← hN]
    refine ⟨fun j blk hb => ?_, fun j l' hl => ?_, fun j j' l' l'' hl hl' e => ?_⟩
    · by_cases e : j = E.N
      · subst e
        rw [upd_same] at hb; cases hb
        exact ⟨⟨lb, 0, 0⟩, by simp only [E1]; rw [upd_same], rec, hrec, hrec2, hrec3, hrec4, hrec5, by rw [hrec1]; exact hg.t.size, fun j => by rw [hrec1]; exact RepV.ext x1 _ _ (hg.t.at_ j)⟩
      · rw [upd_ne _ _ e] at hb
        obtain ⟨l', hl, hr⟩ := hg.H.own j blk hb
        exact ⟨l', by simp only [E1]; rw [upd_ne _ _ e]; exact hl, RepB.ext x1 (hold _ (hg.H.lt j l' hl).2.1) hr⟩
    · simp only [E1] at hl ⊢
      by_cases e : j = E.N
      · subst e; rw [upd_same] at hl; cases hl
        exact ⟨Nat.lt_succ_self _, hlt, fun hx => by have := hg.X _ hx; simp only at this; omega, _, upd_same _ _ _⟩
      · rw [upd_ne _ _ e] at hl
        obtain ⟨g1, g2, g3, g4⟩ := hg.H.lt j l' hl
        exact ⟨by omega, by omega, g3, by rw [upd_ne _ _ e]; exact g4⟩
    · simp only [E1] at hl hl'
      by_cases e1 : j = E.N <;> by_cases e2 : j' = E.N
      · omega
      · subst e1; rw [upd_same] at hl; cases hl
        rw [upd_ne _ _ e2] at hl'
        exact absurd e.symm (hun j' l'' hl').2
      · subst e2; rw [upd_same] at hl'; cases hl'
        rw [upd_ne _ _ e1] at hl
        exact absurd e (hun j l' hl).2
      · rw [upd_ne _ _ e1] at hl; rw [upd_ne _ _ e2] at hl'; exact hg.H.inj j j' l' l'' hl hl' e
  -- the call
  have hx := hg.t.ev f
  rw [hf] at hx
  simp only [RepV] at hx
  obtain ⟨x, y, ex, l1, r1, l2, r2⟩ := hx
  have hyld : RepV E1 (.yld s.n) (.func (.yield lb) #[] #[]) := by
    simp only [RepV]
    refine ⟨by simp only [E1]; omega, lb, rfl, fun l' hl => ?_⟩
    simp only [E1] at hl
    rw [← hN, upd_same] at hl; cases hl; rfl
  have hargs : RepL E1 (first ++ [.yld s.n] ++ caps) (x ++ #[Value.func (.yield lb) #[] #[]] ++ y).toList := by
    simp only [Array.toList_append]
    exact RepL.append (RepL.append (RepL.ext x1 _ _ r1) l1 (by simp [RepL, hyld])) (by simp at l1 ⊢; omega) (RepL.ext x1 _ _ r2)
  have hcalls := hrun E1 (x ++ #[Value.func (.yield lb) #[] #[]] ++ y) hH1 (fun b hb => Nat.lt_of_lt_of_le (hg.X b hb) hsz1) (by simp only [E1]; omega) hargs (by simp at l1 l2 ⊢; omega)
  refine ⟨lb, mark, W1, { target := .fn (.func g) y, args := x ++ #[Value.func (.yield lb) #[] #[]] }, W1, g, x ++ #[Value.func (.yield lb) #[] #[]] ++ y, W1, he, ?_, fun _ _ => trivial, ?_, fun h => (by cases h), callsIn_any (hcalls.mono fun e w' hret => ?_)⟩
  · simp only [resolve, ex, Deferred.ofValue, Sem.run_bind, Sem.run_pure, Result.andThen_ok]
    simp [go_sem]
  · simp [invoke, callFunc, q1, q2, q3, Sem.run_bind, Result.andThen_ok]
    simpa using q3
  obtain ⟨E2, v, rfl, rfl, x2, hH2, hX2, hN2, _⟩ := hret
  obtain ⟨l2, hl2, r2, hb2, _, _, _, hst, _, _⟩ := hH2.own s.n _ hH'
  have hlb2 : l2.b = lb := by
    have := x2.old s.n l2 (by simp only [E1]; omega) hl2
    simp only [E1] at this
    rw [← hN, upd_same] at this; cases this; rfl
  rw [hlb2] at hb2
  have hnb : r2.state ≠ .busy := by
    cases st with
    | ready => rw [hst.1]; simp
    | busy => exact absurd rfl hbusy
    | done c => rw [hst.1]; simp
  have hx2 := x1.trans x2
  let E2r : Env := { E2 with m := upd E2.m s.n none }
  have hfr := forget_rep hH2 hX2 s.n
  have hm2 : ∀ j l', E2r.m j = some l' → l'.b ≠ lb := by
    intro j l' hl e
    simp only [E2r] at hl
    by_cases ej : j = s.n
    · subst ej; rw [upd_same] at hl; cases hl
    · rw [upd_ne _ _ ej] at hl
      exact ej (hH2.inj j s.n l' l2 hl hl2 (e.trans hlb2.symm))
  have x3 : Ext E E2r := hx2.trans hfr.1
  have x4 : Ext E (E2r.pobj lb (.loop { r2 with state := .exhausted })) := x3.pobj (.inr hlb) (fun r _ => ⟨_, rfl⟩)
  have hlb4 : lb < E2.w.heap.size := lt_of_block hb2
  have hg4 : Good P C (E2r.pobj lb (.loop { r2 with state := .exhausted })) k ⟨s.t, upd H' s.n none, n'⟩ { a with defers := mark ++ a.defers } := by
    have hm4 := hg.m.ext x4
    refine ⟨RepH.pobj (E := E2r) hb2 (hcl _) hm2 hfr.2, fun b' hb' => by simpa [Env.pobj, E2r] using hX2 b' hb', hN2, ⟨hg.t.size, fun j => RepV.ext x4 _ _ (hg.t.at_ j)⟩, hm4.loop, hm4.B, ?_, fun d hd => ?_⟩
    · refine List.nodup_append.2 ⟨hmark.1, hg.m.nd, fun d hd d' hd' e => ?_⟩
      subst e
      obtain ⟨b, f1, f2, _⟩ := hmark.2 d hd
      obtain ⟨b', g1, _, _, g2⟩ := hg.m.marks d hd'
      rw [f1] at g1; cases g1
      have := lt_of_block g2
      omega
    · rcases List.mem_append.1 hd with hd | hd
      · obtain ⟨b, f1, f2, f3, f4⟩ := hmark.2 d hd
        have hb1 : b < W1.heap.size := lt_of_block f4
        have hnm : ∀ j l', E1.m j = some l' → l'.b ≠ b := by
          intro j l' hl e
          simp only [E1] at hl
          by_cases ej : j = E.N
          · subst ej; rw [upd_same] at hl; cases hl; exact f3 e.symm
          · rw [upd_ne _ _ ej] at hl
            have := (hg.H.lt j l' hl).2.1
            omega
        have x2r : Ext E1 E2r := x2.trans hfr.1
        refine ⟨b, f1, Nat.le_trans hg.m.B f2, fun j l' hl e => ?_, ?_⟩
        · rcases x2r.new j l' hl with h' | ⟨j', l'', hj', e''⟩
          · simp only [E1] at h'; omega
          · exact hnm j' l'' hj' (e''.trans e)
        · exact (pobj_other f3).trans ((x2r.keep b hb1 hnm).trans f4)
      · exact hm4.marks d hd
  have := hQ _ _ x4 hg4
  obtain ⟨pj, hpj⟩ : ∃ pj, r2.pending = pj := ⟨_, rfl⟩
  refine ⟨pj, _, (run_endLoop hb2 hnb).trans (congrArg (fun q => Result.ok q _) hpj), ?_⟩
  cases st with
  | ready => obtain rfl : pj = none := hpj.symm.trans hst.2; exact this
  | busy => exact absurd rfl hbusy
  | done c => obtain rfl : pj = some c := hpj.symm.trans hst.2; exact this

theorem run_ok (hT : TOk P T) {f : FuncId} {fn : Func} {c : Code} {args : List AV} {H : Nat → Option Blk} {n : Nat} {e : Ex} {s' : St} {r : AV} (h1 : P.funcs[f]? = some fn) (h2 : fn.body = some c) (h4 : args.length ≤ fn.ntmps)
    (h5 : EvOk P fn.ntmps c ⟨initT args, H, n⟩ e s') (h6 : e = .ret ∨ e = .normal) (h7 : resOf T fn.results.toList s' = some r) : RunOk P f args H n r s'.H s'.n := by
  intro E vs hH hX hN hargs hlen
  refine (callsIn_wide (n := 0)).1 (callsIn_of_wp_marks h1 h2 trivial (wpIn_mono (h5 ⟨E.w.heap.size, none⟩ E _ ⟨hH, hX, hN, init_rep hargs hlen h4, fun l e => (by cases e), Nat.le_refl _, List.nodup_nil, fun d hd => (by cases hd)⟩) fun x a w hf => ?_))
  obtain ⟨rfl, E', rfl, q1, q2⟩ := hf
  have := leaves_ok hT (fn := fn) (tmps := a.tmps) rfl h7 a.defers E' q1 q2
  rcases h6 with rfl | rfl <;> exact this

theorem vop_congr {t t' : Nat → AV} {H : Nat → Option Blk} {op : Op} (h : ∀ x ∈ op.operands, ev t' x = ev t x) : vop T t' H op = vop T t H op := by
  have lists : ∀ l : List Operand, (∀ x ∈ l, ev t' x = ev t x) → l.map (ev t') = l.map (ev t) := fun l hl => List.map_congr_left hl
  have opts : ∀ x : Option Operand, (∀ y ∈ x.toList, ev t' y = ev t y) → x.map (ev t') = x.map (ev t) := by
    intro x hx
    cases x with
    | none => rfl
    | some y => simp [hx y (by simp)]
  cases op with
  | build ty ps =>
    simp only [vop]
    have : (ps.toList.map fun p => (p.1, ev t' p.2)) = (ps.toList.map fun p => (p.1, ev t p.2)) := List.map_congr_left fun p hp => by
      rw [h p.2 (by simp only [Op.operands, List.mem_toArray, List.mem_map]; exact ⟨p, hp, rfl⟩)]
    rw [this]
  | makeFunc f a b =>
    simp only [vop]
    rw [lists a.toList fun x hx => h x (by simp [Op.operands]; exact .inl (by simpa using hx)), lists b.toList fun x hx => h x (by simp [Op.operands]; exact .inr (by simpa using hx))]
  | slice s x lo hi mx =>
    simp only [vop]
    rw [h x (by simp [Op.operands]), opts lo fun y hy => h y (by simp [Op.operands]; simp at hy; simp [hy]), opts hi fun y hy => h y (by simp [Op.operands]; simp at hy; simp [hy]), opts mx fun y hy => h y (by simp [Op.operands]; simp at hy; simp [hy])]
  | call c =>
    obtain ⟨callee, args, ats⟩ := c
    have ha : args.toList.map (ev t') = args.toList.map (ev t) := lists _ fun x hx => h x (by simp [Op.operands, Call.operands]; exact .inr (by simpa using hx))
    cases callee with
    | builtin b => cases b <;> simp only [vop, ha]
    | _ => rfl
  | _ => first | rfl | (simp only [vop]; simp only [Op.operands] at h; simp_all)

theorem mop_congr {t t' : Nat → AV} {H : Nat → Option Blk} {n : Nat} {op : Op} (h : ∀ x ∈ op.operands, ev t' x = ev t x) : mop T t' H n op = mop T t H n op := by
  have lists : ∀ l : List Operand, (∀ x ∈ l, ev t' x = ev t x) → l.map (ev t') = l.map (ev t) := fun l hl => List.map_congr_left hl
  cases op with
  | buildSlice ty len ps =>
    simp only [mop]
    have : (ps.toList.map fun p => (p.1, ev t' p.2)) = (ps.toList.map fun p => (p.1, ev t p.2)) := List.map_congr_left fun p hp => by
      rw [h p.2 (by simp only [Op.operands, List.mem_toArray, List.mem_map]; exact ⟨p, hp, rfl⟩)]
    rw [this]
  | call c =>
    obtain ⟨callee, args, ats⟩ := c
    have ha : args.toList.map (ev t') = args.toList.map (ev t) := lists _ fun x hx => h x (by simp [Op.operands, Call.operands]; exact .inr (by simpa using hx))
    cases callee with
    | builtin b => cases b <;> simp only [mop, ha]
    | _ => rfl
  | makeMap mt x => cases x <;> rfl
  | _ => first | rfl | (simp only [mop]; simp only [Op.operands] at h; simp_all)

theorem vop_reads {t : Nat → AV} {H H2 : Nat → Option Blk} {op : Op} (h : ∀ j ∈ readsOf t op, H2 j = H j) : vop T t H2 op = vop T t H op := by
  cases op with
  | load ty a =>
    simp only [vop]
    simp only [readsOf] at h
    cases hx : ev t a with
    | own i o => rw [hx] at h; simp only [h i (by simp)]
    | _ => rfl
  | slice s x lo hi mx =>
    simp only [readsOf] at h
    simp only [vop]
    cases hx : ev t x with
    | osl i o n c =>
      rw [hx] at h
      have hi := h i (by simp)
      have e1 : ∀ e z, limOf H2 e z i o n c = limOf H e z i o n c := by intro e z; unfold limOf; cases c <;> simp only [hi]
      have e2 : ∀ e, natOk H2 e i c = natOk H e i c := by intro e; unfold natOk; cases c <;> simp only [hi]
      cases T s with
      | none => rfl
      | some ti =>
        obtain ⟨tk, _, _, _, _⟩ := ti
        cases tk with
        | slice e => simp only [e1, e2]
        | _ => rfl
    | sc v =>
      cases T s with
      | none => rfl
      | some ti =>
        obtain ⟨tk, _, _, _, _⟩ := ti
        cases tk with
        | slice e =>
          cases v with
          | slice a n c => cases a <;> cases n <;> cases c <;> rfl
          | _ => rfl
        | str => cases v <;> rfl
        | _ => rfl
    | _ =>
      cases T s with
      | none => rfl
      | some ti => obtain ⟨tk, _, _, _, _⟩ := ti; cases tk <;> rfl
  | lookup xt x ix ok =>
    simp only [readsOf] at h
    simp only [vop]
    have : mapOf H2 (ev t x) = mapOf H (ev t x) := by
      unfold mapOf
      split
      · rename_i i e; rw [e] at h; rw [h i (by simp)]
      · rfl
      · rfl
    rw [this]
  | call c =>
    obtain ⟨callee, args, ats⟩ := c
    cases callee with
    | builtin b => cases b <;> rfl
    | _ => rfl
  | _ => rfl

theorem readsOf_congr {t t' : Nat → AV} {op : Op} (h : ∀ x ∈ op.operands, ev t' x = ev t x) : readsOf t' op = readsOf t op := by
  cases op with
  | load ty a => simp only [readsOf]; rw [h a (by simp [Op.operands])]
  | slice s x lo hi mx => simp only [readsOf]; rw [h x (by simp [Op.operands])]
  | lookup xt x ix ok => simp only [readsOf]; rw [h x (by simp [Op.operands])]
  | _ => rfl

mutual
theorem View.agree {H H2 : Nat → Option Blk} {ids : List Nat} (h : ∀ j ∈ ids, H2 j = H j) : ∀ {a a' : AV}, View T H ids a a' → View T H2 ids a a'
  | _, _, .free q => .free q
  | _, _, .own q1 q2 q3 => .own q1 (by rw [h _ q1]; exact q2) (ViewL.agree h q3)
  | _, _, .osl q q1 q2 q3 => .osl q q1 (by rw [h _ q1]; exact q2) (ViewL.agree h q3)
  | _, _, .oslF q q1 q2 q3 => .oslF q q1 (by rw [h _ q1]; exact q2) (ViewL.agree h q3)
  | _, _, .nilS => .nilS
  | _, _, .eslS => .eslS
  | _, _, .sslF q => .sslF q
  | _, _, .agg q => .agg (ViewL.agree h q)
  | _, _, .tup q => .tup (ViewL.agree h q)
  | _, _, .fn q r => .fn (ViewL.agree h q) (ViewL.agree h r)
theorem ViewL.agree {H H2 : Nat → Option Blk} {ids : List Nat} (h : ∀ j ∈ ids, H2 j = H j) : ∀ {a a' : List AV}, ViewL T H ids a a' → ViewL T H2 ids a a'
  | _, _, .free q => .free q
  | _, _, .nil => .nil
  | _, _, .cons q r => .cons (View.agree h q) (ViewL.agree h r)
end

theorem call_operands {o : Oper} {c : Call} {f : Operand} (ho : o.op = .call c) (hc : c.callee = .value f) {t t' : Nat → AV} (h : ∀ x ∈ o.op.operands, ev t' x = ev t x) : ev t' f = ev t f ∧ c.args.toList.map (ev t') = c.args.toList.map (ev t) := by
  rw [ho] at h
  refine ⟨h f (by simp [Op.operands, Call.operands, hc]), List.map_congr_left fun x hx => h x (by simp [Op.operands, Call.operands]; exact .inr (by simpa using hx))⟩

/-- What is shown of an operation that changes nothing. -/
def DoesROk (P : Program) (o : Oper) (t : Nat → AV) (H : Nat → Option Blk) (v : AV) (R : List Nat) : Prop :=
  ∀ t' H2 n2, (∀ x ∈ o.op.operands, ev t' x = ev t x) → (∀ j ∈ R, H2 j = H j) → DoesOk P o t' H2 n2 v H2 n2

theorem vop_doesR (hT : TOk P T) {o : Oper} {t : Nat → AV} {H : Nat → Option Blk} {v : AV} (h : vop T t H o.op = some v) : DoesROk P o t H v (readsOf t o.op) :=
  fun t' H2 n2 ht' hR => vop_does hT (by rw [vop_reads (H := H) (by rw [readsOf_congr ht']; exact hR), vop_congr ht']; exact h)

def DoesM (P : Program) (o : Oper) (t : Nat → AV) (H : Nat → Option Blk) (n : Nat) (v : AV) (H' : Nat → Option Blk) (n' : Nat) : Prop :=
  ∀ t', (∀ x ∈ o.op.operands, ev t' x = ev t x) → DoesOk P o t' H n v H' n'

theorem call_doesM {o : Oper} {t : Nat → AV} {H H' : Nat → Option Blk} {n n' : Nat} {v : AV} {c : Call} {f : Operand} {g : FuncId} {first caps : List AV} {fn : Func} {body : Code}
    (ho : o.op = .call c) (hc : c.callee = .value f) (hf : ev t f = .fn (.func g) first caps) (h1 : P.funcs[g]? = some fn) (h2 : fn.body = some body) (h3 : (fn.name == "runtime.NumGoroutine") = false)
    (h : RunOk P g (first ++ c.args.toList.map (ev t) ++ caps) H n v H' n') : DoesM P o t H n v H' n' := by
  intro t' ht'
  obtain ⟨e1, e2⟩ := call_operands ho hc ht'
  exact does_call ho hc (e1.trans hf) h1 h2 h3 (by rw [e2]; exact h)

theorem allocEq_rd {o : Oper} {t : Nat → AV} {H : Nat → Option Blk} {n : Nat} {v : AV} {R : List Nat} (h : DoesR P T o t H v R) : AllocEq T o.op t H n v H n := by
  intro e
  cases h with
  | vop h => cases ho : o.op <;> rw [ho] at h e <;> first | (simp [vop] at h; done) | cases e
  | callF h1 => rw [h1] at e; cases e
  | callB ids h1 => rw [h1] at e; cases e

theorem allocEq_mem {o : Oper} {t : Nat → AV} {H H' : Nat → Option Blk} {n n' : Nat} {v : AV} (h : Does P T o t H n v H' n') : AllocEq T o.op t H n v H' n' := by
  intro e
  cases h with
  | vop h => cases ho : o.op <;> rw [ho] at h e <;> first | (simp [vop] at h; done) | cases e
  | mop h => exact newOf_mop e h
  | callS h1 => rw [h1] at e; cases e
  | callF h1 => rw [h1] at e; cases e
  | callB ids h1 => rw [h1] at e; cases e
  | round h1 => rw [h1] at e; cases e

mutual
theorem Does.sound (hT : TOk P T) : ∀ {o : Oper} {t : Nat → AV} {H H' : Nat → Option Blk} {n n' : Nat} {v : AV}, Does P T o t H n v H' n' → DoesM P o t H n v H' n'
  | _, _, _, _, _, _, _, .vop h => fun t' ht' => vop_does hT (by rw [vop_congr ht']; exact h)
  | _, _, _, _, _, _, _, .mop h => fun t' ht' => mop_does hT (by rw [mop_congr ht']; exact h)
  | _, _, _, _, _, _, _, .callS h1 h2 h3 h4 => by
    obtain ⟨fn, c, e1, e2, e3⟩ := h4.fn
    exact call_doesM h1 h2 h3 e1 e2 e3 (Run.sound hT h4)
  | _, _, _, _, _, _, _, .callF h1 h2 h3 h4 h5 h6 => by
    obtain ⟨fn, c, e1, e2, e3⟩ := h5.fn
    exact call_doesM h1 h2 h3 e1 e2 e3 (callF_ok (T := T) [] (.free h4) (Run.sound hT h5) (.inl ⟨rfl, h6⟩))
  | _, _, _, _, _, _, _, .callB ids h1 h2 h3 h4 h5 h6 => by
    obtain ⟨fn, c, e1, e2, e3⟩ := h5.fn
    exact call_doesM h1 h2 h3 e1 e2 e3 (callF_ok (T := T) ids h4 (Run.sound hT h5) h6)
  | _, _, _, _, _, _, _, .round h1 h2 h3 h4 h5 h6 h7 h8 h9 h10 => fun t' ht' => by
    obtain ⟨e1, e2⟩ := call_operands h1 h2 ht'
    exact does_round h1 h2 (e1.trans h3) h4 h5 h6 (by rw [e2]; exact Ev.sound hT h7) h8 (Ev.sound hT h9) h10
theorem DoesR.sound (hT : TOk P T) : ∀ {o : Oper} {t : Nat → AV} {H : Nat → Option Blk} {v : AV} {R : List Nat}, DoesR P T o t H v R → DoesROk P o t H v R
  | _, _, _, _, _, .vop h => vop_doesR hT h
  | _, _, _, _, _, .callF h1 h2 h3 h4 h5 h6 => fun t' H2 n2 ht' _ => by
    obtain ⟨fn, c, e1, e2, e3⟩ := h5.fn
    exact call_doesM h1 h2 h3 e1 e2 e3 (callF_ok (T := T) [] (.free h4) (Run.sound hT h5) (.inl ⟨rfl, h6⟩)) t' ht'
  | _, _, _, _, _, .callB ids h1 h2 h3 h4 h5 h6 => fun t' H2 n2 ht' hR => by
    obtain ⟨fn, c, e1, e2, e3⟩ := h5.fn
    exact call_doesM h1 h2 h3 e1 e2 e3 (callF_ok (T := T) ids (h4.agree hR) (Run.sound hT h5) h6) t' ht'
theorem EvL.sound (hT : TOk P T) : ∀ {k : Nat} {G : Array Oper} {L : List Oper} {s s' : St}, EvL P T k G L s s' → EvLOk P k G L s s'
  | _, _, _, _, _, .nil => fun C E a idxs Q hg hi hQ => by
    match idxs, hi with
    | [], _ => exact hQ E a (Ext.refl _) hg
  | _, _, _, _, _, .skip h1 h2 h3 => evL_skip h1 h2 (EvL.sound hT h3)
  | _, _, _, _, _, .op h1 h2 h3 h4 => evL_op h1 h2 (Does.sound hT h3 _ fun _ _ => rfl) (EvL.sound hT h4)
  | _, _, _, _, _, .weak ids h1 h2 => fun C E a idxs Q hg hi hQ => by
    obtain ⟨F, q1, q2, q3⟩ := hg.weak h1
    rw [← q2]
    exact EvL.sound hT h2 C F a idxs Q q3 hi fun E' a' r1 r2 => hQ E' a' (q1.trans r1) r2
theorem EvD.sound (hT : TOk P T) : ∀ {k : Nat} {G : Array Oper} {cl : List Cls} {L : List Nat} {s s' : St}, EvD P T k G cl L s s' → SemD P T k G cl L s s'
  | _, _, _, _, _, _, .nil => rfl
  | _, _, _, _, _, _, .skip h0 h1 h2 h3 => ⟨_, h0, h2, .inl ⟨h1, EvD.sound hT h3⟩⟩
  | _, _, _, _, _, _, .rd h0 h1 h2 h3 h4 h5 h6 => ⟨_, h0, h2, .inr ⟨h1, _, _, _, _, h4, ⟨rfl, rfl, fun t' H2 n2 q1 q2 => DoesR.sound hT h3 t' H2 n2 q1 fun j hj => q2 j (h5 j hj)⟩, allocEq_rd h3, EvD.sound hT h6⟩⟩
  | _, _, _, _, _, _, .mem h0 h1 h2 h3 h4 h5 h6 => ⟨_, h0, h2, .inr ⟨h1, _, _, _, _, h4, ⟨Does.sound hT h3, h5⟩, allocEq_mem h3, EvD.sound hT h6⟩⟩
theorem Ev.sound (hT : TOk P T) : ∀ {k : Nat} {c : Code} {s s' : St} {e : Ex}, Ev P T k c s e s' → EvOk P k c s e s'
  | _, _, _, _, _, .skip => fun C E a hg => wpIn_skip ⟨rfl, E, rfl, Ext.refl _, hg⟩
  | _, _, _, _, _, .label => fun C E a hg => wpIn_label ⟨rfl, E, rfl, Ext.refl _, hg⟩
  | _, _, _, _, _, .exit => fun C E a hg => wpIn_exit ⟨rfl, E, rfl, Ext.refl _, hg⟩
  | _, _, _, _, _, .goto => fun C E a hg => wpIn_goto ⟨rfl, E, rfl, Ext.refl _, hg⟩
  | _, _, _, _, _, .ret => fun C E a hg => wpIn_ret ⟨rfl, E, rfl, Ext.refl _, hg⟩
  | _, _, _, _, _, .region (ops := ops) h => fun C E a hg => wpIn_region (EvL.sound hT h C E a _ _ hg (by
      apply List.ext_getElem?
      intro i
      simp only [List.getElem?_map, Array.getElem?_toList]
      rcases Nat.lt_or_ge i ops.size with hi | hi
      · rw [List.getElem?_range hi]; simp [Array.getElem?_eq_getElem hi]
      · rw [List.getElem?_eq_none (by simpa using hi), Array.getElem?_eq_none hi]; rfl) fun E' a' q1 q2 => ⟨rfl, E', rfl, q1, q2⟩)
  | _, _, _, _, _, .regionD (ops := ops) cl q hm hok hl h => fun C E a hg => by
    obtain ⟨q1, q2⟩ := drawn_rep hg.H (E.w.drawn + 1)
    have hg' : Good P C { E with w := { E.w with drawn := E.w.drawn + 1 } } _ _ a := ⟨q2, hg.X, hg.N, hg.t.ext q1, hg.m.ext q1⟩
    refine wpIn_region_any hm ?_
    have hdf : ∀ b, (Array.replicate ops.size false).getD b false = false := by
      intro b
      simp only [Array.getD_eq_getD_getElem?, Array.getElem?_replicate]
      split <;> rfl
    have := semD_any hT hok hl (List.range ops.size) C (Array.replicate ops.size false) { E with w := { E.w with drawn := E.w.drawn + 1 } } _ _ a (Fin P C E _ .normal _) List.pairwise_lt_range (by simp)
      (fun i => by simp only [List.mem_range, hdf, and_true]) (fun b o hb => by rw [hdf] at hb; cases hb) (EvD.sound hT h) hg' (fun E' a' r1 r2 => ⟨rfl, E', rfl, q1.trans r1, r2⟩)
    rw [List.length_range] at this
    exact this
  | _, _, _, _, _, .seqN h1 h2 => fun C E a hg => wpIn_seq (wpIn_mono (Ev.sound hT h1 C E a hg) fun x a1 w1 hf => by
      obtain ⟨rfl, E1, rfl, q1, q2⟩ := hf
      exact wpIn_mono (Ev.sound hT h2 C E1 a1 q2) fun x a2 w2 hf => hf.of q1)
  | _, _, _, _, e, .seqX h1 hne => fun C E a hg => wpIn_seq (wpIn_mono (Ev.sound hT h1 C E a hg) fun x a1 w1 hf => by
      obtain ⟨rfl, hq⟩ := hf
      cases e with
      | normal => exact absurd rfl hne
      | _ => exact ⟨rfl, hq⟩)
  | _, _, _, _, _, .condT (c := q) hc h => fun C E a hg => wpIn_cond_true (by have := hg.t.ev q; rw [hc] at this; exact RepV.sc_inv this) (Ev.sound hT h C E a hg)
  | _, _, _, _, _, .condF (c := q) hc h => fun C E a hg => wpIn_cond_false (by have := hg.t.ev q; rw [hc] at this; exact RepV.sc_inv this) (Ev.sound hT h C E a hg)
  | _, _, _, _, e, .blockN (id := id) h hne => fun C E a hg => wpIn_block (wpIn_mono (Ev.sound hT h C E a hg) fun x a1 w1 hf => by
      obtain ⟨rfl, hq⟩ := hf
      cases e with
      | exit j =>
        have hj : j ≠ id := fun e => hne (by rw [e])
        simp only [Ex.to, Exit.inBlock, if_neg hj]
        exact ⟨rfl, hq⟩
      | _ => exact ⟨rfl, hq⟩)
  | _, _, _, _, _, .blockX (id := id) h => fun C E a hg => wpIn_block (wpIn_mono (Ev.sound hT h C E a hg) fun x a1 w1 hf => by
      obtain ⟨rfl, hq⟩ := hf
      simp only [Ex.to, Exit.inBlock, if_true]
      exact ⟨rfl, hq⟩)
  | _, _, _, _, _, .loop h => loop_ok (EvLoop.sound hT h)
  | _, _, _, _, _, .scope h => scope_ok (EvScope.sound hT h)
  | _, _, _, _, _, .weak ids h1 h2 => fun C E a hg => by
    obtain ⟨F, q1, q2, q3⟩ := hg.weak h1
    rw [← q2]
    exact wpIn_mono (Ev.sound hT h2 C F a q3) fun x a' w' hf => hf.of q1
  | _, _, _, _, _, .rangeN h1 h2 h3 => fun C E a hg => by
    obtain ⟨fn, c, e1, e2, e3⟩ := h2.fn
    exact range_ok h1 e1 e2 e3 (Run.sound hT h2) h3 (by simp) hg fun E' a' x g => ⟨rfl, E', rfl, x, g⟩
  | _, _, _, _, _, .rangeJ h1 h2 h3 h4 => fun C E a hg => by
    obtain ⟨fn, c, e1, e2, e3⟩ := h2.fn
    exact range_ok h1 e1 e2 e3 (Run.sound hT h2) h3 (by simp) hg fun E' a' xx g => wpIn_mono (Ev.sound hT h4 C E' a' g) fun x a2 w2 hf => hf.of xx
theorem EvLoop.sound (hT : TOk P T) : ∀ {k : Nat} {c : Code} {s s' : St} {e : Ex}, EvLoop P T k c s e s' → EvLoopOk P k c s e s'
  | _, _, _, _, _, .more h1 h2 => loop_more (Ev.sound hT h1) (EvLoop.sound hT h2)
  | _, _, _, _, _, .done h1 h2 => loop_done (Ev.sound hT h1) h2
  | _, _, _, _, _, .weak ids h1 h2 => fun C E a hg b kk cs hro => by
    obtain ⟨F, q1, q2, q3⟩ := hg.weak h1
    rw [← q2]
    obtain ⟨x, a', w', r1, r2⟩ := EvLoop.sound hT h2 C F a q3 b kk cs hro
    exact ⟨x, a', w', r1.of q1, r2⟩
theorem EvScope.sound (hT : TOk P T) : ∀ {k : Nat} {b c : Code} {s s' : St} {e : Ex}, EvScope P T k b c s e s' → EvScopeOk P k b c s e s'
  | _, _, _, _, _, _, .straight h1 h2 => scope_straight (Ev.sound hT h1) h2
  | _, _, _, _, _, _, .jump h1 h2 h3 => scope_jump (Ev.sound hT h1) h2 (EvScope.sound hT h3)
theorem Run.sound (hT : TOk P T) : ∀ {f : FuncId} {args : List AV} {H H' : Nat → Option Blk} {n n' : Nat} {r : AV}, Run P T f args H n r H' n' → RunOk P f args H n r H' n'
  | _, _, _, _, _, _, _, .mk h1 h2 h3 h4 h5 h6 h7 => run_ok hT h1 h2 h4 (Ev.sound hT h5) h6 h7
  | _, _, _, _, _, _, _, .nilArg pre post h1 h2 => fun E vs hH hX hN hargs hlen => by
    rcases RepL.nilArg pre post hargs with h | h
    · exact Run.sound hT h1 E vs hH hX hN h (by simpa using hlen)
    · exact Run.sound hT h2 E vs hH hX hN h (by simpa using hlen)
  | _, _, _, _, _, _, _, .weak ids h1 h2 h3 => fun E vs hH hX hN hargs hlen =>
    (Run.sound hT h1 E vs hH hX hN hargs hlen).mono fun e w' he => by
      obtain ⟨E', v, rfl, rfl, q1, q2, q3, q4, q5⟩ := he
      obtain ⟨F, r1, r2, r3, r4, r5, _, r7⟩ := weak_rep h2 q2 q3 q4
      exact ⟨F, v, rfl, r2, q1.trans r1, r4, by intro b hb; rw [r3] at hb; rw [r2]; exact q3 b hb, r5, r7 _ _ _ h3 q5⟩
end

end
end Go.Proofs.YtcdafogfmijcpaaW.Ah
