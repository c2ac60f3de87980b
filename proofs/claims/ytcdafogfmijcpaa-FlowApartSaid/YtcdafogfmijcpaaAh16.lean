/-
  Walking by rewriting: codes come as far as nothing is called and no loop begins. What comes later is kept as a stack of codes.
-/
import Derived.Test.YtcdafogfmijcpaaAh15
namespace Go.Proofs.YtcdafogfmijcpaaW.Ah
set_option linter.unusedVariables false
set_option linter.unusedSimpArgs false

abbrev Mem := Nat → Option Blk
abbrev Cont := Ex → (Nat → AV) → Mem → Nat → Prop

inductive It where
  | code (c : Code)
  | ops (G : Array Oper) (l : List Oper)
  | opsD (G : Array Oper) (cl : List Cls) (l : List Nat)
  | block (id : Nat)
  | loop (I : Nat → (Nat → AV) → Mem → Nat → Prop) (m : Nat)

/-- What stands behind a block's end. -/
def unwind (id : Nat) : List It → Option (List It)
  | .block j :: st => if j = id then some st else unwind id st
  | _ :: st => unwind id st
  | [] => none

section
variable (P : Program) (T : Tab) (k : Nat)

/-- What is to be shown of a stack. -/
def Stk : List It → (Nat → AV) → Mem → Nat → Cont → Prop
  | [], t, H, n, C => C .normal t H n
  | .code c :: st, t, H, n, C => EvQ P T k c ⟨t, H, n⟩ (fun e s =>
    match e with
    | .normal => Stk st s.t s.H s.n C
    | .exit id => resX id st s.t s.H s.n C
    | e => C e s.t s.H s.n)
  | .ops G l :: st, t, H, n, C => EvLQ P T k G l ⟨t, H, n⟩ (fun s => Stk st s.t s.H s.n C)
  | .opsD G cl l :: st, t, H, n, C => ∃ s', EvD P T k G cl l ⟨t, H, n⟩ s' ∧ Stk st s'.t s'.H s'.n C
  | .block _ :: st, t, H, n, C => Stk st t H n C
  | .loop I m :: _, t, H, n, _ => ∃ m', m' < m ∧ I m' t H n
where
  resX (id : Nat) : List It → (Nat → AV) → Mem → Nat → Cont → Prop
  | [], t, H, n, C => C (.exit id) t H n
  | .block j :: st, t, H, n, C => if j = id then Stk st t H n C else resX id st t H n C
  | .code _ :: st, t, H, n, C => resX id st t H n C
  | .ops _ _ :: st, t, H, n, C => resX id st t H n C
  | .opsD _ _ _ :: st, t, H, n, C => resX id st t H n C
  | .loop _ _ :: st, t, H, n, C => resX id st t H n C

def rdOk : Option Cls → List Nat → Bool
  | some (.rd R'), R => R.all fun j => R'.contains j
  | _, _ => false

def memOk : Option Cls → Mem → Mem → Prop
  | some (.mem S b), H, H' => ∀ j, j < b → j ∉ S → H' j = H j
  | _, _, _ => False

theorem memOk_spec {c : Option Cls} {H H' : Mem} (h : memOk c H H') : ∃ S b, c = some (.mem S b) ∧ ∀ j, j < b → j ∉ S → H' j = H j := by
  unfold memOk at h
  split at h
  · exact ⟨_, _, rfl, h⟩
  · exact h.elim

theorem rdOk_spec {c : Option Cls} {R : List Nat} (h : rdOk c R = true) : ∃ R', c = some (.rd R') ∧ ∀ j ∈ R, j ∈ R' := by
  unfold rdOk at h
  split at h
  · rename_i R'
    refine ⟨R', rfl, fun j hj => ?_⟩
    simpa using List.all_eq_true.1 h j hj
  · cases h

def evS : Nat → List It → (Nat → AV) → Mem → Nat → Cont → Prop
  | 0, st, t, H, n, C => Stk P T k st t H n C
  | _ + 1, [], t, H, n, C => C .normal t H n
  | f + 1, .block _ :: st, t, H, n, C => evS f st t H n C
  | _ + 1, .loop I m :: _, t, H, n, _ => ∃ m', m' < m ∧ I m' t H n
  | f + 1, .ops _ [] :: st, t, H, n, C => evS f st t H n C
  | f + 1, .ops G (o :: l) :: st, t, H, n, C =>
    match wantedA G o t with
    | some true =>
      match vop T t H o.op with
      | some v => if dstOk k o = true then evS f (.ops G l :: st) (putA t o.dst v) H n C else False
      | none =>
        match mop T t H n o.op with
        | some (v, H', n') => if dstOk k o = true then evS f (.ops G l :: st) (putA t o.dst v) H' n' C else False
        | none => Stk P T k (.ops G (o :: l) :: st) t H n C
    | some false => if dstOk k o = true then evS f (.ops G l :: st) (putA t o.dst (.tup [])) H n C else False
    | none => Stk P T k (.ops G (o :: l) :: st) t H n C
  | f + 1, .opsD _ _ [] :: st, t, H, n, C => evS f st t H n C
  | f + 1, .opsD G cl (i :: l) :: st, t, H, n, C =>
    match G[i]? with
    | none => False
    | some o =>
      match wantedA G o t with
      | some true =>
        match vop T t H o.op with
        | some v => if dstOk k o = true ∧ rdOk cl[i]? (readsOf t o.op) = true then evS f (.opsD G cl l :: st) (putA t o.dst v) H n C else False
        | none =>
          match mop T t H n o.op with
          | some (v, H', n') => memOk cl[i]? H H' ∧ if dstOk k o = true then evS f (.opsD G cl l :: st) (putA t o.dst v) H' n' C else False
          | none => Stk P T k (.opsD G cl (i :: l) :: st) t H n C
      | some false => if dstOk k o = true then evS f (.opsD G cl l :: st) (putA t o.dst (.tup [])) H n C else False
      | none => Stk P T k (.opsD G cl (i :: l) :: st) t H n C
  | f + 1, .code c :: st, t, H, n, C =>
    match c with
    | .skip => evS f st t H n C
    | .label _ => evS f st t H n C
    | .ret => C .ret t H n
    | .goto l => C (.goto l) t H n
    | .exit id =>
      match unwind id st with
      | some st' => evS f st' t H n C
      | none => C (.exit id) t H n
    | .region _ ops false => evS f (.ops ops ops.toList :: st) t H n C
    | .seq x y => evS f (.code x :: .code y :: st) t H n C
    | .block id c => evS f (.code c :: .block id :: st) t H n C
    | .cond c x y =>
      match ev t c with
      | .sc (.bool b) => (b = true → evS f (.code x :: st) t H n C) ∧ (b = false → evS f (.code y :: st) t H n C)
      | _ => False
    | c => Stk P T k (.code c :: st) t H n C
end

section
variable {P : Program} {T : Tab} {k : Nat}

theorem resX_unwind (id : Nat) : ∀ {st : List It} {t : Nat → AV} {H : Mem} {n : Nat} {C : Cont}, (match unwind id st with | some st' => Stk P T k st' t H n C | none => C (.exit id) t H n) → Stk.resX P T k id st t H n C
  | [], _, _, _, _, h => h
  | .block j :: st, t, H, n, C, h => by
    simp only [unwind] at h
    simp only [Stk.resX]
    split
    · rename_i e; rw [if_pos e] at h; exact h
    · rename_i e; rw [if_neg e] at h; exact resX_unwind id h
  | .code _ :: st, t, H, n, C, h => by simp only [unwind] at h; simp only [Stk.resX]; exact resX_unwind id h
  | .ops _ _ :: st, t, H, n, C, h => by simp only [unwind] at h; simp only [Stk.resX]; exact resX_unwind id h
  | .opsD _ _ _ :: st, t, H, n, C, h => by simp only [unwind] at h; simp only [Stk.resX]; exact resX_unwind id h
  | .loop _ _ :: st, t, H, n, C, h => by simp only [unwind] at h; simp only [Stk.resX]; exact resX_unwind id h

theorem evS_sound : ∀ {f : Nat} {st : List It} {t : Nat → AV} {H : Mem} {n : Nat} {C : Cont}, evS P T k f st t H n C → Stk P T k st t H n C
  | 0, _, _, _, _, _, h => h
  | _ + 1, [], _, _, _, _, h => h
  | f + 1, .block _ :: st, t, H, n, C, h => by simp only [evS] at h; simp only [Stk]; exact evS_sound h
  | _ + 1, .loop I m :: _, t, H, n, _, h => by simpa only [evS, Stk] using h
  | f + 1, .ops _ [] :: st, t, H, n, C, h => by simp only [evS] at h; simp only [Stk]; exact EvLQ.nil (evS_sound h)
  | f + 1, .ops G (o :: l) :: st, t, H, n, C, h => by
    simp only [evS] at h
    split at h
    · rename_i hw
      split at h
      · rename_i v hv
        split at h
        · rename_i hd
          have := evS_sound h
          simp only [Stk] at this ⊢
          exact EvLQ.op hw hd (.vop hv) this
        · exact h.elim
      · split at h
        · rename_i v H' n' hm
          split at h
          · rename_i hd
            have := evS_sound h
            simp only [Stk] at this ⊢
            exact EvLQ.op hw hd (.mop hm) this
          · exact h.elim
        · exact h
    · rename_i hw
      split at h
      · rename_i hd
        have := evS_sound h
        simp only [Stk] at this ⊢
        exact EvLQ.skip hw hd this
      · exact h.elim
    · exact h
  | f + 1, .opsD _ _ [] :: st, t, H, n, C, h => by simp only [evS] at h; simp only [Stk]; exact ⟨_, .nil, evS_sound h⟩
  | f + 1, .opsD G cl (i :: l) :: st, t, H, n, C, h => by
    simp only [evS] at h
    split at h
    · exact h.elim
    · rename_i o ho
      split at h
      · rename_i hw
        split at h
        · rename_i v hv
          split at h
          · rename_i hd
            have := evS_sound h
            simp only [Stk] at this ⊢
            obtain ⟨s', q1, q2⟩ := this
            obtain ⟨R', r1, r2⟩ := rdOk_spec hd.2
            exact ⟨s', .rd ho hw hd.1 (.vop hv) r1 r2 q1, q2⟩
          · exact h.elim
        · split at h
          · rename_i v H' n' hm
            obtain ⟨hm0, h⟩ := h
            obtain ⟨S, b, r1, r2⟩ := memOk_spec hm0
            split at h
            · rename_i hd
              have := evS_sound h
              simp only [Stk] at this ⊢
              obtain ⟨s', q1, q2⟩ := this
              exact ⟨s', .mem ho hw hd (.mop hm) r1 r2 q1, q2⟩
            · exact h.elim
          · exact h
      · rename_i hw
        split at h
        · rename_i hd
          have := evS_sound h
          simp only [Stk] at this ⊢
          obtain ⟨s', q1, q2⟩ := this
          exact ⟨s', .skip ho hw hd q1, q2⟩
        · exact h.elim
      · exact h
  | f + 1, .code c :: st, t, H, n, C, h => by
    simp only [evS] at h
    split at h
    · simp only [Stk]; exact EvQ.skip (evS_sound h)
    · simp only [Stk]; exact EvQ.label (evS_sound h)
    · simp only [Stk]; exact EvQ.ret h
    · simp only [Stk]; exact EvQ.goto h
    · rename_i id
      simp only [Stk]
      refine EvQ.exit (resX_unwind id ?_)
      split at h
      · exact evS_sound h
      · exact h
    · have := evS_sound h
      simp only [Stk] at this ⊢
      exact EvQ.region this
    · have := evS_sound h
      simp only [Stk] at this ⊢
      refine EvQ.seq (EvQ.mono this fun e s hq => ?_)
      cases e <;> exact hq
    · have := evS_sound h
      simp only [Stk] at this ⊢
      refine EvQ.block (EvQ.mono this fun e s hq => ?_)
      cases e with
      | exit j =>
        simp only [Stk.resX] at hq
        simp only [blockQ]
        split
        · rename_i e; subst e; simpa using hq
        · rename_i e; rw [if_neg (fun e' => e e'.symm)] at hq; exact hq
      | _ => exact hq
    · split at h
      · rename_i b hb
        simp only [Stk]
        refine EvQ.cond hb (fun e => ?_) (fun e => ?_)
        · have := evS_sound (h.1 e); simpa only [Stk] using this
        · have := evS_sound (h.2 e); simpa only [Stk] using this
      · exact h.elim
    · exact h

variable {G : Array Oper} {l : List Oper} {st : List It} {t : Nat → AV} {H : Mem} {n : Nat} {C : Cont} {g : FuncId} {first caps args : List AV} {v : AV} {xs : Array Operand} {ats : Array TypeId} {f : Operand} {ty : TypeId} {pos : String} {after : Array Edge} {guard : Option (Nat × Bool)} {dst : Option Nat}

theorem Stk.callF (fuel : Nat) (hr : RunF P T g args v) (h1 : wantedA G ⟨dst, .call ⟨.value f, xs, ats⟩, ty, pos, after, guard⟩ t = some true) (h2 : dstOk k ⟨dst, .call ⟨.value f, xs, ats⟩, ty, pos, after, guard⟩ = true)
    (hf : ev t f = .fn (.func g) first caps) (ha : first ++ xs.toList.map (ev t) ++ caps = args) (hfr : freeL args = true) (hv : free v = true)
    (h4 : evS P T k fuel (.ops G l :: st) (putA t dst v) H n C) : Stk P T k (.ops G (⟨dst, .call ⟨.value f, xs, ats⟩, ty, pos, after, guard⟩ :: l) :: st) t H n C := by
  have := evS_sound h4
  simp only [Stk] at this ⊢
  exact EvLQ.callF (s := ⟨t, H, n⟩) h1 h2 rfl rfl hf ha hfr hr hv this

theorem Stk.callB (fuel : Nat) {args' : List AV} (ids : List Nat) (hr : RunF P T g args' v) (h1 : wantedA G ⟨dst, .call ⟨.value f, xs, ats⟩, ty, pos, after, guard⟩ t = some true) (h2 : dstOk k ⟨dst, .call ⟨.value f, xs, ats⟩, ty, pos, after, guard⟩ = true)
    (hf : ev t f = .fn (.func g) first caps) (ha : first ++ xs.toList.map (ev t) ++ caps = args) (hvw : ViewL T H ids args args') (hv : flat v = true)
    (h4 : evS P T k fuel (.ops G l :: st) (putA t dst v) H n C) : Stk P T k (.ops G (⟨dst, .call ⟨.value f, xs, ats⟩, ty, pos, after, guard⟩ :: l) :: st) t H n C := by
  have := evS_sound h4
  simp only [Stk] at this ⊢
  exact EvLQ.callB (s := ⟨t, H, n⟩) ids h1 h2 rfl rfl hf ha hvw hr hv this

theorem Stk.callS (fuel : Nat) {Z : AV → Mem → Nat → Prop} (hr : RunQ P T g args H n Z) (h1 : wantedA G ⟨dst, .call ⟨.value f, xs, ats⟩, ty, pos, after, guard⟩ t = some true) (h2 : dstOk k ⟨dst, .call ⟨.value f, xs, ats⟩, ty, pos, after, guard⟩ = true)
    (hf : ev t f = .fn (.func g) first caps) (ha : first ++ xs.toList.map (ev t) ++ caps = args)
    (h4 : ∀ v H' n', Z v H' n' → evS P T k fuel (.ops G l :: st) (putA t dst v) H' n' C) : Stk P T k (.ops G (⟨dst, .call ⟨.value f, xs, ats⟩, ty, pos, after, guard⟩ :: l) :: st) t H n C := by
  obtain ⟨r, H', n', q1, q2⟩ := hr
  have := evS_sound (h4 r H' n' q2)
  simp only [Stk] at this ⊢
  exact EvLQ.callS (s := ⟨t, H, n⟩) h1 h2 rfl rfl hf ha ⟨r, H', n', q1, this⟩

/-- As Cls.indep, but that what is read stands below what is made. -/
def Cls.indep' : Option Cls → Option Cls → Bool
  | some (.rd _), some (.rd _) => true
  | some (.rd R), some (.mem S _) => R.all fun j => !S.contains j
  | some (.mem S _), some (.rd R) => R.all fun j => !S.contains j
  | _, _ => false

def below (cl : List Cls) : Prop := ∀ c ∈ cl, ∀ d ∈ cl, match c, d with | .rd R, .mem _ b => ∀ j ∈ R, j < b | _, _ => True

def indep2 (G : Array Oper) (cl : List Cls) (a i : Nat) : Bool := match G[a]?, G[i]? with | some x, some y => x.apart G y && Cls.indep' cl[a]? cl[i]? | _, _ => false

def barrier2 (G : Array Oper) (cl : List Cls) (q i : Nat) : Bool := waits G G.size q i && (List.range q).all fun x => indep2 G cl x q || waits G G.size x i

def pairOk2 (G : Array Oper) (cl : List Cls) (q : Option Nat) (a i : Nat) : Bool :=
  if q = some a then barrier2 G cl a i || indep2 G cl a i
  else if q = some i then waits G G.size a i || apartB G a i
  else waits G G.size a i || indep2 G cl a i

/-- As drawOk, in an order that comes to an end sooner. -/
def drawOk2 (G : Array Oper) (cl : List Cls) (q : Option Nat) : Bool :=
  (List.range G.size).all fun i =>
    (match G[i]? with | some o => o.after.toList.all fun e => !Region.binds .any e || decide (e.on < i) | none => false) &&
    (List.range i).all fun a => pairOk2 G cl q a i

theorem Cls.indep_of {cl : List Cls} (hl : below cl) {i j : Nat} (h : Cls.indep' cl[i]? cl[j]? = true) : Cls.indep cl[i]? cl[j]? = true := by
  cases hi : cl[i]? with
  | none => rw [hi] at h; simp [Cls.indep'] at h
  | some c =>
    cases hj : cl[j]? with
    | none => rw [hi, hj] at h; cases c <;> simp [Cls.indep'] at h
    | some d =>
      rw [hi, hj] at h
      have m1 := List.mem_of_getElem? hi
      have m2 := List.mem_of_getElem? hj
      cases c <;> cases d <;> simp only [Cls.indep', Cls.indep] at h ⊢ <;> try exact h
      · have := hl _ m1 _ m2
        simp only at this
        rw [List.all_eq_true] at h ⊢
        intro x hx
        have h1 := h x hx
        have h2 := this x hx
        simp [h2] at h1 ⊢
        exact h1
      · have := hl _ m2 _ m1
        simp only at this
        rw [List.all_eq_true] at h ⊢
        intro x hx
        have h1 := h x hx
        have h2 := this x hx
        simp [h2] at h1 ⊢
        exact h1

theorem indep2_ok {G : Array Oper} {cl : List Cls} (hl : below cl) {a i : Nat} (h : indep2 G cl a i = true) : indep G cl a i = true := by
  unfold indep2 at h
  unfold indep
  split at h
  · rename_i x y hx hy
    rw [hx, hy]
    simp only [Bool.and_eq_true] at h ⊢
    exact ⟨h.1, Cls.indep_of hl h.2⟩
  · cases h

theorem drawOk2_ok {G : Array Oper} {cl : List Cls} {q : Option Nat} (h : drawOk2 G cl q = true) (hl : below cl) : drawOk G cl q = true := by
  unfold drawOk2 at h
  unfold drawOk
  rw [List.all_eq_true] at h ⊢
  intro i hi
  have := h i hi
  rw [Bool.and_eq_true] at this ⊢
  refine ⟨this.1, ?_⟩
  have h2 := this.2
  rw [List.all_eq_true] at h2 ⊢
  intro a ha
  have h3 := h2 a ha
  unfold pairOk2 at h3
  unfold pairOk
  split
  · rename_i e
    rw [if_pos e, Bool.or_eq_true] at h3
    rw [Bool.or_eq_true]
    rcases h3 with h3 | h3
    · refine .inr ?_
      unfold barrier2 at h3
      unfold barrier
      rw [Bool.and_eq_true, List.all_eq_true] at h3 ⊢
      refine ⟨h3.1, fun x hx => ?_⟩
      have := h3.2 x hx
      rw [Bool.or_eq_true] at this ⊢
      rcases this with h | h
      · exact .inl (indep2_ok hl h)
      · exact .inr h
    · exact .inl (indep2_ok hl h3)
  · rename_i e
    rw [if_neg e] at h3
    split
    · rename_i e2
      rw [if_pos e2] at h3
      exact h3
    · rename_i e2
      rw [if_neg e2, Bool.or_eq_true] at h3
      rw [Bool.or_eq_true]
      rcases h3 with h3 | h3
      · exact .inr h3
      · exact .inl (indep2_ok hl h3)

/-- A region whose order is open. -/
theorem Stk.regionD (fuel : Nat) {id : Nat} {ops : Array Oper} (cl : List Cls) (q : Option Nat) (hm : P.follows .mixedOrders = true) (hok : drawOk2 ops cl q = true) (hlt : lateOk T ops q = true) (hl : below cl) {R : List Nat} (hR : List.range ops.size = R)
    (h : evS P T k fuel (.opsD ops cl R :: st) t H n C) : Stk P T k (.code (.region id ops true) :: st) t H n C := by
  subst hR
  have := evS_sound h
  simp only [Stk] at this ⊢
  obtain ⟨s', q1, q2⟩ := this
  exact ⟨.normal, s', .regionD cl q hm (drawOk2_ok hok hl) hlt q1, q2⟩

variable {cl : List Cls} {i : Nat} {L : List Nat}
theorem Stk.callFD (fuel : Nat) (hr : RunF P T g args v) {R : List Nat} (hcl : cl[i]? = some (.rd R)) (h0 : G[i]? = some ⟨dst, .call ⟨.value f, xs, ats⟩, ty, pos, after, guard⟩) (h1 : wantedA G ⟨dst, .call ⟨.value f, xs, ats⟩, ty, pos, after, guard⟩ t = some true) (h2 : dstOk k ⟨dst, .call ⟨.value f, xs, ats⟩, ty, pos, after, guard⟩ = true)
    (hf : ev t f = .fn (.func g) first caps) (ha : first ++ xs.toList.map (ev t) ++ caps = args) (hfr : freeL args = true) (hv : free v = true)
    (h4 : evS P T k fuel (.opsD G cl L :: st) (putA t dst v) H n C) : Stk P T k (.opsD G cl (i :: L) :: st) t H n C := by
  have := evS_sound h4
  simp only [Stk] at this ⊢
  obtain ⟨s', q1, q2⟩ := this
  obtain ⟨H', n', hr⟩ := hr
  subst ha
  exact ⟨s', .rd h0 h1 h2 (.callF rfl rfl hf hfr hr hv) hcl (by simp) q1, q2⟩

theorem Stk.callBD (fuel : Nat) {args' : List AV} (ids : List Nat) (hr : RunF P T g args' v) {R : List Nat} (hcl : cl[i]? = some (.rd R)) (hR : ∀ j ∈ ids, j ∈ R) (h0 : G[i]? = some ⟨dst, .call ⟨.value f, xs, ats⟩, ty, pos, after, guard⟩) (h1 : wantedA G ⟨dst, .call ⟨.value f, xs, ats⟩, ty, pos, after, guard⟩ t = some true) (h2 : dstOk k ⟨dst, .call ⟨.value f, xs, ats⟩, ty, pos, after, guard⟩ = true)
    (hf : ev t f = .fn (.func g) first caps) (ha : first ++ xs.toList.map (ev t) ++ caps = args) (hvw : ViewL T H ids args args') (hv : flat v = true)
    (h4 : evS P T k fuel (.opsD G cl L :: st) (putA t dst v) H n C) : Stk P T k (.opsD G cl (i :: L) :: st) t H n C := by
  have := evS_sound h4
  simp only [Stk] at this ⊢
  obtain ⟨s', q1, q2⟩ := this
  obtain ⟨H', n', hr⟩ := hr
  subst ha
  exact ⟨s', .rd h0 h1 h2 (.callB ids rfl rfl hf hvw hr (.inr hv)) hcl hR q1, q2⟩

theorem Stk.callSD (fuel : Nat) {Z : AV → Mem → Nat → Prop} {S : List Nat} {b : Nat} (hcl : cl[i]? = some (.mem S b)) (hZ : ∀ v H' n', Z v H' n' → ∀ j, j < b → j ∉ S → H' j = H j) (hr : RunQ P T g args H n Z) (h0 : G[i]? = some ⟨dst, .call ⟨.value f, xs, ats⟩, ty, pos, after, guard⟩) (h1 : wantedA G ⟨dst, .call ⟨.value f, xs, ats⟩, ty, pos, after, guard⟩ t = some true) (h2 : dstOk k ⟨dst, .call ⟨.value f, xs, ats⟩, ty, pos, after, guard⟩ = true)
    (hf : ev t f = .fn (.func g) first caps) (ha : first ++ xs.toList.map (ev t) ++ caps = args)
    (h4 : ∀ v H' n', Z v H' n' → evS P T k fuel (.opsD G cl L :: st) (putA t dst v) H' n' C) : Stk P T k (.opsD G cl (i :: L) :: st) t H n C := by
  obtain ⟨r, H', n', p1, p2⟩ := hr
  have := evS_sound (h4 r H' n' p2)
  simp only [Stk] at this ⊢
  obtain ⟨s', q1, q2⟩ := this
  subst ha
  exact ⟨s', .mem h0 h1 h2 (.callS rfl rfl hf p1) hcl (hZ _ _ _ p2) q1, q2⟩

/-- A loop. -/
theorem Stk.loop (fuel : Nat) {c : Code} (I : Nat → (Nat → AV) → Mem → Nat → Prop) (m : Nat) (h0 : I m t H n)
    (h : ∀ J : Nat → (Nat → AV) → Mem → Nat → Prop, (∀ m t H n, I m t H n → J m t H n) → ∀ m t H n, I m t H n → evS P T k fuel (.code c :: .loop J m :: st) t H n C) : Stk P T k (.code (.loop c) :: st) t H n C := by
  replace h := h I fun _ _ _ _ h => h
  simp only [Stk]
  refine EvQ.loop (fun m s => I m s.t s.H s.n) m h0 fun m s hI => ?_
  have := evS_sound (h m s.t s.H s.n hI)
  simp only [Stk] at this
  refine EvQ.mono this fun e s' hq => ?_
  cases e with
  | normal => exact hq
  | _ => exact hq

theorem Stk.weakO {s1 : St} (fuel : Nat) (ids : List Nat) (hw : Weak T ⟨t, H, n⟩ s1 ids) (h : evS P T k fuel (.ops G l :: st) s1.t s1.H s1.n C) : Stk P T k (.ops G l :: st) t H n C := by
  have := evS_sound h
  simp only [Stk] at this ⊢
  exact EvLQ.weak ids hw this

theorem Stk.weakC {c : Code} {s1 : St} (fuel : Nat) (ids : List Nat) (hw : Weak T ⟨t, H, n⟩ s1 ids) (h : evS P T k fuel (.code c :: st) s1.t s1.H s1.n C) : Stk P T k (.code c :: st) t H n C := by
  have := evS_sound h
  simp only [Stk] at this ⊢
  exact EvQ.weak ids hw this

theorem RunF.ev (fuel : Nat) {f : FuncId} {fn : Func} {c : Code} {args : List AV} {r : AV} (h1 : P.funcs[f]? = some fn) (h2 : fn.body = some c) (h3 : (fn.name == "runtime.NumGoroutine") = false) {k : Nat} (hk : fn.ntmps = k) (h4 : Nat.ble args.length k = true) {rs : List ResultVar} (hrs : fn.results.toList = rs)
    (h : ∀ C : Cont, (∀ t H n, resOf T rs ⟨t, H, n⟩ = some r → C .ret t H n) → (∀ t H n, resOf T rs ⟨t, H, n⟩ = some r → C .normal t H n) → evS P T k fuel [.code c] (initT args) (fun _ => none) 0 C) : RunF P T f args r := by
  subst hk; subst hrs
  have := evS_sound (h (fun e t H n => (e = .ret ∨ e = .normal) ∧ resOf T fn.results.toList ⟨t, H, n⟩ = some r) (fun t H n h => ⟨.inl rfl, h⟩) (fun t H n h => ⟨.inr rfl, h⟩))
  refine RunF.of h1 h2 h3 (Nat.le_of_ble_eq_true h4) ?_
  rw [Stk] at this
  refine EvQ.mono this fun e s hq => ?_
  cases e <;> exact hq

theorem RunQ.ev (fuel : Nat) {f : FuncId} {fn : Func} {c : Code} {args : List AV} {H : Mem} {n : Nat} {Z : AV → Mem → Nat → Prop} (h1 : P.funcs[f]? = some fn) (h2 : fn.body = some c) (h3 : (fn.name == "runtime.NumGoroutine") = false) {k : Nat} (hk : fn.ntmps = k) (h4 : Nat.ble args.length k = true) {rs : List ResultVar} (hrs : fn.results.toList = rs)
    (h : ∀ C : Cont, (∀ t H n r, resOf T rs ⟨t, H, n⟩ = some r → Z r H n → C .ret t H n) → (∀ t H n r, resOf T rs ⟨t, H, n⟩ = some r → Z r H n → C .normal t H n) → evS P T k fuel [.code c] (initT args) H n C) : RunQ P T f args H n Z := by
  subst hk; subst hrs
  have := evS_sound (h (fun e t H n => (e = .ret ∨ e = .normal) ∧ ∃ r, resOf T fn.results.toList ⟨t, H, n⟩ = some r ∧ Z r H n) (fun t H n r h h' => ⟨.inl rfl, r, h, h'⟩) (fun t H n r h h' => ⟨.inr rfl, r, h, h'⟩))
  refine RunQ.of h1 h2 h3 (Nat.le_of_ble_eq_true h4) ?_
  rw [Stk] at this
  refine EvQ.mono this fun e s hq => ?_
  cases e <;> exact hq

end

attribute [simp] evS rdOk memOk readsOf unwind wantedA dstOk vop mop ev ofVal putA partOk cellOk cellsOf initT binAV intBin shiftBin strBin eqT eqT.eqFs unAV convAV fillAV optBound boundOf bounds limOf natOk elemsOf splice resOf resOne sizeT aggK Value.oneCell' upd free freeL flat flatL fitsC appendAV

@[simp] theorem partOf_cons {T : Tab} {ty : Nat} (a : AV) (cs : List AV) (off : Nat) : partOf T ty (a :: cs) off =
    match T ty with
    | some i => if aggK i.k = true then (if off + i.size ≤ (a :: cs).length then some (.agg (((a :: cs).drop off).take i.size)) else none) else (a :: cs)[off]?
    | none => none := rfl

end Go.Proofs.YtcdafogfmijcpaaW.Ah
