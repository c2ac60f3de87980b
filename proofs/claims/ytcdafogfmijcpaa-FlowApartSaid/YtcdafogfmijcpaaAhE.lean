/-
  Walking that stops where a branch is taken, for walks that a program prints.
-/
import Derived.Test.YtcdafogfmijcpaaAhC
namespace Go.Proofs.YtcdafogfmijcpaaW.Ah
set_option linter.unusedVariables false
set_option linter.unusedSimpArgs false

section
variable (P : Program) (T : Tab) (k : Nat)
def evZ : Nat → List It → (Nat → AV) → Mem → Nat → Cont → Prop
  | 0, st, t, H, n, C => Stk P T k st t H n C
  | _ + 1, [], t, H, n, C => C .normal t H n
  | f + 1, .block _ :: st, t, H, n, C => evZ f st t H n C
  | _ + 1, .loop I m :: _, t, H, n, _ => ∃ m', m' < m ∧ I m' t H n
  | f + 1, .ops _ [] :: st, t, H, n, C => evZ f st t H n C
  | f + 1, .ops G (o :: l) :: st, t, H, n, C =>
    match wantedA G o t with
    | some true =>
      match vop T t H o.op with
      | some v => if dstOk k o = true then evZ f (.ops G l :: st) (putA t o.dst v) H n C else False
      | none =>
        match mop T t H n o.op with
        | some (v, H', n') => if dstOk k o = true then evZ f (.ops G l :: st) (putA t o.dst v) H' n' C else False
        | none => Stk P T k (.ops G (o :: l) :: st) t H n C
    | some false => if dstOk k o = true then evZ f (.ops G l :: st) (putA t o.dst (.tup [])) H n C else False
    | none => Stk P T k (.ops G (o :: l) :: st) t H n C
  | f + 1, .opsD _ _ [] :: st, t, H, n, C => evZ f st t H n C
  | f + 1, .opsD G cl (i :: l) :: st, t, H, n, C =>
    match G[i]? with
    | none => False
    | some o =>
      match wantedA G o t with
      | some true =>
        match vop T t H o.op with
        | some v => if dstOk k o = true ∧ rdOk cl[i]? (readsOf t o.op) = true then evZ f (.opsD G cl l :: st) (putA t o.dst v) H n C else False
        | none =>
          match mop T t H n o.op with
          | some (v, H', n') => memOk cl[i]? H H' ∧ if dstOk k o = true then evZ f (.opsD G cl l :: st) (putA t o.dst v) H' n' C else False
          | none => Stk P T k (.opsD G cl (i :: l) :: st) t H n C
      | some false => if dstOk k o = true then evZ f (.opsD G cl l :: st) (putA t o.dst (.tup [])) H n C else False
      | none => Stk P T k (.opsD G cl (i :: l) :: st) t H n C
  | f + 1, .code c :: st, t, H, n, C =>
    match c with
    | .skip => evZ f st t H n C
    | .label _ => evZ f st t H n C
    | .ret => C .ret t H n
    | .goto l => C (.goto l) t H n
    | .exit id =>
      match unwind id st with
      | some st' => evZ f st' t H n C
      | none => C (.exit id) t H n
    | .region _ ops false => evZ f (.ops ops ops.toList :: st) t H n C
    | .seq x y => evZ f (.code x :: .code y :: st) t H n C
    | .block id c => evZ f (.code c :: .block id :: st) t H n C
    | c => Stk P T k (.code c :: st) t H n C
end

section
variable {P : Program} {T : Tab} {k : Nat}

theorem evZ_sound : ∀ {f : Nat} {st : List It} {t : Nat → AV} {H : Mem} {n : Nat} {C : Cont}, evZ P T k f st t H n C → Stk P T k st t H n C
  | 0, _, _, _, _, _, h => h
  | _ + 1, [], _, _, _, _, h => h
  | f + 1, .block _ :: st, t, H, n, C, h => by simp only [evZ] at h; simp only [Stk]; exact evZ_sound h
  | _ + 1, .loop I m :: _, t, H, n, _, h => by simpa only [evZ, Stk] using h
  | f + 1, .ops _ [] :: st, t, H, n, C, h => by simp only [evZ] at h; simp only [Stk]; exact EvLQ.nil (evZ_sound h)
  | f + 1, .ops G (o :: l) :: st, t, H, n, C, h => by
    simp only [evZ] at h
    split at h
    · rename_i hw
      split at h
      · rename_i v hv
        split at h
        · rename_i hd
          have := evZ_sound h
          simp only [Stk] at this ⊢
          exact EvLQ.op hw hd (.vop hv) this
        · exact h.elim
      · split at h
        · rename_i v H' n' hm
          split at h
          · rename_i hd
            have := evZ_sound h
            simp only [Stk] at this ⊢
            exact EvLQ.op hw hd (.mop hm) this
          · exact h.elim
        · exact h
    · rename_i hw
      split at h
      · rename_i hd
        have := evZ_sound h
        simp only [Stk] at this ⊢
        exact EvLQ.skip hw hd this
      · exact h.elim
    · exact h
  | f + 1, .opsD _ _ [] :: st, t, H, n, C, h => by simp only [evZ] at h; simp only [Stk]; exact ⟨_, .nil, evZ_sound h⟩
  | f + 1, .opsD G cl (i :: l) :: st, t, H, n, C, h => by
    simp only [evZ] at h
    split at h
    · exact h.elim
    · rename_i o ho
      split at h
      · rename_i hw
        split at h
        · rename_i v hv
          split at h
          · rename_i hd
            have := evZ_sound h
            simp only [Stk] at this ⊢
            obtain ⟨s', q1, q2⟩ := this
            obtain ⟨R', r1, r2⟩ := rdOk_spec hd.2
            exact ⟨s', .rd ho hw hd.1 (.vop hv) r1 r2 q1, q2⟩
          · exact h.elim
        · split at h
          · rename_i v H' n' hm
            obtain ⟨hm0, h⟩ := h
            obtain ⟨S, b, r1, r2⟩ := memOk_spec hm0
            split at h
            · rename_i hd
              have := evZ_sound h
              simp only [Stk] at this ⊢
              obtain ⟨s', q1, q2⟩ := this
              exact ⟨s', .mem ho hw hd (.mop hm) r1 r2 q1, q2⟩
            · exact h.elim
          · exact h
      · rename_i hw
        split at h
        · rename_i hd
          have := evZ_sound h
          simp only [Stk] at this ⊢
          obtain ⟨s', q1, q2⟩ := this
          exact ⟨s', .skip ho hw hd q1, q2⟩
        · exact h.elim
      · exact h
  | f + 1, .code c :: st, t, H, n, C, h => by
    simp only [evZ] at h
    split at h
    · simp only [Stk]; exact EvQ.skip (evZ_sound h)
    · simp only [Stk]; exact EvQ.label (evZ_sound h)
    · simp only [Stk]; exact EvQ.ret h
    · simp only [Stk]; exact EvQ.goto h
    · rename_i id
      simp only [Stk]
      refine EvQ.exit (resX_unwind id ?_)
      cases hu : unwind id st with
      | some st' => rw [hu] at h; exact evZ_sound h
      | none => rw [hu] at h; exact h
    · have := evZ_sound h
      simp only [Stk] at this ⊢
      exact EvQ.region this
    · have := evZ_sound h
      simp only [Stk] at this ⊢
      refine EvQ.seq (EvQ.mono this fun e s hq => ?_)
      cases e <;> exact hq
    · have := evZ_sound h
      simp only [Stk] at this ⊢
      refine EvQ.block (EvQ.mono this fun e s hq => ?_)
      cases e with
      | exit j =>
        simp only [Stk.resX] at hq
        simp only [blockQ]
        split
        · rename_i e; subst e; simpa using hq
        · rename_i e; rw [if_neg (fun e' => e e'.symm)] at hq; exact hq
      | _ => exact hq
    · exact h


variable {st st' : List It} {t : Nat → AV} {H : Mem} {n : Nat} {C : Cont}

theorem Stk.cond {c : Operand} {x y : Code} (b : Bool) (hc : ev t c = .sc (.bool b)) (h1 : b = true → Stk P T k (.code x :: st) t H n C) (h2 : b = false → Stk P T k (.code y :: st) t H n C) : Stk P T k (.code (.cond c x y) :: st) t H n C := by
  simp only [Stk] at h1 h2 ⊢
  exact EvQ.cond hc h1 h2

theorem Stk.gen (F : (Nat → AV) → Mem → Nat → Prop) (hF : F t H n) (h : ∀ t H n, F t H n → Stk P T k st t H n C) : Stk P T k st t H n C := h t H n hF

/-! A code's begin, step by step. -/
theorem Stk.sq {x y : Code} (h : Stk P T k (.code x :: .code y :: st) t H n C) : Stk P T k (.code (.seq x y) :: st) t H n C := evZ_sound (f := 1) h
theorem Stk.bk {id : Nat} {c : Code} (h : Stk P T k (.code c :: .block id :: st) t H n C) : Stk P T k (.code (.block id c) :: st) t H n C := evZ_sound (f := 1) h
theorem Stk.rg {id : Nat} {ops : Array Oper} (h : Stk P T k (.ops ops ops.toList :: st) t H n C) : Stk P T k (.code (.region id ops false) :: st) t H n C := evZ_sound (f := 1) h
theorem Stk.sk (h : Stk P T k st t H n C) : Stk P T k (.code .skip :: st) t H n C := evZ_sound (f := 1) h
theorem Stk.lb {l : Nat} (h : Stk P T k st t H n C) : Stk P T k (.code (.label l) :: st) t H n C := evZ_sound (f := 1) h
theorem Stk.rt (h : C .ret t H n) : Stk P T k (.code .ret :: st) t H n C := evZ_sound (f := 1) h
theorem Stk.ex {id : Nat} (hu : unwind id st = some st') (h : Stk P T k st' t H n C) : Stk P T k (.code (.exit id) :: st) t H n C := by
  refine evZ_sound (f := 1) ?_
  simp only [evZ, hu]
  exact h
theorem Stk.on {G : Array Oper} (h : Stk P T k st t H n C) : Stk P T k (.ops G [] :: st) t H n C := evZ_sound (f := 1) h
theorem Stk.onD {G : Array Oper} {cl : List Cls} (h : Stk P T k st t H n C) : Stk P T k (.opsD G cl [] :: st) t H n C := evZ_sound (f := 1) h
theorem Stk.bn {id : Nat} (h : Stk P T k st t H n C) : Stk P T k (.block id :: st) t H n C := evZ_sound (f := 1) h
theorem Stk.ln {I : Nat → (Nat → AV) → Mem → Nat → Prop} {m : Nat} (m' : Nat) (hm : m' < m) (h : I m' t H n) : Stk P T k (.loop I m :: st) t H n C := evZ_sound (f := 1) ⟨m', hm, h⟩
theorem Stk.en (h : C .normal t H n) : Stk P T k [] t H n C := evZ_sound (f := 1) h

/-- What is known behind the first code; then on. -/
theorem Stk.jn {x : It} (K : (Nat → AV) → Mem → Nat → Prop) (hx : match x with | .loop .. => False | .block _ => False | _ => True) (h1 : ∀ J : Nat → (Nat → AV) → Mem → Nat → Prop, (∀ t H n, K t H n → J 0 t H n) → Stk P T k (x :: .loop J 1 :: st) t H n C) (h2 : ∀ t H n, K t H n → Stk P T k st t H n C) : Stk P T k (x :: st) t H n C := by
  have h := h1 (fun _ => K) fun _ _ _ h => h
  have key : ∀ t H n, (∃ m', m' < 1 ∧ K t H n) → Stk P T k st t H n C := fun t H n ⟨_, _, h⟩ => h2 t H n h
  cases x with
  | loop => exact hx.elim
  | block => exact hx.elim
  | code c =>
    simp only [Stk] at h ⊢
    refine EvQ.mono h fun e s hq => ?_
    cases e with
    | normal => exact key _ _ _ hq
    | exit id => exact hq
    | _ => exact hq
  | ops G l =>
    simp only [Stk] at h ⊢
    obtain ⟨s', q1, q2⟩ := h
    exact ⟨s', q1, key _ _ _ q2⟩
  | opsD G cl l =>
    simp only [Stk] at h ⊢
    obtain ⟨s', q1, q2⟩ := h
    exact ⟨s', q1, key _ _ _ q2⟩

/-- Operations that need no help. -/
def runZ (T : Tab) (k : Nat) (G : Array Oper) : List Oper → (Nat → AV) → Mem → Nat → ((Nat → AV) → Mem → Nat → Prop) → Prop
  | [], t, H, n, J => J t H n
  | o :: l, t, H, n, J =>
    match wantedA G o t with
    | some true =>
      match vop T t H o.op with
      | some v => if dstOk k o = true then runZ T k G l (putA t o.dst v) H n J else False
      | none =>
        match mop T t H n o.op with
        | some (v, H', n') => if dstOk k o = true then runZ T k G l (putA t o.dst v) H' n' J else False
        | none => False
    | some false => if dstOk k o = true then runZ T k G l (putA t o.dst (.tup [])) H n J else False
    | none => False

theorem runZ_sound {G : Array Oper} {l2 : List Oper} {J : (Nat → AV) → Mem → Nat → Prop} (h2 : ∀ t H n, J t H n → Stk P T k (.ops G l2 :: st) t H n C) : ∀ {l : List Oper} {t : Nat → AV} {H : Mem} {n : Nat}, runZ T k G l t H n J → Stk P T k (.ops G (l ++ l2) :: st) t H n C
  | [], _, _, _, h => h2 _ _ _ h
  | o :: l, t, H, n, h => by
    simp only [runZ] at h
    split at h
    · rename_i hw
      split at h
      · rename_i v hv
        split at h
        · rename_i hd
          have := runZ_sound h2 h
          simp only [Stk, List.cons_append] at this ⊢
          exact EvLQ.op hw hd (.vop hv) this
        · exact h.elim
      · split at h
        · rename_i v H' n' hm
          split at h
          · rename_i hd
            have := runZ_sound h2 h
            simp only [Stk, List.cons_append] at this ⊢
            exact EvLQ.op hw hd (.mop hm) this
          · exact h.elim
        · exact h.elim
    · rename_i hw
      split at h
      · rename_i hd
        have := runZ_sound h2 h
        simp only [Stk, List.cons_append] at this ⊢
        exact EvLQ.skip hw hd this
      · exact h.elim
    · exact h.elim

theorem Stk.run {G : Array Oper} {l : List Oper} (m : Nat) (K : (Nat → AV) → Mem → Nat → Prop) (h1 : ∀ J : (Nat → AV) → Mem → Nat → Prop, (∀ t H n, K t H n → J t H n) → runZ T k G (l.take m) t H n J) (h2 : ∀ t H n, K t H n → Stk P T k (.ops G (l.drop m) :: st) t H n C) : Stk P T k (.ops G l :: st) t H n C := by
  have := runZ_sound (P := P) (st := st) (C := C) h2 (h1 K fun _ _ _ h => h)
  rwa [List.take_append_drop] at this

def runD (T : Tab) (k : Nat) (G : Array Oper) (cl : List Cls) : List Nat → (Nat → AV) → Mem → Nat → ((Nat → AV) → Mem → Nat → Prop) → Prop
  | [], t, H, n, J => J t H n
  | i :: l, t, H, n, J =>
    match G[i]? with
    | none => False
    | some o =>
      match wantedA G o t with
      | some true =>
        match vop T t H o.op with
        | some v => if dstOk k o = true ∧ rdOk cl[i]? (readsOf t o.op) = true then runD T k G cl l (putA t o.dst v) H n J else False
        | none =>
          match mop T t H n o.op with
          | some (v, H', n') => memOk cl[i]? H H' ∧ if dstOk k o = true then runD T k G cl l (putA t o.dst v) H' n' J else False
          | none => False
      | some false => if dstOk k o = true then runD T k G cl l (putA t o.dst (.tup [])) H n J else False
      | none => False

theorem runD_sound {G : Array Oper} {cl : List Cls} {l2 : List Nat} {J : (Nat → AV) → Mem → Nat → Prop} (h2 : ∀ t H n, J t H n → Stk P T k (.opsD G cl l2 :: st) t H n C) : ∀ {l : List Nat} {t : Nat → AV} {H : Mem} {n : Nat}, runD T k G cl l t H n J → Stk P T k (.opsD G cl (l ++ l2) :: st) t H n C
  | [], _, _, _, h => h2 _ _ _ h
  | i :: l, t, H, n, h => by
    simp only [runD] at h
    split at h
    · exact h.elim
    · rename_i o ho
      split at h
      · rename_i hw
        split at h
        · rename_i v hv
          split at h
          · rename_i hd
            have := runD_sound h2 h
            simp only [Stk, List.cons_append] at this ⊢
            obtain ⟨s', q1, q2⟩ := this
            obtain ⟨R', r1, r2⟩ := rdOk_spec hd.2
            exact ⟨s', .rd ho hw hd.1 (.vop hv) r1 r2 q1, q2⟩
          · exact h.elim
        · split at h
          · rename_i v H' n' hm
            obtain ⟨hm0, h⟩ := h
            obtain ⟨S, b, r1, r2⟩ := memOk_spec hm0
            split at h
            · rename_i hd
              have := runD_sound h2 h
              simp only [Stk, List.cons_append] at this ⊢
              obtain ⟨s', q1, q2⟩ := this
              exact ⟨s', .mem ho hw hd (.mop hm) r1 r2 q1, q2⟩
            · exact h.elim
          · exact h.elim
      · rename_i hw
        split at h
        · rename_i hd
          have := runD_sound h2 h
          simp only [Stk, List.cons_append] at this ⊢
          obtain ⟨s', q1, q2⟩ := this
          exact ⟨s', .skip ho hw hd q1, q2⟩
        · exact h.elim
      · exact h.elim

theorem Stk.runD {G : Array Oper} {cl : List Cls} {l : List Nat} (m : Nat) (K : (Nat → AV) → Mem → Nat → Prop) (h1 : ∀ J : (Nat → AV) → Mem → Nat → Prop, (∀ t H n, K t H n → J t H n) → Ah.runD T k G cl (l.take m) t H n J) (h2 : ∀ t H n, K t H n → Stk P T k (.opsD G cl (l.drop m) :: st) t H n C) : Stk P T k (.opsD G cl l :: st) t H n C := by
  have := runD_sound (P := P) (st := st) (C := C) h2 (h1 K fun _ _ _ h => h)
  rwa [List.take_append_drop] at this

/-- A region of open order. -/
theorem Stk.rgD {id : Nat} {ops : Array Oper} (cl : List Cls) (q : Option Nat) (hm : P.follows .mixedOrders = true) (hok : drawOk2 ops cl q = true) (hlt : lateOk T ops q = true) (hl : below cl) {R : List Nat} (hR : List.range ops.size = R)
    (h : Stk P T k (.opsD ops cl R :: st) t H n C) : Stk P T k (.code (.region id ops true) :: st) t H n C := Stk.regionD 0 cl q hm hok hlt hl hR h

/-- A loop, m rounds left at most. -/
theorem Stk.lo {c : Code} (I : Nat → (Nat → AV) → Mem → Nat → Prop) (m : Nat) (h0 : I m t H n)
    (h : ∀ J : Nat → (Nat → AV) → Mem → Nat → Prop, (∀ m t H n, I m t H n → J m t H n) → ∀ m t H n, I m t H n → Stk P T k (.code c :: .loop J m :: st) t H n C) : Stk P T k (.code (.loop c) :: st) t H n C := Stk.loop 0 I m h0 h

section
variable {G : Array Oper} {l : List Oper} {g : FuncId} {first caps args args' : List AV} {v : AV} {xs : Array Operand} {ats : Array TypeId} {f : Operand} {ty : TypeId} {pos : String} {after : Array Edge} {guard : Option (Nat × Bool)} {dst : Option Nat}
/-- A call that knows nothing of the table. -/
theorem Stk.cv (ids : List Nat) (hr : RunF P T g args' v) (h1 : wantedA G ⟨dst, .call ⟨.value f, xs, ats⟩, ty, pos, after, guard⟩ t = some true) (h2 : dstOk k ⟨dst, .call ⟨.value f, xs, ats⟩, ty, pos, after, guard⟩ = true)
    (hf : ev t f = .fn (.func g) first caps) (ha : first ++ xs.toList.map (ev t) ++ caps = args) (hvw : ViewL T H ids args args') (hv : (ids = [] ∧ free v = true) ∨ flat v = true)
    (h4 : ∀ t', t' = putA t dst v → Stk P T k (.ops G l :: st) t' H n C) : Stk P T k (.ops G (⟨dst, .call ⟨.value f, xs, ats⟩, ty, pos, after, guard⟩ :: l) :: st) t H n C := by
  have := h4 _ rfl
  simp only [Stk] at this ⊢
  obtain ⟨H', n', h⟩ := hr
  subst ha
  exact EvLQ.op (s := ⟨t, H, n⟩) h1 h2 (.callB ids rfl rfl hf hvw h hv) this

theorem Stk.cs {Z : AV → Mem → Nat → Prop} (hr : RunQ P T g args H n Z) (h1 : wantedA G ⟨dst, .call ⟨.value f, xs, ats⟩, ty, pos, after, guard⟩ t = some true) (h2 : dstOk k ⟨dst, .call ⟨.value f, xs, ats⟩, ty, pos, after, guard⟩ = true)
    (hf : ev t f = .fn (.func g) first caps) (ha : first ++ xs.toList.map (ev t) ++ caps = args)
    (h4 : ∀ v H' n', Z v H' n' → ∀ t', t' = putA t dst v → Stk P T k (.ops G l :: st) t' H' n' C) : Stk P T k (.ops G (⟨dst, .call ⟨.value f, xs, ats⟩, ty, pos, after, guard⟩ :: l) :: st) t H n C :=
  Stk.callS 0 hr h1 h2 hf ha fun v H' n' hz => h4 v H' n' hz _ rfl

variable {cl : List Cls} {i : Nat} {L : List Nat}
theorem Stk.cvD (ids : List Nat) (hr : RunF P T g args' v) {R : List Nat} (hcl : cl[i]? = some (.rd R)) (hR : ∀ j ∈ ids, j ∈ R) (h0 : G[i]? = some ⟨dst, .call ⟨.value f, xs, ats⟩, ty, pos, after, guard⟩) (h1 : wantedA G ⟨dst, .call ⟨.value f, xs, ats⟩, ty, pos, after, guard⟩ t = some true) (h2 : dstOk k ⟨dst, .call ⟨.value f, xs, ats⟩, ty, pos, after, guard⟩ = true)
    (hf : ev t f = .fn (.func g) first caps) (ha : first ++ xs.toList.map (ev t) ++ caps = args) (hvw : ViewL T H ids args args') (hv : (ids = [] ∧ free v = true) ∨ flat v = true)
    (h4 : ∀ t', t' = putA t dst v → Stk P T k (.opsD G cl L :: st) t' H n C) : Stk P T k (.opsD G cl (i :: L) :: st) t H n C := by
  have := h4 _ rfl
  simp only [Stk] at this ⊢
  obtain ⟨s', q1, q2⟩ := this
  obtain ⟨H', n', hr⟩ := hr
  subst ha
  exact ⟨s', .rd h0 h1 h2 (.callB ids rfl rfl hf hvw hr hv) hcl hR q1, q2⟩

theorem Stk.csD {Z : AV → Mem → Nat → Prop} {S : List Nat} {b : Nat} (hcl : cl[i]? = some (.mem S b)) (hZ : ∀ v H' n', Z v H' n' → ∀ j, j < b → j ∉ S → H' j = H j) (hr : RunQ P T g args H n Z) (h0 : G[i]? = some ⟨dst, .call ⟨.value f, xs, ats⟩, ty, pos, after, guard⟩) (h1 : wantedA G ⟨dst, .call ⟨.value f, xs, ats⟩, ty, pos, after, guard⟩ t = some true) (h2 : dstOk k ⟨dst, .call ⟨.value f, xs, ats⟩, ty, pos, after, guard⟩ = true)
    (hf : ev t f = .fn (.func g) first caps) (ha : first ++ xs.toList.map (ev t) ++ caps = args)
    (h4 : ∀ v H' n', Z v H' n' → ∀ t', t' = putA t dst v → Stk P T k (.opsD G cl L :: st) t' H' n' C) : Stk P T k (.opsD G cl (i :: L) :: st) t H n C :=
  Stk.callSD 0 hcl hZ hr h0 h1 h2 hf ha fun v H' n' hz => h4 v H' n' hz _ rfl
end

/-- A function, with its results given away. -/
theorem RunF.z {f : FuncId} {fn : Func} {c : Code} {args : List AV} {r : AV} (h1 : P.funcs[f]? = some fn) (h2 : fn.body = some c) (h3 : (fn.name == "runtime.NumGoroutine") = false) {k : Nat} (hk : fn.ntmps = k) (h4 : Nat.ble args.length k = true) {rs : List ResultVar} (hrs : fn.results.toList = rs)
    (h : ∀ C : Cont, (∀ t H n r1 ids, resOf T rs ⟨t, H, n⟩ = some r1 → Vw T H ids r1 r → C .ret t H n ∧ C .normal t H n) → Stk P T k [.code c] (initT args) (fun _ => none) 0 C) : RunF P T f args r := by
  subst hk; subst hrs
  have hC := h (fun e t H n => (e = .ret ∨ e = .normal) ∧ ∃ r1 ids, resOf T fn.results.toList ⟨t, H, n⟩ = some r1 ∧ Vw T H ids r1 r) (fun t H n r1 ids a b => ⟨⟨.inl rfl, r1, ids, a, b⟩, .inr rfl, r1, ids, a, b⟩)
  rw [Stk] at hC
  obtain ⟨e, s', q1, q2⟩ := hC
  have q3 : (e = .ret ∨ e = .normal) ∧ ∃ r1 ids, resOf T fn.results.toList s' = some r1 ∧ Vw T s'.H ids r1 r := by cases e <;> exact q2
  obtain ⟨he, r1, ids, hr1, hv⟩ := q3
  refine ⟨fun _ => none, s'.n, Run.weak ids (.mk h1 h2 h3 (Nat.le_of_ble_eq_true h4) q1 he hr1) ⟨fun i => .inl rfl, fun i => .inl rfl, Nat.le_refl _⟩ hv⟩

/-- What works on any memory works on none, and what it made may be given away. -/
theorem RunF.ofQ {f : FuncId} {args : List AV} {r : AV} {Z : AV → Mem → Nat → Prop} (h : RunQ P T f args (fun _ => none) 0 Z) (hz : ∀ v H n, Z v H n → ∃ ids, Vw T H ids v r) : RunF P T f args r := by
  obtain ⟨v, H', n', h1, h2⟩ := h
  obtain ⟨ids, hv⟩ := hz v H' n' h2
  exact ⟨fun _ => none, n', Run.weak ids h1 ⟨fun i => .inl rfl, fun i => .inl rfl, Nat.le_refl _⟩ hv⟩
theorem without_nil (H : Mem) : without H [] = H := by funext i; simp [without]
/-- A function that works on what its caller has, with its results given away. -/
theorem RunQ.z {f : FuncId} {fn : Func} {c : Code} {args : List AV} {H0 : Mem} {n0 : Nat} {Z : AV → Mem → Nat → Prop} (h1 : P.funcs[f]? = some fn) (h2 : fn.body = some c) (h3 : (fn.name == "runtime.NumGoroutine") = false) {k : Nat} (hk : fn.ntmps = k) (h4 : Nat.ble args.length k = true) {rs : List ResultVar} (hrs : fn.results.toList = rs)
    (h : ∀ C : Cont, (∀ t H n r1 r ids, resOf T rs ⟨t, H, n⟩ = some r1 → Vw T H ids r1 r → Z r (without H ids) n → C .ret t H n ∧ C .normal t H n) → Stk P T k [.code c] (initT args) H0 n0 C) : RunQ P T f args H0 n0 Z := by
  subst hk; subst hrs
  have hC := h (fun e t H n => (e = .ret ∨ e = .normal) ∧ ∃ r1 r ids, resOf T fn.results.toList ⟨t, H, n⟩ = some r1 ∧ Vw T H ids r1 r ∧ Z r (without H ids) n) (fun t H n r1 r ids a b z => ⟨⟨.inl rfl, r1, r, ids, a, b, z⟩, .inr rfl, r1, r, ids, a, b, z⟩)
  rw [Stk] at hC
  obtain ⟨e, s', q1, q2⟩ := hC
  have q3 : (e = .ret ∨ e = .normal) ∧ ∃ r1 r ids, resOf T fn.results.toList s' = some r1 ∧ Vw T s'.H ids r1 r ∧ Z r (without s'.H ids) s'.n := by cases e <;> exact q2
  obtain ⟨he, r1, r, ids, hr1, hv, hz⟩ := q3
  refine ⟨r, without s'.H ids, s'.n, Run.weak ids (.mk h1 h2 h3 (Nat.le_of_ble_eq_true h4) q1 he hr1) ⟨fun i => .inl rfl, fun i => ?_, Nat.le_refl _⟩ hv, hz⟩
  by_cases e : i ∈ ids
  · exact .inl (by simp [without, e])
  · exact .inr ⟨e, .inl (by simp [without, e])⟩
end

attribute [simp] evZ runZ runD
end Go.Proofs.YtcdafogfmijcpaaW.Ah
