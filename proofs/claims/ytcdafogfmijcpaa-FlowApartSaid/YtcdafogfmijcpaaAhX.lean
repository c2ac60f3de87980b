/-
  The evaluator as a program: what it comes to, is so.
-/
import Derived.Test.YtcdafogfmijcpaaAhM
namespace Go.Proofs.YtcdafogfmijcpaaW.Ah
set_option linter.unusedVariables false
set_option linter.unusedSimpArgs false

abbrev Mm := Nat → Option Blk

/-- The blocks, made ahead of b, that an operation may change. -/
def memOf (t : Nat → AV) (b : Nat) : Op → List Nat
  | .store _ a _ => (match ev t a with | .own i _ => [i] | _ => [])
  | .mapUpdate _ m _ _ | .mapEntry _ m _ | .entryStore _ m _ _ => (match ev t m with | .omap i => [i] | _ => [])
  | .call { callee := .builtin _, args, .. } => (match args.toList.map (ev t) with | .osl i _ _ _ :: _ => [i] | .omap i :: _ => [i] | _ => [])
  | .call _ => List.range b
  | _ => []

theorem upd_old {H : Mm} {i j : Nat} {v : Option Blk} (h : j ≠ i) : upd H i v j = H j := upd_ne _ _ h

/-- May operations be done in any order? -/
def anyOrder (T : Tab) (G : Array Oper) (cl : List Cls) : Option (Option Nat) :=
  (none :: (List.range G.size).map some).find? fun q => drawOk G cl q && lateOk T G q

/-- Two values alike, of a type, none of parts. -/
def eqLeaf (T : Tab) (t : Nat) (x y : AV) : Option Bool :=
  match T t with
  | none => none
  | some i =>
    match i.k, x, y with
    | .bool, .sc (.bool a), .sc (.bool b) => some (a == b)
    | .int _, .sc (.int k a), .sc (.int k' b) => if k = k' then some (a == b) else none
    | .str, .sc (.string a), .sc (.string b) => some (a == b)
    | .slice _, .sc (.slice none 0 0), .sc (.slice none 0 0) => some true
    | .slice _, .sc (.slice none 0 0), .osl .. => some false
    | .slice _, .sc (.slice none 0 0), .esl _ => some false
    | .slice _, .sc (.slice none 0 0), .ssl _ n _ => if n = 0 then none else some false
    | .slice _, .osl .., .sc (.slice none 0 0) => some false
    | .slice _, .esl _, .sc (.slice none 0 0) => some false
    | .slice _, .ssl _ n _, .sc (.slice none 0 0) => if n = 0 then none else some false
    | .ptr _, .sc (.pointer none), .sc (.pointer none) => some true
    | .ptr _, .sc (.pointer none), .own .. => some false
    | .ptr _, .own .., .sc (.pointer none) => some false
    | .ptr _, .sc (.pointer none), .sh _ => some false
    | .ptr _, .sh _, .sc (.pointer none) => some false
    | .func, .sc .nilFunc, .sc .nilFunc => some true
    | .func, .sc .nilFunc, .fn .. => some false
    | .func, .fn .., .sc .nilFunc => some false
    | _, _, _ => none

theorem eqLeaf_ok {T : Tab} {d t : Nat} {x y : AV} {r : Bool} (h : eqLeaf T t x y = some r) : eqT T (d + 1) t x y = some r := by
  unfold eqLeaf at h
  unfold eqT
  cases ht : T t with
  | none => rw [ht] at h; cases h
  | some i =>
    rw [ht] at h
    simp only at h ⊢
    split at h <;> first | (cases h; done) | (rename_i hk; simp only [hk]; exact h) | (simp_all; done)

mutual
def eqX (T : Tab) : Nat → Nat → AV → AV → Option Bool
  | 0, _, _, _ => none
  | f + 1, t, x, y =>
    match T t with
    | none => none
    | some i =>
      match i.k, x, y with
      | .struct fs, .agg xs, .agg ys => if i.eq = true then eqXF T f fs xs ys else none
      | .arr n e, .agg xs, .agg ys => if i.eq = true then (match T e with | some j => eqXE T f e j.size (List.range' 0 n) xs ys | none => none) else none
      | _, _, _ => eqLeaf T t x y
def eqXF (T : Tab) : Nat → List (Nat × Nat) → List AV → List AV → Option Bool
  | 0, _, _, _ => none
  | _ + 1, [], _, _ => some true
  | f + 1, (off, t) :: fs, xs, ys =>
    match partOf T t xs off, partOf T t ys off with
    | some a, some b =>
      match eqX T f t a b, eqXF T f fs xs ys with
      | some r, some s => some (r && s)
      | _, _ => none
    | _, _ => none
def eqXE (T : Tab) : Nat → Nat → Nat → List Nat → List AV → List AV → Option Bool
  | 0, _, _, _, _, _ => none
  | _ + 1, _, _, [], _, _ => some true
  | f + 1, e, z, k :: ks, xs, ys =>
    match partOf T e xs (k * z), partOf T e ys (k * z) with
    | some a, some b =>
      match eqX T f e a b, eqXE T f e z ks xs ys with
      | some r, some s => some (r && s)
      | _, _ => none
    | _, _ => none
end

theorem eqX_ok {T : Tab} : ∀ f : Nat, (∀ d t x y r, f ≤ d → eqX T f t x y = some r → eqT T d t x y = some r) ∧ (∀ d fs xs ys r, f ≤ d → eqXF T f fs xs ys = some r → eqT.eqFs T d fs xs ys = some r) ∧ (∀ d e z ks xs ys r, f ≤ d → eqXE T f e z ks xs ys = some r → eqT.eqEls T d e z ks xs ys = some r)
  | 0 => ⟨fun d t x y r _ h => by simp [eqX] at h, fun d fs xs ys r _ h => by simp [eqXF] at h, fun d e z ks xs ys r _ h => by simp [eqXE] at h⟩
  | f + 1 => by
    obtain ⟨ih1, ih2, ih3⟩ := eqX_ok (T := T) f
    refine ⟨fun d t x y r hd h => ?_, fun d fs xs ys r hd h => ?_, fun d e z ks xs ys r hd h => ?_⟩
    · obtain ⟨d, rfl⟩ : ∃ d', d = d' + 1 := ⟨d - 1, by omega⟩
      simp only [eqX] at h
      split at h
      · cases h
      · rename_i i ht
        split at h
        · rename_i fs xs ys hk
          split at h
          · rename_i he
            have := ih2 d fs xs ys r (by omega) h
            unfold eqT; rw [ht]; simp only [hk, he, if_true]; exact this
          · cases h
        · rename_i n e xs ys hk
          split at h
          · rename_i he
            split at h
            · rename_i j hj
              have := ih3 d e j.size _ xs ys r (by omega) h
              unfold eqT; rw [ht]; simp only [hk, he, if_true, hj]; exact this
            · cases h
          · cases h
        · exact eqLeaf_ok h
    · cases fs with
      | nil => simp only [eqXF] at h; cases h; simp [eqT.eqFs]
      | cons p fs =>
        obtain ⟨off, t⟩ := p
        simp only [eqXF] at h
        split at h
        · rename_i a b ha hb
          split at h
          · rename_i r1 r2 h1 h2
            cases h
            simp only [eqT.eqFs, ha, hb, ih1 d _ _ _ _ (by omega) h1, ih2 d _ _ _ _ (by omega) h2]
          · cases h
        · cases h
    · cases ks with
      | nil => simp only [eqXE] at h; cases h; simp [eqT.eqEls]
      | cons k ks =>
        simp only [eqXE] at h
        split at h
        · rename_i a b ha hb
          split at h
          · rename_i r1 r2 h1 h2
            cases h
            simp only [eqT.eqEls, ha, hb, ih1 d _ _ _ _ (by omega) h1, ih3 d _ _ _ _ _ _ (by omega) h2]
          · cases h
        · cases h

def isNum : AV → Bool
  | .sc (.int _ _) => true
  | .sc (.string _) => true
  | _ => false

def binX (T : Tab) (op : BinOp) (t : Nat) (x y : AV) : Option AV :=
  match op with
  | .eql => if (isNum x && isNum y) = true then binAV T .eql t x y else (eqX T 200 t x y).map fun b => .sc (.bool b)
  | .neq => if (isNum x && isNum y) = true then binAV T .neq t x y else (eqX T 200 t x y).map fun b => .sc (.bool !b)
  | op => binAV T op t x y

theorem maxDepth_ge : 200 ≤ Op.maxDepth := by decide

theorem binX_ok {T : Tab} {op : BinOp} {t : Nat} {x y v : AV} (h : binX T op t x y = some v) : binAV T op t x y = some v := by
  unfold binX at h
  split at h
  · split at h
    · exact h
    · rename_i hn
      simp only [Option.map_eq_some_iff] at h
      obtain ⟨b, hb, rfl⟩ := h
      have := (eqX_ok (T := T) 200).1 Op.maxDepth t x y b maxDepth_ge hb
      unfold binAV
      split <;> first | (simp [isNum] at hn; done) | simp_all
  · split at h
    · exact h
    · rename_i hn
      simp only [Option.map_eq_some_iff] at h
      obtain ⟨b, hb, rfl⟩ := h
      have := (eqX_ok (T := T) 200).1 Op.maxDepth t x y b maxDepth_ge hb
      unfold binAV
      split <;> first | (simp [isNum] at hn; done) | simp_all
  · exact h

def vopX (T : Tab) (t : Nat → AV) (H : Mm) : Op → Option AV
  | .binOp op ty x y _ => binX T op ty (ev t x) (ev t y)
  | op => vop T t H op

theorem vopX_ok {T : Tab} {t : Nat → AV} {H : Mm} {op : Op} {v : AV} (h : vopX T t H op = some v) : vop T t H op = some v := by
  unfold vopX at h
  split at h
  · simp only [vop]; exact binX_ok h
  · exact h

mutual
/-- A value with the blocks that it speaks of carried in it, and which these are. -/
def viewE (H : Mm) : Nat → AV → Option (AV × List Nat)
  | 0, _ => none
  | f + 1, a =>
    if free a = true then some (a, []) else
    match a with
    | .own i o =>
      match H i with
      | some (.cells cs _) =>
        match viewEL H f (cs.drop o) with
        | some (cs', ids) => some (.sh cs', i :: ids)
        | none => none
      | _ => none
    | .osl i o n c =>
      match H i with
      | some (.cells cs _) =>
        match viewEL H f ((cs.drop o).take cs.length) with
        | some (cs', ids) => some (.ssl cs' n (c == some n), i :: ids)
        | none => none
      | _ => none
    | .agg cs =>
      match viewEL H f cs with
      | some (cs', ids) => some (.agg cs', ids)
      | none => none
    | .tup cs =>
      match viewEL H f cs with
      | some (cs', ids) => some (.tup cs', ids)
      | none => none
    | .fn g x y =>
      match viewEL H f x, viewEL H f y with
      | some (x', i1), some (y', i2) => some (.fn g x' y', i1 ++ i2)
      | _, _ => none
    | _ => none
def viewEL (H : Mm) : Nat → List AV → Option (List AV × List Nat)
  | 0, _ => none
  | _ + 1, [] => some ([], [])
  | f + 1, a :: as =>
    if freeL (a :: as) = true then some (a :: as, []) else
    match viewE H f a, viewEL H f as with
    | some (a', i1), some (as', i2) => some (a' :: as', i1 ++ i2)
    | _, _ => none
end

theorem view_e {T : Tab} {H : Mm} : ∀ f : Nat, (∀ a a' ids, viewE H f a = some (a', ids) → ∀ js : List Nat, (∀ i ∈ ids, i ∈ js) → View T H js a a') ∧ (∀ as as' ids, viewEL H f as = some (as', ids) → ∀ js : List Nat, (∀ i ∈ ids, i ∈ js) → ViewL T H js as as')
  | 0 => ⟨fun a a' ids h => by simp [viewE] at h, fun as as' ids h => by simp [viewEL] at h⟩
  | f + 1 => by
    obtain ⟨ih1, ih2⟩ := view_e (T := T) (H := H) f
    constructor
    · intro a a' ids h js hj
      simp only [viewE] at h
      split at h
      · rename_i hf; cases h; exact .free hf
      · split at h
        · split at h
          · rename_i hi
            split at h
            · rename_i hv; cases h; exact .own (hj _ (by simp)) hi (ih2 _ _ _ hv js fun i hi => hj i (by simp [hi]))
            · cases h
          · cases h
        · split at h
          · rename_i hi
            split at h
            · rename_i hv; cases h; exact .osl _ (hj _ (by simp)) hi (ih2 _ _ _ hv js fun i hi => hj i (by simp [hi]))
            · cases h
          · cases h
        · split at h
          · rename_i hv; cases h; exact .agg (ih2 _ _ _ hv js hj)
          · cases h
        · split at h
          · rename_i hv; cases h; exact .tup (ih2 _ _ _ hv js hj)
          · cases h
        · split at h
          · rename_i h1 h2; cases h
            exact .fn (ih2 _ _ _ h1 js fun i hi => hj i (by simp [hi])) (ih2 _ _ _ h2 js fun i hi => hj i (by simp [hi]))
          · cases h
        · cases h
    · intro as as' ids h js hj
      cases as with
      | nil => simp only [viewEL] at h; cases h; exact .nil
      | cons a as =>
        simp only [viewEL] at h
        split at h
        · rename_i hf; cases h; exact .free hf
        split at h
        · rename_i h1 h2; cases h
          exact .cons (ih1 _ _ _ h1 js fun i hi => hj i (by simp [hi])) (ih2 _ _ _ h2 js fun i hi => hj i (by simp [hi]))
        · cases h

section
variable (P : Program) (T : Tab)

mutual
def xCode : Nat → Nat → Code → St → Option (St × Ex)
  | 0, _, _, _ => none
  | f + 1, k, c, s =>
    match c with
    | .skip => some (s, .normal)
    | .label _ => some (s, .normal)
    | .exit id => some (s, .exit id)
    | .goto l => some (s, .goto l)
    | .ret => some (s, .ret)
    | .seq a b =>
      match xCode f k a s with
      | some (s1, .normal) => xCode f k b s1
      | r => r
    | .cond c a b =>
      match ev s.t c with
      | .sc (.bool true) => xCode f k a s
      | .sc (.bool false) => xCode f k b s
      | _ => none
    | .block id a =>
      match xCode f k a s with
      | some (s1, .exit j) => if j = id then some (s1, .normal) else some (s1, .exit j)
      | r => r
    | .loop a => xLoop f k a s
    | .scope a => xScope f k a a s
    | .region _ ops false =>
      match xOps f k ops ops.toList s with
      | some s1 => some (s1, .normal)
      | none => none
    | .region _ ops true =>
      if P.follows .mixedOrders = true then
        match xOpsD f k ops (List.range ops.size) s.n [] s with
        | some (s1, cl) =>
          match anyOrder T ops cl with
          | some _ => some (s1, .normal)
          | none => none
        | none => none
      else none
    | .rangeFunc g ps asg bod =>
      match ev s.t g with
      | .fn (.func g) first caps =>
        match xRun f g (first ++ [.yld s.n] ++ caps) (upd s.H s.n (some (.loop s.t k ps asg bod .ready))) (s.n + 1) with
        | some (_, H', n') =>
          match H' s.n with
          | some (.loop _ _ _ _ _ .ready) => some (⟨s.t, upd H' s.n none, n'⟩, .normal)
          | some (.loop _ _ _ _ _ (.done c)) => xCode f k c ⟨s.t, upd H' s.n none, n'⟩
          | _ => none
        | none => none
      | _ => none
    | _ => none
def xLoop : Nat → Nat → Code → St → Option (St × Ex)
  | 0, _, _, _ => none
  | f + 1, k, c, s =>
    match xCode f k c s with
    | some (s1, .normal) => xLoop f k c s1
    | r => r
def xScope : Nat → Nat → Code → Code → St → Option (St × Ex)
  | 0, _, _, _, _ => none
  | f + 1, k, b, c, s =>
    match xCode f k c s with
    | some (s1, .goto l) =>
      match findLabel b l with
      | some rest => xScope f k b rest s1
      | none => none
    | r => r
def xOps : Nat → Nat → Array Oper → List Oper → St → Option St
  | 0, _, _, _, _ => none
  | f + 1, k, G, l, s =>
    match l with
    | [] => some s
    | o :: l =>
      if dstOk k o = true then
        match wantedA G o s.t with
        | some true =>
          match xDoes f o s.t s.H s.n with
          | some (v, H', n', _) => xOps f k G l ⟨putA s.t o.dst v, H', n'⟩
          | none => none
        | some false => xOps f k G l ⟨putA s.t o.dst (.tup []), s.H, s.n⟩
        | none => none
      else none
def xOpsD : Nat → Nat → Array Oper → List Nat → Nat → List Cls → St → Option (St × List Cls)
  | 0, _, _, _, _, _, _ => none
  | f + 1, k, G, l, b, cl, s =>
    match l with
    | [] => some (s, cl)
    | i :: l =>
      match G[i]? with
      | some o =>
        if dstOk k o = true ∧ i = cl.length ∧ b ≤ s.n then
          match wantedA G o s.t with
          | some true =>
            match xDoes f o s.t s.H s.n with
            | some (v, H', n', some R) => xOpsD f k G l b (cl ++ [.rd R]) ⟨putA s.t o.dst v, s.H, s.n⟩
            | some (v, H', n', none) => xOpsD f k G l b (cl ++ [.mem (memOf s.t b o.op) b]) ⟨putA s.t o.dst v, H', n'⟩
            | none => none
          | some false => xOpsD f k G l b (cl ++ [.rd []]) ⟨putA s.t o.dst (.tup []), s.H, s.n⟩
          | none => none
        else none
      | none => none
def xDoes : Nat → Oper → (Nat → AV) → Mm → Nat → Option (AV × Mm × Nat × Option (List Nat))
  | 0, _, _, _, _ => none
  | f + 1, o, t, H, n =>
    match vopX T t H o.op with
    | some v => some (v, H, n, some (readsOf t o.op))
    | none =>
      match mop T t H n o.op with
      | some (v, H', n') => some (v, H', n', none)
      | none =>
        match o.op with
        | .call c =>
          match c.callee with
          | .value fv =>
            match ev t fv with
            | .fn (.func g) first caps =>
              if freeL (first ++ c.args.toList.map (ev t) ++ caps) = true then
                match xRun f g (first ++ c.args.toList.map (ev t) ++ caps) (fun _ => none) 0 with
                | some (v, _, _) => if free v = true then some (v, H, n, some []) else
                  match xRun f g (first ++ c.args.toList.map (ev t) ++ caps) H n with
                  | some (v, H', n') => some (v, H', n', none)
                  | none => none
                | none => none
              else
                match (match viewEL H 400 (first ++ c.args.toList.map (ev t) ++ caps) with
                  | some (args', ids) =>
                    (match xRun f g args' (fun _ => none) 0 with
                    | some (v, _, _) => if flat v = true then some (v, ids) else none
                    | none => none)
                  | none => none) with
                | some (v, ids) => some (v, H, n, some ids)
                | none =>
                  match xRun f g (first ++ c.args.toList.map (ev t) ++ caps) H n with
                  | some (v, H', n') => some (v, H', n', none)
                  | none => none
            | .yld i =>
              match H i with
              | some (.loop t0 k ps asg bod .ready) =>
                if ps.size = c.args.size ∧ ps.toList.all (fun p => decide (p < k)) = true then
                  match xCode f k asg ⟨fillT t0 (ps.toList.zip (c.args.toList.map (ev t))), H, n⟩ with
                  | some (s1, .normal) =>
                    match s1.H i with
                    | some (.loop t1 k1 ps1 asg1 bod1 .ready) =>
                      match xCode f k bod ⟨s1.t, upd s1.H i (some (.loop t1 k1 ps1 asg1 bod1 .busy)), s1.n⟩ with
                      | some (s2, e) =>
                        match s2.H i with
                        | some (.loop t2 k2 ps2 asg2 bod2 .busy) => some (B (e == .normal), upd s2.H i (some (.loop t2 k2 ps2 asg2 bod2 e.stt)), s2.n, none)
                        | _ => none
                      | none => none
                    | _ => none
                  | _ => none
                else none
              | _ => none
            | _ => none
          | _ => none
        | _ => none
def xRun : Nat → FuncId → List AV → Mm → Nat → Option (AV × Mm × Nat)
  | 0, _, _, _, _ => none
  | f + 1, g, args, H, n =>
    match P.funcs[g]? with
    | some fn =>
      match fn.body with
      | some c =>
        if (fn.name == "runtime.NumGoroutine") = false ∧ args.length ≤ fn.ntmps then
          match xCode f fn.ntmps c ⟨initT args, H, n⟩ with
          | some (s', .ret) =>
            match resOf T fn.results.toList s' with
            | some r => some (r, s'.H, s'.n)
            | none => none
          | some (s', .normal) =>
            match resOf T fn.results.toList s' with
            | some r => some (r, s'.H, s'.n)
            | none => none
          | _ => none
        else none
      | none => none
    | none => none
end
end

section
variable {P : Program} {T : Tab}

theorem mop_keeps {t : Nat → AV} {H H' : Mm} {n n' b : Nat} {v : AV} {op : Op} (h : mop T t H n op = some (v, H', n')) (hb : b ≤ n) : ∀ j, j < b → j ∉ memOf t b op → H' j = H j := by
  intro j hj hm
  cases op with
  | call c =>
    obtain ⟨callee, args, ats⟩ := c
    cases callee with
    | builtin bi =>
      cases bi with
      | append =>
        simp only [mop] at h
        simp only [memOf] at hm
        split at h
        case h_2 => cases h
        case h_1 x y st yt e1 e2 =>
          rw [e1] at hm
          have fin : appendAV T H n st x y = some (v, H', n') → H' j = H j := by
            intro h
            unfold appendAV at h
            repeat' split at h
            all_goals first
              | (cases h; done)
              | (simp only [Option.some.injEq, Prod.mk.injEq] at h; obtain ⟨_, rfl, _⟩ := h)
            all_goals first
              | rfl
              | (simp only [List.mem_singleton] at hm; rw [upd_ne _ _ hm]; done)
              | (rw [upd_ne _ _ (by omega)]; done)
              | (simp only [List.mem_singleton] at hm; rw [upd_ne _ _ (by omega), upd_ne _ _ hm]; done)
          split at h
          case h_2 => cases h
          case h_1 =>
            split at h
            · exact fin h
            · exact fin h
            · cases h
      | copy =>
        simp only [mop] at h
        simp only [memOf] at hm
        split at h
        case h_2 => cases h
        case h_1 x y st e1 e2 =>
          rw [e1] at hm
          repeat' split at h
          all_goals first
            | (cases h; done)
            | (simp only [Option.some.injEq, Prod.mk.injEq] at h; obtain ⟨_, rfl, _⟩ := h)
          all_goals first
            | rfl
            | (simp only [List.mem_singleton] at hm; rw [upd_ne _ _ hm]; done)
      | clear =>
        simp only [mop] at h
        simp only [memOf] at hm
        split at h
        case h_2 => cases h
        case h_1 i' o' m c st e1 e2 =>
          rw [e1] at hm
          repeat' split at h
          all_goals first
            | (cases h; done)
            | (simp only [Option.some.injEq, Prod.mk.injEq] at h; obtain ⟨_, rfl, _⟩ := h)
          all_goals first
            | rfl
            | (simp only [List.mem_singleton] at hm; rw [upd_ne _ _ hm]; done)
      | delete =>
        simp only [mop] at h
        simp only [memOf] at hm
        split at h
        case h_2 => cases h
        case h_1 i v' mt rest e1 e2 =>
          rw [e1] at hm
          repeat' split at h
          all_goals first
            | (cases h; done)
            | (simp only [Option.some.injEq, Prod.mk.injEq] at h; obtain ⟨_, rfl, _⟩ := h)
          all_goals (simp only [List.mem_singleton] at hm; rw [upd_ne _ _ hm])
      | _ => simp [mop] at h
    | _ => simp [mop] at h
  | makeMap mt x =>
    cases x with
    | some x => simp [mop] at h
    | none => simp only [mop] at h; cases h; rw [upd_ne _ _ (by omega)]
  | _ =>
    simp only [mop] at h
    simp only [memOf] at hm
    repeat' split at h
    all_goals first
      | (cases h; done)
      | (simp only [Option.some.injEq, Prod.mk.injEq] at h; obtain ⟨_, rfl, _⟩ := h)
    all_goals first
      | rfl
      | (rw [upd_ne _ _ (by omega)]; done)
      | (simp only [*, List.mem_singleton] at hm; rw [upd_ne _ _ hm]; done)

theorem any_ok {G : Array Oper} {cl : List Cls} {q : Option Nat} (h : anyOrder T G cl = some q) : drawOk G cl q = true ∧ lateOk T G q = true := by
  have := List.find?_some h
  simpa using this

structure XOk (P : Program) (T : Tab) (f : Nat) : Prop where
  code : ∀ {k c s s' e}, xCode P T f k c s = some (s', e) → Ev P T k c s e s'
  loop : ∀ {k c s s' e}, xLoop P T f k c s = some (s', e) → EvLoop P T k c s e s'
  scope : ∀ {k b c s s' e}, xScope P T f k b c s = some (s', e) → EvScope P T k b c s e s'
  ops : ∀ {k G l s s'}, xOps P T f k G l s = some s' → EvL P T k G l s s'
  opsD : ∀ {k G l b cl s s' cl'}, xOpsD P T f k G l b cl s = some (s', cl') → (∃ m, cl' = cl ++ m) ∧ EvD P T k G cl' l s s'
  does : ∀ {o t H n v H' n' R}, xDoes P T f o t H n = some (v, H', n', R) → (∀ R', R = some R' → DoesR P T o t H v R' ∧ H' = H ∧ n' = n) ∧ Does P T o t H n v H' n' ∧ (R = none → ∀ b, b ≤ n → ∀ j, j < b → j ∉ memOf t b o.op → H' j = H j)
  run : ∀ {g args H n v H' n'}, xRun P T f g args H n = some (v, H', n') → Run P T g args H n v H' n'

theorem x_ok : ∀ f, XOk P T f
  | 0 => by
    constructor
    · intro k c s s' e h; simp [xCode] at h
    · intro k c s s' e h; simp [xLoop] at h
    · intro k b c s s' e h; simp [xScope] at h
    · intro k G l s s' h; simp [xOps] at h
    · intro k G l b cl s s' cl' h; simp [xOpsD] at h
    · intro o t H n v H' n' R h; simp [xDoes] at h
    · intro g args H n v H' n' h; simp [xRun] at h
  | f + 1 => by
    have ih := x_ok f
    constructor
    · intro k c s s' e h
      cases c with
      | skip => simp only [xCode] at h; cases h; exact .skip
      | label => simp only [xCode] at h; cases h; exact .label
      | exit => simp only [xCode] at h; cases h; exact .exit
      | goto => simp only [xCode] at h; cases h; exact .goto
      | ret => simp only [xCode] at h; cases h; exact .ret
      | refuse => simp [xCode] at h
      | seq a b =>
        simp only [xCode] at h
        split at h
        · rename_i s1 h1; exact .seqN (ih.code h1) (ih.code h)
        · rename_i r hn
          exact .seqX (ih.code h) (fun e' => by subst e'; exact hn _ h)
      | cond c a b =>
        simp only [xCode] at h
        split at h
        · rename_i hc; exact .condT hc (ih.code h)
        · rename_i hc; exact .condF hc (ih.code h)
        · cases h
      | block id a =>
        simp only [xCode] at h
        split at h
        · rename_i s1 j h1
          split at h
          · rename_i e'; subst e'; cases h; exact .blockX (ih.code h1)
          · rename_i e'; cases h; exact .blockN (ih.code h1) (fun e2 => e' (by cases e2; rfl))
        · rename_i hn
          exact .blockN (ih.code h) (fun e' => by subst e'; exact hn _ _ h)
      | loop a => simp only [xCode] at h; exact .loop (ih.loop h)
      | scope a => simp only [xCode] at h; exact .scope (ih.scope h)
      | region id ops d =>
        cases d with
        | false =>
          simp only [xCode] at h
          split at h
          · rename_i s1 h1; cases h; exact .region (ih.ops h1)
          · cases h
        | true =>
          simp only [xCode] at h
          split at h
          case isFalse => cases h
          case isTrue hm =>
            split at h
            case h_2 => cases h
            case h_1 s1 cl h1 =>
              split at h
              case h_2 => cases h
              case h_1 q hq =>
                cases h
                exact .regionD cl q hm (any_ok hq).1 (any_ok hq).2 (ih.opsD h1).2
      | rangeFunc g ps asg bod =>
        simp only [xCode] at h
        split at h
        case h_2 => cases h
        case h_1 g first caps hg =>
          split at h
          case h_2 => cases h
          case h_1 r H' n' h1 =>
            split at h
            · rename_i h2; cases h; exact .rangeN hg (ih.run h1) h2
            · rename_i h2; exact .rangeJ hg (ih.run h1) h2 (ih.code h)
            · cases h
    · intro k c s s' e h
      simp only [xLoop] at h
      split at h
      · rename_i s1 h1; exact .more (ih.code h1) (ih.loop h)
      · rename_i hn; exact .done (ih.code h) (fun e' => by subst e'; exact hn _ h)
    · intro k b c s s' e h
      simp only [xScope] at h
      split at h
      · rename_i s1 l h1
        split at h
        · rename_i rest hl; exact .jump (ih.code h1) hl (ih.scope h)
        · cases h
      · rename_i hn; exact .straight (ih.code h) (fun l e' => by subst e'; exact hn _ _ h)
    · intro k G l s s' h
      cases l with
      | nil => simp only [xOps] at h; cases h; exact .nil
      | cons o l =>
        simp only [xOps] at h
        split at h
        case isFalse => cases h
        case isTrue hd =>
          split at h
          · rename_i hw
            split at h
            · rename_i h1; exact .op hw hd (ih.does h1).2.1 (ih.ops h)
            · cases h
          · rename_i hw; exact .skip hw hd (ih.ops h)
          · cases h
    · intro k G l b cl s s' cl' h
      cases l with
      | nil => simp only [xOpsD] at h; cases h; exact ⟨⟨[], by simp⟩, .nil⟩
      | cons i l =>
        simp only [xOpsD] at h
        split at h
        case h_2 => cases h
        case h_1 o ho =>
          split at h
          case isFalse => cases h
          case isTrue hd =>
            obtain ⟨hd, hi, hbn⟩ := hd
            have at_ : ∀ {x : Cls}, (∃ m, cl' = cl ++ [x] ++ m) → (∃ m, cl' = cl ++ m) ∧ cl'[i]? = some x := by
              rintro x ⟨m, rfl⟩
              exact ⟨⟨[x] ++ m, by simp⟩, by rw [hi]; simp⟩
            split at h
            · rename_i hw
              split at h
              · rename_i v H' n' R h1
                obtain ⟨h2, h3⟩ := ih.opsD h
                obtain ⟨h4, h5⟩ := at_ h2
                obtain ⟨h6, rfl, rfl⟩ := (ih.does h1).1 R rfl
                exact ⟨h4, .rd ho hw hd h6 h5 (fun _ h => h) h3⟩
              · rename_i v H' n' h1
                obtain ⟨h2, h3⟩ := ih.opsD h
                obtain ⟨h4, h5⟩ := at_ h2
                exact ⟨h4, .mem ho hw hd (ih.does h1).2.1 h5 ((ih.does h1).2.2 rfl b hbn) h3⟩
              · cases h
            · rename_i hw
              obtain ⟨h2, h3⟩ := ih.opsD h
              exact ⟨(at_ h2).1, .skip ho hw hd h3⟩
            · cases h
    · intro o t H n v H' n' R h
      simp only [xDoes] at h
      split at h
      · rename_i v' hv
        have hv := vopX_ok hv
        cases h
        exact ⟨fun R' e => (by cases e; exact ⟨.vop hv, rfl, rfl⟩), .vop hv, fun e => (by cases e)⟩
      · split at h
        · rename_i hm
          cases h
          exact ⟨fun R' e => (by cases e), .mop hm, fun _ b hb => mop_keeps hm hb⟩
        · split at h
          case h_2 => cases h
          case h_1 c ho =>
            split at h
            case h_2 => cases h
            case h_1 fv hc =>
              have hmem : ∀ b, memOf t b o.op = List.range b := by
                intro b; rw [ho]; obtain ⟨callee, args, ats⟩ := c; simp only at hc; subst hc; rfl
              have vac : ∀ (H' : Mm) b, b ≤ n → ∀ j, j < b → j ∉ memOf t b o.op → H' j = H j := by
                intro H' b _ j hj hn; rw [hmem] at hn; simp at hn; omega
              split at h
              · rename_i g first caps hf
                have callS : ∀ {v H' n'}, xRun P T f g (first ++ c.args.toList.map (ev t) ++ caps) H n = some (v, H', n') → Does P T o t H n v H' n' := fun h => .callS ho hc hf (ih.run h)
                split at h
                · rename_i hfr
                  split at h
                  · rename_i v1 H1 n1 h1
                    split at h
                    · rename_i hv
                      cases h
                      exact ⟨fun R' e => (by cases e; exact ⟨.callF ho hc hf hfr (ih.run h1) hv, rfl, rfl⟩), .callF ho hc hf hfr (ih.run h1) hv, fun e => (by cases e)⟩
                    · split at h
                      · rename_i h2; cases h; exact ⟨fun R' e => (by cases e), callS h2, fun _ => vac _⟩
                      · cases h
                  · cases h
                · split at h
                  · rename_i v1 ids1 h1
                    cases h
                    split at h1
                    · rename_i args' ids' hv
                      split at h1
                      · rename_i v2 H2 n2 hr
                        split at h1
                        · rename_i hfl
                          cases h1
                          have hvw := (view_e (T := T) 400).2 _ _ _ hv ids1 fun _ h => h
                          exact ⟨fun R' e => (by cases e; exact ⟨.callB ids1 ho hc hf hvw (ih.run hr) (.inr hfl), rfl, rfl⟩), .callB ids1 ho hc hf hvw (ih.run hr) (.inr hfl), fun e => (by cases e)⟩
                        · cases h1
                      · cases h1
                    · cases h1
                  · split at h
                    · rename_i h2; cases h; exact ⟨fun R' e => (by cases e), callS h2, fun _ => vac _⟩
                    · cases h
              · rename_i i hf
                split at h
                case h_2 => cases h
                case h_1 t0 k ps asg bod hi =>
                  split at h
                  case isFalse => cases h
                  case isTrue hps =>
                    split at h
                    case h_2 => cases h
                    case h_1 s1 h1 =>
                      split at h
                      case h_2 => cases h
                      case h_1 hi1 =>
                        split at h
                        case h_2 => cases h
                        case h_1 s2 e h2 =>
                          split at h
                          case h_2 => cases h
                          case h_1 hi2 =>
                            cases h
                            exact ⟨fun R' e => (by cases e), .round ho hc hf hi hps.1 hps.2 (ih.code h1) hi1 (ih.code h2) hi2, fun _ => vac _⟩
              · cases h
    · intro g args H n v H' n' h
      simp only [xRun] at h
      split at h
      case h_2 => cases h
      case h_1 fn hfn =>
        split at h
        case h_2 => cases h
        case h_1 c hb =>
          split at h
          case isFalse => cases h
          case isTrue hc =>
            split at h
            · rename_i s1 h1
              split at h
              · rename_i hr; cases h; exact .mk hfn hb hc.1 hc.2 (ih.code h1) (.inl rfl) hr
              · cases h
            · rename_i s1 h1
              split at h
              · rename_i hr; cases h; exact .mk hfn hb hc.1 hc.2 (ih.code h1) (.inr rfl) hr
              · cases h
            · cases h

/-- A truth value is what comes out. -/
def xBool (P : Program) (T : Tab) (F : Nat) (f : FuncId) (b : Bool) : Bool :=
  match xRun P T F f [] (fun _ => none) 0 with
  | some (.sc (.bool x), _, _) => x == b
  | _ => false

theorem RunF.x (F : Nat) {f : FuncId} {b : Bool} (h : xBool P T F f b = true) : RunF P T f [] (B b) := by
  unfold xBool at h
  split at h
  · rename_i x H' n' h1
    simp only [beq_iff_eq] at h
    subst h
    exact ⟨H', n', (x_ok F).run h1⟩
  · cases h

end
end Go.Proofs.YtcdafogfmijcpaaW.Ah
