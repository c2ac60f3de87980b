/-
  What an abstract value says of a value of the model, in a world; and that it stays so when memory is made or written that it does not speak of.
-/
import Derived.Test.YtcdafogfmijcpaaAh0
namespace Go.Proofs.YtcdafogfmijcpaaW.Ah
set_option linter.unusedVariables false
set_option linter.unusedSimpArgs false

/-- Where a block of the table lies: its number, how many cells it has, how many an element. -/
structure Loc where
  b : Nat
  room : Nat
  z : Nat

structure Env where
  X : Nat → Prop
  N : Nat
  m : Nat → Option Loc
  w : World

/-- A block that nobody writes here. -/
def Env.shared (E : Env) (b : Nat) : Prop := ¬ E.X b ∧ ∀ i l, E.m i = some l → l.b ≠ b

mutual
def RepV (E : Env) : AV → Value → Prop
  | .sc v, u => u = v
  | .own i o, u => i < E.N ∧ ∃ b, u = .pointer (some ⟨b, o, none⟩) ∧ ∀ l, E.m i = some l → b = l.b
  | .osl i o n c, u => i < E.N ∧ ∃ b cap, u = .slice (some ⟨b, o, none⟩) n cap ∧ n ≤ cap ∧ (∀ k, c = some k → cap = k) ∧ ∀ l, E.m i = some l → b = l.b ∧ (c = none → o + cap * l.z = l.room)
  | .sh cs, u => ∃ b o cells ty fz, u = .pointer (some ⟨b, o, none⟩) ∧ E.shared b ∧ E.w.heap[b]? = some (.cells cells ty fz) ∧ RepL E cs (cells.toList.drop o)
  | .ssl cs n full, u => (∃ b o cells ty fz cap, u = .slice (some ⟨b, o, none⟩) n cap ∧ n ≤ cap ∧ (full = true → cap = n) ∧ E.shared b ∧ E.w.heap[b]? = some (.cells cells ty fz) ∧ RepL E cs (cells.toList.drop o)) ∨
    (n = 0 ∧ cs = [] ∧ ∃ a cap, u = .slice a 0 cap ∧ (full = true → cap = 0) ∧ (a = none → cap = 0))
  | .esl full, u => ∃ a cap, u = .slice (some a) 0 cap ∧ (full = true → cap = 0)
  | .agg cs, u => ∃ a, u = .agg a ∧ cs.length = a.toList.length ∧ RepL E cs a.toList
  | .tup cs, u => ∃ a, u = .tuple a ∧ cs.length = a.toList.length ∧ RepL E cs a.toList
  | .fn f x y, u => ∃ a b, u = .func f a b ∧ x.length = a.toList.length ∧ RepL E x a.toList ∧ y.length = b.toList.length ∧ RepL E y b.toList
  | .omap i, u => i < E.N ∧ ∃ r, u = .map (some r) ∧ ∀ l, E.m i = some l → r = l.b
  | .yld i, u => i < E.N ∧ ∃ b, u = .func (.yield b) #[] #[] ∧ ∀ l, E.m i = some l → b = l.b
  | .any, _ => True
def RepL (E : Env) : List AV → List Value → Prop
  | [], _ => True
  | a :: as, vs =>
    match vs with
    | [] => False
    | v :: vs => RepV E a v ∧ RepL E as vs
end

theorem RepL.iff {E : Env} : ∀ {as : List AV} {vs : List Value}, RepL E as vs ↔ as.length ≤ vs.length ∧ ∀ (i : Nat) a, as[i]? = some a → ∃ v, vs[i]? = some v ∧ RepV E a v
  | [], vs => by simp [RepL]
  | a :: as, [] => by simp [RepL]
  | a :: as, v :: vs => by
    simp only [RepL, RepL.iff (as := as) (vs := vs), List.length_cons, Nat.add_le_add_iff_right]
    constructor
    · rintro ⟨h1, h2, h3⟩
      refine ⟨h2, fun i b hb => ?_⟩
      cases i with
      | zero => simp at hb; subst hb; exact ⟨v, by simp, h1⟩
      | succ i => simp at hb; simpa using h3 i b hb
    · rintro ⟨h1, h2⟩
      refine ⟨?_, h1, fun i b hb => ?_⟩
      · obtain ⟨u, hu, hr⟩ := h2 0 a (by simp); simp at hu; subst hu; exact hr
      · simpa using h2 (i + 1) b (by simpa using hb)

/-- What a step may do to the world and to the table of blocks. -/
structure Ext (E F : Env) : Prop where
  X : F.X = E.X
  N : E.N ≤ F.N
  os : F.w.os = E.w.os
  tape : F.w.tape = E.w.tape
  output : F.w.output = E.w.output
  size : E.w.heap.size ≤ F.w.heap.size
  keep : ∀ b, b < E.w.heap.size → (∀ i l, E.m i = some l → l.b ≠ b) → F.w.heap[b]? = E.w.heap[b]?
  old : ∀ i l, i < E.N → F.m i = some l → E.m i = some l
  new : ∀ i l, F.m i = some l → E.w.heap.size ≤ l.b ∨ ∃ j l', E.m j = some l' ∧ l'.b = l.b
  lp : ∀ (b : Nat) (r : Loop), E.w.heap[b]? = some (Obj.loop r) → ∃ r' : Loop, F.w.heap[b]? = some (Obj.loop r')

theorem Ext.refl (E : Env) : Ext E E := ⟨rfl, Nat.le_refl _, rfl, rfl, rfl, Nat.le_refl _, fun _ _ _ => rfl, fun _ _ _ h => h, fun i l h => .inr ⟨i, l, h, rfl⟩, fun _ r h => ⟨r, h⟩⟩

theorem Ext.trans {E F G : Env} (h : Ext E F) (k : Ext F G) : Ext E G where
  X := k.X.trans h.X
  N := Nat.le_trans h.N k.N
  os := k.os.trans h.os
  tape := k.tape.trans h.tape
  output := k.output.trans h.output
  size := Nat.le_trans h.size k.size
  keep b hb hm := by
    refine (k.keep b (Nat.lt_of_lt_of_le hb h.size) fun i l hl e => ?_).trans (h.keep b hb hm)
    rcases h.new i l hl with h' | ⟨j, l', hj, e'⟩
    · omega
    · exact hm j l' hj (e'.trans e)
  old i l hi hl := h.old i l hi (k.old i l (Nat.lt_of_lt_of_le hi h.N) hl)
  new i l hl := by
    rcases k.new i l hl with h' | ⟨j, l', hj, e⟩
    · exact .inl (Nat.le_trans h.size h')
    · rcases h.new j l' hj with h'' | ⟨j', l'', hj', e'⟩
      · exact .inl (by omega)
      · exact .inr ⟨j', l'', hj', e'.trans e⟩
  lp b r hb := let ⟨r', h'⟩ := h.lp b r hb; k.lp b r' h'

theorem lt_of_block {w : World} {b : Nat} {o : Obj} (h : w.heap[b]? = some o) : b < w.heap.size := by
  rcases Nat.lt_or_ge b w.heap.size with h' | h'
  · exact h'
  · simp [Array.getElem?_eq_none h'] at h

theorem Ext.shared {E F : Env} (h : Ext E F) {b : Nat} (hb : b < E.w.heap.size) (hs : E.shared b) : F.shared b ∧ F.w.heap[b]? = E.w.heap[b]? := by
  refine ⟨⟨by rw [h.X]; exact hs.1, fun i l hl e => ?_⟩, h.keep b hb hs.2⟩
  rcases h.new i l hl with h' | ⟨j, l', hj, e'⟩
  · omega
  · exact hs.2 j l' hj (e'.trans e)

mutual
theorem RepV.ext {E F : Env} (h : Ext E F) : ∀ (a : AV) (v : Value), RepV E a v → RepV F a v
  | .sc _, _, hr => by simpa [RepV] using hr
  | .own i o, u, hr => by
    simp only [RepV] at hr ⊢
    obtain ⟨h1, a, h2, h3⟩ := hr
    exact ⟨Nat.lt_of_lt_of_le h1 h.N, a, h2, fun l hl => h3 l (h.old i l h1 hl)⟩
  | .osl i o n c, u, hr => by
    simp only [RepV] at hr ⊢
    obtain ⟨h1, a, cap, h2, h3, h4, h5⟩ := hr
    exact ⟨Nat.lt_of_lt_of_le h1 h.N, a, cap, h2, h3, h4, fun l hl => h5 l (h.old i l h1 hl)⟩
  | .sh cs, u, hr => by
    simp only [RepV] at hr ⊢
    obtain ⟨b, o, cells, ty, fz, e, hs, hb, hl⟩ := hr
    obtain ⟨hs', hb'⟩ := h.shared (lt_of_block hb) hs
    exact ⟨b, o, cells, ty, fz, e, hs', by rw [hb', hb], RepL.ext h _ _ hl⟩
  | .ssl cs n full, u, hr => by
    simp only [RepV] at hr ⊢
    rcases hr with ⟨b, o, cells, ty, fz, cap, e, h1, h2, hs, hb, hl⟩ | hr
    · obtain ⟨hs', hb'⟩ := h.shared (lt_of_block hb) hs
      exact .inl ⟨b, o, cells, ty, fz, cap, e, h1, h2, hs', by rw [hb', hb], RepL.ext h _ _ hl⟩
    · exact .inr hr
  | .esl full, u, hr => by simpa [RepV] using hr
  | .agg cs, u, hr => by
    simp only [RepV] at hr ⊢
    obtain ⟨a, e, h1, h2⟩ := hr
    exact ⟨a, e, h1, RepL.ext h _ _ h2⟩
  | .tup cs, u, hr => by
    simp only [RepV] at hr ⊢
    obtain ⟨a, e, h1, h2⟩ := hr
    exact ⟨a, e, h1, RepL.ext h _ _ h2⟩
  | .fn f x y, u, hr => by
    simp only [RepV] at hr ⊢
    obtain ⟨a, b, e, h1, h2, h3, h4⟩ := hr
    exact ⟨a, b, e, h1, RepL.ext h _ _ h2, h3, RepL.ext h _ _ h4⟩
  | .omap i, u, hr => by
    simp only [RepV] at hr ⊢
    obtain ⟨h1, a, h2, h3⟩ := hr
    exact ⟨Nat.lt_of_lt_of_le h1 h.N, a, h2, fun l hl => h3 l (h.old i l h1 hl)⟩
  | .yld i, u, hr => by
    simp only [RepV] at hr ⊢
    obtain ⟨h1, a, h2, h3⟩ := hr
    exact ⟨Nat.lt_of_lt_of_le h1 h.N, a, h2, fun l hl => h3 l (h.old i l h1 hl)⟩
  | .any, u, hr => by simp [RepV]
theorem RepL.ext {E F : Env} (h : Ext E F) : ∀ (as : List AV) (vs : List Value), RepL E as vs → RepL F as vs
  | [], _, _ => by simp [RepL]
  | _ :: _, [], hr => by simp [RepL] at hr
  | a :: as, v :: vs, hr => by
    simp only [RepL] at hr ⊢
    exact ⟨RepV.ext h a v hr.1, RepL.ext h as vs hr.2⟩
end

/-- How the loop's record stands. -/
def LSt.fits : LSt → Loop → Prop
  | .ready, r => r.state = .ready ∧ r.pending = none
  | .busy, r => r.state = .busy
  | .done c, r => r.state = .done ∧ r.pending = some c

/-- What a block of the table says of its place. -/
def RepB (P : Program) (E : Env) (l : Loc) : Blk → Prop
  | .cells cs ty => ∃ cells fz info, E.w.heap[l.b]? = some (.cells cells ty fz) ∧ RepL E cs cells.toList ∧ cells.size = l.room ∧ (fz.1 = fz.2 ∨ cells.size ≤ fz.1) ∧ P.info? ty = some info ∧ info.size = l.z
  | .map es c => ∃ ents, E.w.heap[l.b]? = some (.map ents c) ∧ es.map (·.1) = ents.toList.map (·.key) ∧ es.map (·.2.2) = ents.toList.map (·.born) ∧ RepL E (es.map (·.2.1)) (ents.toList.map (·.val))
  | .loop t k ps asg bod st => ∃ r : Loop, E.w.heap[l.b]? = some (Obj.loop r) ∧ r.params = ps ∧ r.assign = asg ∧ r.body = bod ∧ st.fits r ∧ r.tmps.size = k ∧ ∀ i, RepV E (t i) (r.tmps.getD i undef)

structure RepH (P : Program) (E : Env) (H : Nat → Option Blk) : Prop where
  own : ∀ i blk, H i = some blk → ∃ l, E.m i = some l ∧ RepB P E l blk
  lt : ∀ i l, E.m i = some l → i < E.N ∧ l.b < E.w.heap.size ∧ ¬ E.X l.b ∧ ∃ blk, H i = some blk
  inj : ∀ i j l l', E.m i = some l → E.m j = some l' → l.b = l'.b → i = j

/-- The type table is the program's. -/
def TK.fits : TypeDesc → TK → Bool
  | .int k, .int k' => k == k'
  | .bool, .bool => true
  | .string, .str => true
  | .slice e, .slice e' => e == e'
  | .array n e, .arr n' e' => n == n' && e == e'
  | .struct fs, .struct l => (fs.toList.map fun f => (f.offset, f.type)) == l
  | .pointer e, .ptr e' => e == e'
  | .map k e, .map k' e' => k == k' && e == e'
  | .func .., .func => true
  | _, .other => true
  | _, _ => false

def aggD : TypeDesc → Bool
  | .struct _ | .array .. => true
  | _ => false

structure TI.Ok (P : Program) (t : Nat) (i : TI) : Prop where
  info : ∃ info z, P.info? t = some info ∧ info.size = i.size ∧ info.bytes = i.bytes ∧ info.zero = some z ∧ z.cells.toList = i.zero
  desc : ∃ d, P.underlying t = some d ∧ TK.fits d i.k = true ∧ (i.k = .other → aggD d = false)
  one : aggK i.k = false → ∃ info z, P.info? t = some info ∧ info.zero = some z ∧ i.zero = [z]
  agg : aggK i.k = true → ∃ info z, P.info? t = some info ∧ info.zero = some (.agg z) ∧ i.zero = z.toList
  eq : i.eq = true → P.stoodInHeld t = false ∧ P.eqGuardType P.depth t = false ∧ ∀ fs, P.underlying t = some (.struct fs) → ∀ f ∈ fs.toList, f.name ≠ "_"

def TOk (P : Program) (T : Tab) : Prop := ∀ t i, T t = some i → TI.Ok P t i

theorem ssl_shape {E : Env} {cs : List AV} {n : Nat} {f : Bool} {u : Value} (h : RepV E (.ssl cs n f) u) : ∃ a cap, u = .slice a n cap ∧ n ≤ cap ∧ (f = true → cap = n) ∧ (n ≠ 0 → ∃ b, a = some b) := by
  simp only [RepV] at h
  rcases h with ⟨b, o, cells, ty, fz, cap, e, h1, h2, _⟩ | ⟨rfl, _, a, cap, e, h2, _⟩
  · exact ⟨_, cap, e, h1, h2, fun _ => ⟨_, rfl⟩⟩
  · exact ⟨a, cap, e, Nat.zero_le _, h2, fun h => absurd rfl h⟩

theorem RepV.ofVal {E : Env} : ∀ (v : Value), RepV E (ofVal v) v := by
  have key : ∀ l : List Value, RepL E (l.map .sc) l := by
    intro l
    induction l with
    | nil => simp [RepL]
    | cons v l ih => simp [RepL, RepV, ih]
  intro v
  cases v with
  | agg cs => simp only [Ah.ofVal, RepV]; exact ⟨cs, rfl, by simp, key _⟩
  | tuple cs => simp only [Ah.ofVal, RepV]; exact ⟨cs, rfl, by simp, key _⟩
  | func f a b => simp only [Ah.ofVal, RepV]; exact ⟨a, b, rfl, by simp, key _, by simp, key _⟩
  | _ => simp [Ah.ofVal, RepV]

/-- What an abstract frame says of a frame. -/
structure RepT (E : Env) (k : Nat) (t : Nat → AV) (a : Act) : Prop where
  size : a.tmps.size = k
  at_ : ∀ i, RepV E (t i) (a.tmps.getD i undef)

theorem RepT.ext {E F : Env} {k : Nat} {t : Nat → AV} {a : Act} (h : Ext E F) (r : RepT E k t a) : RepT F k t a :=
  ⟨r.size, fun i => RepV.ext h _ _ (r.at_ i)⟩

theorem RepT.ev {E : Env} {k : Nat} {t : Nat → AV} {a : Act} (r : RepT E k t a) (x : Operand) : RepV E (ev t x) (a.eval x) := by
  cases x with
  | tmp i => exact r.at_ i
  | const v => exact RepV.ofVal v
  | global g => simp [Ah.ev, RepV]
  | func f => simp only [Ah.ev, RepV, Act.eval]; exact ⟨#[], #[], rfl, rfl, by simp [RepL], rfl, by simp [RepL]⟩

theorem RepT.put {E : Env} {k : Nat} {t : Nat → AV} {a : Act} (r : RepT E k t a) {d : Nat} (hd : d < k) {x : AV} {v : Value} (h : RepV E x v) :
    RepT E k (upd t d x) (a.put (some d) v) := by
  refine ⟨by simp [Act.put, r.size], fun i => ?_⟩
  have hk : d < a.tmps.size := by rw [r.size]; exact hd
  by_cases e : i = d
  · subst e
    simp only [upd_same, Act.put]
    simpa [hk] using h
  · rw [upd_ne _ _ e]
    simp only [Act.put]
    have := r.at_ i
    simp only [Array.getD_eq_getD_getElem?] at this ⊢
    rw [Array.getElem?_setIfInBounds_ne (by omega)]
    exact this

/-- A block that is no cells, and is not of the table, is changed. -/
def Env.pobj (E : Env) (b : Nat) (o : Obj) : Env := { E with w := { E.w with heap := E.w.heap.setIfInBounds b o } }

theorem pobj_other {w : World} {b k : Nat} {o : Obj} (h : k ≠ b) : (w.heap.setIfInBounds b o)[k]? = w.heap[k]? := by
  simp [Array.getElem?_setIfInBounds_ne (Ne.symm h)]

mutual
theorem RepV.pobj {E : Env} {b : Nat} {o o0 : Obj} (h0 : E.w.heap[b]? = some o0) (hc : ∀ c t f, o0 ≠ .cells c t f) : ∀ (a : AV) (v : Value), RepV E a v → RepV (E.pobj b o) a v
  | .sc _, _, hr => by simpa [RepV] using hr
  | .own i o, u, hr => by simp only [RepV] at hr ⊢; exact hr
  | .osl i o n c, u, hr => by simp only [RepV] at hr ⊢; exact hr
  | .sh cs, u, hr => by
    simp only [RepV] at hr ⊢
    obtain ⟨b', o', cells, ty, fz, e, hs, hb, hl⟩ := hr
    refine ⟨b', o', cells, ty, fz, e, hs, ?_, RepL.pobj h0 hc _ _ hl⟩
    have : b' ≠ b := by rintro rfl; rw [h0] at hb; cases hb; exact hc _ _ _ rfl
    exact (pobj_other this).trans hb
  | .ssl cs n full, u, hr => by
    simp only [RepV] at hr ⊢
    rcases hr with ⟨b', o', cells, ty, fz, cap, e, h1, h2, hs, hb, hl⟩ | hr
    · have : b' ≠ b := by rintro rfl; rw [h0] at hb; cases hb; exact hc _ _ _ rfl
      exact .inl ⟨b', o', cells, ty, fz, cap, e, h1, h2, hs, (pobj_other this).trans hb, RepL.pobj h0 hc _ _ hl⟩
    · exact .inr hr
  | .esl full, u, hr => by simpa [RepV] using hr
  | .agg cs, u, hr => by
    simp only [RepV] at hr ⊢
    obtain ⟨a, e, h1, h2⟩ := hr
    exact ⟨a, e, h1, RepL.pobj h0 hc _ _ h2⟩
  | .tup cs, u, hr => by
    simp only [RepV] at hr ⊢
    obtain ⟨a, e, h1, h2⟩ := hr
    exact ⟨a, e, h1, RepL.pobj h0 hc _ _ h2⟩
  | .fn f x y, u, hr => by
    simp only [RepV] at hr ⊢
    obtain ⟨a, b, e, h1, h2, h3, h4⟩ := hr
    exact ⟨a, b, e, h1, RepL.pobj h0 hc _ _ h2, h3, RepL.pobj h0 hc _ _ h4⟩
  | .omap i, u, hr => by simp only [RepV] at hr ⊢; exact hr
  | .yld i, u, hr => by simp only [RepV] at hr ⊢; exact hr
  | .any, u, hr => by simp [RepV]
theorem RepL.pobj {E : Env} {b : Nat} {o o0 : Obj} (h0 : E.w.heap[b]? = some o0) (hc : ∀ c t f, o0 ≠ .cells c t f) : ∀ (as : List AV) (vs : List Value), RepL E as vs → RepL (E.pobj b o) as vs
  | [], _, _ => by simp [RepL]
  | _ :: _, [], hr => by simp [RepL] at hr
  | a :: as, v :: vs, hr => by
    simp only [RepL] at hr ⊢
    exact ⟨RepV.pobj h0 hc a v hr.1, RepL.pobj h0 hc as vs hr.2⟩
end

theorem RepT.pobj {E : Env} {k : Nat} {t : Nat → AV} {a : Act} {b : Nat} {o o0 : Obj} (h0 : E.w.heap[b]? = some o0) (hc : ∀ c t f, o0 ≠ .cells c t f) (r : RepT E k t a) : RepT (E.pobj b o) k t a :=
  ⟨r.size, fun i => RepV.pobj h0 hc _ _ (r.at_ i)⟩

theorem RepB.pobj {P : Program} {E : Env} {b : Nat} {o o0 : Obj} (h0 : E.w.heap[b]? = some o0) (hc : ∀ c t f, o0 ≠ .cells c t f) {l : Loc} (hl : l.b ≠ b) : ∀ {blk : Blk}, RepB P E l blk → RepB P (E.pobj b o) l blk
  | .cells cs ty, h => by
    obtain ⟨cells, fz, info, h1, h2, h3⟩ := h
    exact ⟨cells, fz, info, (pobj_other hl).trans h1, RepL.pobj h0 hc _ _ h2, h3⟩
  | .map es c, h => by
    obtain ⟨ents, h1, h2, h3, h4⟩ := h
    exact ⟨ents, (pobj_other hl).trans h1, h2, h3, RepL.pobj h0 hc _ _ h4⟩
  | .loop .., h => by
    obtain ⟨r, h1, h2, h3, h4, h5, h6, h7⟩ := h
    exact ⟨r, (pobj_other hl).trans h1, h2, h3, h4, h5, h6, fun i => RepV.pobj h0 hc _ _ (h7 i)⟩

theorem RepH.pobj {P : Program} {E : Env} {H : Nat → Option Blk} {b : Nat} {o o0 : Obj} (h0 : E.w.heap[b]? = some o0) (hc : ∀ c t f, o0 ≠ .cells c t f) (hm : ∀ i l, E.m i = some l → l.b ≠ b) (h : RepH P E H) : RepH P (E.pobj b o) H :=
  ⟨fun i blk hb => let ⟨l, hl, hr⟩ := h.own i blk hb; ⟨l, hl, RepB.pobj h0 hc (hm i l hl) hr⟩,
   fun i l hl => let ⟨h1, h2, h3⟩ := h.lt i l hl; ⟨h1, by simpa [Env.pobj] using h2, h3⟩, h.inj⟩

/-- A block of the table that is no cells is changed. -/
theorem RepH.pobjAt {P : Program} {E : Env} {H : Nat → Option Blk} {i : Nat} {l : Loc} {blk : Blk} {o o0 : Obj} (h0 : E.w.heap[l.b]? = some o0) (hc : ∀ c t f, o0 ≠ .cells c t f) (hi : E.m i = some l) (h : RepH P E H)
    (hb : RepB P (E.pobj l.b o) l blk) : RepH P (E.pobj l.b o) (upd H i (some blk)) := by
  refine ⟨fun j blk' hb' => ?_, fun j l' hl => ?_, h.inj⟩
  · by_cases e : j = i
    · subst e; rw [upd_same] at hb'; cases hb'; exact ⟨l, hi, hb⟩
    · rw [upd_ne _ _ e] at hb'
      obtain ⟨l', hl, hr⟩ := h.own j blk' hb'
      exact ⟨l', hl, RepB.pobj h0 hc (fun e' => e (h.inj j i l' l hl hi e')) hr⟩
  · obtain ⟨h1, h2, h3, h4⟩ := h.lt j l' hl
    refine ⟨h1, by simpa [Env.pobj] using h2, h3, ?_⟩
    by_cases e : j = i
    · subst e; exact ⟨blk, upd_same _ _ _⟩
    · rw [upd_ne _ _ e]; exact h4

/-- What was changed is of the table: it may be. -/
theorem Ext.pobj {E F : Env} (h : Ext E F) {b : Nat} {o : Obj} (hi : (∃ i l, E.m i = some l ∧ l.b = b) ∨ E.w.heap.size ≤ b) (ho : ∀ r : Loop, F.w.heap[b]? = some (Obj.loop r) → ∃ r' : Loop, o = Obj.loop r') : Ext E (F.pobj b o) where
  X := h.X
  N := h.N
  os := h.os
  tape := h.tape
  output := h.output
  size := by simpa [Env.pobj] using h.size
  keep b' hb' hm := by
    have : b' ≠ b := by
      rcases hi with ⟨i, l, hi, hb⟩ | hi
      · exact fun e => hm i l hi (hb.trans e.symm)
      · omega
    exact (pobj_other this).trans (h.keep b' hb' hm)
  old := h.old
  new := h.new
  lp b' r hr := by
    obtain ⟨r', h'⟩ := h.lp b' r hr
    by_cases e : b' = b
    · subst e
      obtain ⟨r2, rfl⟩ := ho r' h'
      refine ⟨r2, ?_⟩
      simp [Env.pobj, lt_of_block h']
    · exact ⟨r', (pobj_other e).trans h'⟩

end Go.Proofs.YtcdafogfmijcpaaW.Ah
