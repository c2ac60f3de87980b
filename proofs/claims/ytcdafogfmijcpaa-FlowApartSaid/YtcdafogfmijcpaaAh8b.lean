/-
  Maps whose keys are numbers, texts or truth values.
-/
import Derived.Test.YtcdafogfmijcpaaAh8
namespace Go.Proofs.YtcdafogfmijcpaaW.Ah
set_option linter.unusedVariables false
set_option linter.unusedSimpArgs false
section
variable {P : Program} {T : Tab} {E : Env} {H : Nat → Option Blk} {k : Nat} {t : Nat → AV} {a : Act} {r : AV}

theorem Row.map {t : Nat} {i : TI} (r : Row P t i) {kt et : Nat} (h : i.k = .map kt et) : P.underlying t = some (.map kt et) := by
  obtain ⟨d, h1, _, h2⟩ := r.under
  rw [h] at h2; cases d <;> simp [TK.fits] at h2; rw [h1, h2.1, h2.2]

theorem zero_run (hT : TOk P T) {et : Nat} {z : AV} (h : zeroAV T et = some z) (E : Env) : ∃ v, (zeroValue et).run P E.w = .ok v E.w ∧ RepV E z v := by
  unfold zeroAV at h
  split at h
  case h_2 => cases h
  case h_1 i hi =>
    split at h
    case isTrue hk =>
      cases h
      obtain ⟨info, z, h1, h2, h3⟩ := (hT _ _ hi).agg hk
      exact ⟨_, run_zero h1 h2, by simp only [RepV]; exact ⟨z, rfl, by rw [h3]; simp, by rw [h3]; exact rep_scs _⟩⟩
    case isFalse hk =>
      obtain ⟨info, z, h1, h2, h3⟩ := (hT _ _ hi).one (by simpa using hk)
      rw [h3] at h
      simp only at h
      cases h
      exact ⟨z, run_zero h1 h2, rep_sc _⟩

/-- The key's type. -/
def descK : TypeDesc → TK → Bool
  | .int _, .int _ => true
  | .bool, .bool => true
  | .string, .str => true
  | _, _ => false

theorem mapK_run (hT : TOk P T) {mt : Nat} {kk : TK} {et : Nat} (h : mapK T mt = some (kk, et)) : ∃ kt d, P.underlying mt = some (.map kt et) ∧ P.underlying kt = some d ∧ TK.fits d kk = true := by
  unfold mapK at h
  split at h
  case h_2 => cases h
  case h_1 i hi =>
    split at h
    case h_2 => cases h
    case h_1 kt et' hk =>
      simp only [Option.map_eq_some_iff] at h
      obtain ⟨ki, hki, e⟩ := h
      simp only [Prod.mk.injEq] at e
      obtain ⟨rfl, rfl⟩ := e
      obtain ⟨d, h1, _, h2⟩ := (hT.row hki).under
      exact ⟨kt, d, (hT.row hi).map hk, h1, h2⟩

theorem checkKey_run {kt : Nat} {d : TypeDesc} {kk : TK} {v : Value} {e : Bool} (hd : P.underlying kt = some d) (hf : TK.fits d kk = true) (hk : keyOk kk v = true) (w : World) : (Instr.checkKey e 10000 kt v).run P w = .ok () w := by
  unfold Instr.checkKey
  simp only [Sem.run_bind, run_under hd, Result.andThen_ok]
  cases kk <;> simp [keyOk] at hk <;> cases d <;> simp [TK.fits] at hf <;> cases v <;> simp [keyOk] at hk <;> rfl

theorem sameNow_eq {d : TypeDesc} {kk : TK} {v u : Value} (hf : TK.fits d kk = true) (hk : keyOk kk v = true) {b : Bool} (h : keyEq v u = some b) : Instr.sameNow d v u = some b := by
  cases kk <;> simp [keyOk] at hk <;> cases d <;> simp [TK.fits] at hf <;> cases v <;> simp [keyOk] at hk <;> cases u <;> simp [keyEq] at h <;> simp [Instr.sameNow, h]

theorem bytes_beq {a b : ByteArray} (h : (a == b) = true) : a = b := by
  cases a; cases b
  have : ∀ x y : Array UInt8, (ByteArray.mk x == ByteArray.mk y) = (x == y) := fun x y => rfl
  rw [this] at h
  rw [eq_of_beq h]
theorem bytes_refl (a : ByteArray) : (a == a) = true := by
  cases a
  have : ∀ x y : Array UInt8, (ByteArray.mk x == ByteArray.mk y) = (x == y) := fun x y => rfl
  rw [this]; simp

theorem keyEq_true {v u : Value} (h : keyEq v u = some true) : u = v := by
  unfold keyEq at h
  split at h
  · split at h
    · rename_i e; simp at h; rw [e, h]
    · cases h
  · simp only [Option.some.injEq] at h; rw [bytes_beq h]
  · simp at h; rw [h]
  · cases h

theorem find_now {d : TypeDesc} {kk : TK} {v : Value} (hf : TK.fits d kk = true) (hk : keyOk kk v = true) : ∀ (es : List (Value × AV × Nat)) (ents : List MapEntry) (i : Nat) {r : Option (Nat × AV × Nat)}, es.map (·.1) = ents.map (·.key) → findAV v es i = some r →
    Instr.findNow d v ents i = some (r.map fun x => (x.1, ((ents[x.1 - i]?).map (·.val)).getD undef)) ∧ ∀ j y b, r = some (j, y, b) → i ≤ j ∧ es[j - i]? = some (v, y, b)
  | [], [], i, r, _, h => by simp [findAV] at h; subst h; simp [Instr.findNow]
  | [], _ :: _, i, r, he, _ => by simp at he
  | _ :: _, [], i, r, he, _ => by simp at he
  | (u, x, b) :: es, e :: ents, i, r, he, h => by
    simp only [List.map_cons, List.cons.injEq] at he
    simp only [findAV] at h
    simp only [Instr.findNow]
    rw [← he.1]
    cases hq : keyEq v u with
    | none => rw [hq] at h; cases h
    | some q =>
      rw [hq] at h
      rw [sameNow_eq hf hk hq]
      cases q with
      | true =>
        cases h
        refine ⟨by simp, fun j y b' e' => ?_⟩
        cases e'
        exact ⟨Nat.le_refl _, by simp [keyEq_true hq]⟩
      | false =>
        obtain ⟨h1, h2⟩ := find_now hf hk es ents (i + 1) he.2 h
        refine ⟨?_, fun j y b' e' => ?_⟩
        · simp only [h1]
          cases r with
          | none => rfl
          | some x =>
            obtain ⟨g1, g2⟩ := h2 x.1 x.2.1 x.2.2 rfl
            simp only [Option.map_some]
            rw [show x.1 - i = (x.1 - (i + 1)) + 1 by omega]
            rfl
        · obtain ⟨g1, g2⟩ := h2 j y b' e'
          refine ⟨by omega, ?_⟩
          rw [show j - i = (j - (i + 1)) + 1 by omega]
          simpa using g2

theorem find_run {kt : Nat} {d : TypeDesc} {kk : TK} {v : Value} (hd : P.underlying kt = some d) (hf : TK.fits d kk = true) (hk : keyOk kk v = true) {es : List (Value × AV × Nat)} {ents : List MapEntry} {r : Option (Nat × AV × Nat)} (he : es.map (·.1) = ents.map (·.key)) (h : findAV v es 0 = some r) (w : World) :
    (Instr.findKey kt v ents).run P w = .ok (r.map fun x => (x.1, ((ents[x.1]?).map (·.val)).getD undef)) w := by
  unfold Instr.findKey
  simp only [Sem.run_bind, run_under hd, Result.andThen_ok]
  have := (find_now hf hk es ents 0 he h).1
  simp only [Nat.sub_zero] at this
  rw [this]
  rfl

theorem run_getMap {w : World} {b c : Nat} {ents : Array MapEntry} (h : w.heap[b]? = some (.map ents c)) : (getObj b).run P w = .ok (.map ents c) w := by simp [getObj, Sem.run, h]
theorem run_setMap {w : World} {b c : Nat} {ents : Array MapEntry} (o : Obj) (h : w.heap[b]? = some (.map ents c)) : (setObj b o).run P w = .ok () { w with heap := w.heap.setIfInBounds b o } := by simp [setObj, Sem.run, h]

/-- What an entry of the table says of the map's. -/
theorem ent_at {es : List (Value × AV × Nat)} {ents : Array MapEntry} (hk : es.map (·.1) = ents.toList.map (·.key)) (hb : es.map (·.2.2) = ents.toList.map (·.born)) (hv : RepL E (es.map (·.2.1)) (ents.toList.map (·.val))) {j : Nat} {v : Value} {y : AV} {b : Nat} (h : es[j]? = some (v, y, b)) :
    ∃ e, ents[j]? = some e ∧ e.key = v ∧ e.born = b ∧ RepV E y e.val := by
  have h1 : (es.map (·.1))[j]? = some v := by simp [h]
  rw [hk] at h1
  simp only [List.getElem?_map, Option.map_eq_some_iff, Array.getElem?_toList] at h1
  obtain ⟨e, he, rfl⟩ := h1
  refine ⟨e, he, rfl, ?_, ?_⟩
  · have h2 : (es.map (·.2.2))[j]? = some b := by simp [h]
    rw [hb] at h2
    simp only [List.getElem?_map, Option.map_eq_some_iff, Array.getElem?_toList] at h2
    obtain ⟨e', he', h2⟩ := h2
    rw [he] at he'; cases he'; exact h2
  · obtain ⟨u, hu, hr⟩ := hv.get (i := j) (a := y) (by simp [h])
    simp only [List.getElem?_map, Option.map_eq_some_iff, Array.getElem?_toList] at hu
    obtain ⟨e', he', rfl⟩ := hu
    rw [he] at he'; cases he'; exact hr

theorem map_obj (hH : RepH P E H) {x : AV} {es : List (Value × AV × Nat)} {u : Value} (hx : RepV E x u) (h : mapOf H x = some es) :
    (u = .map none ∧ es = []) ∨ ∃ i l c ents, x = .omap i ∧ H i = some (.map es c) ∧ E.m i = some l ∧ u = .map (some l.b) ∧ E.w.heap[l.b]? = some (.map ents c) ∧ es.map (·.1) = ents.toList.map (·.key) ∧ es.map (·.2.2) = ents.toList.map (·.born) ∧ RepL E (es.map (·.2.1)) (ents.toList.map (·.val)) := by
  unfold mapOf at h
  split at h
  · rename_i i
    split at h
    · rename_i es' c hi
      cases h
      right
      simp only [RepV] at hx
      obtain ⟨_, b, rfl, hb⟩ := hx
      obtain ⟨l, hl, ents, h1, h2, h3, h4⟩ := hH.own i _ hi
      exact ⟨i, l, c, ents, rfl, hi, hl, by rw [hb l hl], h1, h2, h3, h4⟩
    · cases h
  · cases h; left; exact ⟨RepV.sc_inv hx, rfl⟩
  · cases h

theorem yv_lookup (hT : TOk P T) (hH : RepH P E H) (hr : RepT E k t a) {o : Oper} {xt : TypeId} {x ix : Operand} {ok : Bool} (ho : o.op = .lookup xt x ix ok) (h : vop T t H (.lookup xt x ix ok) = some r) : Yv P E a o r := by
  simp only [vop] at h
  have hx := hr.ev x
  have hi := hr.ev ix
  split at h
  case h_2 => cases h
  case h_1 kk et es v hmk hmo hiv =>
    split at h
    case isFalse => cases h
    case isTrue hk =>
      obtain ⟨kt, d, u1, u2, u3⟩ := mapK_run hT hmk
      rw [hiv] at hi
      have hi' := RepV.sc_inv hi
      have main : ∀ ents : Array MapEntry, ((a.eval x = .map none ∧ ents = #[]) ∨ ∃ b c, a.eval x = .map (some b) ∧ E.w.heap[b]? = some (.map ents c)) → es.map (·.1) = ents.toList.map (·.key) → es.map (·.2.2) = ents.toList.map (·.born) → RepL E (es.map (·.2.1)) (ents.toList.map (·.val)) → Yv P E a o r := by
        intro ents hrun he hb hv
        split at h
        case h_1 j y b hfind =>
          cases h
          obtain ⟨e, g1, g2, g3, g4⟩ := ent_at he hb hv ((find_now u3 hk es ents.toList 0 he hfind).2 j y b rfl).2
          simp only [Nat.sub_zero] at g1
          refine ⟨if ok then .tuple #[e.val, .bool true] else e.val, ?_, ?_⟩
          · unfold execOp; rw [ho]
            have hf := find_run u2 u3 hk he hfind E.w
            rcases hrun with ⟨e1, e2⟩ | ⟨bb, cc, e1, e2⟩
            · subst e2
              simp at g1
            · simp only [Instr.lookup, Sem.run_bind, run_under u1, Result.andThen_ok, e1, run_getMap e2, hi', checkKey_run u2 u3 hk, hf, Sem.run_pure, Option.map_some, Array.getElem?_toList, g1, Option.getD_some]
          · cases ok
            · simpa using g4
            · simp only [if_true, RepV]; exact ⟨_, rfl, rfl, by simp [RepL, g4, RepV]⟩
        case h_2 hfind =>
          simp only [Option.map_eq_some_iff] at h
          obtain ⟨z, hz, rfl⟩ := h
          obtain ⟨zv, hz1, hz2⟩ := zero_run hT hz E
          refine ⟨if ok then .tuple #[zv, .bool false] else zv, ?_, ?_⟩
          · unfold execOp; rw [ho]
            have hf := find_run u2 u3 hk he hfind E.w
            rcases hrun with ⟨e1, e2⟩ | ⟨bb, cc, e1, e2⟩
            · subst e2
              simp only [Instr.lookup, Sem.run_bind, run_under u1, Result.andThen_ok, e1, hi', checkKey_run u2 u3 hk, hf, Sem.run_pure, Option.map_none, hz1]
            · simp only [Instr.lookup, Sem.run_bind, run_under u1, Result.andThen_ok, e1, run_getMap e2, hi', checkKey_run u2 u3 hk, hf, Sem.run_pure, Option.map_none, hz1]
          · cases ok
            · simpa using hz2
            · simp only [if_true, RepV]; exact ⟨_, rfl, rfl, by simp [RepL, hz2, RepV]⟩
        case h_3 => cases h
      rcases map_obj hH hx hmo with ⟨e1, rfl⟩ | ⟨i, l, c, ents, e0, e1, e2, e3, e4, e5, e6, e7⟩
      · exact main #[] (.inl ⟨e1, rfl⟩) rfl rfl (by simp [RepL])
      · exact main ents (.inr ⟨_, _, e3, e4⟩) e5 e6 e7

/-- A map of the table is changed. -/
theorem map_env (hH : RepH P E H) (hX : ∀ b, E.X b → b < E.w.heap.size) {i : Nat} {l : Loc} {c c' : Nat} {ents ents' : Array MapEntry} {es' : List (Value × AV × Nat)} (hl : E.m i = some l) (hb : E.w.heap[l.b]? = some (.map ents c))
    (h1 : es'.map (·.1) = ents'.toList.map (·.key)) (h2 : es'.map (·.2.2) = ents'.toList.map (·.born)) (h3 : RepL E (es'.map (·.2.1)) (ents'.toList.map (·.val))) :
    Ext E (E.pobj l.b (.map ents' c')) ∧ RepH P (E.pobj l.b (.map ents' c')) (upd H i (some (.map es' c'))) ∧ (∀ b, (E.pobj l.b (.map ents' c')).X b → b < (E.pobj l.b (.map ents' c')).w.heap.size) := by
  have hc : ∀ c1 t f, Obj.map ents c ≠ .cells c1 t f := fun c1 t f h => by cases h
  refine ⟨(Ext.refl E).pobj (.inl ⟨i, l, hl, rfl⟩) (fun r h => by rw [hb] at h; cases h), hH.pobjAt hb hc hl ⟨ents', ?_, h1, h2, RepL.pobj hb hc _ _ h3⟩, fun b' hb' => by simpa [Env.pobj] using hX b' hb'⟩
  simp [Env.pobj, lt_of_block hb]

theorem keys_stay {v : Value} {e : MapEntry} {kk : TK} (hk : keyOk kk v = true) (he : e.key = v) (w : World) : (Instr.keyThatStays e.key v).run P w = .ok v w := by
  unfold Instr.keyThatStays
  have : Instr.sameBits 10000 e.key v = true := by
    rw [he]
    cases kk <;> simp [keyOk] at hk <;> cases v <;> simp [keyOk] at hk <;> simp [Instr.sameBits, bytes_refl]
  rw [this]; rfl

theorem set_keys {es : List (Value × AV × Nat)} {ents : Array MapEntry} {j : Nat} {v val : Value} {y z : AV} {b : Nat} {e : MapEntry} (hk : es.map (·.1) = ents.toList.map (·.key)) (hb : es.map (·.2.2) = ents.toList.map (·.born)) (hv : RepL E (es.map (·.2.1)) (ents.toList.map (·.val)))
    (h : es[j]? = some (v, y, b)) (he : ents[j]? = some e) (hz : RepV E z val) (f : MapEntry → MapEntry) (hf : f e = { e with key := v, val := val }) :
    (es.set j (v, z, b)).map (·.1) = (ents.modify j f).toList.map (·.key) ∧ (es.set j (v, z, b)).map (·.2.2) = (ents.modify j f).toList.map (·.born) ∧ RepL E ((es.set j (v, z, b)).map (·.2.1)) ((ents.modify j f).toList.map (·.val)) := by
  obtain ⟨e', g1, g2, g3, g4⟩ := ent_at hk hb hv h
  rw [he] at g1; cases g1
  have hm : (ents.modify j f).toList = ents.toList.set j (f e) := by
    apply List.ext_getElem?
    intro q
    simp only [Array.getElem?_toList, Array.getElem?_modify, List.getElem?_set]
    by_cases hq : j = q
    · subst hq
      have := (Array.getElem?_eq_some_iff.1 he).1
      have e2 := (Array.getElem?_eq_some_iff.1 he).2
      simp [this, e2]
    · simp [hq]
  have hfk : (f e).key = v ∧ (f e).born = e.born ∧ (f e).val = val := by rw [hf]; exact ⟨rfl, rfl, rfl⟩
  refine ⟨?_, ?_, ?_⟩
  · rw [hm, List.map_set, List.map_set, hk]; simp only [hfk.1]
  · rw [hm, List.map_set, List.map_set, hb]; simp only [hfk.2.1, g3]
  · rw [hm, List.map_set, List.map_set]; simp only [hfk.2.2]
    rw [RepL.iff] at hv ⊢
    refine ⟨by simpa using hv.1, fun q x hq => ?_⟩
    rw [List.getElem?_set] at hq ⊢
    by_cases hqj : j = q
    · subst hqj
      have h1 := (List.getElem?_eq_some_iff.1 h).1
      have h2 := (Array.getElem?_eq_some_iff.1 he).1
      simp at hq ⊢
      obtain ⟨_, rfl⟩ := hq
      exact ⟨_, ⟨h2, rfl⟩, hz⟩
    · rw [if_neg hqj] at hq ⊢
      exact hv.2 q x hq

theorem push_keys {es : List (Value × AV × Nat)} {ents : Array MapEntry} {v val : Value} {z : AV} {c : Nat} (hk : es.map (·.1) = ents.toList.map (·.key)) (hb : es.map (·.2.2) = ents.toList.map (·.born)) (hv : RepL E (es.map (·.2.1)) (ents.toList.map (·.val))) (hz : RepV E z val) :
    (es ++ [(v, z, c)]).map (·.1) = (ents.push { key := v, val := val, born := c }).toList.map (·.key) ∧ (es ++ [(v, z, c)]).map (·.2.2) = (ents.push { key := v, val := val, born := c }).toList.map (·.born) ∧
    RepL E ((es ++ [(v, z, c)]).map (·.2.1)) ((ents.push { key := v, val := val, born := c }).toList.map (·.val)) := by
  have hl : es.length = ents.toList.length := by have := congrArg List.length hk; simpa using this
  refine ⟨by simp [hk], by simp [hb], ?_⟩
  simp only [Array.toList_push, List.map_append]
  exact RepL.append hv (by simpa using hl) (by simp [RepL, hz])

theorem ym_mapUpdate (hT : TOk P T) (hH : RepH P E H) (hX : ∀ b, E.X b → b < E.w.heap.size) (hr : RepT E k t a) {o : Oper} {mt : TypeId} {m kx x : Operand} (ho : o.op = .mapUpdate mt m kx x) {H' : Nat → Option Blk} {n' : Nat} (h : mop T t H E.N (.mapUpdate mt m kx x) = some (r, H', n')) : Ym P E a o r H' n' := by
  simp only [mop] at h
  have hm := hr.ev m
  have hk := hr.ev kx
  have hx := hr.ev x
  split at h
  case h_2 => cases h
  case h_1 kk et i v hmk em ek =>
    rw [em] at hm; rw [ek] at hk
    have hk' := RepV.sc_inv hk
    split at h
    case h_2 => cases h
    case h_1 es c hi =>
      obtain ⟨l, hl, ents, hb, h1, h2, h3⟩ := hH.own i _ hi
      simp only [RepV] at hm
      obtain ⟨_, b, hmb, hbl⟩ := hm
      obtain rfl := hbl l hl
      split at h
      case isFalse => cases h
      case isTrue hkk =>
        obtain ⟨kt, d, u1, u2, u3⟩ := mapK_run hT hmk
        split at h
        case h_1 j y bn hfind =>
          cases h
          have hes := ((find_now u3 hkk es ents.toList 0 h1 hfind).2 j y bn rfl).2
          simp only [Nat.sub_zero] at hes
          obtain ⟨e, g1, g2, g3, g4⟩ := ent_at h1 h2 h3 hes
          obtain ⟨q1, q2, q3⟩ := set_keys h1 h2 h3 hes g1 hx (fun e => { e with key := v, val := a.eval x }) rfl
          obtain ⟨p1, p2, p3⟩ := map_env hH hX hl hb q1 q2 q3 (c' := c)
          refine ⟨_, undef, .inr ⟨?_, rfl⟩, p1, p2, p3, rfl, by simp [RepV, RepL, undef]⟩
          unfold execOp; rw [ho]
          simp only [Instr.mapUpdate, Sem.run_bind, run_under u1, Result.andThen_ok, hmb, run_getMap hb, hk', checkKey_run u2 u3 hkk, find_run u2 u3 hkk h1 hfind, Sem.run_pure, Option.map_some, g1, Option.getD_some, keys_stay hkk g2, run_setMap _ hb]
          rfl
        case h_2 hfind =>
          cases h
          obtain ⟨q1, q2, q3⟩ := push_keys (v := v) (c := c) h1 h2 h3 hx
          obtain ⟨p1, p2, p3⟩ := map_env hH hX hl hb q1 q2 q3 (c' := c + 1)
          refine ⟨_, undef, .inr ⟨?_, rfl⟩, p1, p2, p3, rfl, by simp [RepV, RepL, undef]⟩
          unfold execOp; rw [ho]
          simp only [Instr.mapUpdate, Sem.run_bind, run_under u1, Result.andThen_ok, hmb, run_getMap hb, hk', checkKey_run u2 u3 hkk, find_run u2 u3 hkk h1 hfind, Sem.run_pure, Option.map_none, run_setMap _ hb]
          rfl
        case h_3 => cases h

theorem goInt_nat {b : Nat} (h : b < 2 ^ 62) : goInt (b : Int) = .int .i64 b := by
  simp only [goInt]

theorem ym_mapEntry (hT : TOk P T) (hH : RepH P E H) (hX : ∀ b, E.X b → b < E.w.heap.size) (hr : RepT E k t a) {o : Oper} {mt : TypeId} {m kx : Operand} (ho : o.op = .mapEntry mt m kx) {H' : Nat → Option Blk} {n' : Nat} (h : mop T t H E.N (.mapEntry mt m kx) = some (r, H', n')) : Ym P E a o r H' n' := by
  simp only [mop] at h
  have hm := hr.ev m
  have hk := hr.ev kx
  split at h
  case h_2 => cases h
  case h_1 kk et i v hmk em ek =>
    rw [em] at hm; rw [ek] at hk
    have hk' := RepV.sc_inv hk
    split at h
    case h_2 => cases h
    case h_1 es c hi =>
      obtain ⟨l, hl, ents, hb, h1, h2, h3⟩ := hH.own i _ hi
      simp only [RepV] at hm
      obtain ⟨_, b, hmb, hbl⟩ := hm
      obtain rfl := hbl l hl
      split at h
      case isFalse => cases h
      case isTrue hkk =>
        obtain ⟨hkk, hlen, hc62⟩ := hkk
        obtain ⟨kt, d, u1, u2, u3⟩ := mapK_run hT hmk
        split at h
        case h_1 j y bn hfind =>
          split at h
          case isFalse => cases h
          case isTrue hb62 =>
          cases h
          have hes := ((find_now u3 hkk es ents.toList 0 h1 hfind).2 j y bn rfl).2
          simp only [Nat.sub_zero] at hes
          obtain ⟨e, g1, g2, g3, g4⟩ := ent_at h1 h2 h3 hes
          obtain ⟨q1, q2, q3⟩ := set_keys h1 h2 h3 hes g1 g4 (fun e => { e with key := v }) rfl
          have hse : es.set j (v, y, bn) = es := by
            apply List.ext_getElem?
            intro q
            rw [List.getElem?_set]
            by_cases hq : j = q
            · subst hq
              obtain ⟨g1, g2⟩ := List.getElem?_eq_some_iff.1 hes
              simp [g1, g2]
            · simp [hq]
          rw [hse] at q1 q2 q3
          obtain ⟨p1, p2, p3⟩ := map_env hH hX hl hb q1 q2 q3 (c' := c)
          refine ⟨_, .tuple #[e.val, .int .i64 bn], .inl ?_, p1, p2, p3, rfl, ?_⟩
          · unfold execOp; rw [ho]
            simp only [Instr.mapEntry, Sem.run_bind, run_under u1, Result.andThen_ok, hmb, run_getMap hb, hk', checkKey_run u2 u3 hkk, find_run u2 u3 hkk h1 hfind, Sem.run_pure, Option.map_some, g1, Option.getD_some, keys_stay hkk g2, run_setMap _ hb, Array.getElem?_toList, g3, goInt_nat hb62]
            rfl
          · simp only [RepV]; exact ⟨_, rfl, rfl, by simp only [RepL]; exact ⟨RepV.ext p1 _ _ g4, rep_sc _, trivial⟩⟩
        case h_2 hfind =>
          split at h
          case h_2 => cases h
          case h_1 z hz =>
          cases h
          obtain ⟨zv, hz1, hz2⟩ := zero_run hT hz E
          obtain ⟨q1, q2, q3⟩ := push_keys (v := v) (c := c) h1 h2 h3 hz2
          obtain ⟨p1, p2, p3⟩ := map_env hH hX hl hb q1 q2 q3 (c' := c + 1)
          refine ⟨_, .tuple #[zv, .int .i64 c], .inl ?_, p1, p2, p3, rfl, ?_⟩
          · unfold execOp; rw [ho]
            simp only [Instr.mapEntry, Sem.run_bind, run_under u1, Result.andThen_ok, hmb, run_getMap hb, hk', checkKey_run u2 u3 hkk, find_run u2 u3 hkk h1 hfind, Sem.run_pure, Option.map_none, hz1, run_setMap _ hb, goInt_nat hc62]
            rfl
          · simp only [RepV]; exact ⟨_, rfl, rfl, by simp only [RepL]; exact ⟨RepV.ext p1 _ _ hz2, rep_sc _, trivial⟩⟩
        case h_3 => cases h

theorem ym_makeMap (hH : RepH P E H) (hX : ∀ b, E.X b → b < E.w.heap.size) {o : Oper} {mt : TypeId} {x : Option Operand} (ho : o.op = .makeMap mt x) {H' : Nat → Option Blk} {n' : Nat} (h : mop T t H E.N (.makeMap mt x) = some (r, H', n')) : Ym P E a o r H' n' := by
  cases x with
  | some x => simp [mop] at h
  | none =>
    simp only [mop] at h
    cases h
    let F : Env := ⟨E.X, E.N + 1, upd E.m E.N (some ⟨E.w.heap.size, 0, 0⟩), pushW E.w (.map #[] 0)⟩
    have hx : Ext E F := by
      refine ⟨rfl, Nat.le_succ _, rfl, rfl, rfl, by simp [F, pushW], fun b hb _ => push_old hb, fun i l hi hl => ?_, fun i l hl => ?_, fun b r hb => ⟨r, (push_old (lt_of_block hb)).trans hb⟩⟩
      · simp only [F] at hl; rwa [upd_ne _ _ (by omega)] at hl
      · simp only [F] at hl
        by_cases e : i = E.N
        · subst e; rw [upd_same] at hl; cases hl; exact .inl (Nat.le_refl _)
        · rw [upd_ne _ _ e] at hl; exact .inr ⟨i, l, hl, rfl⟩
    have hlt : ∀ i l, E.m i = some l → i ≠ E.N ∧ l.b ≠ E.w.heap.size := fun i l hl => by have := hH.lt i l hl; exact ⟨by omega, by omega⟩
    refine ⟨F, .map (some E.w.heap.size), .inl ?_, hx, ⟨fun i blk hb => ?_, fun i l hl => ?_, fun i j l l' hl hl' e => ?_⟩, fun b hb => Nat.lt_of_lt_of_le (hX b hb) hx.size, rfl, ?_⟩
    · unfold execOp; rw [ho]
      rfl
    · by_cases e : i = E.N
      · subst e
        rw [upd_same] at hb; cases hb
        exact ⟨⟨E.w.heap.size, 0, 0⟩, by simp [F, upd_same], #[], push_new, rfl, rfl, by simp [RepL]⟩
      · rw [upd_ne _ _ e] at hb
        obtain ⟨l, hl, hr⟩ := hH.own i blk hb
        exact ⟨l, by simp only [F]; rw [upd_ne _ _ e]; exact hl, RepB.ext hx (push_old (hH.lt i l hl).2.1) hr⟩
    · simp only [F] at hl ⊢
      by_cases e : i = E.N
      · subst e
        rw [upd_same] at hl; cases hl
        exact ⟨Nat.lt_succ_self _, by simp [pushW], fun h => Nat.lt_irrefl _ (hX _ h), _, upd_same _ _ _⟩
      · rw [upd_ne _ _ e] at hl
        obtain ⟨h1, h2, h3, h4⟩ := hH.lt i l hl
        exact ⟨Nat.lt_succ_of_lt h1, by simp [pushW]; omega, h3, by rw [upd_ne _ _ e]; exact h4⟩
    · simp only [F] at hl hl'
      by_cases e1 : i = E.N <;> by_cases e2 : j = E.N
      · omega
      · subst e1; rw [upd_same] at hl; cases hl
        rw [upd_ne _ _ e2] at hl'
        exact absurd e.symm (hlt j l' hl').2
      · subst e2; rw [upd_same] at hl'; cases hl'
        rw [upd_ne _ _ e1] at hl
        exact absurd e (hlt i l hl).2
      · rw [upd_ne _ _ e1] at hl; rw [upd_ne _ _ e2] at hl'; exact hH.inj i j l l' hl hl' e
    · simp only [RepV]
      refine ⟨Nat.lt_succ_self _, _, rfl, fun l hl => ?_⟩
      simp only [F] at hl
      rw [upd_same] at hl; cases hl; rfl

theorem findIdx_born (bn : Int) : ∀ (es : List (Value × AV × Nat)) (l : List MapEntry), es.map (·.2.2) = l.map (·.born) → es.findIdx? (fun e => (e.2.2 : Int) == bn) = l.findIdx? (fun e => (e.born : Int) == bn)
  | [], [], _ => rfl
  | [], _ :: _, h => by simp at h
  | _ :: _, [], h => by simp at h
  | e :: es, f :: l, h => by
    simp only [List.map_cons, List.cons.injEq] at h
    rw [List.findIdx?_cons, List.findIdx?_cons, findIdx_born bn es l h.2, h.1]

theorem ym_entryStore (hT : TOk P T) (hH : RepH P E H) (hX : ∀ b, E.X b → b < E.w.heap.size) (hr : RepT E k t a) {o : Oper} {mt : TypeId} {m sx x : Operand} (ho : o.op = .entryStore mt m sx x) {H' : Nat → Option Blk} {n' : Nat} (h : mop T t H E.N (.entryStore mt m sx x) = some (r, H', n')) : Ym P E a o r H' n' := by
  simp only [mop] at h
  have hm := hr.ev m
  have hk := hr.ev sx
  have hx := hr.ev x
  split at h
  case h_2 => cases h
  case h_1 i kk bn em ek =>
    rw [em] at hm; rw [ek] at hk
    have hk' := RepV.sc_inv hk
    split at h
    case h_2 => cases h
    case h_1 es c hi =>
      obtain ⟨l, hl, ents, hb, h1, h2, h3⟩ := hH.own i _ hi
      simp only [RepV] at hm
      obtain ⟨_, b, hmb, hbl⟩ := hm
      obtain rfl := hbl l hl
      split at h
      case h_2 => cases h
      case h_1 j hj =>
        cases h
        have hfi : ents.findIdx? (fun e => (e.born : Int) == bn) = some j := by
          rw [show ents.findIdx? (fun e => (e.born : Int) == bn) = ents.toList.findIdx? (fun e => (e.born : Int) == bn) by obtain ⟨l⟩ := ents; simp]
          rw [← findIdx_born bn es ents.toList h2]; exact hj
        have hjl : j < es.length := by
          obtain ⟨h, _⟩ := List.findIdx?_eq_some_iff_getElem.1 hj
          exact h
        obtain ⟨⟨v, y, b0⟩, hes⟩ : ∃ q, es[j]? = some q := ⟨es[j], by simp [hjl]⟩
        obtain ⟨e, g1, g2, g3, g4⟩ := ent_at h1 h2 h3 hes
        obtain ⟨q1, q2, q3⟩ := set_keys h1 h2 h3 hes g1 hx (fun e => { e with val := a.eval x }) (by rw [← g2])
        have hse : es.modify j (fun e => (e.1, ev t x, e.2.2)) = es.set j (v, ev t x, b0) := by
          apply List.ext_getElem?
          intro q
          rw [List.getElem?_set, List.getElem?_modify]
          by_cases hq : j = q
          · subst hq
            obtain ⟨g1', g2'⟩ := List.getElem?_eq_some_iff.1 hes
            simp [g1', g2']
          · simp [hq]
        rw [← hse] at q1 q2 q3
        obtain ⟨p1, p2, p3⟩ := map_env hH hX hl hb q1 q2 q3 (c' := c)
        refine ⟨_, undef, .inr ⟨?_, rfl⟩, p1, p2, p3, rfl, by simp [RepV, RepL, undef]⟩
        unfold execOp; rw [ho]
        simp only [Instr.entryStore, Sem.run_bind, Result.andThen_ok, hmb, run_getMap hb, hk', asInt, asIntOf, Sem.run_pure, hfi, run_setMap _ hb]
        rfl

theorem erase_keys {es : List (Value × AV × Nat)} {ents : Array MapEntry} (j : Nat) (hk : es.map (·.1) = ents.toList.map (·.key)) (hb : es.map (·.2.2) = ents.toList.map (·.born)) (hv : RepL E (es.map (·.2.1)) (ents.toList.map (·.val))) :
    (es.eraseIdx j).map (·.1) = (ents.eraseIdxIfInBounds j).toList.map (·.key) ∧ (es.eraseIdx j).map (·.2.2) = (ents.eraseIdxIfInBounds j).toList.map (·.born) ∧ RepL E ((es.eraseIdx j).map (·.2.1)) ((ents.eraseIdxIfInBounds j).toList.map (·.val)) := by
  have he : ∀ {α β : Type} (f : α → β) (l : List α), (l.eraseIdx j).map f = (l.map f).eraseIdx j := fun f l => by
    induction l generalizing j with
    | nil => rfl
    | cons x l ih => cases j <;> simp [*]
  rw [Array.toList_eraseIdxIfInBounds]
  refine ⟨by rw [he, he, hk], by rw [he, he, hb], ?_⟩
  rw [he, he]
  rw [RepL.iff] at hv ⊢
  have hl : es.length = ents.toList.length := by have := congrArg List.length hk; simpa using this
  refine ⟨by simp [List.length_eraseIdx, ← hl], fun q x hq => ?_⟩
  rw [List.getElem?_eraseIdx] at hq ⊢
  split at hq
  · rename_i h; rw [if_pos h]; exact hv.2 q x hq
  · rename_i h; rw [if_neg h]; exact hv.2 _ x hq

theorem yc_delete (hT : TOk P T) (hH : RepH P E H) (hX : ∀ b, E.X b → b < E.w.heap.size) (hr : RepT E k t a) {o : Oper} {args : Array Operand} {ats : Array TypeId} (ho : o.op = .call { callee := .builtin .delete, args, argTypes := ats })
    {H' : Nat → Option Blk} {n' : Nat} (h : mop T t H E.N (.call { callee := .builtin .delete, args, argTypes := ats }) = some (r, H', n')) : Ym P E a o r H' n' := by
  simp only [mop] at h
  split at h
  case h_2 => cases h
  case h_1 i v mt rest e1 e2 =>
    obtain ⟨p, q, rfl, ex, ey⟩ := two_args e1
    obtain rfl : ats = (mt :: rest).toArray := by
      obtain ⟨l⟩ := ats; simp at e2; rw [e2]
    have hm := hr.ev p
    have hk := hr.ev q
    rw [ex] at hm; rw [ey] at hk
    have hk' := RepV.sc_inv hk
    split at h
    case h_2 => cases h
    case h_1 kk et es c hmk hi =>
      obtain ⟨l, hl, ents, hb, h1, h2, h3⟩ := hH.own i _ hi
      simp only [RepV] at hm
      obtain ⟨_, b, hmb, hbl⟩ := hm
      obtain rfl := hbl l hl
      split at h
      case isFalse => cases h
      case isTrue hkk =>
        obtain ⟨kt, d, u1, u2, u3⟩ := mapK_run hT hmk
        split at h
        case h_1 j y bn hfind =>
          cases h
          obtain ⟨q1, q2, q3⟩ := erase_keys j h1 h2 h3
          obtain ⟨p1, p2, p3⟩ := map_env hH hX hl hb q1 q2 q3 (c' := c)
          refine ⟨_, undef, .inl ?_, p1, p2, p3, rfl, by simp [RepV, RepL, undef]⟩
          unfold execOp; rw [ho]
          simp [resolve, invoke, builtin, Builtin.delete_, Sem.run_bind, run_under u1, Result.andThen_ok, hmb, run_getMap hb, hk', checkKey_run u2 u3 hkk, find_run u2 u3 hkk h1 hfind, run_setMap _ hb, Env.pobj, undef]
        case h_2 hfind =>
          cases h
          obtain ⟨p1, p2, p3⟩ := map_env hH hX hl hb h1 h2 h3 (c' := c)
          refine ⟨_, undef, .inl ?_, p1, p2, p3, rfl, by simp [RepV, RepL, undef]⟩
          unfold execOp; rw [ho]
          simp [resolve, invoke, builtin, Builtin.delete_, Sem.run_bind, run_under u1, Result.andThen_ok, hmb, run_getMap hb, hk', checkKey_run u2 u3 hkk, find_run u2 u3 hkk h1 hfind, run_setMap _ hb, Env.pobj, undef]
        case h_3 => cases h

end
end Go.Proofs.YtcdafogfmijcpaaW.Ah
