/-
  Operations that make memory or write it.
-/
import Derived.Test.YtcdafogfmijcpaaAh6
namespace Go.Proofs.YtcdafogfmijcpaaW.Ah
set_option linter.unusedVariables false
set_option linter.unusedSimpArgs false

/-- An operation yields a value, and comes to another memory. -/
def Ym (P : Program) (E : Env) (a : Act) (o : Oper) (r : AV) (H' : Nat → Option Blk) (n' : Nat) : Prop :=
  ∃ E' z, ((execOp a.eval o).run P E.w = .ok (.value z) E'.w ∨ ((execOp a.eval o).run P E.w = .ok .skip E'.w ∧ z = undef)) ∧ Ext E E' ∧ RepH P E' H' ∧ (∀ b, E'.X b → b < E'.w.heap.size) ∧ E'.N = n' ∧ RepV E' r z

def pushW (w : World) (o : Obj) : World := { w with heap := w.heap.push o }

/-- The table with a new block. -/
def newEnv (E : Env) (cells : Array Value) (ty z : Nat) : Env := ⟨E.X, E.N + 1, upd E.m E.N (some ⟨E.w.heap.size, cells.size, z⟩), pushW E.w (.cells cells ty)⟩

section
variable {P : Program} {T : Tab} {E : Env} {H : Nat → Option Blk} {k : Nat} {t : Nat → AV} {a : Act} {r : AV}

theorem push_old {w : World} {o : Obj} {b : Nat} (h : b < w.heap.size) : (pushW w o).heap[b]? = w.heap[b]? := by
  simp only [pushW]; rw [Array.getElem?_push, if_neg (by omega)]
theorem push_new {w : World} {o : Obj} : (pushW w o).heap[w.heap.size]? = some o := by show (w.heap.push o)[w.heap.size]? = some o; exact Array.getElem?_push_size

theorem newEnv_ext (hH : RepH P E H) {cells : Array Value} {ty z : Nat} : Ext E (newEnv E cells ty z) where
  X := rfl
  N := Nat.le_succ _
  os := rfl
  tape := rfl
  output := rfl
  size := by simp [newEnv, pushW]
  keep b hb _ := push_old hb
  old i l hi hl := by simp only [newEnv] at hl; rwa [upd_ne _ _ (by omega)] at hl
  new i l hl := by
    simp only [newEnv] at hl
    by_cases e : i = E.N
    · subst e; rw [upd_same] at hl; cases hl; exact .inl (Nat.le_refl _)
    · rw [upd_ne _ _ e] at hl; exact .inr ⟨i, l, hl, rfl⟩
  lp b r hb := ⟨r, by rw [← hb]; exact push_old (lt_of_block hb)⟩

theorem RepB.ext {F : Env} (h : Ext E F) {l : Loc} {blk : Blk} (hb : F.w.heap[l.b]? = E.w.heap[l.b]?) (hr : RepB P E l blk) : RepB P F l blk := by
  cases blk with
  | cells cs ty =>
    obtain ⟨cells, fz, info, h1, h2, h3, h4, h5, h6⟩ := hr
    exact ⟨cells, fz, info, by rw [hb, h1], RepL.ext h _ _ h2, h3, h4, h5, h6⟩
  | map es c =>
    obtain ⟨ents, h1, h2, h3, h4⟩ := hr
    exact ⟨ents, by rw [hb, h1], h2, h3, RepL.ext h _ _ h4⟩
  | loop t k ps asg bod st =>
    obtain ⟨r, h1, h2, h3, h4, h5, h6, h7⟩ := hr
    exact ⟨r, by rw [hb, h1], h2, h3, h4, h5, h6, fun i => RepV.ext h _ _ (h7 i)⟩

theorem newEnv_rep (hH : RepH P E H) (hX : ∀ b, E.X b → b < E.w.heap.size) {cells : Array Value} {ty : Nat} {info : TypeInfo} (hi : P.info? ty = some info) {cs : List AV} (hc : RepL E cs cells.toList) :
    RepH P (newEnv E cells ty info.size) (upd H E.N (some (.cells cs ty))) ∧ (∀ b, (newEnv E cells ty info.size).X b → b < (newEnv E cells ty info.size).w.heap.size) := by
  have hx := newEnv_ext hH (cells := cells) (ty := ty) (z := info.size)
  refine ⟨⟨fun i blk hb => ?_, fun i l hl => ?_, fun i j l l' hl hl' e => ?_⟩, fun b hb => Nat.lt_of_lt_of_le (hX b hb) hx.size⟩
  · by_cases e : i = E.N
    · subst e
      rw [upd_same] at hb; cases hb
      refine ⟨⟨E.w.heap.size, cells.size, info.size⟩, by simp [newEnv, upd_same], cells, (0, 0), info, push_new, RepL.ext hx _ _ hc, rfl, .inl rfl, hi, rfl⟩
    · rw [upd_ne _ _ e] at hb
      obtain ⟨l, hl, hr⟩ := hH.own i blk hb
      exact ⟨l, by simp only [newEnv]; rw [upd_ne _ _ e]; exact hl, RepB.ext hx (push_old (hH.lt i l hl).2.1) hr⟩
  · simp only [newEnv] at hl ⊢
    by_cases e : i = E.N
    · subst e
      rw [upd_same] at hl; cases hl
      exact ⟨Nat.lt_succ_self _, by simp [pushW], fun h => Nat.lt_irrefl _ (hX _ h), _, upd_same _ _ _⟩
    · rw [upd_ne _ _ e] at hl
      obtain ⟨h1, h2, h3, h4⟩ := hH.lt i l hl
      exact ⟨Nat.lt_succ_of_lt h1, by simp [pushW]; omega, h3, by rw [upd_ne _ _ e]; exact h4⟩
  · simp only [newEnv] at hl hl'
    by_cases e1 : i = E.N <;> by_cases e2 : j = E.N
    · omega
    · subst e1
      rw [upd_same] at hl; cases hl
      rw [upd_ne _ _ e2] at hl'
      have := (hH.lt j l' hl').2.1
      simp only at e; omega
    · subst e2
      rw [upd_same] at hl'; cases hl'
      rw [upd_ne _ _ e1] at hl
      have := (hH.lt i l hl).2.1
      simp only at e; omega
    · rw [upd_ne _ _ e1] at hl
      rw [upd_ne _ _ e2] at hl'
      exact hH.inj i j l l' hl hl' e

theorem ym_new (hH : RepH P E H) (hX : ∀ b, E.X b → b < E.w.heap.size) {o : Oper} {cells : Array Value} {ty : Nat} {info : TypeInfo} (hi : P.info? ty = some info) {cs : List AV} (hc : RepL E cs cells.toList) {z : Value}
    (hr : (execOp a.eval o).run P E.w = .ok (.value z) (pushW E.w (.cells cells ty))) (hz : RepV (newEnv E cells ty info.size) r z) : Ym P E a o r (upd H E.N (some (.cells cs ty))) (E.N + 1) := by
  obtain ⟨h1, h2⟩ := newEnv_rep hH hX hi hc
  exact ⟨newEnv E cells ty info.size, z, .inl hr, newEnv_ext hH, h1, h2, rfl, hz⟩

theorem own_new {cells : Array Value} {ty z : Nat} : RepV (newEnv E cells ty z) (.own E.N 0) (.pointer (some ⟨E.w.heap.size, 0, none⟩)) := by
  simp only [RepV]
  exact ⟨Nat.lt_succ_self _, _, rfl, fun l hl => by simp only [newEnv] at hl; rw [upd_same] at hl; cases hl; rfl⟩

theorem ym_alloc (hT : TOk P T) (hH : RepH P E H) (hX : ∀ b, E.X b → b < E.w.heap.size) {o : Oper} {ty : TypeId} (ho : o.op = .alloc ty) {H' : Nat → Option Blk} {n' : Nat} (h : mop T t H E.N (.alloc ty) = some (r, H', n')) : Ym P E a o r H' n' := by
  simp only [mop] at h
  split at h
  case h_2 => cases h
  case h_1 i hi =>
    cases h
    obtain ⟨info, z, h1, h2, h3, h4, h5⟩ := (hT.row hi).info
    refine ym_new hH hX (cells := z.cells) h1 (by rw [h5]; exact rep_scs _) ?_ own_new
    unfold execOp; rw [ho]
    simp [Instr.alloc, run_zero h1 h4, newVar, newRow, pushW]

theorem ym_box (hT : TOk P T) (hH : RepH P E H) (hX : ∀ b, E.X b → b < E.w.heap.size) (hr : RepT E k t a) {o : Oper} {ty : TypeId} {x : Operand} (ho : o.op = .box ty x) {H' : Nat → Option Blk} {n' : Nat} (h : mop T t H E.N (.box ty x) = some (r, H', n')) : Ym P E a o r H' n' := by
  simp only [mop] at h
  split at h
  case isFalse => cases h
  case isTrue hp =>
    cases h
    obtain ⟨hp, hty⟩ := hp
    cases ht : T ty with
    | none => rw [ht] at hty; cases hty
    | some i =>
      obtain ⟨info, z, h1, h2, h3, h4, h5⟩ := (hT.row ht).info
      refine ym_new hH hX (cells := (a.eval x).cells) h1 (RepL.cellsOf (hr.ev x) hp).1 ?_ own_new
      unfold execOp; rw [ho]
      simp [Instr.box, newVar, newRow, pushW]

theorem zeros_eq (zero : Array Value) (n : Nat) (h0 : 0 < zero.size) : ((Array.range (n * zero.size)).map (fun i => zero[i % zero.size]!)).toList = (List.replicate n zero.toList).flatten := by
  apply List.ext_getElem?
  intro i
  simp only [Array.toList_map, Array.toList_range, List.getElem?_map]
  by_cases hi : i < n * zero.size
  · rw [List.getElem?_range hi]
    simp only [Option.map_some]
    have hm : i % zero.size < zero.size := Nat.mod_lt _ h0
    rw [getElem!_pos zero _ hm]
    induction n generalizing i with
    | zero => simp at hi
    | succ n ih =>
      rw [List.replicate_succ, List.flatten_cons]
      by_cases hlt : i < zero.size
      · rw [List.getElem?_append_left (by simpa using hlt)]
        simp [Nat.mod_eq_of_lt hlt, hlt]
      · rw [List.getElem?_append_right (by simpa using hlt)]
        simp only [Array.length_toList]
        have hmod : (i - zero.size) % zero.size = i % zero.size := by
          rw [← Nat.mod_eq_sub_mod (by omega)]
        have := ih (i := i - zero.size) (by rw [Nat.succ_mul] at hi; omega) (Nat.mod_lt _ h0)
        rw [← this]
        simp only [hmod]
  · rw [List.getElem?_eq_none (by simpa using hi), List.getElem?_eq_none (by simp; omega)]
    rfl


theorem ym_makeSlice (hT : TOk P T) (hH : RepH P E H) (hX : ∀ b, E.X b → b < E.w.heap.size) (hr : RepT E k t a) {o : Oper} {ty : TypeId} {x y : Operand} (ho : o.op = .makeSlice ty x y) {H' : Nat → Option Blk} {n' : Nat} (h : mop T t H E.N (.makeSlice ty x y) = some (r, H', n')) : Ym P E a o r H' n' := by
  simp only [mop] at h
  split at h
  case h_2 => cases h
  case h_1 i hi =>
    have h1 := hr.ev x
    have h2 := hr.ev y
    split at h
    case h_2 => cases h
    case h_1 e l c hk e1 e2 =>
      rw [e1] at h1; rw [e2] at h2
      have e1' := RepV.sc_inv h1
      have e2' := RepV.sc_inv h2
      split at h
      case h_2 => cases h
      case h_1 ie he =>
        split at h
        case isFalse => cases h
        case isTrue hc =>
          cases h
          obtain ⟨hl0, hlc, hcb, hcm, hz0, hzl⟩ := hc
          obtain ⟨info, z, g1, g2, g3, g4, g5⟩ := (hT.row he).info
          have hzs : z.cells.size = ie.size := by rw [← hzl, ← g5]; simp
          have hz0' : 0 < z.cells.size := by omega
          refine ym_new hH hX (cells := (Array.range (c.toNat * z.cells.size)).map (fun i => z.cells[i % z.cells.size]!)) g1 (by rw [zeros_eq _ _ hz0', g5]; exact rep_scs _) (z := .slice (some ⟨E.w.heap.size, 0, none⟩) l.toNat c.toNat) ?_ ?_
          · unfold execOp; rw [ho]
            have hb : roomMax = 2 ^ 46 := rfl
            have w1 : IntKind.i64.wrap l = l := by simp [IntKind.wrap, IntKind.bits, IntKind.signed]; omega
            have w2 : IntKind.i64.wrap c = c := by simp [IntKind.wrap, IntKind.bits, IntKind.signed]; omega
            have hbb : ¬ ((info.bytes : Int) * c > 2 ^ 48) := by
              rw [g3, Int.mul_comm]
              omega
            have hneg : (decide (c < 0) || decide ((info.bytes : Int) * c > 2 ^ 48) || decide (l < 0) || decide (l > c)) = false := by
              simp only [Bool.or_eq_false_iff, decide_eq_false_iff_not]
              exact ⟨⟨⟨by omega, hbb⟩, by omega⟩, by omega⟩
            simp only [e1', e2', Instr.makeSlice, Sem.run_bind, run_under ((hT.row hi).slice hk), Result.andThen_ok, asInt, asIntOf, Sem.run_pure, run_info g1, w1, w2]
            rw [hneg]
            simp only [Bool.false_eq_true, if_false, Sem.run_bind, run_askRoom, Result.andThen_ok, run_size g1, g2]
            by_cases hn : c.toNat * ie.size = 0
            · rw [if_pos hn]
              simp only [Sem.run_bind, Sem.run_pure, Result.andThen_ok, newRow, run_newObj, hzs, hn]
              simp [pushW, show Array.range 0 = #[] from rfl]
            · rw [if_neg hn]
              simp only [Sem.run_bind, Sem.run_pure, Result.andThen_ok, run_zero g1 g4, newRow, run_newObj, hzs]
              simp [pushW]
          · simp only [RepV]
            exact ⟨Nat.lt_succ_self _, _, c.toNat, rfl, by omega, fun q hq => by simpa using hq, fun l' hl' => by
              simp only [newEnv] at hl'; rw [upd_same] at hl'; cases hl'; exact ⟨rfl, fun hn => by cases hn⟩⟩


theorem ym_buildSlice (hT : TOk P T) (hH : RepH P E H) (hX : ∀ b, E.X b → b < E.w.heap.size) (hr : RepT E k t a) {o : Oper} {ty : TypeId} {len : Nat} {parts : Array (Nat × Operand)} (ho : o.op = .buildSlice ty len parts) {H' : Nat → Option Blk} {n' : Nat} (h : mop T t H E.N (.buildSlice ty len parts) = some (r, H', n')) : Ym P E a o r H' n' := by
  simp only [mop] at h
  obtain ⟨hpl, hpr⟩ := parts_rep hr parts
  split at h
  case h_2 => cases h
  case h_1 i hi =>
    split at h
    case h_2 => cases h
    case h_1 e hk =>
      split at h
      case h_2 => cases h
      case h_1 ie he =>
        split at h
        case isFalse => cases h
        case isTrue hc =>
          obtain ⟨hsz, hz0, hzl⟩ := hc
          obtain ⟨info, z, g1, g2, g3, g4, g5⟩ := (hT.row he).info
          have hzs : z.cells.size = ie.size := by rw [← hzl, ← g5]; simp
          have hz0' : 0 < z.cells.size := by omega
          split at h
          case h_2 => cases h
          case h_1 cs hf =>
            cases h
            have hze := zeros_eq z.cells len hz0'
            obtain ⟨out, ho1, ho2, ho3⟩ := run_fill (cells := (Array.range (len * z.cells.size)).map (fun i => z.cells[i % z.cells.size]!)) (vs := (parts.map fun (i, x) => (i, a.eval x)).toList) hpl hpr
              (by rw [hze, g5]; exact rep_scs _) (by rw [← Array.length_toList, hze, g5]; simp) hf
            refine ym_new hH hX (cells := out) g1 ho2 (z := .slice (some ⟨E.w.heap.size, 0, none⟩) len len) ?_ ?_
            · unfold execOp; rw [ho]
              simp only [Instr.buildSlice, Sem.run_bind, run_under ((hT.row hi).slice hk), Result.andThen_ok, run_size g1, g2]
              rw [if_neg (by omega)]
              by_cases hn : len * ie.size = 0
              · rw [if_pos hn]
                simp only [Sem.run_bind, Sem.run_pure, Result.andThen_ok]
                rw [hzs, hn] at ho1
                rw [hn]
                simp [show Array.range 0 = #[] from rfl] at ho1 ⊢
                rw [ho1]
                simp [newRow, pushW]
              · rw [if_neg hn]
                simp only [Sem.run_bind, Sem.run_pure, Result.andThen_ok, run_zero g1 g4]
                rw [hzs] at ho1
                simp at ho1 ⊢
                rw [hzs, ho1]
                simp [newRow, pushW]
            · simp only [RepV]
              exact ⟨Nat.lt_succ_self _, _, len, rfl, Nat.le_refl _, fun q hq => by simpa using hq, fun l' hl' => by
                simp only [newEnv] at hl'; rw [upd_same] at hl'; cases hl'; exact ⟨rfl, fun hn => by cases hn⟩⟩

/-- A world that differs from another in the cells of a block. -/
structure Wrote (b : Nat) (cells' : Array Value) (w w' : World) : Prop where
  os : w'.os = w.os
  tape : w'.tape = w.tape
  output : w'.output = w.output
  size : w'.heap.size = w.heap.size
  block : ∀ ty fz cells, w.heap[b]? = some (.cells cells ty fz) → w'.heap[b]? = some (.cells cells' ty fz)
  other : ∀ c, c ≠ b → w'.heap[c]? = w.heap[c]?

theorem run_storeCells : ∀ (vs : List Value) {w : World} {b o i ty : Nat} {fz : Nat × Nat} {cells : Array Value}, w.heap[b]? = some (.cells cells ty fz) → o + i + vs.length ≤ cells.size →
    (fz.1 = fz.2 ∨ cells.size ≤ fz.1) → (∀ v ∈ vs, v.oneCell' = true) →
    ∃ w' cells', (storeCells ⟨b, o, none⟩ vs i).run P w = .ok () w' ∧ Wrote b cells' w w' ∧ cells'.toList = cells.toList.take (o + i) ++ vs ++ cells.toList.drop (o + i + vs.length)
  | [], w, b, o, i, ty, fz, cells, hb, hn, hf, hv => ⟨w, cells, rfl, ⟨rfl, rfl, rfl, rfl, fun ty fz c h => by rw [hb] at h ⊢; cases h; rfl, fun _ _ => rfl⟩, by simp⟩
  | v :: vs, w, b, o, i, ty, fz, cells, hb, hn, hf, hv => by
    simp only [List.length_cons] at hn
    have hc : w.cell? ⟨b, o + i, none⟩ = some cells[o + i] := by rw [cell_at hb]; simp [show o + i < cells.size by omega]
    have hfr : w.frozen? ⟨b, o + i, none⟩ = false := by
      simp only [World.frozen?, hb]
      simp only [Bool.and_eq_false_iff, decide_eq_false_iff_not]
      omega
    have hst : (store ⟨b, o + i, none⟩ v).run P w = .ok () (w.setCell ⟨b, o + i, none⟩ v) := by
      rw [run_store P w _ v .plain (hv v (by simp)), hc, hfr]; rfl
    have hw : Wrote b (cells.setIfInBounds (o + i) v) w (w.setCell ⟨b, o + i, none⟩ v) := by
      refine ⟨rfl, rfl, rfl, by simp [World.setCell], fun ty fz c h => ?_, fun c hcb => ?_⟩
      · rw [hb] at h; cases h
        simp [World.setCell, Array.getElem?_modify, hb]
      · simp only [World.setCell, Array.getElem?_modify]
        rw [if_neg (by omega)]
    have hb' := hw.block _ _ _ hb
    obtain ⟨w', cells', h1, h2, h3⟩ := run_storeCells vs (i := i + 1) (o := o) hb' (by simp; omega) (by simpa using hf) (fun u hu => hv u (by simp [hu]))
    refine ⟨w', cells', ?_, ⟨h2.os.trans hw.os, h2.tape.trans hw.tape, h2.output.trans hw.output, h2.size.trans hw.size, fun ty fz c h => h2.block _ _ _ (hw.block _ _ _ h), fun c hcb => (h2.other c hcb).trans (hw.other c hcb)⟩, ?_⟩
    · simp only [storeCells, Sem.run_bind]
      rw [addr_add, hst, Result.andThen_ok, h1]
    · rw [h3]
      simp only [Array.toList_setIfInBounds, List.length_cons]
      rw [show o + (i + 1) = o + i + 1 by omega, show o + i + (vs.length + 1) = o + i + 1 + vs.length by omega]
      rw [List.drop_set_of_lt (by omega)]
      rw [List.take_set, List.take_succ_eq_append_getElem (by simp; omega), List.set_append_right _ _ (by simp; omega)]
      simp
      rw [show o + i - min (o + i) cells.size = 0 by omega]
      simp

/-- The table stays, a block's cells change. -/
theorem wrote_env (hH : RepH P E H) (hX : ∀ b, E.X b → b < E.w.heap.size) {i : Nat} {cs cs' : List AV} {ty : Nat} (hi : H i = some (.cells cs ty)) {l : Loc} (hl : E.m i = some l) {cells' : Array Value} {w' : World} (hw : Wrote l.b cells' E.w w')
    (hsz : cells'.size = l.room) (hc : RepL E cs' cells'.toList) :
    Ext E { E with w := w' } ∧ RepH P { E with w := w' } (upd H i (some (.cells cs' ty))) ∧ (∀ b, E.X b → b < w'.heap.size) := by
  have hx : Ext E { E with w := w' } := ⟨rfl, Nat.le_refl _, hw.os, hw.tape, hw.output, by simp [hw.size], fun b hb hm => hw.other b (fun e => hm i l hl e.symm), fun _ _ _ h => h, fun j l' h => .inr ⟨j, l', h, rfl⟩, fun b r hb => by
    have hne : b ≠ l.b := by
      rintro rfl
      obtain ⟨l', hl', cells, fz, info, h1, _⟩ := hH.own i _ hi
      rw [hl] at hl'; cases hl'
      rw [hb] at h1; cases h1
    exact ⟨r, (hw.other b hne).trans hb⟩⟩
  refine ⟨hx, ⟨fun j blk hb => ?_, fun j l' hl' => ?_, hH.inj⟩, fun b hb => by rw [hw.size]; exact hX b hb⟩
  · by_cases e : j = i
    · subst e
      rw [upd_same] at hb; cases hb
      obtain ⟨l', hl', cells, fz, info, h1, h2, h3, h4, h5, h6⟩ := hH.own j _ hi
      rw [hl] at hl'; cases hl'
      exact ⟨l, hl, cells', fz, info, hw.block _ _ _ h1, RepL.ext hx _ _ hc, hsz, by rcases h4 with h4 | h4; exact .inl h4; exact .inr (by omega), h5, h6⟩
    · rw [upd_ne _ _ e] at hb
      obtain ⟨l', hl', hr⟩ := hH.own j blk hb
      exact ⟨l', hl', RepB.ext hx (hw.other _ fun e' => e (hH.inj j i l' l hl' hl e')) hr⟩
  · obtain ⟨h1, h2, h3, blk, h4⟩ := hH.lt j l' hl'
    refine ⟨h1, by rw [hw.size]; exact h2, h3, ?_⟩
    by_cases e : j = i
    · subst e; exact ⟨_, upd_same _ _ _⟩
    · exact ⟨blk, by rw [upd_ne _ _ e]; exact h4⟩

theorem oneCell_of {E : Env} : ∀ {as : List AV} {vs : List Value}, RepL E as vs → as.all cellOk = true → ∀ v ∈ vs.take as.length, v.oneCell' = true
  | [], _, _, _ => by simp
  | _ :: _, [], _, _ => by simp
  | a :: as, v :: vs, h, hk => by
    simp only [RepL] at h
    simp only [List.all_cons, Bool.and_eq_true] at hk
    intro u hu
    simp only [List.length_cons, List.take_succ_cons, List.mem_cons] at hu
    rcases hu with rfl | hu
    · have hr := h.1
      have hk := hk.1
      cases a with
      | sc v => rw [RepV.sc_inv hr]; exact hk
      | own i o => simp only [RepV] at hr; obtain ⟨_, b, rfl, _⟩ := hr; rfl
      | osl i o n c => simp only [RepV] at hr; obtain ⟨_, b, cap, rfl, _⟩ := hr; rfl
      | sh cs => simp only [RepV] at hr; obtain ⟨b, o, c, ty, fz, rfl, _⟩ := hr; rfl
      | ssl cs n f => obtain ⟨b, cap, rfl, _⟩ := ssl_shape hr; rfl
      | esl f => simp only [RepV] at hr; obtain ⟨b, cap, rfl, _⟩ := hr; rfl
      | omap i => simp only [RepV] at hr; obtain ⟨_, b, rfl, _⟩ := hr; rfl
      | yld i => simp only [RepV] at hr; obtain ⟨_, b, rfl, _⟩ := hr; rfl
      | fn f x y => simp only [RepV] at hr; obtain ⟨b, c, rfl, _⟩ := hr; rfl
      | agg cs => simp [cellOk] at hk
      | tup cs => simp [cellOk] at hk
      | any => simp [cellOk] at hk
    · exact oneCell_of h.2 hk.2 u hu

theorem ym_store (hT : TOk P T) (hH : RepH P E H) (hX : ∀ b, E.X b → b < E.w.heap.size) (hr : RepT E k t a) {o : Oper} {ty : TypeId} {x y : Operand} (ho : o.op = .store ty x y) {H' : Nat → Option Blk} {n' : Nat} (h : mop T t H E.N (.store ty x y) = some (r, H', n')) : Ym P E a o r H' n' := by
  simp only [mop] at h
  have hx := hr.ev x
  have hy := hr.ev y
  split at h
  case h_2 => cases h
  case h_1 z i o' hz e =>
    split at h
    case h_2 => cases h
    case h_1 cs ety hi =>
      split at h
      case isFalse => cases h
      case isTrue hc =>
        cases h
        obtain ⟨hlen, hle, hall⟩ := hc
        unfold sizeT at hz
        cases ht : T ty with
        | none => rw [ht] at hz; cases hz
        | some it =>
          rw [ht] at hz; simp at hz
          rw [e] at hx
          obtain ⟨b, cells, fz, ex, hb, hl, ⟨l, hm, hlb, hsz⟩, hfz⟩ := own_cells hH hi hx
          have hpo : partOk (ev t y) = true := by
            cases hq : ev t y <;> rw [hq] at hall <;> simp [cellsOf, partOk, cellOk] at hall ⊢
            exact hall
          obtain ⟨hcr, hcl⟩ := RepL.cellsOf hy hpo
          have hll := hl.length
          simp only [Array.length_toList] at hll
          have hsz2 : (a.eval y).cells.toList.length = (a.eval y).cells.size := Array.length_toList
          have hone := oneCell_of hcr hall
          rw [hcl, List.take_length] at hone
          obtain ⟨w', cells', h1, h2, h3⟩ := run_storeCells (P := P) (a.eval y).cells.toList (i := 0) (o := o') hb (by omega) hfz hone
          subst hlb
          obtain ⟨q1, q2, q3⟩ := wrote_env (cs' := splice cs o' (cellsOf (ev t y))) hH hX hi hm h2 (by rw [← Array.length_toList, h3]; simp; omega) (by
            rw [h3]
            unfold splice
            rw [← hcl]
            exact RepL.append (RepL.append (hl.take _) (by simp; omega) hcr) (by simp; omega) (hl.drop _))
          refine ⟨{ E with w := w' }, undef, .inr ⟨?_, rfl⟩, q1, q2, q3, rfl, ?_⟩
          · unfold execOp; rw [ho]
            simp only [ex, Instr.storeAt, Instr.sureAddr, Sem.run_bind, Sem.run_pure, Result.andThen_ok, storeVar, (hT.row ht).size]
            rw [if_neg (by simp at hcl; omega), h1]
            rfl
          · simp [RepV, RepL, undef]

end
end Go.Proofs.YtcdafogfmijcpaaW.Ah
