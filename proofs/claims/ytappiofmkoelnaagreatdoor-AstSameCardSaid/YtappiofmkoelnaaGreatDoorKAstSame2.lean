/-
  For AstSame: texts of the road to it, 3 of 16.
-/
import Derived.Test.YtappiofmkoelnaaGreatDoorKAstSame1
import Derived.Laws.BytesString
section
namespace Go.Proofs.YtappiofmkoelnaaGreatDoorW.Ah
set_option linter.unusedVariables false
set_option linter.unusedSimpArgs false
theorem rep_sc {E : Env} (v : Value) : RepV E (.sc v) v := by simp only [RepV]
theorem run_unAV {P : Program} {E : Env} {op : UnOp} {x r : AV} {u : Value} (hx : RepV E x u) (h : unAV op x = some r) (w : World) : ∃ z, (Op.unary op u).run P w = .ok z w ∧ RepV E r z := by
 unfold unAV at h
 split at h
 ·cases h; rw [RepV.sc_inv hx]; exact ⟨_, rfl, rep_sc _⟩
 ·cases h; rw [RepV.sc_inv hx]; exact ⟨_, rfl, rep_sc _⟩
 ·cases h; rw [RepV.sc_inv hx]; exact ⟨_, rfl, rep_sc _⟩
 ·cases h
theorem u8s_rep {E : Env} : ∀ {cs : List AV} {ns : List Int} {vs : List Value}, u8s cs = some ns → RepL E cs vs → vs.length = cs.length → vs = ns.map (Value.int .u8)
 | [], ns, vs, h, hr, hl => by
  cases h
  exact List.length_eq_zero_iff.1 hl
 | c :: cs, ns, [], h, hr, hl => by simp at hl
 | c :: cs, ns, v :: vs, h, hr, hl => by
  unfold u8s at h
  split at h
  ·next h0 => cases h0
  ·next n r h0 =>
   cases h0
   cases hu : u8s cs with
   | none => rw [hu] at h; cases h
   | some ms =>
    rw [hu] at h
    cases h
    simp only [RepL, RepV] at hr
    rw [List.map_cons, ← u8s_rep hu hr.2 (by simpa using hl), hr.1]
  ·cases h
theorem u8s_len : ∀ {cs : List AV} {ns : List Int}, u8s cs = some ns → cs.map (fun _ => ()) = ns.map (fun _ => ())
 | [], ns, h => by cases h; rfl
 | c :: cs, ns, h => by
  unfold u8s at h
  split at h
  ·next h0 => cases h0
  ·next n r h0 =>
   cases h0
   cases hu : u8s cs with
   | none => rw [hu] at h; cases h
   | some ms => rw [hu] at h; cases h; simp only [List.map_cons, u8s_len hu]
  ·cases h
theorem isU8_row {P : Program} {T : Tab} (hT : TOk P T) {e : Nat} (h : isU8 T e = true) : P.underlying e = some (.int .u8) := by
 unfold isU8 at h
 cases he : T e with
 | none => rw [he] at h; cases h
 | some i =>
  rw [he] at h
  simp only at h
  split at h
  ·next hk => exact (hT.row he).int hk
  ·cases h
theorem run_convAV {P : Program} {T : Tab} (hT : TOk P T) {E : Env} {src dst : Nat} {x r : AV} {u : Value} (hx : RepV E x u) (h : convAV T src dst x = some r) :
  ∃ z, (convert src dst u).run P E.w = .ok z E.w ∧ RepV E r z := by
 unfold convAV at h
 cases hs : T src with
 | none => rw [hs] at h; cases h
 | some i =>
  cases hd : T dst with
  | none => rw [hs, hd] at h; cases h
  | some j =>
   rw [hs, hd] at h
   simp only at h
   obtain ⟨ds, hds, _, _⟩ := (hT.row hs).under
   split at h
   case h_1 k _ n hk => cases h; rw [RepV.sc_inv hx]; refine ⟨_, ?_, rep_sc _⟩; simp [convert, run_under hds, run_under ((hT.row hd).int hk), Conv.intToInt]
   case h_2 s hk1 hk2 => cases h; rw [RepV.sc_inv hx]; refine ⟨_, ?_, rep_sc _⟩; simp [convert, run_under hds, run_under ((hT.row hd).str hk2)]
   case h_3 e cs n f hk1 hk2 =>
    cases hu : u8s (cs.take n) with
    | none => rw [hu] at h; cases h
    | some ns =>
     rw [hu] at h
     simp only at h
     split at h
     ·next hc =>
      cases h
      obtain ⟨hn, h8⟩ := hc
      refine ⟨.string (textOf ns), ?_, rep_sc _⟩
      obtain ⟨a, cap, rfl, _, _, ha⟩ := ssl_shape hx
      rw [run_convert_bytes_string E.w src dst e a n cap ((hT.row hs).slice hk1) (isU8_row hT h8) ((hT.row hd).str hk2)]
      by_cases h0 : n = 0
      ·subst h0
       have : ns = [] := List.length_eq_zero_iff.1 hn
       subst this
       cases a with
       | none => simp [Conv.bytesToString, textOf]
       | some a => exact run_bytesToString E.w a 0 cap [] (by simp [loadCells, loadCellsFrom])
      ·simp only [RepV] at hx
       rcases hx with ⟨b, o, cells, ty, fz, cap', e1, _, _, _, hb, hrl⟩ | ⟨h1, _⟩
       ·cases e1
        have hlen := (RepL.iff.1 hrl).1
        have hnc : n ≤ cs.length := by
         have := congrArg List.length (u8s_len hu)
         simp only [List.length_map, List.length_take] at this
         omega
        simp only [List.length_drop, Array.length_toList] at hlen
        refine run_bytesToString E.w _ n cap ns ?_
        rw [run_loadCells hb (by omega)]
        congr 1
        apply Array.toList_inj.1
        have hr2 : RepL E (cs.take n) ((cells.toList.drop o).take n) := by
         rw [RepL.iff] at hrl ⊢
         refine ⟨by simp; omega, fun i a hi => ?_⟩
         rw [List.getElem?_take] at hi ⊢
         split at hi
         ·next hlt => rw [if_pos hlt]; exact hrl.2 i a hi
         ·cases hi
        have := u8s_rep hu hr2 (by simp; omega)
        simp only [Array.toList_extract, List.extract_eq_take_drop]
        rw [show o + n - o = n by omega]
        simpa using this
       ·exact absurd h1 h0
     ·cases h
   case h_4 e hk1 hk2 =>
    split at h
    ·next h8 =>
     cases h
     rw [RepV.sc_inv hx]
     refine ⟨.string (textOf []), ?_, rep_sc _⟩
     rw [run_convert_bytes_string E.w src dst e none 0 0 ((hT.row hs).slice hk1) (isU8_row hT h8) ((hT.row hd).str hk2)]
     simp [Conv.bytesToString, textOf]
    ·cases h
   case h_5 => cases h
theorem zipIdx_fold (off : Nat) : ∀ (l : List Value) (j : Nat) (cs : Array Value), off + j + l.length ≤ cs.size →
  ((l.zipIdx j).foldl (fun cs (p : Value × Nat) => cs.setIfInBounds (off + p.2) p.1) cs).toList = cs.toList.take (off + j) ++ l ++ cs.toList.drop (off + j + l.length)
 | [], j, cs, _ => by simp
 | v :: l, j, cs, h => by
  simp only [List.length_cons] at h
  rw [List.zipIdx_cons, List.foldl_cons, zipIdx_fold off l (j + 1) _ (by simp; omega)]
  simp only [Array.toList_setIfInBounds, List.length_cons]
  rw [show off + (j + 1) = off + j + 1 by omega, show off + j + (l.length + 1) = off + j + 1 + l.length by omega]
  rw [List.drop_set_of_lt (by omega)]
  rw [List.take_set, List.take_succ_eq_append_getElem (by simp; omega), List.set_append_right _ _ (by simp; omega)]
  simp
  rw [show off + j - min (off + j) cs.size = 0 by omega]
  simp
theorem run_fill {E : Env} {place : Nat → Option (Nat × Nat)} : ∀ {parts : List (Nat × AV)} {cs r : List AV} {cells : Array Value} {vs : List (Nat × Value)},
  parts.length = vs.length → (∀ (j : Nat) (a : Nat × AV) (v : Nat × Value), parts[j]? = some a → vs[j]? = some v → a.1 = v.1 ∧ RepV E a.2 v.2) →
  RepL E cs cells.toList → cs.length = cells.size → fillAV place cs parts = some r → ∃ out, Instr.fill place cells vs = some out ∧ RepL E r out.toList ∧ r.length = out.size
 | [], cs, r, cells, vs, hl, _, hc, hsz, h => by
  cases vs with
  | nil => simp [fillAV] at h; subst h; exact ⟨cells, rfl, hc, hsz⟩
  | cons => simp at hl
 | (i, a) :: parts, cs, r, cells, vs, hl, hp, hc, hsz, h => by
  cases vs with
  | nil => simp at hl
  | cons v vs =>
   obtain ⟨i', v⟩ := v
   obtain ⟨hii, hrv⟩ := hp 0 (i, a) (i', v) (by simp) (by simp)
   simp only at hii
   subst hii
   simp only [fillAV] at h
   simp only [Instr.fill]
   split at h
   case h_1 => cases h
   case h_2 off size hpl =>
    split at h
    ·rename_i hcond
     simp only at hrv
     obtain ⟨hok, hcond⟩ := hcond
     obtain ⟨hrl, hlen⟩ := RepL.cellsOf hrv hok
     simp only [Array.length_toList] at hlen
     simp only [hpl]
     rw [if_neg (by
      simp only [Bool.or_eq_true, decide_eq_true_eq, ne_eq] at *
      omega)]
     have hz := zipIdx_fold off v.cells.toList 0 cells (by simp; omega)
     simp only [Nat.add_zero, Array.length_toList] at hz
     refine run_fill (by simpa using hl) (fun j a v ha hv => hp (j + 1) a v (by simpa using ha) (by simpa using hv)) ?_ ?_ h
     ·rw [← Array.foldl_toList, Array.toList_zipIdx, hz]
      refine RepL.append ?_ ?_ ?_
      ·exact RepL.append (hc.take _) (by simp; omega) hrl
      ·simp; omega
      ·have := hc.drop (off + size)
       rw [show off + v.cells.size = off + size by omega]
       exact this
     ·rw [← Array.foldl_toList, Array.toList_zipIdx, ← Array.length_toList, hz]; simp; omega
    ·cases h
theorem run_asIntOf {P : Program} (k : IntKind) (n : Int) (w : World) : (asIntOf (.int k n)).run P w = .ok (k, n) w := rfl
theorem run_bound {P : Program} {E : Env} {x : AV} {u : Value} {y y' b : Nat} (hx : RepV E x u) (h : boundOf x y = some b) (hy : y ≤ y') (c : BoundsCode) (w : World) :
  (Instr.sliceBound u y' c).run P w = .ok b w ∧ b ≤ y := by
 unfold boundOf at h
 split at h
 ·rename_i k i
  split at h
  ·rename_i hb
   cases h
   rw [RepV.sc_inv hx]
   refine ⟨?_, by omega⟩
   simp only [Instr.sliceBound, Sem.run_bind, run_asIntOf, Result.andThen_ok]
   rw [if_pos (by omega)]; rfl
  ·cases h
 ·cases h
def RepO (E : Env) : Option AV → Option Value → Prop
 | none, none => True
 | some a, some v => RepV E a v
 | _, _ => False
theorem RepT.evO {E : Env} {k : Nat} {t : Nat → AV} {a : Act} (r : RepT E k t a) (x : Option Operand) : RepO E (x.map (Ah.ev t)) (x.map a.eval) := by
 cases x with
 | none => simp [RepO]
 | some x => simpa [RepO] using r.ev x
theorem run_bounds {P : Program} {E : Env} {n lim cap : Nat} {c c' : Option Nat} {lo hi mx : Option AV} {vlo vhi vmx : Option Value} {l h : Nat}
  (h1 : RepO E lo vlo) (h2 : RepO E hi vhi) (h3 : RepO E mx vmx) (hb : bounds n lim c lo hi mx = some (l, h, c')) (hn : n ≤ lim) (hl : lim ≤ cap) (hc : ∀ k, c = some k → cap = k) (isSlice : Bool) (w : World) :
  ∃ m, (Instr.sliceBounds isSlice n cap vlo vhi vmx).run P w = .ok (l, h, m) w ∧ l ≤ h ∧ h ≤ lim ∧ h ≤ m ∧ m ≤ cap ∧ (∀ k, c' = some k → m - l = k) ∧ (c' = none → m = cap ∧ c = none ∧ mx = none) := by
 unfold bounds at hb
 cases mx with
 | none =>
  cases vmx with
  | some v => simp [RepO] at h3
  | none =>
   simp only at hb
   split at hb
   case h_2 => cases hb
   case h_1 hh hhi =>
    split at hb
    case h_2 => cases hb
    case h_1 ll hlo =>
     cases hb
     have fin : h ≤ lim → l ≤ h → (Instr.sliceBounds isSlice n cap vlo vhi none).run P w = .ok (l, h, cap) w →
       ∃ m, (Instr.sliceBounds isSlice n cap vlo vhi none).run P w = .ok (l, h, m) w ∧ l ≤ h ∧ h ≤ lim ∧ h ≤ m ∧ m ≤ cap ∧ (∀ k, c.map (· - l) = some k → m - l = k) ∧ (c.map (· - l) = none → m = cap ∧ c = none ∧ (none : Option AV) = none) := by
      intro b1 b2 hr
      refine ⟨cap, hr, b2, b1, by omega, Nat.le_refl _, ?_, ?_⟩
      ·intro k hk
       cases c with
       | none => simp at hk
       | some c => simp at hk; have := hc c rfl; omega
      ·intro hk
       cases c with
       | none => exact ⟨rfl, rfl, rfl⟩
       | some c => simp at hk
     cases hi with
     | none =>
      cases vhi with
      | some v => simp [RepO] at h2
      | none =>
       simp only [optBound] at hhi; cases hhi
       cases lo with
       | none =>
        cases vlo with
        | some v => simp [RepO] at h1
        | none => simp only [optBound] at hlo; cases hlo; exact fin hn (Nat.zero_le _) (by simp [Instr.sliceBounds])
       | some x =>
        cases vlo with
        | none => simp [RepO] at h1
        | some v =>
         simp only [optBound] at hlo
         obtain ⟨r1, r2⟩ := run_bound (P := P) (y' := n) h1 hlo (Nat.le_refl _) .sliceB w
         exact fin hn r2 (by simp [Instr.sliceBounds, r1])
     | some x =>
      cases vhi with
      | none => simp [RepO] at h2
      | some v =>
       simp only [optBound] at hhi
       obtain ⟨q1, q2⟩ := run_bound (P := P) (y' := cap) h2 hhi hl (if isSlice then .sliceAcap else .sliceAlen) w
       cases lo with
       | none =>
        cases vlo with
        | some v => simp [RepO] at h1
        | none => simp only [optBound] at hlo; cases hlo; exact fin q2 (Nat.zero_le _) (by simp [Instr.sliceBounds, q1])
       | some x =>
        cases vlo with
        | none => simp [RepO] at h1
        | some v =>
         simp only [optBound] at hlo
         obtain ⟨r1, r2⟩ := run_bound (P := P) (y' := h) h1 hlo (Nat.le_refl _) .sliceB w
         exact fin q2 r2 (by simp [Instr.sliceBounds, q1, r1])
 | some x =>
  cases vmx with
  | none => simp [RepO] at h3
  | some v =>
   simp only [RepO] at h3
   simp only at hb
   split at hb
   case h_2 => cases hb
   case h_1 m hm =>
    cases hi with
    | none => cases hb
    | some y =>
     cases vhi with
     | none => simp [RepO] at h2
     | some vy =>
      simp only [RepO] at h2
      simp only at hb
      split at hb
      case h_2 => cases hb
      case h_1 hh hhi =>
       split at hb
       case h_2 => cases hb
       case h_1 ll hlo =>
        cases hb
        obtain ⟨q1, b1⟩ := run_bound (P := P) (y' := cap) h3 hm hl (if isSlice then .slice3Acap else .slice3Alen) w
        obtain ⟨q2, b2⟩ := run_bound (P := P) (y' := m) h2 hhi (Nat.le_refl _) .slice3B w
        have fin : l ≤ h → (Instr.sliceBounds isSlice n cap vlo (some vy) (some v)).run P w = .ok (l, h, m) w →
          ∃ m', (Instr.sliceBounds isSlice n cap vlo (some vy) (some v)).run P w = .ok (l, h, m') w ∧ l ≤ h ∧ h ≤ lim ∧ h ≤ m' ∧ m' ≤ cap ∧ (∀ k, some (m - l) = some k → m' - l = k) ∧ (some (m - l) = none → m' = cap ∧ c = none ∧ some x = none) := by
         intro b3 hr
         exact ⟨m, hr, b3, by omega, b2, by omega, fun k hk => by simpa using hk, fun hk => by simp at hk⟩
        cases lo with
        | none =>
         cases vlo with
         | some v => simp [RepO] at h1
         | none => simp only [optBound] at hlo; cases hlo; exact fin (Nat.zero_le _) (by simp [Instr.sliceBounds, q1, q2])
        | some x =>
         cases vlo with
         | none => simp [RepO] at h1
         | some v =>
          simp only [optBound] at hlo
          obtain ⟨r1, r2⟩ := run_bound (P := P) (y' := h) h1 hlo (Nat.le_refl _) .slice3C w
          exact fin r2 (by simp [Instr.sliceBounds, q1, q2, r1])
def Yv (P : Program) (E : Env) (a : Act) (o : Oper) (r : AV) : Prop := ∃ z, (execOp a.eval o).run P E.w = .ok (.value z) E.w ∧ RepV E r z
section
variable {P : Program} {T : Tab} {E : Env} {H : Nat → Option Blk} {k : Nat} {t : Nat → AV} {a : Act} {r : AV}
theorem own_cells (hH : RepH P E H) {i o : Nat} {cs : List AV} {ty : Nat} (hi : H i = some (.cells cs ty)) {u : Value} (hu : RepV E (.own i o) u) :
  ∃ b cells fz, u = .pointer (some ⟨b, o, none⟩) ∧ E.w.heap[b]? = some (.cells cells ty fz) ∧ RepL E cs cells.toList ∧ (∃ l, E.m i = some l ∧ l.b = b ∧ cells.size = l.room) ∧ (fz.1 = fz.2 ∨ cells.size ≤ fz.1) := by
 obtain ⟨l, hm, cells, fz, info, h1, h2, h3, h4, h5, h6⟩ := hH.own i _ hi
 simp only [RepV] at hu
 obtain ⟨_, x, rfl, hx⟩ := hu
 rw [hx l hm]
 exact ⟨l.b, cells, fz, rfl, h1, h2, ⟨l, hm, rfl, h3⟩, h4⟩
theorem yv_move (hr : RepT E k t a) {o : Oper} {x : Operand} (ho : o.op = .move x ∨ o.op = .assign x) : Yv P E a o (ev t x) := by
 refine ⟨a.eval x, ?_, hr.ev x⟩
 unfold execOp
 rcases ho with ho | ho <;> rw [ho] <;> rfl
theorem yv_pick (hr : RepT E k t a) {o : Oper} {c x y : Operand} (ho : o.op = .pick c x y) {b : Bool} (hc : ev t c = .sc (.bool b)) : Yv P E a o (bif b then ev t x else ev t y) := by
 have h := hr.ev c
 rw [hc] at h
 have e := RepV.sc_inv h
 unfold Yv execOp
 rw [ho]
 simp only [e]
 cases b
 ·exact ⟨a.eval y, rfl, hr.ev y⟩
 ·exact ⟨a.eval x, rfl, hr.ev x⟩
theorem yv_un (hr : RepT E k t a) {o : Oper} {op : UnOp} {ty : TypeId} {x : Operand} (ho : o.op = .unOp op ty x) (h : unAV op (ev t x) = some r) : Yv P E a o r := by
 obtain ⟨z, h1, h2⟩ := run_unAV (P := P) (hr.ev x) h E.w
 exact ⟨z, by unfold execOp; rw [ho]; simp [h1], h2⟩
theorem yv_bin (hT : TOk P T) (hr : RepT E k t a) {o : Oper} {op : BinOp} {ty ty' : TypeId} {x y : Operand} (ho : o.op = .binOp op ty x y ty') (h : binAV T op ty (ev t x) (ev t y) = some r) : Yv P E a o r := by
 obtain ⟨z, h1, h2⟩ := run_binAV hT (hr.ev x) (hr.ev y) h x y E.w
 exact ⟨z, by
  unfold execOp; rw [ho]
  show Sem.run P (_ >>= _) E.w = _
  rw [Sem.run_bind, h1]; rfl, h2⟩
theorem yv_conv (hT : TOk P T) (hr : RepT E k t a) {o : Oper} {src dst : TypeId} {x : Operand} (ho : o.op = .convert src dst x) (h : convAV T src dst (ev t x) = some r) : Yv P E a o r := by
 obtain ⟨z, h1, h2⟩ := run_convAV hT (hr.ev x) h
 exact ⟨z, by unfold execOp; rw [ho]; simp [h1], h2⟩
theorem yv_nil (hr : RepT E k t a) {o : Oper} {x : Operand} (ho : o.op = .nilCheck x) (h : vop T t H (.nilCheck x) = some r) : Yv P E a o r := by
 simp only [vop] at h
 have hx := hr.ev x
 unfold Yv execOp
 rw [ho]
 split at h
 case h_1 e => cases h; rw [e] at hx; have h' := hx; simp only [RepV] at hx; obtain ⟨_, p, e', _⟩ := hx; simp only [e'] at h' ⊢; exact ⟨_, rfl, h'⟩
 case h_2 e => cases h; rw [e] at hx; have h' := hx; simp only [RepV] at hx; obtain ⟨b, o, c, ty, fz, e', _⟩ := hx; simp only [e'] at h' ⊢; exact ⟨_, rfl, h'⟩
 case h_3 e => cases h; rw [e] at hx; have h' := hx; simp only [RepV] at hx; obtain ⟨p, q, e', _⟩ := hx; simp only [e'] at h' ⊢; exact ⟨_, rfl, h'⟩
 case h_4 => cases h
theorem run_fieldPlace (hT : TOk P T) {b o : Nat} {f : Field} {z : Nat} (h : sizeT T f.type = some (z + 1)) (w : World) : (fieldPlace ⟨b, o, none⟩ f).run P w = .ok ⟨b, o + f.offset, none⟩ w := by
 unfold sizeT at h
 cases ht : T f.type with
 | none => rw [ht] at h; cases h
 | some i =>
  rw [ht] at h
  simp at h
  have := (hT.row ht).size w
  simp only [fieldPlace, Sem.run_bind, this, Result.andThen_ok]
  rw [if_neg (by omega), addr_add]; rfl
theorem yv_fieldAddr (hT : TOk P T) (hr : RepT E k t a) {o : Oper} {s : TypeId} {x : Operand} {f : Nat} (ho : o.op = .fieldAddr s x f) (h : vop T t H (.fieldAddr s x f) = some r) : Yv P E a o r := by
 simp only [vop] at h
 split at h
 case h_2 => cases h
 case h_1 i hi =>
  split at h
  case h_2 => cases h
  case h_1 fs hk =>
   obtain ⟨fs', hu, hfs⟩ := (hT.row hi).struct hk
   split at h
   case h_2 => cases h
   case h_1 off ft hf =>
    split at h
    case h_2 => cases h
    case h_1 z hz =>
     rw [← hfs] at hf
     simp only [List.getElem?_map, Option.map_eq_some_iff, Prod.mk.injEq] at hf
     obtain ⟨g, hg, rfl, rfl⟩ := hf
     rw [Array.getElem?_toList] at hg
     have hx := hr.ev x
     have key : ∀ b p, a.eval x = .pointer (some ⟨b, p, none⟩) → (execOp a.eval o).run P E.w = .ok (.value (.pointer (some ⟨b, p + g.offset, none⟩))) E.w := by
      intro b p e
      unfold execOp
      rw [ho]
      simp [e, Instr.fieldAt, run_under hu, hg, Instr.sureAddr, run_fieldPlace hT hz]
     split at h
     case h_1 i' o' e =>
      cases h
      rw [e] at hx; simp only [RepV] at hx
      obtain ⟨hN, p, e', hp⟩ := hx
      refine ⟨_, key _ _ e', ?_⟩
      simp only [RepV]
      exact ⟨hN, _, rfl, hp⟩
     case h_2 cs e =>
      cases h
      rw [e] at hx; simp only [RepV] at hx
      obtain ⟨b, p, c, ty, fz, e', hs, hb, hl⟩ := hx
      refine ⟨_, key _ _ e', ?_⟩
      simp only [RepV]
      refine ⟨b, p + g.offset, c, ty, fz, rfl, hs, hb, ?_⟩
      have := hl.drop g.offset
      rw [List.drop_drop] at this
      exact this
     case h_3 => cases h
theorem yv_field (hT : TOk P T) (hr : RepT E k t a) {o : Oper} {s : TypeId} {x : Operand} {f : Nat} (ho : o.op = .field s x f) (h : vop T t H (.field s x f) = some r) : Yv P E a o r := by
 simp only [vop] at h
 split at h
 case h_2 => cases h
 case h_1 i hi =>
  split at h
  case h_2 => cases h
  case h_1 fs cs hk e =>
   obtain ⟨fs', hu, hfs⟩ := (hT.row hi).struct hk
   split at h
   case h_2 => cases h
   case h_1 off ft hf =>
    rw [← hfs] at hf
    simp only [List.getElem?_map, Option.map_eq_some_iff, Prod.mk.injEq] at hf
    obtain ⟨g, hg, rfl, rfl⟩ := hf
    rw [Array.getElem?_toList] at hg
    have hx := hr.ev x
    rw [e] at hx; simp only [RepV] at hx
    obtain ⟨c, e', _, hl⟩ := hx
    obtain ⟨v, hv, hrv⟩ := run_part hT hl h
    exact ⟨v, by unfold execOp; rw [ho]; simp [e', Instr.field, run_under hu, hg, asAgg, hv], hrv⟩
theorem yv_indexAddr (hT : TOk P T) (hr : RepT E k t a) {o : Oper} {s : TypeId} {x y : Operand} (ho : o.op = .indexAddr s x y) (h : vop T t H (.indexAddr s x y) = some r) : Yv P E a o r := by
 simp only [vop] at h
 split at h
 case h_2 => cases h
 case h_1 i hi =>
  have hx := hr.ev x
  have hy := hr.ev y
  split at h
  case h_5 => cases h
  case h_1 e i' o' n c _ q hk e1 e2 =>
   split at h
   case h_2 => cases h
   case h_1 z hz =>
    split at h
    case isFalse => cases h
    case isTrue hb =>
     cases h
     unfold sizeT at hz
     cases he : T e with
     | none => rw [he] at hz; cases hz
     | some ie =>
      rw [he] at hz; simp at hz
      rw [e1] at hx; rw [e2] at hy; simp only [RepV] at hx
      obtain ⟨hN, b, cap, e1', _, _, hm⟩ := hx
      have e2' := RepV.sc_inv hy
      refine ⟨.pointer (some ⟨b, o' + q.toNat * z, none⟩), ?_, ?_⟩
      ·unfold execOp; rw [ho]; simp [e1', e2', Instr.indexAt, asIntOf, run_under ((hT.row hi).slice hk), (hT.row he).size, hb, hz, addr_add]
      ·simp only [RepV]; exact ⟨hN, b, rfl, fun l hl => (hm l hl).1⟩
  case h_2 e cs n full _ q hk e1 e2 =>
   split at h
   case h_2 => cases h
   case h_1 z hz =>
    split at h
    case isFalse => cases h
    case isTrue hb =>
     cases h
     unfold sizeT at hz
     cases he : T e with
     | none => rw [he] at hz; cases hz
     | some ie =>
      rw [he] at hz; simp at hz
      rw [e1] at hx; rw [e2] at hy; simp only [RepV] at hx
      rcases hx with ⟨b, o', c, ty, fz, cap, e1', _, _, hs, hb', hl⟩ | ⟨rfl, _⟩
      case inr => omega
      have e2' := RepV.sc_inv hy
      refine ⟨.pointer (some ⟨b, o' + q.toNat * z, none⟩), ?_, ?_⟩
      ·unfold execOp; rw [ho]; simp [e1', e2', Instr.indexAt, asIntOf, run_under ((hT.row hi).slice hk), (hT.row he).size, hb, hz, addr_add]
      ·simp only [RepV]
       have := hl.drop (q.toNat * z)
       rw [List.drop_drop] at this
       exact ⟨b, _, c, ty, fz, rfl, hs, hb', this⟩
  case h_3 n e i' o' _ q hk e1 e2 =>
   split at h
   case h_2 => cases h
   case h_1 z hz =>
    split at h
    case isFalse => cases h
    case isTrue hb =>
     cases h
     unfold sizeT at hz
     cases he : T e with
     | none => rw [he] at hz; cases hz
     | some ie =>
      rw [he] at hz; simp at hz
      rw [e1] at hx; rw [e2] at hy; simp only [RepV] at hx
      obtain ⟨hN, b, e1', hm⟩ := hx
      have e2' := RepV.sc_inv hy
      refine ⟨.pointer (some ⟨b, o' + q.toNat * z, none⟩), ?_, ?_⟩
      ·unfold execOp; rw [ho]; simp [e1', e2', Instr.indexAt, asIntOf, run_under ((hT.row hi).arr hk), (hT.row he).size, hb, hz, addr_add, Instr.sureAddr]
      ·simp only [RepV]; exact ⟨hN, b, rfl, hm⟩
  case h_4 n e cs _ q hk e1 e2 =>
   split at h
   case h_2 => cases h
   case h_1 z hz =>
    split at h
    case isFalse => cases h
    case isTrue hb =>
     cases h
     unfold sizeT at hz
     cases he : T e with
     | none => rw [he] at hz; cases hz
     | some ie =>
      rw [he] at hz; simp at hz
      rw [e1] at hx; rw [e2] at hy; simp only [RepV] at hx
      obtain ⟨b, o', c, ty, fz, e1', hs, hb', hl⟩ := hx
      have e2' := RepV.sc_inv hy
      refine ⟨.pointer (some ⟨b, o' + q.toNat * z, none⟩), ?_, ?_⟩
      ·unfold execOp; rw [ho]; simp [e1', e2', Instr.indexAt, asIntOf, run_under ((hT.row hi).arr hk), (hT.row he).size, hb, hz, addr_add, Instr.sureAddr]
      ·simp only [RepV]
       have := hl.drop (q.toNat * z)
       rw [List.drop_drop] at this
       exact ⟨b, _, c, ty, fz, rfl, hs, hb', this⟩
theorem yv_index (hT : TOk P T) (hr : RepT E k t a) {o : Oper} {s : TypeId} {x y : Operand} (ho : o.op = .index s x y) (h : vop T t H (.index s x y) = some r) : Yv P E a o r := by
 simp only [vop] at h
 split at h
 case h_2 => cases h
 case h_1 i hi =>
  have hx := hr.ev x
  have hy := hr.ev y
  split at h
  case h_3 => cases h
  case h_1 s _ q hk e1 e2 =>
   split at h
   case isFalse => cases h
   case isTrue hb =>
    cases h
    rw [e1] at hx; rw [e2] at hy
    have e1' := RepV.sc_inv hx
    have e2' := RepV.sc_inv hy
    have hlt : q.toNat < s.size := by omega
    have hg : s[q.toNat]? = some (s.data.toList.getD q.toNat 0) := by
     rw [getElem?_pos s q.toNat hlt]
     congr 1
     simp only [List.getD_eq_getElem?_getD, Array.getElem?_toList]
     rw [getElem?_pos s.data q.toNat hlt]
     rfl
    refine ⟨_, ?_, rep_sc _⟩
    unfold execOp; rw [ho]; simp [e1', e2', Instr.index, asIntOf, run_under ((hT.row hi).str hk), hb.1, hg]
  case h_2 n e cs _ q hk e1 e2 =>
   split at h
   case h_2 => cases h
   case h_1 z hz =>
    split at h
    case isFalse => cases h
    case isTrue hb =>
     unfold sizeT at hz
     cases he : T e with
     | none => rw [he] at hz; cases hz
     | some ie =>
      rw [he] at hz; simp at hz
      rw [e1] at hx; rw [e2] at hy; simp only [RepV] at hx
      obtain ⟨c, e1', _, hl⟩ := hx
      have e2' := RepV.sc_inv hy
      obtain ⟨v, hv, hrv⟩ := run_part hT hl h
      exact ⟨v, by unfold execOp; rw [ho]; simp [e1', e2', Instr.index, asIntOf, run_under ((hT.row hi).arr hk), (hT.row he).size, hb, hz, hv], hrv⟩
theorem yv_extract (hr : RepT E k t a) {o : Oper} {x : Operand} {q : Nat} (ho : o.op = .extract x q) (h : vop T t H (.extract x q) = some r) : Yv P E a o r := by
 simp only [vop] at h
 split at h
 case h_2 => cases h
 case h_1 vs e =>
  have hx := hr.ev x
  rw [e] at hx; simp only [RepV] at hx
  obtain ⟨c, e', _, hl⟩ := hx
  obtain ⟨v, hv, hrv⟩ := hl.get h
  rw [Array.getElem?_toList] at hv
  exact ⟨v, by unfold execOp; rw [ho]; simp [e', Instr.extract, hv], hrv⟩
theorem yv_makeFunc (hr : RepT E k t a) {o : Oper} {f : Fn} {x y : Array Operand} (ho : o.op = .makeFunc f x y) (h : vop T t H (.makeFunc f x y) = some r) : Yv P E a o r := by
 simp only [vop] at h
 cases h
 have key : ∀ l : List Operand, RepL E (l.map (ev t)) (l.map a.eval) := by
  intro l
  induction l with
  | nil => simp [RepL]
  | cons x l ih => simp only [List.map_cons, RepL]; exact ⟨hr.ev x, ih⟩
 refine ⟨.func f (x.map a.eval) (y.map a.eval), by unfold execOp; rw [ho]; rfl, ?_⟩
 simp only [RepV]
 exact ⟨_, _, rfl, by simp, by simpa using key x.toList, by simp, by simpa using key y.toList⟩
theorem yv_load (hT : TOk P T) (hH : RepH P E H) (hr : RepT E k t a) {o : Oper} {ty : TypeId} {x : Operand} (ho : o.op = .load ty x) (h : vop T t H (.load ty x) = some r) : Yv P E a o r := by
 simp only [vop] at h
 have hx := hr.ev x
 split at h
 case h_3 => cases h
 case h_1 i o' e =>
  split at h
  case h_2 => cases h
  case h_1 cs cty hi =>
   rw [e] at hx
   obtain ⟨b, cells, fz, e', hb, hl, _⟩ := own_cells hH hi hx
   obtain ⟨v, hv, hrv⟩ := run_loadVar (base := 0) hT hb (by simpa using hl) h
   rw [Nat.zero_add] at hv
   exact ⟨v, by unfold execOp; rw [ho]; simp [e', Instr.loadAt, Instr.sureAddr, hv], hrv⟩
 case h_2 cs e =>
  rw [e] at hx; simp only [RepV] at hx
  obtain ⟨b, o', cells, ty', fz, e', _, hb, hl⟩ := hx
  obtain ⟨v, hv, hrv⟩ := run_loadVar hT hb hl h
  rw [Nat.add_zero] at hv
  exact ⟨v, by unfold execOp; rw [ho]; simp [e', Instr.loadAt, Instr.sureAddr, hv], hrv⟩
end
section
variable {P : Program} {T : Tab} {E : Env} {H : Nat → Option Blk} {k : Nat} {t : Nat → AV} {a : Act} {r : AV}
theorem rep_scs {E : Env} (l : List Value) : RepL E (l.map .sc) l := by
 induction l with
 | nil => simp [RepL]
 | cons v l ih => simp [RepL, RepV, ih]
theorem rep_zs {E : Env} (l : List Value) : RepL E (l.map zs) l := by
 induction l with
 | nil => simp [RepL]
 | cons v l ih =>
  simp only [List.map_cons, RepL]
  refine ⟨?_, ih⟩
  unfold zs
  split
  ·simp only [RepV]
   exact .inr ⟨trivial, trivial, none, 0, rfl, (fun hf => by cases hf), fun _ => rfl⟩
  ·simp [RepV]
theorem run_places (hT : TOk P T) (w : World) : ∀ (fs : List Field), (fs.map fun f => (f.offset, f.type)).all (fun f => (sizeT T f.2).isSome) = true →
  (fs.mapM fun f => Prod.mk f.offset <$> sizeOf f.type).run P w = .ok (fs.map fun f => (f.offset, (sizeT T f.type).getD 0)) w
 | [], _ => rfl
 | f :: fs, h => by
  simp only [List.map_cons, List.all_cons, Bool.and_eq_true] at h
  obtain ⟨h1, h2⟩ := h
  unfold sizeT at h1
  cases ht : T f.type with
  | none => rw [ht] at h1; simp at h1
  | some i =>
   rw [List.mapM_cons]
   simp only [Sem.run_bind, Sem.run_map, (hT.row ht).size w, Result.andThen_ok, run_places hT w fs h2]
   simp [sizeT, ht]
theorem parts_rep (hr : RepT E k t a) (parts : Array (Nat × Operand)) :
  (parts.toList.map fun p => (p.1, ev t p.2)).length = (parts.map fun (i, x) => (i, a.eval x)).toList.length ∧
  ∀ (j : Nat) (x : Nat × AV) (v : Nat × Value), (parts.toList.map fun p => (p.1, ev t p.2))[j]? = some x → (parts.map fun (i, x) => (i, a.eval x)).toList[j]? = some v → x.1 = v.1 ∧ RepV E x.2 v.2 := by
 refine ⟨by simp, fun j x v hx hv => ?_⟩
 rw [Array.toList_map] at hv
 simp only [List.getElem?_map, Option.map_eq_some_iff] at hx hv
 obtain ⟨p, hp, rfl⟩ := hx
 obtain ⟨q, hq, rfl⟩ := hv
 rw [hp] at hq
 cases hq
 exact ⟨rfl, hr.ev _⟩
theorem yv_build (hT : TOk P T) (hr : RepT E k t a) {o : Oper} {ty : TypeId} {parts : Array (Nat × Operand)} (ho : o.op = .build ty parts) (h : vop T t H (.build ty parts) = some r) : Yv P E a o r := by
 simp only [vop] at h
 obtain ⟨hpl, hpr⟩ := parts_rep hr parts
 split at h
 case h_2 => cases h
 case h_1 i hi =>
  obtain ⟨info, z, hinf, _, _, hz, hzz⟩ := (hT.row hi).info
  have hc0 : RepL E (i.zero.map zs) z.cells.toList := by rw [hzz]; exact rep_zs _
  have hl0 : (i.zero.map zs).length = z.cells.size := by rw [← hzz]; simp
  have hc1 : RepL E (zb i) z.cells.toList := by
   unfold zb
   split
   ·rw [hzz]; exact rep_scs _
   ·exact hc0
  have hl1 : (zb i).length = z.cells.size := by
   unfold zb
   split
   ·rw [← hzz]; simp
   ·exact hl0
  split at h
  case h_3 => cases h
  case h_1 fs hk =>
   obtain ⟨fs', hu, hfs⟩ := (hT.row hi).struct hk
   split at h
   case isFalse => cases h
   case isTrue hall =>
    simp only [Option.map_eq_some_iff] at h
    obtain ⟨cs, hf, rfl⟩ := h
    obtain ⟨out, ho1, ho2, ho3⟩ := run_fill (vs := (parts.map fun (i, x) => (i, a.eval x)).toList) hpl hpr hc1 hl1 hf
    refine ⟨.agg out, ?_, by simp only [RepV]; exact ⟨out, rfl, by simpa using ho3, ho2⟩⟩
    unfold execOp; rw [ho]
    rw [← hfs] at hall
    have hp := run_places hT E.w fs'.toList hall
    have ho1' : Instr.fill (fun j => (fs'.toList.map fun f => (f.offset, (sizeT T f.type).getD 0))[j]?) z.cells (parts.map fun (i, x) => (i, a.eval x)).toList = some out := by
     rw [← ho1]
     congr 1
     funext j
     rw [← hfs]
     simp only [List.getElem?_map]
     cases hj : fs'.toList[j]? with
     | none => rfl
     | some g =>
      have := List.all_eq_true.1 hall (g.offset, g.type) (List.mem_map.2 ⟨g, List.mem_of_getElem? hj, rfl⟩)
      simp only at this
      cases hs : sizeT T g.type with
      | none => rw [hs] at this; simp at this
      | some z => simp [hs]
    simp [Instr.build, run_zero hinf hz, run_under hu, Array.mapM_eq_mapM_toList, hp]
    simp at ho1'
    rw [ho1']
    rfl
  case h_2 n e hk =>
   split at h
   case h_2 => cases h
   case h_1 zz hzz' =>
    simp only [Option.map_eq_some_iff] at h
    obtain ⟨cs, hf, rfl⟩ := h
    obtain ⟨out, ho1, ho2, ho3⟩ := run_fill (vs := (parts.map fun (i, x) => (i, a.eval x)).toList) hpl hpr hc0 hl0 hf
    unfold sizeT at hzz'
    cases he : T e with
    | none => rw [he] at hzz'; cases hzz'
    | some ie =>
     rw [he] at hzz'; simp at hzz'
     refine ⟨.agg out, ?_, by simp only [RepV]; exact ⟨out, rfl, by simpa using ho3, ho2⟩⟩
     unfold execOp; rw [ho]
     simp [Instr.build, run_zero hinf hz, run_under ((hT.row hi).arr hk), (hT.row he).size, hzz']
     simp at ho1
     rw [ho1]
     rfl
theorem yv_slice (hT : TOk P T) (hH : RepH P E H) (hr : RepT E k t a) {o : Oper} {s : TypeId} {x : Operand} {lo hi mx : Option Operand} (ho : o.op = .slice s x lo hi mx) (h : vop T t H (.slice s x lo hi mx) = some r) : Yv P E a o r := by
 simp only [vop] at h
 have hx := hr.ev x
 have hlo := hr.evO lo
 have hhi := hr.evO hi
 have hmx := hr.evO mx
 split at h
 case h_2 => cases h
 case h_1 i hi' =>
  have row := hT.row hi'
  split at h
  case h_8 => cases h
  case h_1 s hk e =>
   cases mx with
   | some m => simp at h
   | none =>
    simp only at h
    split at h
    case h_2 => cases h
    case h_1 hh hhh =>
     split at h
     case h_2 => cases h
     case h_1 l hl =>
      cases h
      rw [e] at hx
      have e' := RepV.sc_inv hx
      obtain ⟨m, hb, _⟩ := run_bounds (P := P) (n := s.size) (lim := s.size) (cap := s.size) (c := none) (c' := none) (l := l) (h := hh) (mx := none) (vmx := none) hlo hhi (by simp [RepO]) (by unfold bounds; simp [hhh, hl]) (Nat.le_refl _) (Nat.le_refl _) (fun _ h => by cases h) false E.w
      refine ⟨_, ?_, rep_sc _⟩
      unfold execOp; rw [ho]
      simp [e', Instr.sliceAt, Instr.slice, run_under (row.str hk), hb]
  case h_2 e' i' o' n c hk e =>
   split at h
   case h_2 => cases h
   case h_1 z hz =>
    split at h
    case isFalse => cases h
    case isTrue hnat =>
    split at h
    case h_2 => cases h
    case h_1 l hh c' hb =>
     unfold sizeT at hz
     cases he : T e' with
     | none => rw [he] at hz; cases hz
     | some ie =>
      rw [he] at hz; simp at hz
      rw [e] at hx
      have hx0 := hx
      simp only [RepV] at hx
      obtain ⟨hN, b, cap, ex, hcap, hcc, hm⟩ := hx
      have hlim : limOf H e' z i' o' n c ≤ cap := by
       unfold limOf
       cases c with
       | some c => have := hcc c rfl; simp; omega
       | none =>
        simp only
        split
        ·rename_i cs ty hcs
         split
         ·rename_i hty
          obtain ⟨l', hl', cells, fz, info, q1, q2, q3, q4, q5, q6⟩ := hH.own i' _ hcs
          obtain ⟨_, hr2⟩ := hm l' hl'
          have h3 := hr2 rfl
          have h4 := q2.length
          simp only [Array.length_toList] at h4
          subst hty
          obtain ⟨info', _, g1, g2, _⟩ := (hT.row he).info
          rw [q5] at g1; cases g1
          refine Nat.max_le.2 ⟨hcap, ?_⟩
          rcases Nat.eq_zero_or_pos z with h0 | h0
          ·rw [h0]; simp
          ·rw [Nat.div_le_iff_le_mul_add_pred h0]
           have : l'.z = z := by omega
           rw [this, Nat.mul_comm] at h3
           omega
         ·exact hcap
        ·exact hcap
      obtain ⟨m, hb', hlh, hhl, hhm, hmc, hk1, hk2⟩ := run_bounds (P := P) (cap := cap) hlo hhi hmx hb (by
       unfold limOf
       cases c with
       | some c => have := hcc c rfl; simp; omega
       | none =>
        simp only
        split
        ·split <;> omega
        ·omega) hlim hcc true E.w
      have key : (execOp a.eval o).run P E.w = .ok (.value (.slice (some (if m = l then ⟨b, o', none⟩ else ⟨b, o' + l * z, none⟩)) (hh - l) (m - l))) E.w := by
       unfold execOp; rw [ho]
       simp only [ex, Instr.sliceAt, Instr.slice, Sem.run_bind, run_under (row.slice hk), hb', (hT.row he).size, hz, Result.andThen_ok, Option.map_some, addr_add, Sem.run_pure]
       split <;> rfl
      refine ⟨_, key, ?_⟩
      split at h
      ·rename_i hc
       cases h
       have hadr : (if m = l then (⟨b, o', none⟩ : Addr) else ⟨b, o' + l * z, none⟩) = ⟨b, o' + l * z, none⟩ := by
        split
        ·rename_i hml
         rcases hc with h0 | h0
         ·subst h0; simp
         ·omega
        ·rfl
       rw [hadr]
       simp only [RepV]
       refine ⟨hN, b, m - l, rfl, by omega, fun q hq => hk1 q hq, fun l' hl' => ⟨(hm l' hl').1, fun hn => ?_⟩⟩
       obtain ⟨rfl, hcn, _⟩ := hk2 hn
       have h3 := (hm l' hl').2 hcn
       subst hcn
       simp only [natOk] at hnat
       split at hnat
       ·rename_i cs ty hcs
        simp only [beq_iff_eq] at hnat
        subst hnat
        obtain ⟨l'', hl'', cells, fz, info, q1, q2, q3, q4, q5, q6⟩ := hH.own i' _ hcs
        rw [hl'] at hl''; cases hl''
        obtain ⟨info', _, g1, g2, _⟩ := (hT.row he).info
        rw [q5] at g1; cases g1
        have e3 : l'.z = z := by omega
        rw [e3] at h3 ⊢
        have hz' : l * z ≤ m * z := Nat.mul_le_mul_right _ (by omega)
        rw [Nat.sub_mul]
        omega
       ·cases hnat
      ·rename_i hc
       cases h
       have h0 : hh - l = 0 := by omega
       rw [h0]
       simp only [RepV]
       refine ⟨_, _, rfl, fun hq => ?_⟩
       simp at hq
       exact hk1 0 hq
  case h_3 e' cs n full hk e =>
   split at h
   case h_2 => cases h
   case h_1 z l hh c' hz hb =>
    unfold sizeT at hz
    cases he : T e' with
    | none => rw [he] at hz; cases hz
    | some ie =>
     rw [he] at hz; simp at hz
     rw [e] at hx
     simp only [RepV] at hx
     rcases hx with ⟨b, o', cells, ty, fz, cap, ex, hcap, hfull, hs, hbk, hl⟩ | ⟨rfl, rfl, ad, cap, ex, hfull, hnil⟩
     case inr =>
      obtain ⟨m, hb', hlh, hhl, hhm, hmc, hk1, hk2⟩ := run_bounds (P := P) (cap := cap) hlo hhi hmx hb (Nat.le_refl _) (Nat.zero_le _) (by intro q hq; split at hq <;> simp_all) true E.w
      obtain rfl : hh = 0 := by omega
      obtain rfl : l = 0 := by omega
      cases h
      refine ⟨.slice ad 0 m, ?_, ?_⟩
      ·unfold execOp; rw [ho]
       simp only [ex, Instr.sliceAt, Instr.slice, Sem.run_bind, run_under (row.slice hk), hb', (hT.row he).size, Result.andThen_ok, Sem.run_pure]
       cases ad with
       | none => split <;> simp
       | some ad => split <;> simp [Addr.add]
      ·simp only [RepV]
       exact .inr ⟨trivial, by simp, ad, m, rfl, (fun hq => by simp at hq; have := hk1 0 hq; omega), fun hq => by have := hnil hq; omega⟩
     obtain ⟨m, hb', hlh, hhl, hhm, hmc, hk1, hk2⟩ := run_bounds (P := P) (cap := cap) hlo hhi hmx hb (Nat.le_refl _) hcap (by intro q hq; split at hq <;> simp_all) true E.w
     have key : (execOp a.eval o).run P E.w = .ok (.value (.slice (some (if m = l then ⟨b, o', none⟩ else ⟨b, o' + l * z, none⟩)) (hh - l) (m - l))) E.w := by
      unfold execOp; rw [ho]
      simp only [ex, Instr.sliceAt, Instr.slice, Sem.run_bind, run_under (row.slice hk), hb', (hT.row he).size, hz, Result.andThen_ok, Option.map_some, addr_add, Sem.run_pure]
      split <;> rfl
     refine ⟨_, key, ?_⟩
     cases h
     by_cases hc : l = 0 ∨ l < hh
     ·have hadr : (if m = l then (⟨b, o', none⟩ : Addr) else ⟨b, o' + l * z, none⟩) = ⟨b, o' + l * z, none⟩ := by
       split
       ·rename_i hml
        rcases hc with h0 | h0
        ·subst h0; simp
        ·omega
       ·rfl
      rw [hadr]
      simp only [RepV]
      refine .inl ⟨b, _, cells, ty, fz, m - l, rfl, by omega, fun hq => ?_, hs, hbk, ?_⟩
      ·simp at hq
       exact hk1 _ hq
      ·have := hl.drop (l * z)
       rw [List.drop_drop] at this
       exact this.of_take _
     ·have h0 : hh - l = 0 := by omega
      rw [h0]
      simp only [RepV]
      refine .inr ⟨trivial, by simp, some _, _, rfl, fun hq => ?_, fun hq => by cases hq⟩
      simp at hq
      exact hk1 0 hq
  case h_4 e' hk e =>
   split at h
   case h_2 => cases h
   case h_1 z b hz hb =>
    cases h
    unfold sizeT at hz
    cases he : T e' with
    | none => rw [he] at hz; cases hz
    | some ie =>
     obtain ⟨l, hh, c'⟩ := b
     rw [e] at hx
     have ex := RepV.sc_inv hx
     obtain ⟨m, hb', hlh, hhl, hhm, hmc, hk1, hk2⟩ := run_bounds (P := P) (cap := 0) hlo hhi hmx hb (Nat.le_refl _) (Nat.le_refl _) (by intro q hq; simp at hq; exact hq) true E.w
     obtain rfl : m = 0 := by omega
     obtain rfl : hh = 0 := by omega
     obtain rfl : l = 0 := by omega
     refine ⟨_, ?_, rep_sc _⟩
     unfold execOp; rw [ho]
     simp [ex, Instr.sliceAt, Instr.slice, run_under (row.slice hk), hb', (hT.row he).size]
  case h_5 e' full hk e =>
   split at h
   case h_2 => cases h
   case h_1 z l hh c' hz hb =>
    cases h
    unfold sizeT at hz
    cases he : T e' with
    | none => rw [he] at hz; cases hz
    | some ie =>
     rw [e] at hx
     simp only [RepV] at hx
     obtain ⟨ad, cap, ex, hf⟩ := hx
     obtain ⟨m, hb', hlh, hhl, hhm, hmc, hk1, hk2⟩ := run_bounds (P := P) (cap := cap) hlo hhi hmx hb (Nat.le_refl _) (Nat.zero_le _) (by intro q hq; split at hq <;> simp_all) true E.w
     obtain rfl : hh = 0 := by omega
     obtain rfl : l = 0 := by omega
     refine ⟨.slice (some ad) 0 m, ?_, ?_⟩
     ·unfold execOp; rw [ho]
      simp only [ex, Instr.sliceAt, Instr.slice, Sem.run_bind, run_under (row.slice hk), hb', (hT.row he).size, Result.andThen_ok, Option.map_some, Sem.run_pure]
      split <;> simp [Addr.add]
     ·simp only [RepV]
      exact ⟨ad, m, rfl, fun hq => by simp at hq; have := hk1 0 hq; omega⟩
  case h_6 n e' i' o' hk e =>
   split at h
   case h_2 => cases h
   case h_1 z l hh c' hz hb =>
    unfold sizeT at hz
    cases he : T e' with
    | none => rw [he] at hz; cases hz
    | some ie =>
     rw [he] at hz; simp at hz
     rw [e] at hx
     simp only [RepV] at hx
     obtain ⟨hN, b, ex, hm⟩ := hx
     obtain ⟨m, hb', hlh, hhl, hhm, hmc, hk1, hk2⟩ := run_bounds (P := P) (cap := n) hlo hhi hmx hb (Nat.le_refl _) (Nat.le_refl _) (by intro q hq; simp at hq; exact hq) false E.w
     have key : (execOp a.eval o).run P E.w = .ok (.value (.slice (some (if m = l then ⟨b, o', none⟩ else ⟨b, o' + l * z, none⟩)) (hh - l) (m - l))) E.w := by
      unfold execOp; rw [ho]
      simp only [ex, Instr.sliceAt, Instr.sureAddr, Sem.run_bind, Sem.run_pure, run_under (row.arr hk), hb', (hT.row he).size, hz, Result.andThen_ok, Option.map_some, addr_add, Sem.run_pure]
     refine ⟨_, key, ?_⟩
     split at h
     ·rename_i hc
      cases h
      have hadr : (if m = l then (⟨b, o', none⟩ : Addr) else ⟨b, o' + l * z, none⟩) = ⟨b, o' + l * z, none⟩ := by
       split
       ·rename_i hml
        rcases hc with h0 | h0
        ·subst h0; simp
        ·omega
       ·rfl
      rw [hadr]
      simp only [RepV]
      refine ⟨hN, b, m - l, rfl, by omega, fun q hq => hk1 q hq, fun l' hl' => ⟨hm l' hl', fun hn => ?_⟩⟩
      obtain ⟨_, hcn, _⟩ := hk2 hn
      cases hcn
     ·rename_i hc
      cases h
      have h0 : hh - l = 0 := by omega
      rw [h0]
      simp only [RepV]
      refine ⟨_, _, rfl, fun hq => ?_⟩
      simp at hq
      exact hk1 0 hq
  case h_7 n e' cs hk e =>
   split at h
   case h_2 => cases h
   case h_1 z l hh c' hz hb =>
    unfold sizeT at hz
    cases he : T e' with
    | none => rw [he] at hz; cases hz
    | some ie =>
     rw [he] at hz; simp at hz
     rw [e] at hx
     simp only [RepV] at hx
     obtain ⟨b, o', cells, ty, fz, ex, hs, hbk, hl⟩ := hx
     obtain ⟨m, hb', hlh, hhl, hhm, hmc, hk1, hk2⟩ := run_bounds (P := P) (cap := n) hlo hhi hmx hb (Nat.le_refl _) (Nat.le_refl _) (by intro q hq; simp at hq; exact hq) false E.w
     have key : (execOp a.eval o).run P E.w = .ok (.value (.slice (some (if m = l then ⟨b, o', none⟩ else ⟨b, o' + l * z, none⟩)) (hh - l) (m - l))) E.w := by
      unfold execOp; rw [ho]
      simp only [ex, Instr.sliceAt, Instr.sureAddr, Sem.run_bind, Sem.run_pure, run_under (row.arr hk), hb', (hT.row he).size, hz, Result.andThen_ok, Option.map_some, addr_add, Sem.run_pure]
     refine ⟨_, key, ?_⟩
     split at h
     ·rename_i hc
      cases h
      have hadr : (if m = l then (⟨b, o', none⟩ : Addr) else ⟨b, o' + l * z, none⟩) = ⟨b, o' + l * z, none⟩ := by
       split
       ·rename_i hml
        rcases hc with h0 | h0
        ·subst h0; simp
        ·omega
       ·rfl
      rw [hadr]
      simp only [RepV]
      refine .inl ⟨b, _, cells, ty, fz, m - l, rfl, by omega, fun hq => ?_, hs, hbk, ?_⟩
      ·simp at hq
       exact hk1 _ hq
      ·have := hl.drop (l * z)
       rw [List.drop_drop] at this
       exact this.of_take _
     ·rename_i hc
      cases h
      have h0 : hh - l = 0 := by omega
      rw [h0]
      simp only [RepV]
      refine ⟨_, _, rfl, fun hq => ?_⟩
      simp at hq
      exact hk1 0 hq
theorem yv_len (hT : TOk P T) (hr : RepT E k t a) {o : Oper} {args : Array Operand} {ats : Array TypeId} (ho : o.op = .call { callee := .builtin .len, args, argTypes := ats })
  (h : vop T t H (.call { callee := .builtin .len, args, argTypes := ats }) = some r) : Yv P E a o r := by
 simp only [vop] at h
 split at h
 case h_2 => cases h
 case h_1 x ty e1 e2 =>
  obtain ⟨x', hx', rfl⟩ : ∃ x', args = #[x'] ∧ ev t x' = x := by
   obtain ⟨l⟩ := args
   match l, e1 with
   | [x'], e1 => simp at e1; exact ⟨x', rfl, e1⟩
  obtain rfl : ats = #[ty] := by
   obtain ⟨l⟩ := ats; simp at e2; rw [e2]
  subst hx'
  have hx := hr.ev x'
  split at h
  case h_2 => cases h
  case h_1 i hi =>
   have row := hT.row hi
   have key : ∀ z, (Builtin.len_ #[ty] o.type #[a.eval x']).run P E.w = .ok z E.w → (execOp a.eval o).run P E.w = .ok (.value z) E.w := by
    intro z hz
    unfold execOp; rw [ho]
    simp [resolve, invoke, builtin, hz]
   split at h
   case h_7 => cases h
   case h_1 s hk e => cases h; rw [e] at hx; refine ⟨_, key _ ?_, rep_sc _⟩; simp [Builtin.len_, RepV.sc_inv hx, run_under (row.str hk)]; rfl
   case h_2 e' i' o' n c hk e => cases h; rw [e] at hx; simp only [RepV] at hx; obtain ⟨_, b, cap, ex, _⟩ := hx; refine ⟨_, key _ ?_, rep_sc _⟩; simp [Builtin.len_, ex, run_under (row.slice hk)]; rfl
   case h_3 e' cs n full hk e => cases h; rw [e] at hx; obtain ⟨b, cap, ex, _⟩ := ssl_shape hx; refine ⟨_, key _ ?_, rep_sc _⟩; simp [Builtin.len_, ex, run_under (row.slice hk)]; rfl
   case h_4 e' full hk e => cases h; rw [e] at hx; simp only [RepV] at hx; obtain ⟨b, cap, ex, _⟩ := hx; refine ⟨_, key _ ?_, rep_sc _⟩; simp [Builtin.len_, ex, run_under (row.slice hk)]; rfl
   case h_5 e' hk e => cases h; rw [e] at hx; refine ⟨_, key _ ?_, rep_sc _⟩; simp [Builtin.len_, RepV.sc_inv hx, run_under (row.slice hk)]; rfl
   case h_6 n e' hk => cases h; refine ⟨_, key _ ?_, rep_sc _⟩; simp [Builtin.len_, run_under (row.arr hk)]; rfl
theorem two_args {args : Array Operand} {x y : AV} (e : args.toList.map (ev t) = [x, y]) : ∃ p q, args = #[p, q] ∧ ev t p = x ∧ ev t q = y := by
 obtain ⟨l⟩ := args
 match l, e with
 | [p, q], e => simp at e; exact ⟨p, q, rfl, e⟩
theorem yv_min (hr : RepT E k t a) {o : Oper} {args : Array Operand} {ats : Array TypeId} (ho : o.op = .call { callee := .builtin .min, args, argTypes := ats })
  (h : vop T t H (.call { callee := .builtin .min, args, argTypes := ats }) = some r) : Yv P E a o r := by
 simp only [vop] at h
 split at h
 case h_2 => cases h
 case h_1 q x q' y e =>
  cases h
  obtain ⟨p, p', rfl, e1, e2⟩ := two_args e
  have h1 := hr.ev p
  have h2 := hr.ev p'
  rw [e1] at h1; rw [e2] at h2
  refine ⟨_, ?_, rep_sc _⟩
  unfold execOp; rw [ho]
  simp [resolve, invoke, builtin, RepV.sc_inv h1, RepV.sc_inv h2, Builtin.min_, Builtin.min2]
theorem yv_max (hr : RepT E k t a) {o : Oper} {args : Array Operand} {ats : Array TypeId} (ho : o.op = .call { callee := .builtin .max, args, argTypes := ats })
  (h : vop T t H (.call { callee := .builtin .max, args, argTypes := ats }) = some r) : Yv P E a o r := by
 simp only [vop] at h
 split at h
 case h_2 => cases h
 case h_1 q x q' y e =>
  cases h
  obtain ⟨p, p', rfl, e1, e2⟩ := two_args e
  have h1 := hr.ev p
  have h2 := hr.ev p'
  rw [e1] at h1; rw [e2] at h2
  refine ⟨_, ?_, rep_sc _⟩
  unfold execOp; rw [ho]
  simp [resolve, invoke, builtin, RepV.sc_inv h1, RepV.sc_inv h2, Builtin.max_, Builtin.max2]
end
def Ym (P : Program) (E : Env) (a : Act) (o : Oper) (r : AV) (H' : Nat → Option Blk) (n' : Nat) : Prop :=
 ∃ E' z, ((execOp a.eval o).run P E.w = .ok (.value z) E'.w ∨ ((execOp a.eval o).run P E.w = .ok .skip E'.w ∧ z = undef)) ∧ Ext E E' ∧ RepH P E' H' ∧ (∀ b, E'.X b → b < E'.w.heap.size) ∧ E'.N = n' ∧ RepV E' r z
def pushW (w : World) (o : Obj) : World := { w with heap := w.heap.push o }
def newEnv (E : Env) (cells : Array Value) (ty z : Nat) : Env := ⟨E.X, E.N + 1, upd E.m E.N (some ⟨E.w.heap.size, cells.size, z⟩), pushW E.w (.cells cells ty)⟩
section
variable {P : Program} {T : Tab} {E : Env} {H : Nat → Option Blk} {k : Nat} {t : Nat → AV} {a : Act} {r : AV}
theorem push_old {w : World} {o : Obj} {b : Nat} (h : b < w.heap.size) : (pushW w o).heap[b]? = w.heap[b]? := by
 simp only [pushW]; rw [Array.getElem?_push, if_neg (by omega)]
theorem push_new {w : World} {o : Obj} : (pushW w o).heap[w.heap.size]? = some o := by show (w.heap.push o)[w.heap.size]? = some o; exact Array.getElem?_push_size
theorem newEnv_ext (hH : RepH P E H) {cells : Array Value} {ty z : Nat} : Ext E (newEnv E cells ty z) where
 X := rfl
 N := Nat.le_succ _
 os := rfl
 tape := rfl
 output := rfl
 size := by simp [newEnv, pushW]
 keep b hb _ := push_old hb
 old i l hi hl := by simp only [newEnv] at hl; rwa [upd_ne _ _ (by omega)] at hl
 new i l hl := by
  simp only [newEnv] at hl
  by_cases e : i = E.N
  ·subst e; rw [upd_same] at hl; cases hl; exact .inl (Nat.le_refl _)
  ·rw [upd_ne _ _ e] at hl; exact .inr ⟨i, l, hl, rfl⟩
 lp b r hb := ⟨r, by rw [← hb]; exact push_old (lt_of_block hb)⟩
theorem RepB.ext {F : Env} (h : Ext E F) {l : Loc} {blk : Blk} (hb : F.w.heap[l.b]? = E.w.heap[l.b]?) (hr : RepB P E l blk) : RepB P F l blk := by
 cases blk with
 | cells cs ty =>
  obtain ⟨cells, fz, info, h1, h2, h3, h4, h5, h6⟩ := hr
  exact ⟨cells, fz, info, by rw [hb, h1], RepL.ext h _ _ h2, h3, h4, h5, h6⟩
 | map es c =>
  obtain ⟨ents, h1, h2, h3, h4⟩ := hr
  exact ⟨ents, by rw [hb, h1], h2, h3, RepL.ext h _ _ h4⟩
 | loop t k ps asg bod st =>
  obtain ⟨r, h1, h2, h3, h4, h5, h6, h7⟩ := hr
  exact ⟨r, by rw [hb, h1], h2, h3, h4, h5, h6, fun i => RepV.ext h _ _ (h7 i)⟩
 | iter s p => exact hb.trans hr
theorem newEnv_rep (hH : RepH P E H) (hX : ∀ b, E.X b → b < E.w.heap.size) {cells : Array Value} {ty : Nat} {info : TypeInfo} (hi : P.info? ty = some info) {cs : List AV} (hc : RepL E cs cells.toList) :
  RepH P (newEnv E cells ty info.size) (upd H E.N (some (.cells cs ty))) ∧ (∀ b, (newEnv E cells ty info.size).X b → b < (newEnv E cells ty info.size).w.heap.size) := by
 have hx := newEnv_ext hH (cells := cells) (ty := ty) (z := info.size)
 refine ⟨⟨fun i blk hb => ?_, fun i l hl => ?_, fun i j l l' hl hl' e => ?_, hH.glob.ext hx⟩, fun b hb => Nat.lt_of_lt_of_le (hX b hb) hx.size⟩
 ·by_cases e : i = E.N
  ·subst e
   rw [upd_same] at hb; cases hb
   refine ⟨⟨E.w.heap.size, cells.size, info.size⟩, by simp [newEnv, upd_same], cells, (0, 0), info, push_new, RepL.ext hx _ _ hc, rfl, .inl rfl, hi, rfl⟩
  ·rw [upd_ne _ _ e] at hb
   obtain ⟨l, hl, hr⟩ := hH.own i blk hb
   exact ⟨l, by simp only [newEnv]; rw [upd_ne _ _ e]; exact hl, RepB.ext hx (push_old (hH.lt i l hl).2.1) hr⟩
 ·simp only [newEnv] at hl ⊢
  by_cases e : i = E.N
  ·subst e
   rw [upd_same] at hl; cases hl
   exact ⟨Nat.lt_succ_self _, by simp [pushW], fun h => Nat.lt_irrefl _ (hX _ h), _, upd_same _ _ _⟩
  ·rw [upd_ne _ _ e] at hl
   obtain ⟨h1, h2, h3, h4⟩ := hH.lt i l hl
   exact ⟨Nat.lt_succ_of_lt h1, by simp [pushW]; omega, h3, by rw [upd_ne _ _ e]; exact h4⟩
 ·simp only [newEnv] at hl hl'
  by_cases e1 : i = E.N <;> by_cases e2 : j = E.N
  ·omega
  ·subst e1
   rw [upd_same] at hl; cases hl
   rw [upd_ne _ _ e2] at hl'
   have := (hH.lt j l' hl').2.1
   simp only at e; omega
  ·subst e2
   rw [upd_same] at hl'; cases hl'
   rw [upd_ne _ _ e1] at hl
   have := (hH.lt i l hl).2.1
   simp only at e; omega
  ·rw [upd_ne _ _ e1] at hl
   rw [upd_ne _ _ e2] at hl'
   exact hH.inj i j l l' hl hl' e
theorem ym_new (hH : RepH P E H) (hX : ∀ b, E.X b → b < E.w.heap.size) {o : Oper} {cells : Array Value} {ty : Nat} {info : TypeInfo} (hi : P.info? ty = some info) {cs : List AV} (hc : RepL E cs cells.toList) {z : Value}
  (hr : (execOp a.eval o).run P E.w = .ok (.value z) (pushW E.w (.cells cells ty))) (hz : RepV (newEnv E cells ty info.size) r z) : Ym P E a o r (upd H E.N (some (.cells cs ty))) (E.N + 1) := by
 obtain ⟨h1, h2⟩ := newEnv_rep hH hX hi hc
 exact ⟨newEnv E cells ty info.size, z, .inl hr, newEnv_ext hH, h1, h2, rfl, hz⟩
theorem own_new {cells : Array Value} {ty z : Nat} : RepV (newEnv E cells ty z) (.own E.N 0) (.pointer (some ⟨E.w.heap.size, 0, none⟩)) := by
 simp only [RepV]
 exact ⟨Nat.lt_succ_self _, _, rfl, fun l hl => by simp only [newEnv] at hl; rw [upd_same] at hl; cases hl; rfl⟩
theorem ym_alloc (hT : TOk P T) (hH : RepH P E H) (hX : ∀ b, E.X b → b < E.w.heap.size) {o : Oper} {ty : TypeId} (ho : o.op = .alloc ty) {H' : Nat → Option Blk} {n' : Nat} (h : mop T t H E.N (.alloc ty) = some (r, H', n')) : Ym P E a o r H' n' := by
 simp only [mop] at h
 split at h
 case h_2 => cases h
 case h_1 i hi =>
  cases h
  obtain ⟨info, z, h1, h2, h3, h4, h5⟩ := (hT.row hi).info
  refine ym_new hH hX (cells := z.cells) h1 (by rw [h5]; exact rep_scs _) ?_ own_new
  unfold execOp; rw [ho]
  simp [Instr.alloc, run_zero h1 h4, newVar, newRow, pushW]
theorem ym_box (hT : TOk P T) (hH : RepH P E H) (hX : ∀ b, E.X b → b < E.w.heap.size) (hr : RepT E k t a) {o : Oper} {ty : TypeId} {x : Operand} (ho : o.op = .box ty x) {H' : Nat → Option Blk} {n' : Nat} (h : mop T t H E.N (.box ty x) = some (r, H', n')) : Ym P E a o r H' n' := by
 simp only [mop] at h
 split at h
 case isFalse => cases h
 case isTrue hp =>
  cases h
  obtain ⟨hp, hty⟩ := hp
  cases ht : T ty with
  | none => rw [ht] at hty; cases hty
  | some i =>
   obtain ⟨info, z, h1, h2, h3, h4, h5⟩ := (hT.row ht).info
   refine ym_new hH hX (cells := (a.eval x).cells) h1 (RepL.cellsOf (hr.ev x) hp).1 ?_ own_new
   unfold execOp; rw [ho]
   simp [Instr.box, newVar, newRow, pushW]
theorem zeros_eq (zero : Array Value) (n : Nat) (h0 : 0 < zero.size) : ((Array.range (n * zero.size)).map (fun i => zero[i % zero.size]!)).toList = (List.replicate n zero.toList).flatten := by
 apply List.ext_getElem?
 intro i
 simp only [Array.toList_map, Array.toList_range, List.getElem?_map]
 by_cases hi : i < n * zero.size
 ·rw [List.getElem?_range hi]
  simp only [Option.map_some]
  have hm : i % zero.size < zero.size := Nat.mod_lt _ h0
  rw [getElem!_pos zero _ hm]
  induction n generalizing i with
  | zero => simp at hi
  | succ n ih =>
   rw [List.replicate_succ, List.flatten_cons]
   by_cases hlt : i < zero.size
   ·rw [List.getElem?_append_left (by simpa using hlt)]
    simp [Nat.mod_eq_of_lt hlt, hlt]
   ·rw [List.getElem?_append_right (by simpa using hlt)]
    simp only [Array.length_toList]
    have hmod : (i - zero.size) % zero.size = i % zero.size := by
     rw [← Nat.mod_eq_sub_mod (by omega)]
    have := ih (i := i - zero.size) (by rw [Nat.succ_mul] at hi; omega) (Nat.mod_lt _ h0)
    rw [← this]
    simp only [hmod]
 ·rw [List.getElem?_eq_none (by simpa using hi), List.getElem?_eq_none (by simp; omega)]
  rfl
theorem ym_makeSlice (hT : TOk P T) (hH : RepH P E H) (hX : ∀ b, E.X b → b < E.w.heap.size) (hr : RepT E k t a) {o : Oper} {ty : TypeId} {x y : Operand} (ho : o.op = .makeSlice ty x y) {H' : Nat → Option Blk} {n' : Nat} (h : mop T t H E.N (.makeSlice ty x y) = some (r, H', n')) : Ym P E a o r H' n' := by
 simp only [mop] at h
 split at h
 case h_2 => cases h
 case h_1 i hi =>
  have h1 := hr.ev x
  have h2 := hr.ev y
  split at h
  case h_2 => cases h
  case h_1 e l c hk e1 e2 =>
   rw [e1] at h1; rw [e2] at h2
   have e1' := RepV.sc_inv h1
   have e2' := RepV.sc_inv h2
   split at h
   case h_2 => cases h
   case h_1 ie he =>
    split at h
    case isFalse => cases h
    case isTrue hc =>
     cases h
     obtain ⟨hl0, hlc, hcb, hcm, hz0, hzl⟩ := hc
     obtain ⟨info, z, g1, g2, g3, g4, g5⟩ := (hT.row he).info
     have hzs : z.cells.size = ie.size := by rw [← hzl, ← g5]; simp
     have hz0' : 0 < z.cells.size := by omega
     refine ym_new hH hX (cells := (Array.range (c.toNat * z.cells.size)).map (fun i => z.cells[i % z.cells.size]!)) g1 (by rw [zeros_eq _ _ hz0', g5]; exact rep_scs _) (z := .slice (some ⟨E.w.heap.size, 0, none⟩) l.toNat c.toNat) ?_ ?_
     ·unfold execOp; rw [ho]
      have hb : roomMax = 2 ^ 46 := rfl
      have w1 : IntKind.i64.wrap l = l := by simp [IntKind.wrap, IntKind.bits, IntKind.signed]; omega
      have w2 : IntKind.i64.wrap c = c := by simp [IntKind.wrap, IntKind.bits, IntKind.signed]; omega
      have hbb : ¬ ((info.bytes : Int) * c > 2 ^ 48) := by
       rw [g3, Int.mul_comm]
       omega
      have hneg : (decide (c < 0) || decide ((info.bytes : Int) * c > 2 ^ 48) || decide (l < 0) || decide (l > c)) = false := by
       simp only [Bool.or_eq_false_iff, decide_eq_false_iff_not]
       exact ⟨⟨⟨by omega, hbb⟩, by omega⟩, by omega⟩
      simp only [e1', e2', Instr.makeSlice, Sem.run_bind, run_under ((hT.row hi).slice hk), Result.andThen_ok, asInt, asIntOf, Sem.run_pure, run_info g1, w1, w2]
      rw [hneg]
      simp only [Bool.false_eq_true, if_false, Sem.run_bind, run_askRoom, Result.andThen_ok, run_size g1, g2]
      by_cases hn : c.toNat * ie.size = 0
      ·rw [if_pos hn]
       simp only [Sem.run_bind, Sem.run_pure, Result.andThen_ok, newRow, run_newObj, hzs, hn]
       simp [pushW, show Array.range 0 = #[] from rfl]
      ·rw [if_neg hn]
       simp only [Sem.run_bind, Sem.run_pure, Result.andThen_ok, run_zero g1 g4, newRow, run_newObj, hzs]
       simp [pushW]
     ·simp only [RepV]
      exact ⟨Nat.lt_succ_self _, _, c.toNat, rfl, by omega, fun q hq => by simpa using hq, fun l' hl' => by
       simp only [newEnv] at hl'; rw [upd_same] at hl'; cases hl'; exact ⟨rfl, fun hn => by cases hn⟩⟩
theorem ym_buildSlice (hT : TOk P T) (hH : RepH P E H) (hX : ∀ b, E.X b → b < E.w.heap.size) (hr : RepT E k t a) {o : Oper} {ty : TypeId} {len : Nat} {parts : Array (Nat × Operand)} (ho : o.op = .buildSlice ty len parts) {H' : Nat → Option Blk} {n' : Nat} (h : mop T t H E.N (.buildSlice ty len parts) = some (r, H', n')) : Ym P E a o r H' n' := by
 simp only [mop] at h
 obtain ⟨hpl, hpr⟩ := parts_rep hr parts
 split at h
 case h_2 => cases h
 case h_1 i hi =>
  split at h
  case h_2 => cases h
  case h_1 e hk =>
   split at h
   case h_2 => cases h
   case h_1 ie he =>
    split at h
    case isFalse => cases h
    case isTrue hc =>
     obtain ⟨hsz, hz0, hzl⟩ := hc
     obtain ⟨info, z, g1, g2, g3, g4, g5⟩ := (hT.row he).info
     have hzs : z.cells.size = ie.size := by rw [← hzl, ← g5]; simp
     have hz0' : 0 < z.cells.size := by omega
     split at h
     case h_2 => cases h
     case h_1 cs hf =>
      cases h
      have hze := zeros_eq z.cells len hz0'
      obtain ⟨out, ho1, ho2, ho3⟩ := run_fill (cells := (Array.range (len * z.cells.size)).map (fun i => z.cells[i % z.cells.size]!)) (vs := (parts.map fun (i, x) => (i, a.eval x)).toList) hpl hpr
       (by rw [hze, g5]; exact rep_scs _) (by rw [← Array.length_toList, hze, g5]; simp) hf
      refine ym_new hH hX (cells := out) g1 ho2 (z := .slice (some ⟨E.w.heap.size, 0, none⟩) len len) ?_ ?_
      ·unfold execOp; rw [ho]
       simp only [Instr.buildSlice, Sem.run_bind, run_under ((hT.row hi).slice hk), Result.andThen_ok, run_size g1, g2]
       rw [if_neg (by omega)]
       by_cases hn : len * ie.size = 0
       ·rw [if_pos hn]
        simp only [Sem.run_bind, Sem.run_pure, Result.andThen_ok]
        rw [hzs, hn] at ho1
        rw [hn]
        simp [show Array.range 0 = #[] from rfl] at ho1 ⊢
        rw [ho1]
        simp [newRow, pushW]
       ·rw [if_neg hn]
        simp only [Sem.run_bind, Sem.run_pure, Result.andThen_ok, run_zero g1 g4]
        rw [hzs] at ho1
        simp at ho1 ⊢
        rw [hzs, ho1]
        simp [newRow, pushW]
      ·simp only [RepV]
       exact ⟨Nat.lt_succ_self _, _, len, rfl, Nat.le_refl _, fun q hq => by simpa using hq, fun l' hl' => by
        simp only [newEnv] at hl'; rw [upd_same] at hl'; cases hl'; exact ⟨rfl, fun hn => by cases hn⟩⟩
structure Wrote (b : Nat) (cells' : Array Value) (w w' : World) : Prop where
 os : w'.os = w.os
 tape : w'.tape = w.tape
 output : w'.output = w.output
 size : w'.heap.size = w.heap.size
 block : ∀ ty fz cells, w.heap[b]? = some (.cells cells ty fz) → w'.heap[b]? = some (.cells cells' ty fz)
 other : ∀ c, c ≠ b → w'.heap[c]? = w.heap[c]?
theorem run_storeCells : ∀ (vs : List Value) {w : World} {b o i ty : Nat} {fz : Nat × Nat} {cells : Array Value}, w.heap[b]? = some (.cells cells ty fz) → o + i + vs.length ≤ cells.size →
  (fz.1 = fz.2 ∨ cells.size ≤ fz.1) → (∀ v ∈ vs, v.oneCell' = true) →
  ∃ w' cells', (storeCells ⟨b, o, none⟩ vs i).run P w = .ok () w' ∧ Wrote b cells' w w' ∧ cells'.toList = cells.toList.take (o + i) ++ vs ++ cells.toList.drop (o + i + vs.length)
 | [], w, b, o, i, ty, fz, cells, hb, hn, hf, hv => ⟨w, cells, rfl, ⟨rfl, rfl, rfl, rfl, fun ty fz c h => by rw [hb] at h ⊢; cases h; rfl, fun _ _ => rfl⟩, by simp⟩
 | v :: vs, w, b, o, i, ty, fz, cells, hb, hn, hf, hv => by
  simp only [List.length_cons] at hn
  have hc : w.cell? ⟨b, o + i, none⟩ = some cells[o + i] := by rw [cell_at hb]; simp [show o + i < cells.size by omega]
  have hfr : w.frozen? ⟨b, o + i, none⟩ = false := by
   simp only [World.frozen?, hb]
   simp only [Bool.and_eq_false_iff, decide_eq_false_iff_not]
   omega
  have hst : (store ⟨b, o + i, none⟩ v).run P w = .ok () (w.setCell ⟨b, o + i, none⟩ v) := by
   rw [run_store P w _ v .plain (hv v (by simp)), hc, hfr]; rfl
  have hw : Wrote b (cells.setIfInBounds (o + i) v) w (w.setCell ⟨b, o + i, none⟩ v) := by
   refine ⟨rfl, rfl, rfl, by simp [World.setCell], fun ty fz c h => ?_, fun c hcb => ?_⟩
   ·rw [hb] at h; cases h
    simp [World.setCell, Array.getElem?_modify, hb]
   ·simp only [World.setCell, Array.getElem?_modify]
    rw [if_neg (by omega)]
  have hb' := hw.block _ _ _ hb
  obtain ⟨w', cells', h1, h2, h3⟩ := run_storeCells vs (i := i + 1) (o := o) hb' (by simp; omega) (by simpa using hf) (fun u hu => hv u (by simp [hu]))
  refine ⟨w', cells', ?_, ⟨h2.os.trans hw.os, h2.tape.trans hw.tape, h2.output.trans hw.output, h2.size.trans hw.size, fun ty fz c h => h2.block _ _ _ (hw.block _ _ _ h), fun c hcb => (h2.other c hcb).trans (hw.other c hcb)⟩, ?_⟩
  ·simp only [storeCells, Sem.run_bind]
   rw [addr_add, hst, Result.andThen_ok, h1]
  ·rw [h3]
   simp only [Array.toList_setIfInBounds, List.length_cons]
   rw [show o + (i + 1) = o + i + 1 by omega, show o + i + (vs.length + 1) = o + i + 1 + vs.length by omega]
   rw [List.drop_set_of_lt (by omega)]
   rw [List.take_set, List.take_succ_eq_append_getElem (by simp; omega), List.set_append_right _ _ (by simp; omega)]
   simp
   rw [show o + i - min (o + i) cells.size = 0 by omega]
   simp
theorem wrote_env (hH : RepH P E H) (hX : ∀ b, E.X b → b < E.w.heap.size) {i : Nat} {cs cs' : List AV} {ty : Nat} (hi : H i = some (.cells cs ty)) {l : Loc} (hl : E.m i = some l) {cells' : Array Value} {w' : World} (hw : Wrote l.b cells' E.w w')
  (hsz : cells'.size = l.room) (hc : RepL E cs' cells'.toList) :
  Ext E { E with w := w' } ∧ RepH P { E with w := w' } (upd H i (some (.cells cs' ty))) ∧ (∀ b, E.X b → b < w'.heap.size) := by
 have hx : Ext E { E with w := w' } := ⟨rfl, Nat.le_refl _, hw.os, hw.tape, hw.output, by simp [hw.size], fun b hb hm => hw.other b (fun e => hm i l hl e.symm), fun _ _ _ h => h, fun j l' h => .inr ⟨j, l', h, rfl⟩, fun b r hb => by
  have hne : b ≠ l.b := by
   rintro rfl
   obtain ⟨l', hl', cells, fz, info, h1, _⟩ := hH.own i _ hi
   rw [hl] at hl'; cases hl'
   rw [hb] at h1; cases h1
  exact ⟨r, (hw.other b hne).trans hb⟩⟩
 refine ⟨hx, ⟨fun j blk hb => ?_, fun j l' hl' => ?_, hH.inj, hH.glob.ext hx⟩, fun b hb => by rw [hw.size]; exact hX b hb⟩
 ·by_cases e : j = i
  ·subst e
   rw [upd_same] at hb; cases hb
   obtain ⟨l', hl', cells, fz, info, h1, h2, h3, h4, h5, h6⟩ := hH.own j _ hi
   rw [hl] at hl'; cases hl'
   exact ⟨l, hl, cells', fz, info, hw.block _ _ _ h1, RepL.ext hx _ _ hc, hsz, by rcases h4 with h4 | h4; exact .inl h4; exact .inr (by omega), h5, h6⟩
  ·rw [upd_ne _ _ e] at hb
   obtain ⟨l', hl', hr⟩ := hH.own j blk hb
   exact ⟨l', hl', RepB.ext hx (hw.other _ fun e' => e (hH.inj j i l' l hl' hl e')) hr⟩
 ·obtain ⟨h1, h2, h3, blk, h4⟩ := hH.lt j l' hl'
  refine ⟨h1, by rw [hw.size]; exact h2, h3, ?_⟩
  by_cases e : j = i
  ·subst e; exact ⟨_, upd_same _ _ _⟩
  ·exact ⟨blk, by rw [upd_ne _ _ e]; exact h4⟩
theorem oneCell_of {E : Env} : ∀ {as' : List AV} {vs : List Value}, RepL E as' vs → as'.all cellOk = true → ∀ v ∈ vs.take as'.length, v.oneCell' = true
 | [], _, _, _ => by simp
 | _ :: _, [], _, _ => by simp
 | a :: as', v :: vs, h, hk => by
  simp only [RepL] at h
  simp only [List.all_cons, Bool.and_eq_true] at hk
  intro u hu
  simp only [List.length_cons, List.take_succ_cons, List.mem_cons] at hu
  rcases hu with rfl | hu
  ·have hr := h.1
   have hk := hk.1
   cases a with
   | sc v => rw [RepV.sc_inv hr]; exact hk
   | own i o => simp only [RepV] at hr; obtain ⟨_, b, rfl, _⟩ := hr; rfl
   | osl i o n c => simp only [RepV] at hr; obtain ⟨_, b, cap, rfl, _⟩ := hr; rfl
   | sh cs => simp only [RepV] at hr; obtain ⟨b, o, c, ty, fz, rfl, _⟩ := hr; rfl
   | ssl cs n f => obtain ⟨b, cap, rfl, _⟩ := ssl_shape hr; rfl
   | esl f => simp only [RepV] at hr; obtain ⟨b, cap, rfl, _⟩ := hr; rfl
   | omap i => simp only [RepV] at hr; obtain ⟨_, b, rfl, _⟩ := hr; rfl
   | yld i => simp only [RepV] at hr; obtain ⟨_, b, rfl, _⟩ := hr; rfl
   | fn f x y => simp only [RepV] at hr; obtain ⟨b, c, rfl, _⟩ := hr; rfl
   | agg cs => simp [cellOk] at hk
   | tup cs => simp [cellOk] at hk
   | any => simp [cellOk] at hk
  ·exact oneCell_of h.2 hk.2 u hu
theorem ym_store (hT : TOk P T) (hH : RepH P E H) (hX : ∀ b, E.X b → b < E.w.heap.size) (hr : RepT E k t a) {o : Oper} {ty : TypeId} {x y : Operand} (ho : o.op = .store ty x y) {H' : Nat → Option Blk} {n' : Nat} (h : mop T t H E.N (.store ty x y) = some (r, H', n')) : Ym P E a o r H' n' := by
 simp only [mop] at h
 have hx := hr.ev x
 have hy := hr.ev y
 split at h
 case h_2 => cases h
 case h_1 z i o' hz e =>
  split at h
  case h_2 => cases h
  case h_1 cs ety hi =>
   split at h
   case isFalse => cases h
   case isTrue hc =>
    cases h
    obtain ⟨hlen, hle, hall⟩ := hc
    unfold sizeT at hz
    cases ht : T ty with
    | none => rw [ht] at hz; cases hz
    | some it =>
     rw [ht] at hz; simp at hz
     rw [e] at hx
     obtain ⟨b, cells, fz, ex, hb, hl, ⟨l, hm, hlb, hsz⟩, hfz⟩ := own_cells hH hi hx
     have hpo : partOk (ev t y) = true := by
      cases hq : ev t y <;> rw [hq] at hall <;> simp [cellsOf, partOk, cellOk] at hall ⊢
      exact hall
     obtain ⟨hcr, hcl⟩ := RepL.cellsOf hy hpo
     have hll := hl.length
     simp only [Array.length_toList] at hll
     have hsz2 : (a.eval y).cells.toList.length = (a.eval y).cells.size := Array.length_toList
     have hone := oneCell_of hcr hall
     rw [hcl, List.take_length] at hone
     obtain ⟨w', cells', h1, h2, h3⟩ := run_storeCells (P := P) (a.eval y).cells.toList (i := 0) (o := o') hb (by omega) hfz hone
     subst hlb
     obtain ⟨q1, q2, q3⟩ := wrote_env (cs' := splice cs o' (cellsOf (ev t y))) hH hX hi hm h2 (by rw [← Array.length_toList, h3]; simp; omega) (by
      rw [h3]
      unfold splice
      rw [← hcl]
      exact RepL.append (RepL.append (hl.take _) (by simp; omega) hcr) (by simp; omega) (hl.drop _))
     refine ⟨{ E with w := w' }, undef, .inr ⟨?_, rfl⟩, q1, q2, q3, rfl, ?_⟩
     ·unfold execOp; rw [ho]
      simp only [ex, Instr.storeAt, Instr.sureAddr, Sem.run_bind, Sem.run_pure, Result.andThen_ok, storeVar, (hT.row ht).size]
      rw [if_neg (by simp at hcl; omega), h1]
      rfl
     ·simp [RepV, RepL, undef]
end
end Go.Proofs.YtappiofmkoelnaaGreatDoorW.Ah
end
