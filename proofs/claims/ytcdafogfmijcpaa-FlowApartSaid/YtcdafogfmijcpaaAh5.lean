/-
  Operations that leave the memory as it is: each yields in the model what the evaluator says.
-/
import Derived.Test.YtcdafogfmijcpaaAh4
namespace Go.Proofs.YtcdafogfmijcpaaW.Ah
set_option linter.unusedVariables false
set_option linter.unusedSimpArgs false

/-- An operation yields a value and leaves the world. -/
def Yv (P : Program) (E : Env) (a : Act) (o : Oper) (r : AV) : Prop := ∃ z, (execOp a.eval o).run P E.w = .ok (.value z) E.w ∧ RepV E r z

section
variable {P : Program} {T : Tab} {E : Env} {H : Nat → Option Blk} {k : Nat} {t : Nat → AV} {a : Act} {r : AV}

theorem own_cells (hH : RepH P E H) {i o : Nat} {cs : List AV} {ty : Nat} (hi : H i = some (.cells cs ty)) {u : Value} (hu : RepV E (.own i o) u) :
    ∃ b cells fz, u = .pointer (some ⟨b, o, none⟩) ∧ E.w.heap[b]? = some (.cells cells ty fz) ∧ RepL E cs cells.toList ∧ (∃ l, E.m i = some l ∧ l.b = b ∧ cells.size = l.room) ∧ (fz.1 = fz.2 ∨ cells.size ≤ fz.1) := by
  obtain ⟨l, hm, cells, fz, info, h1, h2, h3, h4, h5, h6⟩ := hH.own i _ hi
  simp only [RepV] at hu
  obtain ⟨_, x, rfl, hx⟩ := hu
  rw [hx l hm]
  exact ⟨l.b, cells, fz, rfl, h1, h2, ⟨l, hm, rfl, h3⟩, h4⟩

theorem yv_move (hr : RepT E k t a) {o : Oper} {x : Operand} (ho : o.op = .move x ∨ o.op = .assign x) : Yv P E a o (ev t x) := by
  refine ⟨a.eval x, ?_, hr.ev x⟩
  unfold execOp
  rcases ho with ho | ho <;> rw [ho] <;> rfl

theorem yv_pick (hr : RepT E k t a) {o : Oper} {c x y : Operand} (ho : o.op = .pick c x y) {b : Bool} (hc : ev t c = .sc (.bool b)) : Yv P E a o (bif b then ev t x else ev t y) := by
  have h := hr.ev c
  rw [hc] at h
  have e := RepV.sc_inv h
  unfold Yv execOp
  rw [ho]
  simp only [e]
  cases b
  · exact ⟨a.eval y, rfl, hr.ev y⟩
  · exact ⟨a.eval x, rfl, hr.ev x⟩

theorem yv_un (hr : RepT E k t a) {o : Oper} {op : UnOp} {ty : TypeId} {x : Operand} (ho : o.op = .unOp op ty x) (h : unAV op (ev t x) = some r) : Yv P E a o r := by
  obtain ⟨z, h1, h2⟩ := run_unAV (P := P) (hr.ev x) h E.w
  exact ⟨z, by unfold execOp; rw [ho]; simp [h1], h2⟩

theorem yv_bin (hT : TOk P T) (hr : RepT E k t a) {o : Oper} {op : BinOp} {ty ty' : TypeId} {x y : Operand} (ho : o.op = .binOp op ty x y ty') (h : binAV T op ty (ev t x) (ev t y) = some r) : Yv P E a o r := by
  obtain ⟨z, h1, h2⟩ := run_binAV hT (hr.ev x) (hr.ev y) h x y E.w
  exact ⟨z, by
    unfold execOp; rw [ho]
    show Sem.run P (_ >>= _) E.w = _
    rw [Sem.run_bind, h1]; rfl, h2⟩

theorem yv_conv (hT : TOk P T) (hr : RepT E k t a) {o : Oper} {src dst : TypeId} {x : Operand} (ho : o.op = .convert src dst x) (h : convAV T src dst (ev t x) = some r) : Yv P E a o r := by
  obtain ⟨z, h1, h2⟩ := run_convAV hT (hr.ev x) h
  exact ⟨z, by unfold execOp; rw [ho]; simp [h1], h2⟩

theorem yv_nil (hr : RepT E k t a) {o : Oper} {x : Operand} (ho : o.op = .nilCheck x) (h : vop T t H (.nilCheck x) = some r) : Yv P E a o r := by
  simp only [vop] at h
  have hx := hr.ev x
  unfold Yv execOp
  rw [ho]
  split at h
  case h_1 e => cases h; rw [e] at hx; have h' := hx; simp only [RepV] at hx; obtain ⟨_, p, e', _⟩ := hx; simp only [e'] at h' ⊢; exact ⟨_, rfl, h'⟩
  case h_2 e => cases h; rw [e] at hx; have h' := hx; simp only [RepV] at hx; obtain ⟨b, o, c, ty, fz, e', _⟩ := hx; simp only [e'] at h' ⊢; exact ⟨_, rfl, h'⟩
  case h_3 e => cases h; rw [e] at hx; have h' := hx; simp only [RepV] at hx; obtain ⟨p, q, e', _⟩ := hx; simp only [e'] at h' ⊢; exact ⟨_, rfl, h'⟩
  case h_4 => cases h

theorem run_fieldPlace (hT : TOk P T) {b o : Nat} {f : Field} {z : Nat} (h : sizeT T f.type = some (z + 1)) (w : World) : (fieldPlace ⟨b, o, none⟩ f).run P w = .ok ⟨b, o + f.offset, none⟩ w := by
  unfold sizeT at h
  cases ht : T f.type with
  | none => rw [ht] at h; cases h
  | some i =>
    rw [ht] at h
    simp at h
    have := (hT.row ht).size w
    simp only [fieldPlace, Sem.run_bind, this, Result.andThen_ok]
    rw [if_neg (by omega), addr_add]; rfl

theorem yv_fieldAddr (hT : TOk P T) (hr : RepT E k t a) {o : Oper} {s : TypeId} {x : Operand} {f : Nat} (ho : o.op = .fieldAddr s x f) (h : vop T t H (.fieldAddr s x f) = some r) : Yv P E a o r := by
  simp only [vop] at h
  split at h
  case h_2 => cases h
  case h_1 i hi =>
    split at h
    case h_2 => cases h
    case h_1 fs hk =>
      obtain ⟨fs', hu, hfs⟩ := (hT.row hi).struct hk
      split at h
      case h_2 => cases h
      case h_1 off ft hf =>
        split at h
        case h_2 => cases h
        case h_1 z hz =>
          rw [← hfs] at hf
          simp only [List.getElem?_map, Option.map_eq_some_iff, Prod.mk.injEq] at hf
          obtain ⟨g, hg, rfl, rfl⟩ := hf
          rw [Array.getElem?_toList] at hg
          have hx := hr.ev x
          have key : ∀ b p, a.eval x = .pointer (some ⟨b, p, none⟩) → (execOp a.eval o).run P E.w = .ok (.value (.pointer (some ⟨b, p + g.offset, none⟩))) E.w := by
            intro b p e
            unfold execOp
            rw [ho]
            simp [e, Instr.fieldAt, run_under hu, hg, Instr.sureAddr, run_fieldPlace hT hz]
          split at h
          case h_1 i' o' e =>
            cases h
            rw [e] at hx; simp only [RepV] at hx
            obtain ⟨hN, p, e', hp⟩ := hx
            refine ⟨_, key _ _ e', ?_⟩
            simp only [RepV]
            exact ⟨hN, _, rfl, hp⟩
          case h_2 cs e =>
            cases h
            rw [e] at hx; simp only [RepV] at hx
            obtain ⟨b, p, c, ty, fz, e', hs, hb, hl⟩ := hx
            refine ⟨_, key _ _ e', ?_⟩
            simp only [RepV]
            refine ⟨b, p + g.offset, c, ty, fz, rfl, hs, hb, ?_⟩
            have := hl.drop g.offset
            rw [List.drop_drop] at this
            exact this
          case h_3 => cases h

theorem yv_field (hT : TOk P T) (hr : RepT E k t a) {o : Oper} {s : TypeId} {x : Operand} {f : Nat} (ho : o.op = .field s x f) (h : vop T t H (.field s x f) = some r) : Yv P E a o r := by
  simp only [vop] at h
  split at h
  case h_2 => cases h
  case h_1 i hi =>
    split at h
    case h_2 => cases h
    case h_1 fs cs hk e =>
      obtain ⟨fs', hu, hfs⟩ := (hT.row hi).struct hk
      split at h
      case h_2 => cases h
      case h_1 off ft hf =>
        rw [← hfs] at hf
        simp only [List.getElem?_map, Option.map_eq_some_iff, Prod.mk.injEq] at hf
        obtain ⟨g, hg, rfl, rfl⟩ := hf
        rw [Array.getElem?_toList] at hg
        have hx := hr.ev x
        rw [e] at hx; simp only [RepV] at hx
        obtain ⟨c, e', _, hl⟩ := hx
        obtain ⟨v, hv, hrv⟩ := run_part hT hl h
        exact ⟨v, by unfold execOp; rw [ho]; simp [e', Instr.field, run_under hu, hg, asAgg, hv], hrv⟩

theorem yv_indexAddr (hT : TOk P T) (hr : RepT E k t a) {o : Oper} {s : TypeId} {x y : Operand} (ho : o.op = .indexAddr s x y) (h : vop T t H (.indexAddr s x y) = some r) : Yv P E a o r := by
  simp only [vop] at h
  split at h
  case h_2 => cases h
  case h_1 i hi =>
    have hx := hr.ev x
    have hy := hr.ev y
    split at h
    case h_5 => cases h
    case h_1 e i' o' n c _ q hk e1 e2 =>
      split at h
      case h_2 => cases h
      case h_1 z hz =>
        split at h
        case isFalse => cases h
        case isTrue hb =>
          cases h
          unfold sizeT at hz
          cases he : T e with
          | none => rw [he] at hz; cases hz
          | some ie =>
            rw [he] at hz; simp at hz
            rw [e1] at hx; rw [e2] at hy; simp only [RepV] at hx
            obtain ⟨hN, b, cap, e1', _, _, hm⟩ := hx
            have e2' := RepV.sc_inv hy
            refine ⟨.pointer (some ⟨b, o' + q.toNat * z, none⟩), ?_, ?_⟩
            · unfold execOp; rw [ho]; simp [e1', e2', Instr.indexAt, asIntOf, run_under ((hT.row hi).slice hk), (hT.row he).size, hb, hz, addr_add]
            · simp only [RepV]; exact ⟨hN, b, rfl, fun l hl => (hm l hl).1⟩
    case h_2 e cs n full _ q hk e1 e2 =>
      split at h
      case h_2 => cases h
      case h_1 z hz =>
        split at h
        case isFalse => cases h
        case isTrue hb =>
          cases h
          unfold sizeT at hz
          cases he : T e with
          | none => rw [he] at hz; cases hz
          | some ie =>
            rw [he] at hz; simp at hz
            rw [e1] at hx; rw [e2] at hy; simp only [RepV] at hx
            rcases hx with ⟨b, o', c, ty, fz, cap, e1', _, _, hs, hb', hl⟩ | ⟨rfl, _⟩
            case inr => omega
            have e2' := RepV.sc_inv hy
            refine ⟨.pointer (some ⟨b, o' + q.toNat * z, none⟩), ?_, ?_⟩
            · unfold execOp; rw [ho]; simp [e1', e2', Instr.indexAt, asIntOf, run_under ((hT.row hi).slice hk), (hT.row he).size, hb, hz, addr_add]
            · simp only [RepV]
              have := hl.drop (q.toNat * z)
              rw [List.drop_drop] at this
              exact ⟨b, _, c, ty, fz, rfl, hs, hb', this⟩
    case h_3 n e i' o' _ q hk e1 e2 =>
      split at h
      case h_2 => cases h
      case h_1 z hz =>
        split at h
        case isFalse => cases h
        case isTrue hb =>
          cases h
          unfold sizeT at hz
          cases he : T e with
          | none => rw [he] at hz; cases hz
          | some ie =>
            rw [he] at hz; simp at hz
            rw [e1] at hx; rw [e2] at hy; simp only [RepV] at hx
            obtain ⟨hN, b, e1', hm⟩ := hx
            have e2' := RepV.sc_inv hy
            refine ⟨.pointer (some ⟨b, o' + q.toNat * z, none⟩), ?_, ?_⟩
            · unfold execOp; rw [ho]; simp [e1', e2', Instr.indexAt, asIntOf, run_under ((hT.row hi).arr hk), (hT.row he).size, hb, hz, addr_add, Instr.sureAddr]
            · simp only [RepV]; exact ⟨hN, b, rfl, hm⟩
    case h_4 n e cs _ q hk e1 e2 =>
      split at h
      case h_2 => cases h
      case h_1 z hz =>
        split at h
        case isFalse => cases h
        case isTrue hb =>
          cases h
          unfold sizeT at hz
          cases he : T e with
          | none => rw [he] at hz; cases hz
          | some ie =>
            rw [he] at hz; simp at hz
            rw [e1] at hx; rw [e2] at hy; simp only [RepV] at hx
            obtain ⟨b, o', c, ty, fz, e1', hs, hb', hl⟩ := hx
            have e2' := RepV.sc_inv hy
            refine ⟨.pointer (some ⟨b, o' + q.toNat * z, none⟩), ?_, ?_⟩
            · unfold execOp; rw [ho]; simp [e1', e2', Instr.indexAt, asIntOf, run_under ((hT.row hi).arr hk), (hT.row he).size, hb, hz, addr_add, Instr.sureAddr]
            · simp only [RepV]
              have := hl.drop (q.toNat * z)
              rw [List.drop_drop] at this
              exact ⟨b, _, c, ty, fz, rfl, hs, hb', this⟩

theorem yv_index (hT : TOk P T) (hr : RepT E k t a) {o : Oper} {s : TypeId} {x y : Operand} (ho : o.op = .index s x y) (h : vop T t H (.index s x y) = some r) : Yv P E a o r := by
  simp only [vop] at h
  split at h
  case h_2 => cases h
  case h_1 i hi =>
    have hx := hr.ev x
    have hy := hr.ev y
    split at h
    case h_3 => cases h
    case h_1 s _ q hk e1 e2 =>
      split at h
      case isFalse => cases h
      case isTrue hb =>
        cases h
        rw [e1] at hx; rw [e2] at hy
        have e1' := RepV.sc_inv hx
        have e2' := RepV.sc_inv hy
        have hlt : q.toNat < s.size := by omega
        have hg : s[q.toNat]? = some (s.data.toList.getD q.toNat 0) := by
          rw [getElem?_pos s q.toNat hlt]
          congr 1
          simp only [List.getD_eq_getElem?_getD, Array.getElem?_toList]
          rw [getElem?_pos s.data q.toNat hlt]
          rfl
        refine ⟨_, ?_, rep_sc _⟩
        unfold execOp; rw [ho]; simp [e1', e2', Instr.index, asIntOf, run_under ((hT.row hi).str hk), hb.1, hg]
    case h_2 n e cs _ q hk e1 e2 =>
      split at h
      case h_2 => cases h
      case h_1 z hz =>
        split at h
        case isFalse => cases h
        case isTrue hb =>
          unfold sizeT at hz
          cases he : T e with
          | none => rw [he] at hz; cases hz
          | some ie =>
            rw [he] at hz; simp at hz
            rw [e1] at hx; rw [e2] at hy; simp only [RepV] at hx
            obtain ⟨c, e1', _, hl⟩ := hx
            have e2' := RepV.sc_inv hy
            obtain ⟨v, hv, hrv⟩ := run_part hT hl h
            exact ⟨v, by unfold execOp; rw [ho]; simp [e1', e2', Instr.index, asIntOf, run_under ((hT.row hi).arr hk), (hT.row he).size, hb, hz, hv], hrv⟩

theorem yv_extract (hr : RepT E k t a) {o : Oper} {x : Operand} {q : Nat} (ho : o.op = .extract x q) (h : vop T t H (.extract x q) = some r) : Yv P E a o r := by
  simp only [vop] at h
  split at h
  case h_2 => cases h
  case h_1 vs e =>
    have hx := hr.ev x
    rw [e] at hx; simp only [RepV] at hx
    obtain ⟨c, e', _, hl⟩ := hx
    obtain ⟨v, hv, hrv⟩ := hl.get h
    rw [Array.getElem?_toList] at hv
    exact ⟨v, by unfold execOp; rw [ho]; simp [e', Instr.extract, hv], hrv⟩

theorem yv_makeFunc (hr : RepT E k t a) {o : Oper} {f : Fn} {x y : Array Operand} (ho : o.op = .makeFunc f x y) (h : vop T t H (.makeFunc f x y) = some r) : Yv P E a o r := by
  simp only [vop] at h
  cases h
  have key : ∀ l : List Operand, RepL E (l.map (ev t)) (l.map a.eval) := by
    intro l
    induction l with
    | nil => simp [RepL]
    | cons x l ih => simp only [List.map_cons, RepL]; exact ⟨hr.ev x, ih⟩
  refine ⟨.func f (x.map a.eval) (y.map a.eval), by unfold execOp; rw [ho]; rfl, ?_⟩
  simp only [RepV]
  exact ⟨_, _, rfl, by simp, by simpa using key x.toList, by simp, by simpa using key y.toList⟩

theorem yv_load (hT : TOk P T) (hH : RepH P E H) (hr : RepT E k t a) {o : Oper} {ty : TypeId} {x : Operand} (ho : o.op = .load ty x) (h : vop T t H (.load ty x) = some r) : Yv P E a o r := by
  simp only [vop] at h
  have hx := hr.ev x
  split at h
  case h_3 => cases h
  case h_1 i o' e =>
    split at h
    case h_2 => cases h
    case h_1 cs cty hi =>
      rw [e] at hx
      obtain ⟨b, cells, fz, e', hb, hl, _⟩ := own_cells hH hi hx
      obtain ⟨v, hv, hrv⟩ := run_loadVar (base := 0) hT hb (by simpa using hl) h
      rw [Nat.zero_add] at hv
      exact ⟨v, by unfold execOp; rw [ho]; simp [e', Instr.loadAt, Instr.sureAddr, hv], hrv⟩
  case h_2 cs e =>
    rw [e] at hx; simp only [RepV] at hx
    obtain ⟨b, o', cells, ty', fz, e', _, hb, hl⟩ := hx
    obtain ⟨v, hv, hrv⟩ := run_loadVar hT hb hl h
    rw [Nat.add_zero] at hv
    exact ⟨v, by unfold execOp; rw [ho]; simp [e', Instr.loadAt, Instr.sureAddr, hv], hrv⟩

end

end Go.Proofs.YtcdafogfmijcpaaW.Ah
