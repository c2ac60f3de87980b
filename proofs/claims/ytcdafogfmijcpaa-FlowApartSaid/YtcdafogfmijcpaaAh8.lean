/-
  append and copy.
-/
import Derived.Test.YtcdafogfmijcpaaAh7
namespace Go.Proofs.YtcdafogfmijcpaaW.Ah
set_option linter.unusedVariables false
set_option linter.unusedSimpArgs false
section
variable {P : Program} {T : Tab} {E : Env} {H : Nat → Option Blk} {k : Nat} {t : Nat → AV} {a : Act} {r : AV}

/-- A slice's or a string's elements: its length, and what loading them yields. -/
theorem run_elems (hH : RepH P E H) {z m : Nat} {x : AV} {u : Value} {cs : List AV} (hx : RepV E x u) (h : elemsOf H z x = some (m, cs)) :
    (Builtin.lenOf u).run P E.w = .ok m E.w ∧ cs.length = m * z ∧ ∀ j, j ≤ m → ∃ vs, (Builtin.firstCells z j u).run P E.w = .ok vs E.w ∧ vs.size = j * z ∧ RepL E (cs.take (j * z)) vs.toList := by
  unfold elemsOf at h
  split at h
  case h_6 => cases h
  case h_1 i o n c =>
    split at h
    case h_2 => cases h
    case h_1 cells ty hi =>
      split at h
      case isFalse => cases h
      case isTrue hle =>
        cases h
        obtain ⟨l, hl, cells', fz, info, q1, q2, q3, q4, q5, q6⟩ := hH.own i _ hi
        simp only [RepV] at hx
        obtain ⟨_, b, cap, rfl, _, _, hm⟩ := hx
        obtain ⟨rfl, _⟩ := hm l hl
        refine ⟨rfl, by simp; omega, fun j hj => ?_⟩
        have hll := q2.length
        simp only [Array.length_toList] at hll
        have hjz : j * z ≤ m * z := Nat.mul_le_mul_right _ hj
        refine ⟨cells'.extract o (o + j * z), ?_, by simp; omega, ?_⟩
        · simp only [Builtin.firstCells]; exact run_loadCells q1 (by omega)
        · rw [Array.toList_extract, List.extract_eq_take_drop, show o + j * z - o = j * z by omega, List.take_take, Nat.min_eq_left hjz]
          exact (q2.drop o).take _
  case h_2 cells n full =>
    split at h
    case isFalse => cases h
    case isTrue hle =>
      cases h
      simp only [RepV] at hx
      rcases hx with ⟨b, o, cells', ty, fz, cap, rfl, _, _, _, hb, hl⟩ | ⟨rfl, rfl, ad, cap, rfl, _⟩
      case inr =>
        refine ⟨rfl, by simp, fun j hj => ?_⟩
        obtain rfl : j = 0 := by omega
        refine ⟨#[], ?_, by simp, by simp [RepL]⟩
        cases ad with
        | none => rfl
        | some ad => simp [Builtin.firstCells, loadCells, loadCellsFrom]
      refine ⟨rfl, by simp; omega, fun j hj => ?_⟩
      have hll := hl.length
      simp only [List.length_drop, Array.length_toList] at hll
      have hjz : j * z ≤ m * z := Nat.mul_le_mul_right _ hj
      by_cases h0 : j * z = 0
      · exact ⟨#[], by simp [Builtin.firstCells, h0, loadCells, loadCellsFrom], by simp [h0], by simp [h0, RepL]⟩
      · refine ⟨cells'.extract o (o + j * z), ?_, by simp; omega, ?_⟩
        · simp only [Builtin.firstCells]; exact run_loadCells hb (by omega)
        · rw [Array.toList_extract, List.extract_eq_take_drop, show o + j * z - o = j * z by omega, List.take_take, Nat.min_eq_left hjz]
          exact hl.take _
  case h_3 full =>
    cases h
    simp only [RepV] at hx
    obtain ⟨ad, cap, rfl, _⟩ := hx
    refine ⟨rfl, by simp, fun j hj => ?_⟩
    obtain rfl : j = 0 := by omega
    exact ⟨#[], by simp [Builtin.firstCells, loadCells, loadCellsFrom], by simp, by simp [RepL]⟩
  case h_4 =>
    cases h
    rw [RepV.sc_inv hx]
    refine ⟨rfl, by simp, fun j hj => ?_⟩
    obtain rfl : j = 0 := by omega
    exact ⟨#[], rfl, by simp, by simp [RepL]⟩
  case h_5 s =>
    split at h
    case isFalse => cases h
    case isTrue hz1 =>
    cases h
    subst hz1
    rw [RepV.sc_inv hx]
    have hs : s.data.size = s.size := rfl
    refine ⟨rfl, by simp [hs], fun j hj => ?_⟩
    refine ⟨(s.extract 0 j).data.map fun b => .int .u8 b.toNat, rfl, ?_, ?_⟩
    · simp [ByteArray.data_extract, hs]; omega
    · rw [Array.toList_map, ByteArray.data_extract, Array.toList_extract, List.extract_eq_take_drop, ← List.map_take]
      simp only [Nat.mul_one, Nat.sub_zero, List.drop_zero]
      have := rep_scs (E := E) ((s.data.toList.take j).map fun b => Value.int .u8 b.toNat)
      rw [List.map_map] at this
      exact this

theorem yc_copy (hT : TOk P T) (hH : RepH P E H) (hX : ∀ b, E.X b → b < E.w.heap.size) (hr : RepT E k t a) {o : Oper} {args : Array Operand} {ats : Array TypeId} (ho : o.op = .call { callee := .builtin .copy, args, argTypes := ats })
    {H' : Nat → Option Blk} {n' : Nat} (h : mop T t H E.N (.call { callee := .builtin .copy, args, argTypes := ats }) = some (r, H', n')) : Ym P E a o r H' n' := by
  simp only [mop] at h
  split at h
  case h_2 => cases h
  case h_1 x y st ats' e1 e2 =>
    obtain ⟨p, q, rfl, ex, ey⟩ := two_args e1
    obtain ⟨rest, rfl⟩ : ∃ rest : List TypeId, ats = (st :: rest).toArray := by
      obtain ⟨l⟩ := ats; simp at e2; exact ⟨ats', by rw [e2]⟩
    have hx := hr.ev p
    have hy := hr.ev q
    rw [ex] at hx; rw [ey] at hy
    split at h
    case h_2 => cases h
    case h_1 i hi =>
      split at h
      case h_2 => cases h
      case h_1 e hk =>
        split at h
        case h_2 => cases h
        case h_1 z hz =>
          unfold sizeT at hz
          cases he : T e with
          | none => rw [he] at hz; cases hz
          | some ie =>
            rw [he] at hz; simp at hz
            split at h
            case h_2 => cases h
            case h_1 kk old m new hox hoy =>
              obtain ⟨a1, a2, _⟩ := run_elems (P := P) hH hx hox
              obtain ⟨b1, b2, b3⟩ := run_elems (P := P) hH hy hoy
              obtain ⟨vs, c1, c2, c3⟩ := b3 (min m kk) (Nat.min_le_left _ _)
              have head : ∀ w' base dl dc, a.eval p = .slice base dl dc → dl = kk → (∀ ad, base = some ad → (storeCells ad vs.toList).run P E.w = .ok () w') → (base = none → w' = E.w) → (execOp a.eval o).run P E.w = .ok (.value (goInt (min m kk : Nat))) w' := by
                intro w' base dl dc e1 e2 hs hn
                subst e2
                have hmin : Nat.min m dl = min m dl := rfl
                unfold execOp; rw [ho]
                simp [resolve, invoke, builtin, Builtin.copy_, run_under ((hT.row hi).slice hk), e1, b1, (hT.row he).size, hz, hmin, c1]
                cases base with
                | none => simp [hn rfl]
                | some ad => simp [hs ad rfl]
              split at h
              case h_1 i' o' n c =>
                split at h
                case h_2 => cases h
                case h_1 cs ety hi' =>
                  split at h
                  case isFalse => cases h
                  case isTrue hall =>
                    cases h
                    have hox' := hox
                    simp only [elemsOf, hi'] at hox'
                    split at hox'
                    case isFalse => cases hox'
                    case isTrue hle =>
                      simp only [Option.some.injEq, Prod.mk.injEq] at hox'
                      obtain ⟨rfl, _⟩ := hox'
                      obtain ⟨l, hl, cells, fz, info, q1, q2, q3, q4, q5, q6⟩ := hH.own i' _ hi'
                      simp only [RepV] at hx
                      obtain ⟨_, b, cap, ex', _, _, hm⟩ := hx
                      obtain ⟨rfl, _⟩ := hm l hl
                      have hjz : min m n * z ≤ n * z := Nat.mul_le_mul_right _ (Nat.min_le_right _ _)
                      have hjz' : min m n * z ≤ m * z := Nat.mul_le_mul_right _ (Nat.min_le_left _ _)
                      have hq2 := q2.length
                      have hsz2 : vs.toList.length = vs.size := Array.length_toList
                      simp only [Array.length_toList] at hq2
                      have hone := oneCell_of c3 (by
                        rw [List.all_eq_true] at hall ⊢
                        exact fun u hu => hall u (List.mem_of_mem_take hu))
                      rw [List.length_take, show min (min m n * z) new.length = vs.toList.length by omega, List.take_length] at hone
                      obtain ⟨w', cells', h1, h2, h3⟩ := run_storeCells (P := P) vs.toList (i := 0) (o := o') q1 (by omega) q4 hone
                      obtain ⟨r1, r2, r3⟩ := wrote_env (cs' := splice cs o' (new.take (min m n * z))) hH hX hi' hl h2 (by rw [← Array.length_toList, h3]; simp; omega) (by
                        rw [h3]
                        unfold splice
                        rw [show (new.take (min m n * z)).length = vs.toList.length by rw [List.length_take]; omega]
                        exact RepL.append (RepL.append (q2.take _) (by simp; omega) c3) (by simp; omega) (q2.drop _))
                      exact ⟨{ E with w := w' }, _, .inl (head w' _ _ _ ex' rfl (fun ad e => by cases e; exact h1) (fun e => by cases e)), r1, r2, r3, rfl, rep_sc _⟩
              case h_2 full =>
                cases h
                simp only [elemsOf, Option.some.injEq, Prod.mk.injEq] at hox
                obtain ⟨rfl, rfl⟩ := hox
                simp only [RepV] at hx
                obtain ⟨ad, cap, ex', _⟩ := hx
                have h0 : vs = #[] := by apply Array.eq_empty_of_size_eq_zero; simpa using c2
                subst h0
                exact ⟨E, _, .inl (by simpa [goInt] using head E.w _ _ _ ex' rfl (fun ad e => by simp [storeCells]) (fun _ => rfl)), Ext.refl _, hH, hX, rfl, rep_sc _⟩
              case h_3 =>
                cases h
                simp only [elemsOf, Option.some.injEq, Prod.mk.injEq] at hox
                obtain ⟨rfl, rfl⟩ := hox
                exact ⟨E, _, .inl (by simpa [goInt] using head E.w _ _ _ (RepV.sc_inv hx) rfl (fun ad e => by cases e) (fun _ => rfl)), Ext.refl _, hH, hX, rfl, rep_sc _⟩
              case h_4 => cases h


theorem yc_clear (hT : TOk P T) (hH : RepH P E H) (hX : ∀ b, E.X b → b < E.w.heap.size) (hr : RepT E k t a) {o : Oper} {args : Array Operand} {ats : Array TypeId} (ho : o.op = .call { callee := .builtin .clear, args, argTypes := ats })
    {H' : Nat → Option Blk} {n' : Nat} (h : mop T t H E.N (.call { callee := .builtin .clear, args, argTypes := ats }) = some (r, H', n')) : Ym P E a o r H' n' := by
  simp only [mop] at h
  split at h
  case h_2 => cases h
  case h_1 i' o' m c st e1 e2 =>
    obtain ⟨p, rfl, ex⟩ : ∃ p, args = #[p] ∧ ev t p = .osl i' o' m c := by
      obtain ⟨l⟩ := args
      cases l with
      | nil => simp at e1
      | cons p l' =>
        cases l' with
        | nil => simp at e1; exact ⟨p, rfl, e1⟩
        | cons p2 l2 => simp at e1
    obtain rfl : ats = #[st] := by
      obtain ⟨l⟩ := ats; simp at e2; rw [e2]
    have hx := hr.ev p
    rw [ex] at hx
    split at h
    case h_2 => cases h
    case h_1 i hi =>
      split at h
      case h_2 => cases h
      case h_1 e hk =>
        split at h
        case h_2 => cases h
        case h_1 ie cs ety he hi' =>
          split at h
          case isFalse => cases h
          case isTrue hc =>
            obtain ⟨hzl, hz0, hle, hall⟩ := hc
            cases h
            obtain ⟨info, z, g1, g2, g3, g4, g5⟩ := (hT.row he).info
            have hzs : z.cells.size = ie.size := by rw [← hzl, ← g5]; simp
            have hze := zeros_eq z.cells m (by omega)
            obtain ⟨l, hl, cells, fz, info', q1, q2, q3, q4, q5, q6⟩ := hH.own i' _ hi'
            simp only [RepV] at hx
            obtain ⟨_, b, cap, ex', _, _, hm⟩ := hx
            obtain ⟨rfl, _⟩ := hm l hl
            have hq2 := q2.length
            simp only [Array.length_toList] at hq2
            have hc3 : RepL E ((List.replicate m ie.zero).flatten.map AV.sc) (Builtin.zeroCells z.cells m).toList := by
              unfold Builtin.zeroCells
              rw [hze, g5]; exact rep_scs _
            have hlz : ((List.replicate m ie.zero).flatten.map AV.sc).length = m * ie.size := by simp [hzl]
            have hone := oneCell_of hc3 hall
            have hzlen : (Builtin.zeroCells z.cells m).toList.length = m * ie.size := by simp [Builtin.zeroCells, hzs]
            rw [hlz, ← hzlen, List.take_length] at hone
            obtain ⟨w', cells', h1, h2, h3⟩ := run_storeCells (P := P) (Builtin.zeroCells z.cells m).toList (i := 0) (o := o') q1 (by rw [hzlen]; omega) q4 hone
            obtain ⟨r1, r2, r3⟩ := wrote_env (cs' := splice cs o' ((List.replicate m ie.zero).flatten.map .sc)) hH hX hi' hl h2 (by rw [← Array.length_toList, h3, List.length_append, List.length_append, hzlen, List.length_take, List.length_drop]; simp only [Array.length_toList]; omega) (by
              rw [h3]
              unfold splice
              rw [hlz, hzlen]
              exact RepL.append (RepL.append (q2.take _) (by simp; omega) hc3) (by rw [List.length_append, List.length_append, hlz, hzlen, List.length_take, List.length_take]; simp only [Array.length_toList]; omega) (q2.drop _))
            refine ⟨{ E with w := w' }, undef, .inl ?_, r1, r2, r3, rfl, by simp [RepV, RepL, undef]⟩
            unfold execOp; rw [ho]
            cases m with
            | zero =>
              have h1' : w' = E.w := by
                have : (Builtin.zeroCells z.cells 0).toList = [] := by simp [Builtin.zeroCells]
                rw [this] at h1
                simp [storeCells] at h1
                exact h1.symm
              subst h1'
              simp [resolve, invoke, builtin, Builtin.clear_, run_under ((hT.row hi).slice hk), ex', undef]
            | succ m =>
              simp [resolve, invoke, builtin, Builtin.clear_, run_under ((hT.row hi).slice hk), ex', run_zero g1 g4, h1, undef]

theorem frozen_env (hH : RepH P E H) (hX : ∀ b, E.X b → b < E.w.heap.size) {i : Nat} {cs : List AV} {ty : Nat} (hi : H i = some (.cells cs ty)) {l : Loc} (hl : E.m i = some l) {cells : Array Value} {fz : Nat × Nat}
    (hb : E.w.heap[l.b]? = some (.cells cells ty fz)) {w' : World} (hw : w' = E.w.freeze ⟨l.b, cells.size, none⟩ 1) :
    Ext E { E with w := w' } ∧ RepH P { E with w := w' } H ∧ (∀ b, E.X b → b < w'.heap.size) := by
  have hsz : w'.heap.size = E.w.heap.size := by rw [hw]; simp [World.freeze]
  have hother : ∀ c, c ≠ l.b → w'.heap[c]? = E.w.heap[c]? := fun c hc => by
    rw [hw]
    simp only [World.freeze]
    rw [if_neg (by decide)]
    simp only [Array.getElem?_modify]
    rw [if_neg (Ne.symm hc)]
  obtain ⟨fz', hfz, hblk⟩ : ∃ fz' : Nat × Nat, ((fz.1 = fz.2 ∨ cells.size ≤ fz.1) → (fz'.1 = fz'.2 ∨ cells.size ≤ fz'.1)) ∧ w'.heap[l.b]? = some (.cells cells ty fz') := by
    obtain ⟨lo, hi'⟩ := fz
    refine ⟨if lo == hi' then (cells.size, cells.size + 1) else (min lo cells.size, max hi' (cells.size + 1)), fun h => ?_, ?_⟩
    · by_cases e : lo = hi'
      · simp [e]
      · have : cells.size ≤ lo := by rcases h with h | h; exact absurd h e; exact h
        right
        simp [e]; omega
    · rw [hw]
      simp only [World.freeze]
      rw [if_neg (by decide)]
      simp only [Array.getElem?_modify, if_true, hb, Option.map_some]
  have hx : Ext E { E with w := w' } := ⟨rfl, Nat.le_refl _, by rw [hw]; rfl, by rw [hw]; rfl, by rw [hw]; rfl, by simp [hsz], fun b hb hm => hother b (fun e => hm i l hl e.symm), fun _ _ _ h => h, fun j l' h => .inr ⟨j, l', h, rfl⟩, fun b r hbr => by
    have hne : b ≠ l.b := by
      rintro rfl
      rw [hbr] at hb; cases hb
    exact ⟨r, (hother b hne).trans hbr⟩⟩
  refine ⟨hx, ⟨fun j blk hbj => ?_, fun j l' hl' => ?_, hH.inj⟩, fun b hb => by rw [hsz]; exact hX b hb⟩
  · by_cases e : j = i
    · subst e
      rw [hi] at hbj; cases hbj
      obtain ⟨l', hl', cells2, fz2, info, h1, h2, h3, h4, h5, h6⟩ := hH.own j _ hi
      rw [hl] at hl'; cases hl'
      rw [hb] at h1; cases h1
      exact ⟨l, hl, cells, fz', info, hblk, RepL.ext hx _ _ h2, h3, hfz h4, h5, h6⟩
    · obtain ⟨l', hl', hr⟩ := hH.own j blk hbj
      exact ⟨l', hl', RepB.ext hx (hother _ fun e' => e (hH.inj j i l' l hl' hl e')) hr⟩
  · obtain ⟨h1, h2, h3, h4⟩ := hH.lt j l' hl'
    exact ⟨h1, by rw [hsz]; exact h2, h3, h4⟩

/-- Bytes that stay bytes: the row is marked. -/
theorem ym_convert (hT : TOk P T) (hH : RepH P E H) (hX : ∀ b, E.X b → b < E.w.heap.size) (hr : RepT E k t a) {o : Oper} {src dst : TypeId} {x : Operand} (ho : o.op = .convert src dst x)
    {H' : Nat → Option Blk} {n' : Nat} (h : mop T t H E.N (.convert src dst x) = some (r, H', n')) : Ym P E a o r H' n' := by
  simp only [mop] at h
  split at h
  case h_2 => cases h
  case h_1 i' o' m c ex =>
    have hx := hr.ev x
    rw [ex] at hx
    split at h
    case h_2 => cases h
    case h_1 it hi =>
      split at h
      case h_2 => cases h
      case h_1 e cs ety hk hi' =>
        split at h
        case isFalse => cases h
        case isTrue hc =>
          obtain ⟨rfl, h8⟩ := hc
          cases h
          obtain ⟨l, hl, cells, fz, info', q1, q2, q3, q4, q5, q6⟩ := hH.own i' _ hi'
          have hx2 := hx
          simp only [RepV] at hx
          obtain ⟨_, b, cap, ex', _, _, hm⟩ := hx
          obtain ⟨rfl, _⟩ := hm l hl
          obtain ⟨r1, r2, r3⟩ := frozen_env (P := P) hH hX hi' hl q1 rfl
          have hsh : E.w.shape? l.b = some (ety, cells.size) := by unfold World.shape?; rw [q1]
          refine ⟨{ E with w := E.w.freeze ⟨l.b, cells.size, none⟩ 1 }, _, .inl ?_, r1, r2, r3, rfl, RepV.ext r1 _ _ hx2⟩
          unfold execOp; rw [ho]
          simp [convert, run_under ((hT.row hi).slice hk), run_under (isU8_row hT h8), ex', markStringish, hsh]

theorem forget_rep (hH : RepH P E H) (hX : ∀ b, E.X b → b < E.w.heap.size) (i : Nat) : Ext E { E with m := upd E.m i none } ∧ RepH P { E with m := upd E.m i none } (upd H i none) := by
  have hx : Ext E { E with m := upd E.m i none } := ⟨rfl, Nat.le_refl _, rfl, rfl, rfl, Nat.le_refl _, fun _ _ _ => rfl, fun j l hj hl => by
    simp only at hl
    by_cases e : j = i
    · subst e; rw [upd_same] at hl; cases hl
    · rwa [upd_ne _ _ e] at hl, fun j l hl => by
    simp only at hl
    by_cases e : j = i
    · subst e; rw [upd_same] at hl; cases hl
    · rw [upd_ne _ _ e] at hl; exact .inr ⟨j, l, hl, rfl⟩, fun _ r h => ⟨r, h⟩⟩
  refine ⟨hx, ⟨fun j blk hb => ?_, fun j l hl => ?_, fun j q l l' hj hq e => ?_⟩⟩
  · by_cases e : j = i
    · subst e; rw [upd_same] at hb; cases hb
    · rw [upd_ne _ _ e] at hb
      obtain ⟨l, hl, hr⟩ := hH.own j blk hb
      exact ⟨l, by simp only; rw [upd_ne _ _ e]; exact hl, RepB.ext hx rfl hr⟩
  · simp only at hl
    by_cases e : j = i
    · subst e; rw [upd_same] at hl; cases hl
    · rw [upd_ne _ _ e] at hl
      rw [upd_ne _ _ e]
      exact hH.lt j l hl
  · simp only at hj hq
    by_cases e1 : j = i
    · subst e1; rw [upd_same] at hj; cases hj
    · by_cases e2 : q = i
      · subst e2; rw [upd_same] at hq; cases hq
      · rw [upd_ne _ _ e1] at hj; rw [upd_ne _ _ e2] at hq
        exact hH.inj j q l l' hj hq e

/-- A block goes under another name. -/
theorem rename_rep (hH : RepH P E H) (hX : ∀ b, E.X b → b < E.w.heap.size) {i : Nat} {blk : Blk} {l : Loc} (hi : H i = some blk) (hl : E.m i = some l) :
    Ext E { E with m := upd (upd E.m i none) E.N (some l), N := E.N + 1 } ∧ RepH P { E with m := upd (upd E.m i none) E.N (some l), N := E.N + 1 } (upd (upd H i none) E.N (some blk)) := by
  have hlt := (hH.lt i l hl).1
  have get : ∀ {j : Nat} {l' : Loc}, upd (upd E.m i none) E.N (some l) j = some l' → (j = E.N ∧ l' = l) ∨ (j ≠ E.N ∧ j ≠ i ∧ E.m j = some l') := by
    intro j l' h
    by_cases e : j = E.N
    · subst e; rw [upd_same] at h; cases h; exact .inl ⟨rfl, rfl⟩
    · rw [upd_ne _ _ e] at h
      by_cases e2 : j = i
      · subst e2; rw [upd_same] at h; cases h
      · rw [upd_ne _ _ e2] at h; exact .inr ⟨e, e2, h⟩
  have hx : Ext E { E with m := upd (upd E.m i none) E.N (some l), N := E.N + 1 } := by
    refine ⟨rfl, Nat.le_succ _, rfl, rfl, rfl, Nat.le_refl _, fun _ _ _ => rfl, fun j l' hj h => ?_, fun j l' h => ?_, fun _ r h => ⟨r, h⟩⟩
    · rcases get h with ⟨rfl, rfl⟩ | ⟨_, _, h⟩
      · omega
      · exact h
    · rcases get h with ⟨rfl, rfl⟩ | ⟨_, _, h⟩
      · exact .inr ⟨i, l', hl, rfl⟩
      · exact .inr ⟨j, l', h, rfl⟩
  refine ⟨hx, ⟨fun j blk' hb => ?_, fun j l' h => ?_, fun j q l' l'' hj hq e => ?_⟩⟩
  · by_cases e : j = E.N
    · subst e; rw [upd_same] at hb; cases hb
      obtain ⟨l', hl', hr⟩ := hH.own i blk hi
      rw [hl] at hl'; cases hl'
      exact ⟨l, by simp only; rw [upd_same], RepB.ext hx rfl hr⟩
    · rw [upd_ne _ _ e] at hb
      by_cases e2 : j = i
      · subst e2; rw [upd_same] at hb; cases hb
      · rw [upd_ne _ _ e2] at hb
        obtain ⟨l', hl', hr⟩ := hH.own j blk' hb
        exact ⟨l', by simp only; rw [upd_ne _ _ e, upd_ne _ _ e2]; exact hl', RepB.ext hx rfl hr⟩
  · rcases get h with ⟨rfl, rfl⟩ | ⟨h1, h2, h⟩
    · obtain ⟨_, q2, q3, _⟩ := hH.lt i l' hl
      exact ⟨Nat.lt_succ_self _, q2, q3, blk, upd_same _ _ _⟩
    · obtain ⟨q1, q2, q3, q4⟩ := hH.lt j l' h
      exact ⟨Nat.lt_succ_of_lt q1, q2, q3, by rw [upd_ne _ _ h1, upd_ne _ _ h2]; exact q4⟩
  · rcases get hj with ⟨rfl, rfl⟩ | ⟨h1, h2, h⟩ <;> rcases get hq with ⟨rfl, rfl⟩ | ⟨g1, g2, g⟩
    · rfl
    · exact absurd (hH.inj i q l' l'' hl g e).symm g2
    · exact absurd (hH.inj j i l' l'' h hl e) h2
    · exact hH.inj j q l' l'' h g e

theorem drawn_rep (hH : RepH P E H) (d : Nat) : Ext E { E with w := { E.w with drawn := d } } ∧ RepH P { E with w := { E.w with drawn := d } } H := by
  have hx : Ext E { E with w := { E.w with drawn := d } } := ⟨rfl, Nat.le_refl _, rfl, rfl, rfl, Nat.le_refl _, fun _ _ _ => rfl, fun _ _ _ h => h, fun j l h => .inr ⟨j, l, h, rfl⟩, fun _ r h => ⟨r, h⟩⟩
  exact ⟨hx, ⟨fun i blk hb => by obtain ⟨l, hl, hr⟩ := hH.own i blk hb; exact ⟨l, hl, RepB.ext hx rfl hr⟩, hH.lt, hH.inj⟩⟩

theorem growBy_le (n : Nat) : ∀ (k c : Nat), c ≤ n + (n + 768) / 4 → Builtin.growBy n k c ≤ n + (n + 768) / 4
  | 0, c, h => h
  | k + 1, c, h => by
    simp only [Builtin.growBy]
    split
    · exact h
    · exact growBy_le n k _ (by omega)

theorem nextcap_le {need old : Nat} (h : old < need) : Builtin.nextslicecap need old ≤ 2 * need + 200 := by
  unfold Builtin.nextslicecap
  split
  · omega
  · split
    · omega
    · have := growBy_le need 4 old (by omega)
      omega

/-- append where new memory is made: whatever the new capacity. -/
theorem run_append_grow (hT : TOk P T) (hH : RepH P E H) (hX : ∀ b, E.X b → b < E.w.heap.size) {e st xt : Nat} {ie : TI} (he : T e = some ie) (hst : P.underlying st = some (.slice e)) (hxt : ∃ d, P.underlying xt = some d ∧ (d matches .int _) = false)
    {x y : AV} {u v : Value} (hx : RepV E x u) (hy : RepV E y v) {kk m : Nat} {old new : List AV} (hox : elemsOf H ie.size x = some (kk, old)) (hoy : elemsOf H ie.size y = some (m, new))
    (hb : (kk + m) * ie.bytes ≤ roomMax) (hm : kk + m ≤ roomMax) (hby : ie.bytes ≤ 2 ^ 20) (hz0 : 0 < ie.size) (hzl : ie.zero.length = ie.size) {base : Option Addr} {sc : Nat} (hu : u = .slice base kk sc) (hcap : sc < kk + m) (ty : TypeId) :
    ∃ newCap cells, (Builtin.append_ #[st, xt] ty #[u, v]).run P E.w = .ok (.slice (some ⟨E.w.heap.size, 0, none⟩) (kk + m) newCap) (pushW { E.w with drawn := E.w.drawn + 1 } (.cells cells e)) ∧ kk + m ≤ newCap ∧
      cells.size = newCap * ie.size ∧ RepL { E with w := { E.w with drawn := E.w.drawn + 1 } } (old ++ new) cells.toList := by
  obtain ⟨info, z, g1, g2, g3, g4, g5⟩ := (hT.row he).info
  obtain ⟨d, hd1, hd2⟩ := hxt
  have hzs : z.cells.size = ie.size := by rw [← hzl, ← g5]; simp
  obtain ⟨hx1, hH1⟩ := drawn_rep hH (E.w.drawn + 1)
  obtain ⟨a1, a2, a3⟩ := run_elems (P := P) hH hx hox
  obtain ⟨b1, b2, b3⟩ := run_elems (P := P) hH hy hoy
  obtain ⟨_, _, a3'⟩ := run_elems (P := P) hH1 (RepV.ext hx1 _ _ hx) hox
  obtain ⟨_, _, b3'⟩ := run_elems (P := P) hH1 (RepV.ext hx1 _ _ hy) hoy
  obtain ⟨vo, c1, c2, c3⟩ := a3' kk (Nat.le_refl _)
  obtain ⟨vn, d1, d2, d3⟩ := b3' m (Nat.le_refl _)
  rw [← a2, List.take_length] at c3
  rw [← b2, List.take_length] at d3
  obtain ⟨newCap, hcut, hge⟩ : ∃ c, Question.cut (.appendCap (kk + m) sc e) (E.w.tape E.w.drawn (.appendCap (kk + m) sc e)) = c ∧ kk + m ≤ c := ⟨_, rfl, by simp [Question.cut]⟩
  have hz0' : 0 < z.cells.size := by omega
  have hsz : (vo ++ vn ++ Builtin.zeroCells z.cells (newCap - (kk + m))).size = newCap * ie.size := by
    simp [Builtin.zeroCells, c2, d2, hzs, Nat.sub_mul, Nat.add_mul]
    have : (kk + m) * ie.size ≤ newCap * ie.size := Nat.mul_le_mul_right _ hge
    rw [Nat.add_mul] at this
    omega
  refine ⟨newCap, vo ++ vn ++ Builtin.zeroCells z.cells (newCap - (kk + m)), ?_, hge, hsz, ?_⟩
  · have hr : roomMax = 2 ^ 46 := rfl
    have hnx := nextcap_le hcap
    have hlim : ¬ (Builtin.nextslicecap (kk + m) sc * info.bytes > 2 ^ 48) := by
      rw [g3]
      have := Nat.mul_le_mul_right ie.bytes hnx
      rw [Nat.add_mul, Nat.mul_assoc] at this
      omega
    have hmax : ¬ (((kk + m : Nat) : Int) > IntKind.i64.max ∧ (False ∨ info.bytes = 0)) := by
      have : IntKind.i64.max = 9223372036854775807 := by decide
      omega
    have hzb : (match (d : TypeDesc) with | .int _ => true | _ => false) = false := by
      cases d <;> first | rfl | (simp at hd2)
    rw [hu] at c1 ⊢
    have hneed : ¬ (kk + m ≤ sc) := by omega
    unfold Builtin.append_
    cases d with
    | int k => simp at hd2
    | _ =>
      simp only [List.getElem?_toArray, List.getElem?_cons_zero, List.getElem?_cons_succ, Sem.run_bind, run_under hst, run_under hd1, run_size g1, g2, Result.andThen_ok, Sem.run_pure, Bool.false_eq_true, if_false, Bool.not_false, if_true]
      simp only [b1, Sem.run_bind, Result.andThen_ok]
      rw [if_neg hneed]
      simp only [Sem.run_bind, run_info g1, Result.andThen_ok]
      rw [if_neg hmax]
      simp only [Sem.run_bind, run_info g1, Result.andThen_ok]
      rw [if_neg hlim]
      simp only [Sem.run_bind, run_info g1, Result.andThen_ok, run_choose, Question.forced, Bool.false_eq_true, if_false, run_askRoom]
      simp only [hcut]
      simp only [c1, d1, Result.andThen_ok, Sem.run_bind, run_zero g1 g4, newRow, run_newObj, Sem.run_pure]
      rfl
  · rw [Array.toList_append]
    refine RepL.more ?_
    rw [Array.toList_append]
    exact RepL.append c3 (by rw [a2, Array.length_toList, c2]) d3

end
end Go.Proofs.YtcdafogfmijcpaaW.Ah
